/-
  Parts of the proof.
-/
import Derived.Test.YthhjecfimfookaaZxVal
import Derived.Below
import Derived.Laws.Sem
import Derived.Laws.Cells
import Derived.Laws.CopyRow
import Derived.Laws.Strings
import Derived.Laws.Entries
import Derived.Laws.Cover3
import Derived.WideShapes
import Derived.Laws.World
import Derived.ChangeKeysEq
import Derived.Laws.Tables
import Derived.Laws.MakeOwn
import Derived.Laws.Append
section
set_option linter.unusedSimpArgs false
set_option linter.unusedVariables false
namespace Zv
open Go

open Classical in
noncomputable def lim {α : Type} (g : Nat → Option α) : Option α := if h : ∃ k a, g k = some a then some h.choose_spec.choose else none

def Mono {α : Type} (g : Nat → Option α) : Prop := ∀ k a, g k = some a → g (k + 1) = some a

theorem Mono.le {α : Type} {g : Nat → Option α} (m : Mono g) {k l : Nat} (h : k ≤ l) {a : α} (hk : g k = some a) : g l = some a := by
  induction h with
  | refl => exact hk
  | step _ ih => exact m _ _ ih

theorem lim_some {α : Type} {g : Nat → Option α} (m : Mono g) {a : α} : lim g = some a ↔ ∃ k, g k = some a := by
  constructor
  · intro h
    unfold lim at h
    split at h
    · rename_i hx
      exact ⟨hx.choose, by rw [← h]; exact hx.choose_spec.choose_spec⟩
    · cases h
  · rintro ⟨k, hk⟩
    have hx : ∃ k a, g k = some a := ⟨k, a, hk⟩
    unfold lim
    rw [dif_pos hx]
    have h1 := m.le (Nat.le_max_left hx.choose k) hx.choose_spec.choose_spec
    have h2 := m.le (Nat.le_max_right hx.choose k) hk
    rw [h1] at h2
    exact h2

theorem opt_ext {α : Type} {x y : Option α} (h : ∀ a, x = some a ↔ y = some a) : x = y := by
  cases x with
  | none => cases y with
    | none => rfl
    | some b => exact ((h b).2 rfl)
  | some a => exact ((h a).1 rfl).symm

def BLe (f g : Bf) : Prop := ∀ e h r, f e h = some r → g e h = some r
def CLe (f g : Cf) : Prop := ∀ v vs h r, f v vs h = some r → g v vs h = some r
def LLe (f g : Bf → Bf) : Prop := ∀ a b, BLe a b → BLe (f a) (g b)

theorem bind_mono {α β : Type} {x y : Option α} {f g : α → Option β} {r : β} (h : x.bind f = some r) (hx : ∀ a, x = some a → y = some a) (hf : ∀ a, f a = some r → g a = some r) :
    y.bind g = some r := by
  cases x with
  | none => cases h
  | some a => rw [hx a rfl]; exact hf a h

theorem map_mono {α β : Type} {x y : Option α} {f : α → β} {r : β} (h : x.map f = some r) (hx : ∀ a, x = some a → y = some a) : y.map f = some r := by
  cases x with
  | none => cases h
  | some a => rw [hx a rfl]; exact h

theorem nxt_mono {k k' : Bf} {o r : Out} (H : nxt k o = some r) (hk : ∀ e h, k e h = some r → k' e h = some r) : nxt k' o = some r := by
  obtain ⟨x, e, h⟩ := o
  cases x with
  | norm => exact hk _ _ H
  | exit i => exact H
  | ret => exact H
  | pan => exact H

theorem np_mono {x y : Option (V × Hp)} {r : V × Hp} (H : np x = some r) (h : ∀ a, x = some a → y = some a) : np y = some r := by
  cases x with
  | none => cases H
  | some a => rw [h a rfl]; exact H
theorem opX_mono {cf cf' : Cf} (hc : CLe cf cf') {e : Env} {h : Hp} {o : AOp} {r : V × Hp} (H : opX cf e h o = some r) : opX cf' e h o = some r := by
  cases o <;> first | exact H | exact hc _ _ _ _ H | exact bind_mono H (fun _ ha => hc _ _ _ _ ha) (fun _ hq => hq) | exact bind_mono H (fun _ ha => np_mono ha fun _ hb => hc _ _ _ _ hb) (fun _ hq => hq)

theorem itP_mono {cf cf' : Cf} (hc : CLe cf cf') {e : Env} {h : Hp} {o : It} {r : Option (Nat × D) × Env × Hp} (H : itP cf e h o = some r) : itP cf' e h o = some r := by
  cases o with
  | o dst op g =>
    unfold itP at H ⊢
    refine bind_mono H (fun a ha => ha) (fun a ha => ?_)
    split at ha
    · rename_i hw
      rw [if_pos hw]
      exact bind_mono ha (fun _ hb => opX_mono hc hb) (fun _ hq => hq)
    · rename_i hw
      rw [if_neg hw]
      exact ha
  | frz t => exact H
  | fzd t => exact H
  | kill t => exact H
theorem itsP_mono {cf cf' : Cf} (hc : CLe cf cf') : ∀ {l : List It} {e : Env} {h : Hp} {r : Option (Nat × D) × Env × Hp}, itsP cf l e h = some r → itsP cf' l e h = some r
  | [], _, _, _, H => H
  | i :: l, e, h, r, H => by
    unfold itsP at H ⊢
    refine bind_mono H (fun _ ha => itP_mono hc ha) (fun s hs => ?_)
    obtain ⟨p, e1, h1⟩ := s
    cases p with
    | none => exact itsP_mono hc hs
    | some p => exact hs
theorem np_some {x : Option (V × Hp)} {r : V × Hp} (h : np x = some r) : x = some r ∧ isPan r.1 = none := by
  cases x with
  | none => cases h
  | some q =>
    obtain ⟨v, hh⟩ := q
    cases v <;> first | (cases h; exact ⟨rfl, rfl⟩) | cases h
theorem np_of {v : V} {h : Hp} (hv : isPan v = none) : np (some (v, h)) = some (v, h) := by
  cases v <;> first | rfl | cases hv
/-- Items that end in no panic. -/
theorem itP_X {cf : Cf} {e : Env} {h : Hp} {i : It} {e1 : Env} {h1 : Hp} (H : itP cf e h i = some (none, e1, h1)) : itX cf e h i = some (e1, h1) := by
  cases i with
  | o dst op g =>
    simp only [itP] at H
    simp only [itX]
    cases hw : want e g with
    | none => rw [hw] at H; cases H
    | some w =>
      rw [hw] at H
      simp only [Option.bind_some] at H ⊢
      by_cases hq : w = true
      · rw [if_pos hq] at H ⊢
        cases ho : opX cf e h op with
        | none => rw [ho] at H; cases H
        | some r =>
          rw [ho] at H
          obtain ⟨v, hh⟩ := r
          simp only [Option.bind_some, Option.map_eq_some_iff, Prod.mk.injEq] at H
          obtain ⟨p, hp, rfl, h2, h3⟩ := H
          have hn : isPan v = none := by
            unfold panF at hp
            split at hp
            · assumption
            · split at hp <;> cases hp
          rw [np_of hn]
          simp only [Option.map_some, h2, h3]
      · rw [if_neg hq] at H ⊢
        simp only [Option.some.injEq, Prod.mk.injEq] at H
        rw [H.2.1, H.2.2]
  | frz t =>
    simp only [itP, Option.map_eq_some_iff] at H
    obtain ⟨s, hs, he⟩ := H
    cases he; exact hs
  | fzd t =>
    simp only [itP, Option.map_eq_some_iff] at H
    obtain ⟨s, hs, he⟩ := H
    cases he; exact hs
  | kill t =>
    simp only [itP, Option.map_eq_some_iff] at H
    obtain ⟨s, hs, he⟩ := H
    cases he; exact hs
theorem itsP_X {cf : Cf} : ∀ {l : List It} {e : Env} {h : Hp} {e1 : Env} {h1 : Hp}, itsP cf l e h = some (none, e1, h1) → itsX cf l e h = some (e1, h1)
  | [], e, h, e1, h1, H => by cases H; rfl
  | i :: l, e, h, e1, h1, H => by
    unfold itsP at H
    unfold itsX
    cases hi : itP cf e h i with
    | none => rw [hi] at H; cases H
    | some s =>
      rw [hi] at H
      obtain ⟨p, e2, h2⟩ := s
      cases p with
      | some p => cases H
      | none =>
        rw [itP_X hi]
        exact itsP_X H
theorem exec_mono {lp lp' : Bf → Bf} {cf cf' : Cf} (hl : LLe lp lp') (hc : CLe cf cf') : ∀ c : AC, BLe (exec lp cf c) (exec lp' cf' c) := by
  intro c
  induction c with
  | skip => intro e h r H; exact H
  | reg its kp =>
    intro e h r H
    unfold exec at H ⊢
    exact map_mono H (fun _ ha => itsP_mono hc ha)
  | seq a b iha ihb =>
    intro e h r H
    unfold exec at H ⊢
    refine bind_mono H (fun _ ha => iha _ _ _ ha) (fun o ho => nxt_mono ho fun _ _ hq => ihb _ _ _ hq)
  | cond x a b iha ihb =>
    intro e h r H
    unfold exec at H ⊢
    refine bind_mono H (fun _ ha => ha) (fun t ht => ?_)
    split at ht
    · rename_i hw; rw [if_pos hw]; exact iha _ _ _ ht
    · rename_i hw; rw [if_neg hw]; exact ihb _ _ _ ht
  | blk id a iha =>
    intro e h r H
    unfold exec at H ⊢
    exact map_mono H (fun _ ha => iha _ _ _ ha)
  | loop a iha => intro e h r H; exact hl _ _ iha _ _ _ H
  | exit id => intro e h r H; exact H
  | ret => intro e h r H; exact H
  | amb p x a b r' ihp iha ihb ihr =>
    intro e h r H
    unfold exec at H ⊢
    refine bind_mono H (fun _ ha => ihp _ _ _ ha) (fun o ho => nxt_mono ho fun e h hq => ?_)
    have sq : ∀ {p : AC}, BLe (exec lp cf p) (exec lp' cf' p) → ∀ o, (exec lp cf p e h).bind (nxt (exec lp cf r')) = some o → (exec lp' cf' p e h).bind (nxt (exec lp' cf' r')) = some o :=
      fun ihp o ho => bind_mono ho (fun _ ha => ihp _ _ _ ha) (fun q hq => nxt_mono hq fun _ _ hz => ihr _ _ _ hz)
    unfold ambB at hq ⊢
    split at hq
    · refine bind_mono hq (fun _ ha => sq iha _ ha) (fun o ho => bind_mono ho (fun _ hb => sq ihb _ hb) (fun _ hq => hq))
    · refine bind_mono hq (fun _ ha => ha) (fun t ht => ?_)
      split at ht
      · rename_i hw; rw [if_pos hw]; exact sq iha _ ht
      · rename_i hw; rw [if_neg hw]; exact sq ihb _ ht
  | rng g b =>
    intro e h r H
    unfold exec at H ⊢
    split at H
    · rename_i hq
      rw [if_pos hq]
      exact bind_mono H (fun _ ha => np_mono ha fun _ hb => hc _ _ _ _ hb) (fun _ ho => ho)
    · cases H
  | dfr its kp f xs r' ih => intro e h r H; cases H
  | rcv d d2 kp r' ih => intro e h r H; cases H

theorem loopN_mono {f g : Bf} (hf : BLe f g) : ∀ {n m : Nat}, n ≤ m → BLe (loopN f n) (loopN g m)
  | 0, _, _, _, _, _, H => by cases H
  | n + 1, 0, hm, _, _, _, _ => by omega
  | n + 1, m + 1, hm, e, h, r, H => by
    unfold loopN at H ⊢
    refine bind_mono H (fun _ ha => hf _ _ _ ha) (fun o ho => nxt_mono ho fun _ _ hq => loopN_mono hf (by omega) _ _ _ hq)

theorem BLe.refl (f : Bf) : BLe f f := fun _ _ _ h => h

theorem callee_mono {c c' : Nat → List V → Hp → Option (V × Hp)} (h : ∀ f vs x r, c f vs x = some r → c' f vs x = some r) : CLe (callee c) (callee c') := by
  intro v vs x r H
  cases v with
  | clo f caps =>
    simp only [callee] at H ⊢
    split at H
    · cases H
    · rename_i hy
      rw [if_neg hy]
      exact h _ _ _ _ H
  | yld n => exact h _ _ _ _ H
  | _ => cases H

theorem rnd_mono {T : Tab} {lp lp' : Bf → Bf} {cf cf' : Cf} (hl : LLe lp lp') (hc : CLe cf cf') {n : Nat} {vs : List V} {h : Hp} {r : V × Hp} (H : rnd T lp cf n vs h = some r) :
    rnd T lp' cf' n vs h = some r := by
  unfold rnd at H ⊢
  split at H
  · refine bind_mono H (fun _ ha => ha) (fun fn hfn => ?_)
    split at hfn
    · rename_i asg bdy hb
      split at hfn
      · rename_i hn
        rw [if_pos hn]
        refine bind_mono hfn (fun _ ha => exec_mono hl hc _ _ _ _ ha) (fun o ho => ?_)
        split at ho
        · exact bind_mono ho (fun _ ha => exec_mono hl hc _ _ _ _ ha) (fun _ hq => hq)
        · cases ho
      · cases hfn
    · cases hfn
  · cases H
def DLe (f g : Cd) : Prop := ∀ v vs p h r, f v vs p h = some r → g v vs p h = some r
theorem dcall_mono {T : Tab} {lp lp' : Bf → Bf} {cf cf' : Cf} (hl : LLe lp lp') (hc : CLe cf cf') : DLe (dcall T lp cf) (dcall T lp' cf') := by
  intro v vs p h r H
  unfold dcall at H ⊢
  cases v with
  | clo fid caps =>
    simp only at H ⊢
    split at H
    case isFalse => cases H
    rename_i hlt
    rw [if_pos hlt]
    refine bind_mono H (fun _ ha => ha) (fun fn hfn => ?_)
    split at hfn
    case isFalse => cases hfn
    rename_i hn
    rw [if_pos hn]
    split at hfn
    · split at hfn
      · rename_i hq
        rw [if_pos hq]
        exact bind_mono hfn (fun _ ha => exec_mono hl hc _ _ _ _ ha) (fun _ ho => ho)
      · cases hfn
    · split at hfn
      · rename_i hq
        rw [if_pos hq]
        exact bind_mono hfn (fun _ ha => exec_mono hl hc _ _ _ _ ha) (fun _ ho => ho)
      · cases hfn
  | _ => cases H
theorem dfrEnd_mono {cd cd' : Cd} (hd : DLe cd cd') {f : V} {vs : List V} {o r : Out} (H : dfrEnd cd f vs o = some r) : dfrEnd cd' f vs o = some r := by
  unfold dfrEnd at H ⊢
  split at H
  · exact bind_mono H (fun _ ha => hd _ _ _ _ _ ha) (fun _ ho => ho)
  · exact bind_mono H (fun _ ha => hd _ _ _ _ _ ha) (fun _ ho => ho)
  · exact map_mono H (fun _ ha => hd _ _ _ _ _ ha)
  · cases H
theorem bodyX_mono {lp lp' : Bf → Bf} {cf cf' : Cf} {cd cd' : Cd} (hl : LLe lp lp') (hc : CLe cf cf') (hd : DLe cd cd') : ∀ c : AC, BLe (bodyX lp cf cd c) (bodyX lp' cf' cd' c) := by
  intro c
  induction c with
  | seq a b iha ihb =>
    intro e h r H
    unfold bodyX at H ⊢
    exact bind_mono H (fun _ ha => exec_mono hl hc _ _ _ _ ha) (fun o ho => nxt_mono ho fun _ _ hq => ihb _ _ _ hq)
  | dfr its kp f xs rest ih =>
    intro e h r H
    unfold bodyX at H ⊢
    refine bind_mono H (fun _ ha => itsP_mono hc ha) (fun s hs => ?_)
    split at hs
    · cases hs
    · exact bind_mono hs (fun _ ha => ih _ _ _ ha) (fun _ ho => dfrEnd_mono hd ho)
  | _ =>
    intro e h r H
    unfold bodyX at H ⊢
    exact exec_mono hl hc _ _ _ _ H
theorem bodyX_exec {lp : Bf → Bf} {cf : Cf} {cd : Cd} : ∀ (c : AC), noDfr c = true → ∀ e h, bodyX lp cf cd c e h = exec lp cf c e h := by
  intro c
  induction c with
  | seq a b iha ihb =>
    intro hn e h
    unfold bodyX
    rw [show exec lp cf (.seq a b) e h = (exec lp cf a e h).bind (nxt (exec lp cf b)) by rw [exec]]
    have : bodyX lp cf cd b = exec lp cf b := funext fun e => funext fun h => ihb hn e h
    rw [this]
  | dfr its kp f xs rest ih => intro hn; cases hn
  | _ => intro _ e h; rw [bodyX]
theorem body_mono {T : Tab} {lp lp' : Bf → Bf} {cf cf' : Cf} (hl : LLe lp lp') (hc : CLe cf cf') {f : Nat} {vs : List V} {h : Hp} {r : V × Hp} (H : body T lp cf f vs h = some r) :
    body T lp' cf' f vs h = some r := by
  unfold body at H ⊢
  by_cases hy : f = YF
  · rw [if_pos hy] at H ⊢
    split at H
    · exact rnd_mono hl hc H
    · cases H
  rw [if_neg hy] at H ⊢
  by_cases hr : f < RB
  case neg => rw [if_neg hr] at H; cases H
  rw [if_pos hr] at H ⊢
  refine bind_mono H (fun _ ha => ha) (fun fn hfn => ?_)
  split at hfn
  · rename_i hn
    rw [if_pos hn]
    cases hp : isPr fn.body with
    | some k => rw [hp] at hfn; exact hfn
    | none =>
      rw [hp] at hfn
      exact bind_mono hfn (fun _ ha => bodyX_mono hl hc (dcall_mono hl hc) _ _ _ _ ha) (fun _ ho => ho)
  · cases hfn

theorem callK_mono1 (T : Tab) : ∀ (k f : Nat) (vs : List V) (h : Hp) (r : V × Hp), callK T k f vs h = some r → callK T (k + 1) f vs h = some r
  | 0, _, _, _, _, H => by cases H
  | k + 1, f, vs, h, r, H => by
    unfold callK at H ⊢
    exact body_mono (fun _ _ hab => loopN_mono hab (Nat.le_succ k)) (callee_mono (fun f vs x r => callK_mono1 T k f vs x r)) H

noncomputable def loopW (f : Bf) : Bf := fun e h => lim fun n => loopN f n e h
noncomputable def callW (T : Tab) : Nat → List V → Hp → Option (V × Hp) := fun f vs h => lim fun k => callK T k f vs h
noncomputable def cW (T : Tab) : Cf := callee (callW T)
/-- Code, run without a number of rounds. -/
noncomputable def ex (T : Tab) (c : AC) : Bf := exec loopW (cW T) c

theorem loopN_M (f : Bf) (e : Env) (h : Hp) : Mono fun n => loopN f n e h := fun k _ H => loopN_mono (BLe.refl f) (Nat.le_succ k) _ _ _ H
theorem callK_M (T : Tab) (f : Nat) (vs : List V) (h : Hp) : Mono fun k => callK T k f vs h := fun k _ H => callK_mono1 T k _ _ _ _ H

theorem loopW_some {f : Bf} {e : Env} {h : Hp} {r : Out} : loopW f e h = some r ↔ ∃ n, loopN f n e h = some r := lim_some (loopN_M f e h)
theorem callW_some {T : Tab} {f : Nat} {vs : List V} {h : Hp} {r : V × Hp} : callW T f vs h = some r ↔ ∃ k, callK T k f vs h = some r := lim_some (callK_M T f vs h)

/-- A loop: one round, and the loop again. -/
theorem loopW_eq (f : Bf) (e : Env) (h : Hp) : loopW f e h = (f e h).bind (nxt (loopW f)) := by
  refine opt_ext fun a => ?_
  rw [loopW_some]
  constructor
  · rintro ⟨n, hn⟩
    cases n with
    | zero => cases hn
    | succ n =>
      unfold loopN at hn
      exact bind_mono hn (fun _ ha => ha) (fun o ho => nxt_mono ho fun _ _ hq => loopW_some.2 ⟨n, hq⟩)
  · intro H
    cases hf : f e h with
    | none => rw [hf] at H; cases H
    | some o =>
      obtain ⟨x, e', h'⟩ := o
      rw [hf] at H
      simp only [Option.bind_some] at H
      cases x with
      | norm =>
        obtain ⟨n, hn⟩ := loopW_some.1 H
        exact ⟨n + 1, by unfold loopN; rw [hf]; exact hn⟩
      | exit i => exact ⟨1, by unfold loopN; rw [hf]; exact H⟩
      | ret => exact ⟨1, by unfold loopN; rw [hf]; exact H⟩
      | pan => exact ⟨1, by unfold loopN; rw [hf]; exact H⟩

theorem cf_compact (T : Tab) {v : V} {vs : List V} {h : Hp} {r : V × Hp} (H : cW T v vs h = some r) : ∃ k0, ∀ k, k0 ≤ k → callee (callK T k) v vs h = some r := by
  unfold cW at H
  cases v with
  | clo f caps =>
    simp only [callee] at H ⊢
    split at H
    · cases H
    · rename_i hy
      obtain ⟨k, hk⟩ := callW_some.1 H
      exact ⟨k, fun l hl => by rw [if_neg hy]; exact (callK_M T _ _ _).le hl hk⟩
  | yld n =>
    obtain ⟨k, hk⟩ := callW_some.1 H
    exact ⟨k, fun l hl => (callK_M T _ _ _).le hl hk⟩
  | _ => cases H

theorem opX_compact (T : Tab) {e : Env} {h : Hp} {o : AOp} {r : V × Hp} (H : opX (cW T) e h o = some r) : ∃ k0, ∀ k, k0 ≤ k → opX (callee (callK T k)) e h o = some r := by
  cases o <;> first | exact ⟨0, fun _ _ => H⟩ | skip
  · exact cf_compact T H
  case callk k f nm xs =>
    simp only [opX] at H ⊢
    cases hc : cW T (e.ev f) (normArgs nm (xs.map e.ev)) h with
    | none => rw [hc] at H; cases H
    | some q =>
      rw [hc] at H
      obtain ⟨k0, hk⟩ := cf_compact T hc
      exact ⟨k0, fun k hle => by rw [hk k hle]; exact H⟩
  case callz k f nm xs =>
    simp only [opX] at H ⊢
    cases hc : cW T (e.ev f) (normArgs nm (xs.map e.ev)) h with
    | none => rw [hc] at H; cases H
    | some q =>
      rw [hc] at H
      obtain ⟨k0, hk⟩ := cf_compact T hc
      exact ⟨k0, fun k hle => by rw [hk k hle]; exact H⟩
  all_goals
    rename_i f nm xs
    simp only [opX] at H ⊢
    cases hc : cW T (e.ev f) (normArgs nm (xs.map e.ev)) h with
    | none => rw [hc] at H; cases H
    | some q =>
      rw [hc] at H
      obtain ⟨k0, hk⟩ := cf_compact T hc
      exact ⟨k0, fun k hle => by rw [hk k hle]; exact H⟩

theorem itP_compact (T : Tab) {e : Env} {h : Hp} {o : It} {r : Option (Nat × D) × Env × Hp} (H : itP (cW T) e h o = some r) : ∃ k0, ∀ k, k0 ≤ k → itP (callee (callK T k)) e h o = some r := by
  cases o with
  | o dst op g =>
    simp only [itP] at H
    cases hw : want e g with
    | none => rw [hw] at H; cases H
    | some w =>
      rw [hw] at H
      simp only [Option.bind_some] at H
      by_cases hx : w = true
      · rw [if_pos hx] at H
        cases ho : opX (cW T) e h op with
        | none => rw [ho] at H; cases H
        | some q =>
          rw [ho] at H
          obtain ⟨k0, hk⟩ := opX_compact T ho
          refine ⟨k0, fun k hle => ?_⟩
          simp only [itP]
          rw [hw]
          simp only [Option.bind_some]
          rw [if_pos hx, hk k hle]
          exact H
      · rw [if_neg hx] at H
        refine ⟨0, fun k _ => ?_⟩
        simp only [itP]
        rw [hw]
        simp only [Option.bind_some]
        rw [if_neg hx]
        exact H
  | frz t => exact ⟨0, fun _ _ => H⟩
  | fzd t => exact ⟨0, fun _ _ => H⟩
  | kill t => exact ⟨0, fun _ _ => H⟩
theorem itsP_compact (T : Tab) : ∀ {l : List It} {e : Env} {h : Hp} {r : Option (Nat × D) × Env × Hp}, itsP (cW T) l e h = some r → ∃ k0, ∀ k, k0 ≤ k → itsP (callee (callK T k)) l e h = some r
  | [], _, _, _, H => ⟨0, fun _ _ => H⟩
  | i :: l, e, h, r, H => by
    unfold itsP at H
    cases hi : itP (cW T) e h i with
    | none => rw [hi] at H; cases H
    | some s =>
      rw [hi] at H
      obtain ⟨k1, h1⟩ := itP_compact T hi
      obtain ⟨p, e1, hh1⟩ := s
      cases p with
      | some p =>
        refine ⟨k1, fun k hk => ?_⟩
        unfold itsP
        rw [h1 k hk]
        exact H
      | none =>
        obtain ⟨k2, h2⟩ := itsP_compact T H
        refine ⟨max k1 k2, fun k hk => ?_⟩
        unfold itsP
        rw [h1 k (by omega)]
        exact h2 k (by omega)

theorem exec_compact (T : Tab) : ∀ (c : AC) {e : Env} {h : Hp} {r : Out}, ex T c e h = some r → ∃ k0, ∀ k, k0 ≤ k → exec (fun b => loopN b k) (callee (callK T k)) c e h = some r := by
  intro c
  induction c with
  | skip => intro e h r H; exact ⟨0, fun _ _ => H⟩
  | reg its kp =>
    intro e h r H
    unfold ex exec at H
    cases hi : itsP (cW T) its e h with
    | none => rw [hi] at H; cases H
    | some s =>
      rw [hi] at H
      obtain ⟨k0, hk⟩ := itsP_compact T hi
      exact ⟨k0, fun k hle => by unfold exec; rw [hk k hle]; exact H⟩
  | seq a b iha ihb =>
    intro e h r H
    unfold ex exec at H
    cases ha : exec loopW (cW T) a e h with
    | none => rw [ha] at H; cases H
    | some o =>
      rw [ha] at H
      obtain ⟨k1, h1⟩ := iha ha
      simp only [Option.bind_some] at H
      obtain ⟨x, e', h'⟩ := o
      cases x with
      | norm =>
        obtain ⟨k2, h2⟩ := ihb (show ex T b e' h' = some r from H)
        exact ⟨max k1 k2, fun k hk => by unfold exec; rw [h1 k (by omega)]; exact h2 k (by omega)⟩
      | exit i => exact ⟨k1, fun k hk => by unfold exec; rw [h1 k hk]; exact H⟩
      | ret => exact ⟨k1, fun k hk => by unfold exec; rw [h1 k hk]; exact H⟩
      | pan => exact ⟨k1, fun k hk => by unfold exec; rw [h1 k hk]; exact H⟩
  | cond x a b iha ihb =>
    intro e h r H
    unfold ex exec at H
    cases hc : condB (e.ev x) with
    | none => rw [hc] at H; cases H
    | some t =>
      rw [hc] at H
      simp only [Option.bind_some] at H
      by_cases ht : t = true
      · rw [if_pos ht] at H
        obtain ⟨k0, hk⟩ := iha H
        exact ⟨k0, fun k hle => by unfold exec; rw [hc]; simp only [Option.bind_some]; rw [if_pos ht]; exact hk k hle⟩
      · rw [if_neg ht] at H
        obtain ⟨k0, hk⟩ := ihb H
        exact ⟨k0, fun k hle => by unfold exec; rw [hc]; simp only [Option.bind_some]; rw [if_neg ht]; exact hk k hle⟩
  | blk id a iha =>
    intro e h r H
    unfold ex exec at H
    cases ha : exec loopW (cW T) a e h with
    | none => rw [ha] at H; cases H
    | some o =>
      rw [ha] at H
      obtain ⟨k0, hk⟩ := iha ha
      exact ⟨k0, fun k hle => by unfold exec; rw [hk k hle]; exact H⟩
  | loop a iha =>
    intro e h r H
    unfold ex exec at H
    obtain ⟨n, hn⟩ := loopW_some.1 H
    have key : ∀ n e h, loopN (exec loopW (cW T) a) n e h = some r → ∃ k0, ∀ k, k0 ≤ k → ∀ m, n ≤ m → loopN (exec (fun b => loopN b k) (callee (callK T k)) a) m e h = some r := by
      intro n
      induction n with
      | zero => intro e h hn; cases hn
      | succ n ih =>
        intro e h hn
        unfold loopN at hn
        cases ha : exec loopW (cW T) a e h with
        | none => rw [ha] at hn; cases hn
        | some o =>
          rw [ha] at hn
          obtain ⟨k1, h1⟩ := iha ha
          simp only [Option.bind_some] at hn
          obtain ⟨x, e', h'⟩ := o
          cases x with
          | norm =>
            obtain ⟨k2, h2⟩ := ih _ _ hn
            refine ⟨max k1 k2, fun k hk m hm => ?_⟩
            obtain ⟨m, rfl⟩ : ∃ q, m = q + 1 := ⟨m - 1, by omega⟩
            unfold loopN
            rw [h1 k (by omega)]
            exact h2 k (by omega) m (by omega)
          | exit i =>
            refine ⟨k1, fun k hk m hm => ?_⟩
            obtain ⟨m, rfl⟩ : ∃ q, m = q + 1 := ⟨m - 1, by omega⟩
            unfold loopN
            rw [h1 k hk]
            exact hn
          | ret =>
            refine ⟨k1, fun k hk m hm => ?_⟩
            obtain ⟨m, rfl⟩ : ∃ q, m = q + 1 := ⟨m - 1, by omega⟩
            unfold loopN
            rw [h1 k hk]
            exact hn
          | pan =>
            refine ⟨k1, fun k hk m hm => ?_⟩
            obtain ⟨m, rfl⟩ : ∃ q, m = q + 1 := ⟨m - 1, by omega⟩
            unfold loopN
            rw [h1 k hk]
            exact hn
    obtain ⟨k0, hk⟩ := key n e h hn
    exact ⟨max k0 n, fun k hle => by unfold exec; exact hk k (by omega) k (by omega)⟩
  | exit id => intro e h r H; exact ⟨0, fun _ _ => H⟩
  | ret => intro e h r H; exact ⟨0, fun _ _ => H⟩
  | amb pp x a b r' ihp iha ihb ihr =>
    intro e h r H
    have key : ∀ (e : Env) (h : Hp), ambB x (exec loopW (cW T) a) (exec loopW (cW T) b) (exec loopW (cW T) r') e h = some r → ∃ k0, ∀ k, k0 ≤ k → ambB x (exec (fun b => loopN b k) (callee (callK T k)) a) (exec (fun b => loopN b k) (callee (callK T k)) b) (exec (fun b => loopN b k) (callee (callK T k)) r') e h = some r := by
      intro e h H
      have sq : ∀ {p : AC}, (∀ {e : Env} {h : Hp} {r : Out}, ex T p e h = some r → ∃ k0, ∀ k, k0 ≤ k → exec (fun b => loopN b k) (callee (callK T k)) p e h = some r) → ∀ {o : Out}, (exec loopW (cW T) p e h).bind (nxt (exec loopW (cW T) r')) = some o → ∃ k0, ∀ k, k0 ≤ k → (exec (fun b => loopN b k) (callee (callK T k)) p e h).bind (nxt (exec (fun b => loopN b k) (callee (callK T k)) r')) = some o := by
        intro p ihp o ho
        cases ha : exec loopW (cW T) p e h with
        | none => rw [ha] at ho; cases ho
        | some q =>
          rw [ha] at ho
          obtain ⟨k1, h1⟩ := ihp ha
          simp only [Option.bind_some] at ho
          obtain ⟨y, e', h'⟩ := q
          cases y with
          | norm =>
            obtain ⟨k2, h2⟩ := ihr (show ex T r' e' h' = some o from ho)
            exact ⟨max k1 k2, fun k hk => by rw [h1 k (by omega)]; exact h2 k (by omega)⟩
          | exit i => exact ⟨k1, fun k hk => by rw [h1 k hk]; exact ho⟩
          | ret => exact ⟨k1, fun k hk => by rw [h1 k hk]; exact ho⟩
          | pan => exact ⟨k1, fun k hk => by rw [h1 k hk]; exact ho⟩
      unfold ambB at H
      split at H
      · rename_i hu
        simp only [Option.bind_eq_some_iff] at H
        obtain ⟨o, ho, q, hq, H⟩ := H
        obtain ⟨k1, h1⟩ := sq iha (Option.bind_eq_some_iff.2 ho)
        obtain ⟨k2, h2⟩ := sq ihb (Option.bind_eq_some_iff.2 hq)
        refine ⟨max k1 k2, fun k hk => ?_⟩
        unfold ambB
        rw [hu]
        simp only
        rw [h1 k (by omega)]
        simp only [Option.bind_some]
        rw [h2 k (by omega)]
        exact H
      · rename_i v hv
        cases hc : condB (e.ev x) with
        | none => rw [hc] at H; cases H
        | some t =>
          rw [hc] at H
          simp only [Option.bind_some] at H
          by_cases ht : t = true
          · rw [if_pos ht] at H
            obtain ⟨k0, hk⟩ := sq iha H
            refine ⟨k0, fun k hle => ?_⟩
            unfold ambB
            split
            · rename_i hu; exact absurd hu hv
            · rw [hc]; simp only [Option.bind_some]; rw [if_pos ht]; exact hk k hle
          · rw [if_neg ht] at H
            obtain ⟨k0, hk⟩ := sq ihb H
            refine ⟨k0, fun k hle => ?_⟩
            unfold ambB
            split
            · rename_i hu; exact absurd hu hv
            · rw [hc]; simp only [Option.bind_some]; rw [if_neg ht]; exact hk k hle
    unfold ex exec at H
    cases ha : exec loopW (cW T) pp e h with
    | none => rw [ha] at H; cases H
    | some o =>
      rw [ha] at H
      obtain ⟨k1, h1⟩ := ihp ha
      simp only [Option.bind_some] at H
      obtain ⟨y, e', h'⟩ := o
      cases y with
      | norm =>
        obtain ⟨k2, h2⟩ := key e' h' H
        exact ⟨max k1 k2, fun k hk => by unfold exec; rw [h1 k (by omega)]; exact h2 k (by omega)⟩
      | exit i => exact ⟨k1, fun k hk => by unfold exec; rw [h1 k hk]; exact H⟩
      | ret => exact ⟨k1, fun k hk => by unfold exec; rw [h1 k hk]; exact H⟩
      | pan => exact ⟨k1, fun k hk => by unfold exec; rw [h1 k hk]; exact H⟩
  | rng g b =>
    intro e h r H
    unfold ex exec at H
    split at H
    case isFalse => cases H
    rename_i hq
    cases hc : cW T (e.ev g) [.yld h.next] (h.alloc (.lp b e none)) with
    | none => rw [hc] at H; cases H
    | some q =>
      rw [hc] at H
      obtain ⟨k0, hk⟩ := cf_compact T hc
      exact ⟨k0, fun k hle => by unfold exec; rw [if_pos hq, hk k hle]; exact H⟩
  | dfr its kp f xs r' ih => intro e h r H; cases H
  | rcv d d2 kp r' ih => intro e h r H; cases H
theorem dcall_compact (T : Tab) {v : V} {vs : List V} {p : Pn} {h : Hp} {r : Pn × Hp} (H : dcall T loopW (cW T) v vs p h = some r) : ∃ k0, ∀ k, k0 ≤ k → dcall T (fun b => loopN b k) (callee (callK T k)) v vs p h = some r := by
  unfold dcall at H
  cases v with
  | clo fid caps =>
    simp only at H
    split at H
    case isFalse => cases H
    rename_i hlt
    cases hT : T fid with
    | none => rw [hT] at H; cases H
    | some fn =>
      rw [hT] at H
      simp only [Option.bind_some] at H
      split at H
      case isFalse => cases H
      rename_i hn
      split at H
      · rename_i d d2 kp rest hb
        split at H
        case isFalse => cases H
        rename_i hq
        cases he : exec loopW (cW T) rest (keepE kp ((d2, ifcOf p) :: (d, ifcOf p) :: args 0 (vs ++ caps))) h with
        | none => rw [he] at H; cases H
        | some o =>
          rw [he] at H
          obtain ⟨k2, h2⟩ := exec_compact T rest he
          refine ⟨k2, fun k hk => ?_⟩
          simp only [dcall]
          rw [if_pos hlt, hT]
          simp only [Option.bind_some]
          rw [if_pos hn, hb]
          simp only
          rw [if_pos hq, h2 k hk]
          exact H
      · rename_i hb
        split at H
        case isFalse => cases H
        rename_i hq
        cases he : exec loopW (cW T) fn.body (args 0 (vs ++ caps)) h with
        | none => rw [he] at H; cases H
        | some o =>
          rw [he] at H
          obtain ⟨k2, h2⟩ := exec_compact T fn.body he
          refine ⟨k2, fun k hk => ?_⟩
          simp only [dcall]
          rw [if_pos hlt, hT]
          simp only [Option.bind_some]
          rw [if_pos hn]
          have h2' := h2 k hk
          cases hbd : fn.body with
          | rcv a b c d => exact absurd hbd (hb _ _ _ _)
          | _ => rw [hbd] at h2' hq; rw [if_pos hq, h2']; exact H
  | _ => cases H
theorem dfrEnd_compact (T : Tab) {v : V} {vs : List V} {o r : Out} (H : dfrEnd (dcall T loopW (cW T)) v vs o = some r) : ∃ k0, ∀ k, k0 ≤ k → dfrEnd (dcall T (fun b => loopN b k) (callee (callK T k))) v vs o = some r := by
  unfold dfrEnd at H
  split at H
  · rename_i e h
    cases hd : dcall T loopW (cW T) v vs none h with
    | none => rw [hd] at H; cases H
    | some q =>
      rw [hd] at H
      obtain ⟨k0, hk⟩ := dcall_compact T hd
      exact ⟨k0, fun k hle => by unfold dfrEnd; simp only; rw [hk k hle]; exact H⟩
  · rename_i e h
    cases hd : dcall T loopW (cW T) v vs none h with
    | none => rw [hd] at H; cases H
    | some q =>
      rw [hd] at H
      obtain ⟨k0, hk⟩ := dcall_compact T hd
      exact ⟨k0, fun k hle => by unfold dfrEnd; simp only; rw [hk k hle]; exact H⟩
  · rename_i a t y e h
    cases hd : dcall T loopW (cW T) v vs (some (t, y)) h with
    | none => rw [hd] at H; cases H
    | some q =>
      rw [hd] at H
      obtain ⟨k0, hk⟩ := dcall_compact T hd
      exact ⟨k0, fun k hle => by unfold dfrEnd; simp only; rw [hk k hle]; exact H⟩
  · cases H
theorem bodyX_compact (T : Tab) : ∀ (c : AC) {e : Env} {h : Hp} {r : Out}, bodyX loopW (cW T) (dcall T loopW (cW T)) c e h = some r → ∃ k0, ∀ k, k0 ≤ k → bodyX (fun b => loopN b k) (callee (callK T k)) (dcall T (fun b => loopN b k) (callee (callK T k))) c e h = some r := by
  intro c
  induction c with
  | seq a b iha ihb =>
    intro e h r H
    unfold bodyX at H
    cases ha : exec loopW (cW T) a e h with
    | none => rw [ha] at H; cases H
    | some o =>
      rw [ha] at H
      obtain ⟨k1, h1⟩ := exec_compact T a ha
      simp only [Option.bind_some] at H
      obtain ⟨x, e', h'⟩ := o
      cases x with
      | norm =>
        obtain ⟨k2, h2⟩ := ihb H
        exact ⟨max k1 k2, fun k hk => by unfold bodyX; rw [h1 k (by omega)]; exact h2 k (by omega)⟩
      | exit i => exact ⟨k1, fun k hk => by unfold bodyX; rw [h1 k hk]; exact H⟩
      | ret => exact ⟨k1, fun k hk => by unfold bodyX; rw [h1 k hk]; exact H⟩
      | pan => exact ⟨k1, fun k hk => by unfold bodyX; rw [h1 k hk]; exact H⟩
  | dfr its kp f xs rest ih =>
    intro e h r H
    unfold bodyX at H
    cases hi : itsP (cW T) its e h with
    | none => rw [hi] at H; cases H
    | some s =>
      rw [hi] at H
      obtain ⟨k1, h1⟩ := itsP_compact T hi
      obtain ⟨q, e1, hh⟩ := s
      cases q with
      | some q => cases H
      | none =>
        simp only [Option.bind_some] at H
        cases hb : bodyX loopW (cW T) (dcall T loopW (cW T)) rest (keepE kp e1) hh with
        | none => rw [hb] at H; cases H
        | some o =>
          rw [hb] at H
          obtain ⟨k2, h2⟩ := ih hb
          obtain ⟨k3, h3⟩ := dfrEnd_compact T H
          refine ⟨max k1 (max k2 k3), fun k hk => ?_⟩
          unfold bodyX
          rw [h1 k (by omega)]
          simp only [Option.bind_some]
          rw [h2 k (by omega)]
          exact h3 k (by omega)
  | _ =>
    intro e h r H
    unfold bodyX at H
    obtain ⟨k0, hk⟩ := exec_compact T _ H
    exact ⟨k0, fun k hle => by unfold bodyX; exact hk k hle⟩

theorem rnd_compact (T : Tab) {n : Nat} {vs : List V} {h : Hp} {r : V × Hp} (H : rnd T loopW (cW T) n vs h = some r) : ∃ k0, ∀ k, k0 ≤ k → rnd T (fun b => loopN b k) (callee (callK T k)) n vs h = some r := by
  unfold rnd at H
  split at H
  case h_2 => cases H
  rename_i b e hg
  cases hT : T (RB + b) with
  | none => rw [hT] at H; cases H
  | some fn =>
    rw [hT] at H
    simp only [Option.bind_some] at H
    split at H
    case h_2 => cases H
    rename_i asg bdy hb
    split at H
    case isFalse => cases H
    rename_i hn
    cases ha : exec loopW (cW T) asg (binds (fn.res.map (·.1)) vs e) h with
    | none => rw [ha] at H; cases H
    | some o =>
      rw [ha] at H
      obtain ⟨k1, h1⟩ := exec_compact T asg ha
      simp only [Option.bind_some] at H
      split at H
      case h_2 => cases H
      rename_i b' e' hx hg'
      cases hq : exec loopW (cW T) bdy o.2.1 (o.2.2.set n (.lp b' e' (some .norm))) with
      | none => rw [hq] at H; cases H
      | some q =>
        rw [hq] at H
        obtain ⟨k2, h2⟩ := exec_compact T bdy hq
        refine ⟨max k1 k2, fun k hk => ?_⟩
        unfold rnd
        rw [hg]
        simp only
        rw [hT]
        simp only [Option.bind_some]
        rw [hb]
        simp only
        rw [if_pos hn, h1 k (by omega)]
        simp only [Option.bind_some]
        rw [hx, hg']
        simp only
        rw [h2 k (by omega)]
        exact H

theorem LLe_loopW (k : Nat) : LLe (fun b => loopN b k) loopW := by
  intro a b hab e h r H
  exact loopW_some.2 ⟨k, loopN_mono hab (Nat.le_refl k) _ _ _ H⟩

/-- A call: the body. -/
theorem callW_eq (T : Tab) (f : Nat) (vs : List V) (h : Hp) : callW T f vs h = body T loopW (cW T) f vs h := by
  refine opt_ext fun r => ?_
  rw [callW_some]
  constructor
  · rintro ⟨k, hk⟩
    cases k with
    | zero => cases hk
    | succ k =>
      unfold callK at hk
      exact body_mono (LLe_loopW k) (callee_mono fun f vs x r hr => callW_some.2 ⟨k, hr⟩) hk
  · intro H
    unfold body at H
    by_cases hy : f = YF
    · rw [if_pos hy] at H
      split at H
      case h_2 => cases H
      obtain ⟨k0, hk⟩ := rnd_compact T H
      refine ⟨k0 + 1, ?_⟩
      unfold callK body
      rw [if_pos hy]
      exact hk k0 (Nat.le_refl _)
    rw [if_neg hy] at H
    by_cases hr : f < RB
    case neg => rw [if_neg hr] at H; cases H
    rw [if_pos hr] at H
    cases hT : T f with
    | none => rw [hT] at H; cases H
    | some fn =>
      rw [hT] at H
      simp only [Option.bind_some] at H
      by_cases hn : vs.length = fn.np
      · rw [if_pos hn] at H
        cases hp : isPr fn.body with
        | some k =>
          rw [hp] at H
          refine ⟨1, ?_⟩
          unfold callK body
          rw [if_neg hy, if_pos hr, hT]
          simp only [Option.bind_some]
          rw [if_pos hn, hp]
          exact H
        | none =>
        rw [hp] at H
        simp only at H
        cases he : bodyX loopW (cW T) (dcall T loopW (cW T)) fn.body (args 0 vs) h with
        | none => rw [he] at H; cases H
        | some o =>
          rw [he] at H
          obtain ⟨k0, hk⟩ := bodyX_compact T fn.body he
          refine ⟨k0 + 1, ?_⟩
          unfold callK body
          rw [if_neg hy, if_pos hr, hT]
          simp only [Option.bind_some]
          rw [if_pos hn, hp]
          simp only
          rw [hk k0 (Nat.le_refl _)]
          exact H
      · rw [if_neg hn] at H
        cases H

/-- What a run with a number of rounds gives is given. -/
theorem callW_of (T : Tab) (k : Nat) {f : Nat} {vs : List V} {h : Hp} {r : V × Hp} (H : callK T k f vs h = some r) : callW T f vs h = some r := callW_some.2 ⟨k, H⟩

end Zv
end
section
set_option linter.unusedSimpArgs false
set_option linter.unusedVariables false
namespace Zv
open Go

/-- Where a row lies: its block, its first cell, the cells of an element, the cells of the block. -/
structure Pl where
  b : Nat
  o : Nat
  es : Nat
  sz : Nat
  deriving Inhabited

/-- What is known of memory: blocks that stay as they are; where the rows lie; names and lengths in use. -/
structure G where
  φ : Nat → Option Obj
  μ : Nat → Nat → Pl
  N : Nat
  B : Nat → Nat
  /-- blocks that stay as they are, and are not looked at -/
  F : Nat → Option Obj
  /-- the code of the rounds: number, parameters, assignments, body, number of variables -/
  C : Nat → Array Tmp → Code → Code → Nat → Prop

def cellφ (φ : Nat → Option Obj) (b p : Nat) : Option Value :=
  match φ b with
  | some (.cells c _ _) => c[p]?
  | _ => none

def At (φ : Nat → Option Obj) (b p : Nat) (vs : List Value) : Prop := ∀ j v, vs[j]? = some v → cellφ φ b (p + j) = some v

/-- A value that one cell can hold. -/
def leaf : Value → Prop
  | .agg _ => False
  | .tuple _ => False
  | _ => True

mutual
inductive RepD (φ : Nat → Option Obj) : D → Value → Prop
  | bool (b : Bool) : RepD φ (.bool b) (.bool b)
  | int (k : IntKind) (n : Int) : RepD φ (.int k n) (.int k n)
  | str (s : ByteArray) : RepD φ (.str s) (.string s)
  | nilp : RepD φ .nilp (.pointer none)
  | nilf : RepD φ .nilf .nilFunc
  | nilm : RepD φ .nilm (.map none)
  | lst (l : List D) (es cap : Nat) (a : Option Addr) (vs : List Value) (hes : ∀ x, x ∈ l → x.cells.length = es) (hc : l.length ≤ cap)
      (hr : RepDs φ (l.flatMap D.cells) vs) (ha : l = [] ∨ ∃ b p, a = some ⟨b, p, none⟩ ∧ At φ b p vs) : RepD φ (.lst l) (.slice a l.length cap)
  | agg (l : List D) (vs : List Value) (hr : RepDs φ l vs) : RepD φ (.agg l) (.agg vs.toArray)
inductive RepDs (φ : Nat → Option Obj) : List D → List Value → Prop
  | nil : RepDs φ [] []
  | cons (x : D) (l : List D) (v : Value) (vs : List Value) (h : RepD φ x v) (hs : RepDs φ l vs) (hf : leaf v) : RepDs φ (x :: l) (v :: vs)
end

mutual
inductive Rep (g : G) : V → Value → Prop
  | d (x : D) (v : Value) (h : RepD g.φ x v) : Rep g (.d x) v
  | tl (l : List V) (nl : Option Bool) (es : Nat) (a : Option Addr) (vs : List Value) (hes : ∀ x, x ∈ l → x.cells.length = es)
      (hr : Reps g (l.flatMap V.cells) vs) (ha : l = [] ∨ ∃ b p, a = some ⟨b, p, none⟩ ∧ At g.φ b p vs)
      (hn : ∀ q, nl = some q → (q = true ↔ a = none)) (hf : ∀ v, v ∈ vs → leaf v) : Rep g (.tl l nl) (.slice a l.length l.length)
  | own (n es tot off len cap : Nat) (a : Addr) (he : (g.μ n tot).es = es) (hN : n < g.N) (hB : tot ≤ g.B n)
      (ha : cap = 0 ∨ a = ⟨(g.μ n tot).b, (g.μ n tot).o + off * (g.μ n tot).es, none⟩) (hl : len ≤ cap) (ht : off + len ≤ tot) (hc : tot ≤ off + cap)
      (hs : (g.μ n tot).o + (off + cap) * (g.μ n tot).es ≤ (g.μ n tot).sz) : Rep g (.own n es tot off len) (.slice (some a) len cap)
  | ptr (n tot i off : Nat) (hN : n < g.N) (hB : tot ≤ g.B n) :
      Rep g (.ptr n tot i off) (.pointer (some ⟨(g.μ n tot).b, (g.μ n tot).o + i * (g.μ n tot).es + off, none⟩))
  | fp (x : D) (off b p : Nat) (vs : List Value) (hr : RepDs g.φ x.cells vs) (ha : At g.φ b p vs) : Rep g (.fp x off) (.pointer (some ⟨b, p + off, none⟩))
  | clo (f : Nat) (caps : List V) (vs : List Value) (hr : Reps g caps vs) : Rep g (.clo f caps) (.func (.func f) #[] vs.toArray)
  | agg (l : List V) (vs : List Value) (hr : Reps g l vs) (hf : ∀ v, v ∈ vs → leaf v) : Rep g (.agg l) (.agg vs.toArray)
  | tup (l : List V) (vs : List Value) (hr : Reps g l vs) : Rep g (.tup l) (.tuple vs.toArray)
  | map (n : Nat) (hN : n < g.N) : Rep g (.map n) (.map (some (g.μ n 0).b))
  | yld (n : Nat) (hN : n < g.N) : Rep g (.yld n) (.func (.yield (g.μ n 0).b) #[] #[])
  | ub (b : Bool) : Rep g .ub (.bool b)
  | undef (v : Value) : Rep g .undef v
  | ifc (t : Nat) (x : D) (v : Value) (h : RepD g.φ x v) : Rep g (.ifc t x) (.iface t v)
  | nif : Rep g .nif .nilIface
inductive Reps (g : G) : List V → List Value → Prop
  | nil : Reps g [] []
  | cons (x : V) (l : List V) (v : Value) (vs : List Value) (h : Rep g x v) (hs : Reps g l vs) : Reps g (x :: l) (v :: vs)
end

/-! ## More is known later -/

structure Le (g g' : G) : Prop where
  φ : ∀ b o, g.φ b = some o → g'.φ b = some o
  N : g.N ≤ g'.N
  B : ∀ n, n < g.N → g.B n ≤ g'.B n
  μ : ∀ n t, n < g.N → t ≤ g.B n → g'.μ n t = g.μ n t
  F : g'.F = g.F
  C : g'.C = g.C

theorem Le.refl (g : G) : Le g g := ⟨fun _ _ h => h, Nat.le_refl _, fun _ _ => Nat.le_refl _, fun _ _ _ _ => rfl, rfl, rfl⟩
theorem Le.trans {a b c : G} (h : Le a b) (k : Le b c) : Le a c :=
  ⟨fun _ _ x => k.φ _ _ (h.φ _ _ x), Nat.le_trans h.N k.N, fun n hn => Nat.le_trans (h.B n hn) (k.B n (Nat.lt_of_lt_of_le hn h.N)),
    fun n t hn ht => (k.μ n t (Nat.lt_of_lt_of_le hn h.N) (Nat.le_trans ht (h.B n hn))).trans (h.μ n t hn ht), k.F.trans h.F, k.C.trans h.C⟩

theorem cellφ_mono {φ φ' : Nat → Option Obj} (h : ∀ b o, φ b = some o → φ' b = some o) {b p : Nat} {v : Value} (hc : cellφ φ b p = some v) : cellφ φ' b p = some v := by
  unfold cellφ at hc ⊢
  cases hb : φ b with
  | none => rw [hb] at hc; cases hc
  | some o => rw [hb] at hc; rw [h _ _ hb]; exact hc

theorem At.mono {φ φ' : Nat → Option Obj} (h : ∀ b o, φ b = some o → φ' b = some o) {b p : Nat} {vs : List Value} (ha : At φ b p vs) : At φ' b p vs :=
  fun j v hj => cellφ_mono h (ha j v hj)

mutual
theorem RepD.mono {φ φ' : Nat → Option Obj} (h : ∀ b o, φ b = some o → φ' b = some o) : ∀ {x : D} {v : Value}, RepD φ x v → RepD φ' x v
  | _, _, .bool b => .bool b
  | _, _, .int k n => .int k n
  | _, _, .str s => .str s
  | _, _, .nilp => .nilp
  | _, _, .nilf => .nilf
  | _, _, .nilm => .nilm
  | _, _, .lst l es cap a vs hes hc hr ha => .lst l es cap a vs hes hc (RepDs.mono h hr) (ha.imp id fun ⟨b, p, e, hat⟩ => ⟨b, p, e, hat.mono h⟩)
  | _, _, .agg l vs hr => .agg l vs (RepDs.mono h hr)
theorem RepDs.mono {φ φ' : Nat → Option Obj} (h : ∀ b o, φ b = some o → φ' b = some o) : ∀ {x : List D} {v : List Value}, RepDs φ x v → RepDs φ' x v
  | _, _, .nil => .nil
  | _, _, .cons x l v vs hx hs hf => .cons x l v vs (RepD.mono h hx) (RepDs.mono h hs) hf
end

mutual
theorem Rep.mono {g g' : G} (h : Le g g') : ∀ {x : V} {v : Value}, Rep g x v → Rep g' x v
  | _, _, .d x v hx => .d x v (hx.mono h.φ)
  | _, _, .tl l nl es a vs hes hr ha hn hf => .tl l nl es a vs hes (Reps.mono h hr) (ha.imp id fun ⟨b, p, e, hat⟩ => ⟨b, p, e, hat.mono h.φ⟩) hn hf
  | _, _, .own n es tot off len cap a he hN hB ha hl ht hc hs => .own n es tot off len cap a (by rw [h.μ n tot hN hB]; exact he) (Nat.lt_of_lt_of_le hN h.N) (Nat.le_trans hB (h.B n hN)) (by rw [h.μ n tot hN hB]; exact ha) hl ht hc (by rw [h.μ n tot hN hB]; exact hs)
  | _, _, .ptr n tot i off hN hB => by rw [← h.μ n tot hN hB]; exact .ptr n tot i off (Nat.lt_of_lt_of_le hN h.N) (Nat.le_trans hB (h.B n hN))
  | _, _, .fp x off b p vs hr ha => .fp x off b p vs (hr.mono h.φ) (ha.mono h.φ)
  | _, _, .clo f caps vs hr => .clo f caps vs (Reps.mono h hr)
  | _, _, .agg l vs hr hf => .agg l vs (Reps.mono h hr) hf
  | _, _, .tup l vs hr => .tup l vs (Reps.mono h hr)
  | _, _, .map n hN => by rw [← h.μ n 0 hN (Nat.zero_le _)]; exact .map n (Nat.lt_of_lt_of_le hN h.N)
  | _, _, .yld n hN => by rw [← h.μ n 0 hN (Nat.zero_le _)]; exact .yld n (Nat.lt_of_lt_of_le hN h.N)
  | _, _, .ub b => .ub b
  | _, _, .undef v => .undef v
  | _, _, .ifc t x v hx => .ifc t x v (hx.mono h.φ)
  | _, _, .nif => .nif
theorem Reps.mono {g g' : G} (h : Le g g') : ∀ {x : List V} {v : List Value}, Reps g x v → Reps g' x v
  | _, _, .nil => .nil
  | _, _, .cons x l v vs hx hs => .cons x l v vs (Rep.mono h hx) (Reps.mono h hs)
end

/-! ## Lists -/

theorem RepDs.length {φ : Nat → Option Obj} : ∀ {l : List D} {vs : List Value}, RepDs φ l vs → vs.length = l.length
  | _, _, .nil => rfl
  | _, _, .cons _ _ _ _ _ hs _ => by simp [RepDs.length hs]
theorem Reps.length {g : G} : ∀ {l : List V} {vs : List Value}, Reps g l vs → vs.length = l.length
  | _, _, .nil => rfl
  | _, _, .cons _ _ _ _ _ hs => by simp [Reps.length hs]

theorem RepDs.app {φ : Nat → Option Obj} : ∀ {l : List D} {vs : List Value} {l' : List D} {vs' : List Value}, RepDs φ l vs → RepDs φ l' vs' → RepDs φ (l ++ l') (vs ++ vs')
  | _, _, _, _, .nil, k => k
  | _, _, _, _, .cons x l v vs hx hs hf, k => .cons x _ v _ hx (RepDs.app hs k) hf
theorem Reps.app {g : G} : ∀ {l : List V} {vs : List Value} {l' : List V} {vs' : List Value}, Reps g l vs → Reps g l' vs' → Reps g (l ++ l') (vs ++ vs')
  | _, _, _, _, .nil, k => k
  | _, _, _, _, .cons x l v vs hx hs, k => .cons x _ v _ hx (Reps.app hs k)

theorem RepDs.split {φ : Nat → Option Obj} : ∀ {l l' : List D} {vs : List Value}, RepDs φ (l ++ l') vs → RepDs φ l (vs.take l.length) ∧ RepDs φ l' (vs.drop l.length)
  | [], _, _, h => ⟨.nil, h⟩
  | x :: l, l', _, .cons _ _ v vs hx hs hf => ⟨.cons x l v _ hx (RepDs.split hs).1 hf, (RepDs.split hs).2⟩
theorem Reps.split {g : G} : ∀ {l l' : List V} {vs : List Value}, Reps g (l ++ l') vs → Reps g l (vs.take l.length) ∧ Reps g l' (vs.drop l.length)
  | [], _, _, h => ⟨.nil, h⟩
  | x :: l, l', _, .cons _ _ v vs hx hs => ⟨.cons x l v _ hx (Reps.split hs).1, (Reps.split hs).2⟩

theorem RepDs.drop {φ : Nat → Option Obj} : ∀ {l : List D} {vs : List Value} (n : Nat), RepDs φ l vs → RepDs φ (l.drop n) (vs.drop n)
  | _, _, 0, h => h
  | _, _, _ + 1, .nil => .nil
  | _, _, n + 1, .cons _ _ _ _ _ hs _ => hs.drop n
theorem Reps.drop {g : G} : ∀ {l : List V} {vs : List Value} (n : Nat), Reps g l vs → Reps g (l.drop n) (vs.drop n)
  | _, _, 0, h => h
  | _, _, _ + 1, .nil => .nil
  | _, _, n + 1, .cons _ _ _ _ _ hs => hs.drop n
theorem RepDs.take {φ : Nat → Option Obj} : ∀ {l : List D} {vs : List Value} (n : Nat), RepDs φ l vs → RepDs φ (l.take n) (vs.take n)
  | _, _, 0, _ => .nil
  | _, _, _ + 1, .nil => .nil
  | _, _, n + 1, .cons x _ v _ h hs hf => .cons x _ v _ h (hs.take n) hf
theorem Reps.take {g : G} : ∀ {l : List V} {vs : List Value} (n : Nat), Reps g l vs → Reps g (l.take n) (vs.take n)
  | _, _, 0, _ => .nil
  | _, _, _ + 1, .nil => .nil
  | _, _, n + 1, .cons x _ v _ h hs => .cons x _ v _ h (hs.take n)

theorem RepDs.get {φ : Nat → Option Obj} : ∀ {l : List D} {vs : List Value} {i : Nat} {x : D}, RepDs φ l vs → l[i]? = some x → ∃ v, vs[i]? = some v ∧ RepD φ x v
  | _, _, _, _, .nil, h => by simp at h
  | _, _, 0, _, .cons x _ v _ hx _ _, h => by simp at h; subst h; exact ⟨v, rfl, hx⟩
  | _, _, i + 1, _, .cons _ _ _ _ _ hs _, h => by simp at h; simpa using RepDs.get hs h
theorem Reps.get {g : G} : ∀ {l : List V} {vs : List Value} {i : Nat} {x : V}, Reps g l vs → l[i]? = some x → ∃ v, vs[i]? = some v ∧ Rep g x v
  | _, _, _, _, .nil, h => by simp at h
  | _, _, 0, _, .cons x _ v _ hx _, h => by simp at h; subst h; exact ⟨v, rfl, hx⟩
  | _, _, i + 1, _, .cons _ _ _ _ _ hs, h => by simp at h; simpa using Reps.get hs h

theorem Reps.of_map_d {g : G} : ∀ {l : List D} {vs : List Value}, RepDs g.φ l vs → Reps g (l.map .d) vs
  | _, _, .nil => .nil
  | _, _, .cons x l v vs hx hs _ => .cons (.d x) _ v vs (.d x v hx) (Reps.of_map_d hs)
theorem Reps.to_map_d {g : G} : ∀ {l : List D} {vs : List Value}, Reps g (l.map .d) vs → (∀ v, v ∈ vs → leaf v) → RepDs g.φ l vs
  | [], _, .nil, _ => .nil
  | _ :: _, _, .cons _ _ v vs (.d x _ hx) hs, hf => .cons x _ v vs hx (Reps.to_map_d hs fun u hu => hf u (List.mem_cons_of_mem _ hu)) (hf v (List.mem_cons_self))
theorem RepDs.leaf {φ : Nat → Option Obj} : ∀ {l : List D} {vs : List Value}, RepDs φ l vs → ∀ v, v ∈ vs → Zv.leaf v
  | _, _, .nil, _, h => by simp at h
  | _, _, .cons _ _ _ _ _ hs hf, v, h => by
    rcases List.mem_cons.1 h with rfl | h
    · exact hf
    · exact RepDs.leaf hs v h

/-- A value's cells. -/
theorem RepD.cells {φ : Nat → Option Obj} {x : D} {v : Value} (h : RepD φ x v) : RepDs φ x.cells v.cells.toList := by
  cases h with
  | agg l vs hr => simpa [D.cells, Value.cells] using hr
  | bool b => exact .cons _ _ _ _ (.bool b) .nil trivial
  | int k n => exact .cons _ _ _ _ (.int k n) .nil trivial
  | str s => exact .cons _ _ _ _ (.str s) .nil trivial
  | nilp => exact .cons _ _ _ _ .nilp .nil trivial
  | nilf => exact .cons _ _ _ _ .nilf .nil trivial
  | nilm => exact .cons _ _ _ _ .nilm .nil trivial
  | lst l es cap a vs hes hc hr ha => exact .cons _ _ _ _ (.lst l es cap a vs hes hc hr ha) .nil trivial

theorem Rep.cells {g : G} {x : V} {v : Value} (hu : stor x = true) (h : Rep g x v) : Reps g x.cells v.cells.toList ∧ ∀ u, u ∈ v.cells.toList → leaf u := by
  have one : ∀ u : Value, leaf u → ∀ q, q ∈ [u] → leaf q := fun u hu q hq => by simp at hq; subst hq; exact hu
  cases h with
  | d x v hx => exact ⟨Reps.of_map_d hx.cells, hx.cells.leaf⟩
  | agg l vs hr hf => exact ⟨by simpa [V.cells, Value.cells] using hr, by simpa [Value.cells] using hf⟩
  | tl l nl es a vs hes hr ha hn hf => exact ⟨.cons _ _ _ _ (.tl l nl es a vs hes hr ha hn hf) .nil, one _ trivial⟩
  | own n es tot off len cap a he hN hB ha hl ht hc hs => exact ⟨.cons _ _ _ _ (.own n es tot off len cap a he hN hB ha hl ht hc hs) .nil, one _ trivial⟩
  | ptr n tot i off hN hB => exact ⟨.cons _ _ _ _ (.ptr n tot i off hN hB) .nil, one _ trivial⟩
  | fp x off b p vs hr ha => exact ⟨.cons _ _ _ _ (.fp x off b p vs hr ha) .nil, one _ trivial⟩
  | clo f caps vs hr => exact ⟨.cons _ _ _ _ (.clo f caps vs hr) .nil, one _ trivial⟩
  | tup l vs hr => cases hu
  | map n hN => exact ⟨.cons _ _ _ _ (.map n hN) .nil, one _ trivial⟩
  | yld n hN => exact ⟨.cons _ _ _ _ (.yld n hN) .nil, one _ trivial⟩
  | ub b => exact ⟨.cons _ _ _ _ (.ub b) .nil, one _ trivial⟩
  | undef v => cases hu
  | ifc t x v hx => cases hu
  | nif => cases hu

theorem toDs_cons {x : V} {l : List V} {ys : List D} (h : toDs (x :: l) = some ys) : ∃ y r, toD x = some y ∧ toDs l = some r ∧ ys = y :: r := by
  simp only [toDs] at h
  cases h1 : toD x with
  | none => rw [h1] at h; simp at h
  | some a =>
    cases h2 : toDs l with
    | none => rw [h1, h2] at h; simp at h
    | some b => rw [h1, h2] at h; simp at h; exact ⟨a, b, rfl, rfl, h.symm⟩
theorem toDs_mk {x : V} {l : List V} {y : D} {r : List D} (h : toD x = some y) (k : toDs l = some r) : toDs (x :: l) = some (y :: r) := by
  simp only [toDs, h, k]
theorem toDs_length : ∀ {l : List V} {ys : List D}, toDs l = some ys → l.length = ys.length
  | [], ys, h => by simp [toDs] at h; subst h; rfl
  | x :: l, ys, h => by obtain ⟨y, r, _, h2, rfl⟩ := toDs_cons h; simp [toDs_length h2]
theorem toDs_app : ∀ {l k : List V} {ys zs : List D}, toDs l = some ys → toDs k = some zs → toDs (l ++ k) = some (ys ++ zs)
  | [], k, ys, zs, h, h' => by simp [toDs] at h; subst h; exact h'
  | x :: l, k, ys, zs, h, h' => by obtain ⟨y, r, h1, h2, rfl⟩ := toDs_cons h; exact toDs_mk h1 (toDs_app h2 h')
theorem toDs_map_d : ∀ (l : List D), toDs (l.map .d) = some l
  | [] => rfl
  | x :: l => toDs_mk rfl (toDs_map_d l)
theorem toD_cells {x : V} {y : D} (h : toD x = some y) : toDs x.cells = some y.cells := by
  cases x with
  | d z => simp [toD] at h; subst h; exact toDs_map_d _
  | tl l nl =>
    have h' := h
    simp only [toD, Option.map_eq_some_iff] at h'
    obtain ⟨ds, hds, rfl⟩ := h'
    exact toDs_mk h rfl
  | agg l =>
    simp only [toD, Option.map_eq_some_iff] at h
    obtain ⟨ds, hds, rfl⟩ := h
    exact hds
  | _ => simp [toD] at h
theorem toDs_flat : ∀ {l : List V} {ys : List D}, toDs l = some ys → toDs (l.flatMap V.cells) = some (ys.flatMap D.cells)
  | [], ys, h => by simp [toDs] at h; subst h; rfl
  | x :: l, ys, h => by
    obtain ⟨y, r, h1, h2, rfl⟩ := toDs_cons h
    simpa using toDs_app (toD_cells h1) (toDs_flat h2)
theorem toD_len {x : V} {y : D} (h : toD x = some y) : y.cells.length = x.cells.length := (toDs_length (toD_cells h)).symm
theorem toDs_es : ∀ {l : List V} {ys : List D} {es : Nat}, toDs l = some ys → (∀ x, x ∈ l → x.cells.length = es) → ∀ y, y ∈ ys → y.cells.length = es
  | [], ys, es, h, _, y, hy => by simp [toDs] at h; subst h; simp at hy
  | x :: l, ys, es, h, hes, y, hy => by
    obtain ⟨z, r, h1, h2, rfl⟩ := toDs_cons h
    rcases List.mem_cons.1 hy with rfl | hy
    · rw [toD_len h1]; exact hes x (by simp)
    · exact toDs_es h2 (fun q hq => hes q (by simp [hq])) y hy

mutual
/-- What can be read as data is data. -/
theorem Rep.toD {g : G} : ∀ {x : V} {v : Value} {y : D}, Rep g x v → toD x = some y → RepD g.φ y v
  | _, _, _, .d x v hx, h => by simp [Zv.toD] at h; subst h; exact hx
  | _, _, _, .tl l nl es a vs hes hr ha hn hf, h => by
    simp only [Zv.toD, Option.map_eq_some_iff] at h
    obtain ⟨ds, hds, rfl⟩ := h
    rw [toDs_length hds]
    exact .lst ds es ds.length a vs (toDs_es hds hes) (Nat.le_refl _) (Reps.toDs hr (toDs_flat hds) hf) (ha.imp (fun e => by subst e; simp [Zv.toDs] at hds; exact hds) id)
  | _, _, _, .agg l vs hr hf, h => by
    simp only [Zv.toD, Option.map_eq_some_iff] at h
    obtain ⟨ds, hds, rfl⟩ := h
    exact .agg ds vs (Reps.toDs hr hds hf)
  | _, _, _, .own .., h => by simp [Zv.toD] at h
  | _, _, _, .ptr .., h => by simp [Zv.toD] at h
  | _, _, _, .fp .., h => by simp [Zv.toD] at h
  | _, _, _, .clo .., h => by simp [Zv.toD] at h
  | _, _, _, .tup .., h => by simp [Zv.toD] at h
  | _, _, _, .map .., h => by simp [Zv.toD] at h
  | _, _, _, .yld .., h => by simp [Zv.toD] at h
  | _, _, _, .ub .., h => by simp [Zv.toD] at h
  | _, _, _, .undef .., h => by simp [Zv.toD] at h
  | _, _, _, .ifc .., h => by simp [Zv.toD] at h
  | _, _, _, .nif, h => by simp [Zv.toD] at h
theorem Reps.toDs {g : G} : ∀ {x : List V} {v : List Value} {y : List D}, Reps g x v → toDs x = some y → (∀ u, u ∈ v → Zv.leaf u) → RepDs g.φ y v
  | _, _, _, .nil, h, _ => by simp [Zv.toDs] at h; subst h; exact .nil
  | _, _, _, .cons x l v vs hx hs, h, hf => by
    simp only [Zv.toDs] at h
    cases h1 : Zv.toD x with
    | none => rw [h1] at h; simp at h
    | some a =>
      cases h2 : Zv.toDs l with
      | none => rw [h1, h2] at h; simp at h
      | some b =>
        rw [h1, h2] at h
        simp at h
        subst h
        exact .cons a b v vs (Rep.toD hx h1) (Reps.toDs hs h2 fun u hu => hf u (List.mem_cons_of_mem _ hu)) (hf v (List.mem_cons_self))
end

theorem Rep.norm {g : G} {x : V} {v : Value} (h : Rep g x v) : Rep g (Zv.norm x) v := by
  unfold Zv.norm
  split
  · rename_i y hy; exact .d y v (h.toD hy)
  · exact h
theorem norm_len (x : V) : (norm x).cells.length = x.cells.length := by
  unfold norm
  split
  · rename_i y hy
    show (y.cells.map V.d).length = _
    rw [List.length_map, toD_len hy]
  · rfl
theorem asD_toDs : ∀ {l : List V} {ds : List D}, asD l = some ds → toDs l = some ds
  | [], ds, h => by simp [asD] at h; subst h; rfl
  | .d x :: l, ds, h => by
    simp only [asD, Option.map_eq_some_iff] at h
    obtain ⟨r, hr, rfl⟩ := h
    exact toDs_mk rfl (asD_toDs hr)
theorem Rep.mkAgg {g : G} {l : List V} {vs : List Value} (h : Reps g l vs) (hf : ∀ u, u ∈ vs → leaf u) : Rep g (Zv.mkAgg l) (.agg vs.toArray) := by
  unfold Zv.mkAgg
  split
  · rename_i ds hds; exact .d _ _ (.agg ds vs (h.toDs (asD_toDs hds) hf))
  · exact .agg l vs h hf
theorem stor_norm {x : V} (h : stor x = true) : stor (norm x) = true := by
  unfold norm
  split
  · rfl
  · exact h
/-! ## The heap and memory -/

/-- Memory's other parts are as they were; no block has gone. -/
structure Fx (w w' : World) : Prop where
  os : w'.os = w.os
  tape : w'.tape = w.tape
  output : w'.output = w.output
  size : w.heap.size ≤ w'.heap.size
theorem Fx.refl (w : World) : Fx w w := ⟨rfl, rfl, rfl, Nat.le_refl _⟩
theorem Fx.trans {a b c : World} (h : Fx a b) (k : Fx b c) : Fx a c := ⟨k.os.trans h.os, k.tape.trans h.tape, k.output.trans h.output, Nat.le_trans h.size k.size⟩

def Ob.tot : Ob → Nat
  | .arr _ els => els.length
  | .mp _ => 0
  | .lp _ _ _ => 0
def blk (g : G) (n : Nat) (o : Ob) : Nat := (g.μ n o.tot).b

/-- The entries of a map. -/
inductive RepKvs (g : G) : List (D × V) → List MapEntry → Prop
  | nil : RepKvs g [] []
  | cons (k : D) (x : V) (l : List (D × V)) (e : MapEntry) (es : List MapEntry) (hk : RepD g.φ k e.key) (hx : Rep g x e.val) (hs : RepKvs g l es) : RepKvs g ((k, x) :: l) (e :: es)

/-- How the record of a loop stands, as it says itself. -/
def LpSt : Option Ex → LoopState → Option Code → Prop
  | none, s, p => s = .ready ∧ p = none
  | some .norm, s, p => s = .busy ∧ p = none
  | some (.exit i), s, p => s = .done ∧ p = some (.exit i)
  | some .ret, s, p => s = .done ∧ p = some .ret
  | some .pan, _, _ => False

def ObRep (g : G) (w : World) (n : Nat) : Ob → Prop
  | .arr es els => ∃ c ty vs, w.heap[(g.μ n els.length).b]? = some (.cells c ty (0, 0)) ∧ c.size = (g.μ n els.length).sz ∧ ((g.μ n els.length).es = es ∧ (g.μ n els.length).o + els.length * es ≤ (g.μ n els.length).sz) ∧
      (∀ x, x ∈ els → x.cells.length = es) ∧ Reps g (els.flatMap V.cells) vs ∧ (∀ u, u ∈ vs → leaf u) ∧ (∀ j v, vs[j]? = some v → c[(g.μ n els.length).o + j]? = some v)
  | .mp kvs => ∃ es clock, w.heap[(g.μ n 0).b]? = some (.map es clock) ∧ RepKvs g kvs es.toList
  | .lp b e s => ∃ r : Loop, w.heap[(g.μ n 0).b]? = some (.loop r) ∧ (∀ t, Rep g (Env.get e t) (r.tmps.getD t undef)) ∧ g.C b r.params r.assign r.body r.tmps.size ∧ LpSt s r.state r.pending

structure Rel (g : G) (h : Hp) (w : World) : Prop where
  nx : h.next = g.N
  fr : ∀ b o, g.φ b = some o → w.heap[b]? = some o
  nd : (h.objs.map (·.1)).Nodup
  ob : ∀ n o, h.get n = some o → n < g.N ∧ g.B n = o.tot ∧ ObRep g w n o
  sep : ∀ n m o p, h.get n = some o → h.get m = some p → n ≠ m → blk g n o ≠ blk g m p
  out : ∀ n o, h.get n = some o → g.φ (blk g n o) = none
  kp : ∀ b o, g.F b = some o → w.heap[b]? = some o ∧ g.φ b = none
  kpo : ∀ n o, h.get n = some o → g.F (blk g n o) = none

theorem RepKvs.mono {g g' : G} (h : Le g g') : ∀ {l : List (D × V)} {es : List MapEntry}, RepKvs g l es → RepKvs g' l es
  | _, _, .nil => .nil
  | _, _, .cons k x l e es hk hx hs => .cons k x l e es (hk.mono h.φ) (hx.mono h) (RepKvs.mono h hs)

/-- An object as it was, in a later state where its block is as it was. -/
theorem ObRep.mono {g g' : G} {w w' : World} {n : Nat} {o : Ob} (hle : Le g g') (hn : n < g.N) (hB : o.tot ≤ g.B n) (hb : w'.heap[blk g n o]? = w.heap[blk g n o]?) (h : ObRep g w n o) : ObRep g' w' n o := by
  cases o with
  | arr es els =>
    obtain ⟨c, ty, vs, h1, h2, h3, h4, h5, h6, h7⟩ := h
    have e := hle.μ n els.length hn hB
    simp only [ObRep]
    rw [e]
    exact ⟨c, ty, vs, hb.trans h1, h2, h3, h4, h5.mono hle, h6, h7⟩
  | mp kvs =>
    obtain ⟨es, cl, h1, h2⟩ := h
    have e := hle.μ n 0 hn (Nat.zero_le _)
    simp only [ObRep]
    rw [e]
    exact ⟨es, cl, hb.trans h1, h2.mono hle⟩
  | lp b ev s =>
    obtain ⟨r, h1, h2, h3, h4⟩ := h
    have e := hle.μ n 0 hn (Nat.zero_le _)
    simp only [ObRep]
    rw [e]
    exact ⟨r, hb.trans h1, fun t => (h2 t).mono hle, by rw [hle.C]; exact h3, h4⟩
theorem blk_mono {g g' : G} {n : Nat} {o : Ob} (hle : Le g g') (hn : n < g.N) (hB : o.tot ≤ g.B n) : blk g' n o = blk g n o := by
  unfold blk; rw [hle.μ n _ hn hB]

/-! ### Lookups -/
theorem look_mem : ∀ {l : List (Nat × Ob)} {n : Nat} {o : Ob}, look l n = some o → (n, o) ∈ l
  | (m, q) :: l, n, o, h => by
    unfold look at h
    split at h
    · rename_i e; subst e; simp at h; subst h; simp
    · exact List.mem_cons_of_mem _ (look_mem h)
theorem look_of_mem : ∀ {l : List (Nat × Ob)} {n : Nat} {o : Ob}, (l.map (·.1)).Nodup → (n, o) ∈ l → look l n = some o
  | (m, q) :: l, n, o, hd, h => by
    unfold look
    rw [List.map_cons, List.nodup_cons] at hd
    rcases List.mem_cons.1 h with e | h'
    · cases e; simp
    · rw [if_neg (fun e => hd.1 (by subst e; exact List.mem_map.2 ⟨(n, o), h', rfl⟩))]
      exact look_of_mem hd.2 h'
theorem look_none : ∀ {l : List (Nat × Ob)} {n : Nat}, n ∉ l.map (·.1) → look l n = none
  | [], _, _ => rfl
  | (m, q) :: l, n, h => by
    simp at h
    unfold look
    rw [if_neg h.1]
    exact look_none (by simpa using h.2)
theorem look_upd : ∀ {l : List (Nat × Ob)} {n : Nat} {o q : Ob} (m : Nat), look l n = some q → look (upd l n o) m = if m = n then some o else look l m
  | (k, x) :: l, n, o, q, m, h => by
    unfold look at h
    by_cases e : n = k
    · subst e
      simp only [upd, if_true, look]
      by_cases e2 : m = n
      · simp [e2]
      · simp [e2]
    · rw [if_neg e] at h
      simp only [upd, if_neg e, look]
      by_cases e2 : m = k
      · subst e2
        rw [if_pos rfl, if_neg (fun h => e h.symm), if_pos rfl]
      · rw [if_neg e2, if_neg e2]
        exact look_upd m h
theorem upd_keys : ∀ (l : List (Nat × Ob)) (n : Nat) (o : Ob), (upd l n o).map (·.1) = l.map (·.1)
  | [], _, _ => rfl
  | (k, x) :: l, n, o => by
    unfold upd
    split
    · simp
    · simp [upd_keys l n o]
theorem del_keys : ∀ (l : List (Nat × Ob)) (n : Nat), ((del l n).map (·.1)).Sublist (l.map (·.1))
  | [], _ => .slnil
  | (k, x) :: l, n => by
    unfold del
    split
    · exact List.sublist_cons_self _ _
    · exact (del_keys l n).cons_cons _
theorem look_del : ∀ {l : List (Nat × Ob)} {n : Nat} (m : Nat), (l.map (·.1)).Nodup → look (del l n) m = if m = n then none else look l m
  | [], n, m, _ => by simp [del, look]
  | (k, x) :: l, n, m, hd => by
    rw [List.map_cons, List.nodup_cons] at hd
    unfold del
    by_cases e : n = k
    · subst e
      rw [if_pos rfl]
      by_cases e2 : m = n
      · subst e2; rw [if_pos rfl]; exact look_none hd.1
      · rw [if_neg e2]; simp only [look]; rw [if_neg e2]
    · rw [if_neg e]
      simp only [look]
      by_cases e2 : m = k
      · subst e2; rw [if_pos rfl, if_neg (fun h => e h.symm), if_pos rfl]
      · rw [if_neg e2, if_neg e2]; exact look_del m hd.2

end Zv
end
section
set_option linter.unusedSimpArgs false
set_option linter.unusedVariables false
set_option linter.unusedSimpArgs false
namespace Zv
open Go

section
variable {P : Program} {g : G} {w : World}

theorem str_beq (a b : ByteArray) : (a.toList == b.toList) = decide (a = b) := by
  rw [ByteArray.toList_eq, ByteArray.toList_eq]
  by_cases h : a = b
  · subst h; simp
  · have : ¬ a.data.toList = b.data.toList := fun e => h (WideShapes.bytes_inj e)
    rw [decide_eq_false h]
    exact beq_eq_false_iff_ne.2 this

theorem ba_beq (a b : ByteArray) : (a == b) = decide (a = b) := by
  obtain ⟨x⟩ := a
  obtain ⟨y⟩ := b
  have e : ((⟨x⟩ : ByteArray) == ⟨y⟩) = (x == y) := rfl
  rw [e, Bool.eq_iff_iff]
  simp

theorem Rep.dI {x : D} {v : Value} (h : Rep g (.d x) v) : RepD g.φ x v := by cases h; assumption
theorem Rep.intI {k : IntKind} {n : Int} {v : Value} (h : Rep g (.d (.int k n)) v) : v = .int k n := by cases h.dI; rfl
theorem Rep.boolI {b : Bool} {v : Value} (h : Rep g (.d (.bool b)) v) : v = .bool b := by cases h.dI; rfl
theorem Rep.strI {s : ByteArray} {v : Value} (h : Rep g (.d (.str s)) v) : v = .string s := by cases h.dI; rfl

/-- What an operation on values gives. -/
def Gives (P : Program) (g : G) (w : World) (s : Sem Value) (x : V) : Prop := ∃ v, s.run P w = .ok v w ∧ Rep g x v

theorem intBin_ok {op : BinOp} {k : IntKind} {a b : Int} {z : V} (t : TypeId) (h : intBin op k a b = some z) : Gives P g w (binOp op t (.int k a) (.int k b)) z := by
  cases op
  case add => cases h; exact ⟨.int k (k.wrap (a + b)), by simp [binOp, Op.intArith], .d _ _ (.int _ _)⟩
  case sub => cases h; exact ⟨.int k (k.wrap (a - b)), by simp [binOp, Op.intArith], .d _ _ (.int _ _)⟩
  case mul => cases h; exact ⟨.int k (k.wrap (a * b)), by simp [binOp, Op.intArith], .d _ _ (.int _ _)⟩
  case quo =>
    simp only [intBin] at h
    by_cases hb : b = 0
    · rw [if_pos hb] at h; cases h
    · rw [if_neg hb] at h; cases h; exact ⟨.int k (k.wrap (a.tdiv b)), by simp [binOp, Op.intDiv, hb], .d _ _ (.int _ _)⟩
  case rem =>
    simp only [intBin] at h
    by_cases hb : b = 0
    · rw [if_pos hb] at h; cases h
    · rw [if_neg hb] at h; cases h; exact ⟨.int k (a.tmod b), by simp [binOp, Op.intDiv, hb], .d _ _ (.int _ _)⟩
  case eql => cases h; exact ⟨.bool (a == b), by simp [binOp, Op.intCmp], .d _ _ (.bool _)⟩
  case neq => cases h; exact ⟨.bool (a != b), by simp [binOp, Op.intCmp], .d _ _ (.bool _)⟩
  case lss => cases h; exact ⟨.bool (decide (a < b)), by simp [binOp, Op.intCmp], .d _ _ (.bool _)⟩
  case leq => cases h; exact ⟨.bool (decide (a ≤ b)), by simp [binOp, Op.intCmp], .d _ _ (.bool _)⟩
  case gtr => cases h; exact ⟨.bool (decide (a > b)), by simp [binOp, Op.intCmp], .d _ _ (.bool _)⟩
  case geq => cases h; exact ⟨.bool (decide (a ≥ b)), by simp [binOp, Op.intCmp], .d _ _ (.bool _)⟩
  all_goals cases h

theorem strBin_ok {op : BinOp} {a b : ByteArray} {z : V} (t : TypeId) (h : strBin op a b = some z) : Gives P g w (binOp op t (.string a) (.string b)) z := by
  cases op
  case add =>
    simp only [strBin] at h
    by_cases hb : a.size + b.size ≤ 2 ^ 62
    · rw [if_pos hb] at h
      cases h
      refine ⟨.string (a ++ b), ?_, .d _ _ (.str _)⟩
      have h2 : a.size + b.size ≤ 4611686018427387904 := by simpa using hb
      have : ¬ ((a.size + b.size : Nat) : Int) > IntKind.i64.max := by
        have e : IntKind.i64.max = 9223372036854775807 := rfl
        rw [e]; omega
      simp only [binOp, Op.stringOp, if_neg this]
      rfl
    · rw [if_neg hb] at h; cases h
  case eql => cases h; exact ⟨.bool (decide (a = b)), by simp [binOp, Op.stringOp, str_beq], .d _ _ (.bool _)⟩
  case neq => cases h; exact ⟨.bool (!decide (a = b)), by simp [binOp, Op.stringOp, str_beq], .d _ _ (.bool _)⟩
  case lss => cases h; exact ⟨.bool (Op.bytesLess a.toList b.toList), by simp [binOp, Op.stringOp], .d _ _ (.bool _)⟩
  all_goals cases h

theorem bin_ok {op : BinOp} {x y z : V} {a b : Value} (t : TypeId) (h : bin op x y = some z) (ha : Rep g x a) (hb : Rep g y b) : Gives P g w (binOp op t a b) z := by
  unfold bin at h
  split at h
  · cases ha with | d _ _ ha => cases hb with | d _ _ hb =>
    cases ha; cases hb
    split at h
    · rename_i e; subst e; exact intBin_ok t h
    · cases h
  · cases ha with | d _ _ ha => cases hb with | d _ _ hb =>
    cases ha; cases hb
    exact strBin_ok t h
  · cases h

theorem eqIn_bool {t : TypeId} (ht : P.underlying t = some .bool) (d : Nat) (p q : Bool) : (Op.equalIn (d + 1) t (.bool p) (.bool q)).run P w = .ok (p == q) w := by
  simp [Op.equalIn, run_underlying ht]
theorem eq_bool {t : TypeId} (ht : P.underlying t = some .bool) (p q : Bool) : (Op.equal t (.bool p) (.bool q)).run P w = .ok (p == q) w := eqIn_bool ht 9999 p q

theorem binB_ok {op : BinOp} {x y z : V} {a b : Value} {t : TypeId} (ht : P.underlying t = some .bool) (h : binB op x y = some z) (ha : Rep g x a) (hb : Rep g y b) : Gives P g w (binOp op t a b) z := by
  unfold binB at h
  split at h
  · rename_i p q
    cases ha with | d _ _ ha => cases hb with | d _ _ hb =>
    cases ha; cases hb
    cases op
    case eql => cases h; exact ⟨.bool (p == q), by simp only [binOp, Sem.run_bind, eq_bool ht, Result.andThen_ok, Sem.run_pure], .d _ _ (.bool _)⟩
    case neq => cases h; exact ⟨.bool (!(p == q)), by simp only [binOp, Sem.run_bind, eq_bool ht, Result.andThen_ok, Sem.run_pure], .d _ _ (.bool _)⟩
    all_goals cases h
  · cases h

/-- Does a type have the kind of nil? -/
def nkOk (P : Program) (k : NK) (t : TypeId) : Bool :=
  match k, P.underlying t with
  | .p, some (.pointer _) => true
  | .f, some (.func ..) => true
  | .m, some (.map ..) => true
  | .s, some (.slice _) => true
  | .i, some (.interface _) => true
  | _, _ => false
def nilOf : NK → Value
  | .p => .pointer none
  | .f => .nilFunc
  | .m => .map none
  | .s => .slice none 0 0
  | .i => .nilIface

theorem eqIn_pp {t e : TypeId} (ht : P.underlying t = some (.pointer e)) (d : Nat) : (Op.equalIn (d + 1) t (.pointer none) (.pointer none)).run P w = .ok true w := by
  simp [Op.equalIn, run_underlying ht]
theorem eqIn_p {t e : TypeId} (ht : P.underlying t = some (.pointer e)) (d : Nat) (a : Addr) :
    (Op.equalIn (d + 1) t (.pointer (some a)) (.pointer none)).run P w = .ok false w ∧ (Op.equalIn (d + 1) t (.pointer none) (.pointer (some a))).run P w = .ok false w := by
  simp [Op.equalIn, run_underlying ht]
theorem eqIn_ff {t : TypeId} {a b : Array TypeId} {c : Bool} (ht : P.underlying t = some (.func a b c)) (d : Nat) : (Op.equalIn (d + 1) t .nilFunc .nilFunc).run P w = .ok true w := by
  simp [Op.equalIn, run_underlying ht]
theorem eqIn_f {t : TypeId} {a b : Array TypeId} {c : Bool} (ht : P.underlying t = some (.func a b c)) (d : Nat) (f : Go.Fn) (x y : Array Value) :
    (Op.equalIn (d + 1) t (.func f x y) .nilFunc).run P w = .ok false w ∧ (Op.equalIn (d + 1) t .nilFunc (.func f x y)).run P w = .ok false w := by
  simp [Op.equalIn, run_underlying ht]
theorem eqIn_m {t a b : TypeId} (ht : P.underlying t = some (.map a b)) (d : Nat) (r : Option Nat) :
    (Op.equalIn (d + 1) t (.map r) (.map none)).run P w = .ok r.isNone w ∧ (Op.equalIn (d + 1) t (.map none) (.map r)).run P w = .ok r.isNone w := by
  cases r <;> simp [Op.equalIn, run_underlying ht]
theorem eqIn_s {t e : TypeId} (ht : P.underlying t = some (.slice e)) (d : Nat) (a : Option Addr) (l c : Nat) :
    (Op.equalIn (d + 1) t (.slice a l c) (.slice none 0 0)).run P w = .ok a.isNone w ∧ (Op.equalIn (d + 1) t (.slice none 0 0) (.slice a l c)).run P w = .ok a.isNone w := by
  cases a <;> simp [Op.equalIn, run_underlying ht]

theorem eqIn_i {t : TypeId} {m : Array (String × TypeId)} (ht : P.underlying t = some (.interface m)) (d : Nat) : (Op.equalIn (d + 1) t .nilIface .nilIface).run P w = .ok true w := by
  simp [Op.equalIn, run_underlying ht]
theorem eqIn_iv {t : TypeId} {m : Array (String × TypeId)} (ht : P.underlying t = some (.interface m)) (d : Nat) (q : TypeId) (v : Value) :
    (Op.equalIn (d + 1) t (.iface q v) .nilIface).run P w = .ok false w ∧ (Op.equalIn (d + 1) t .nilIface (.iface q v)).run P w = .ok false w := by
  simp [Op.equalIn, run_underlying ht]
theorem isNil_eqIn {k : NK} {x : V} {a : Value} {b : Bool} {t : TypeId} (d : Nat) (hk : nkOk P k t = true) (h : isNil k x = some b) (ha : Rep g x a) :
    (Op.equalIn (d + 1) t a (nilOf k)).run P w = .ok b w ∧ (Op.equalIn (d + 1) t (nilOf k) a).run P w = .ok b w := by
  cases k with
  | p =>
    have ht : ∃ e, P.underlying t = some (.pointer e) := by
      simp only [nkOk] at hk; split at hk <;> simp_all
    obtain ⟨e, ht⟩ := ht
    cases x <;> simp only [isNil] at h <;> first | cases h | skip
    · rename_i y
      cases y <;> simp only [isNil] at h <;> first | cases h | skip
      cases ha.dI
      exact ⟨eqIn_pp ht d, eqIn_pp ht d⟩
    · cases ha; exact eqIn_p ht d _
    · cases ha; exact eqIn_p ht d _
  | f =>
    have ht : ∃ a b c, P.underlying t = some (.func a b c) := by
      simp only [nkOk] at hk; split at hk <;> simp_all
    obtain ⟨_, _, _, ht⟩ := ht
    cases x <;> simp only [isNil] at h <;> first | cases h | skip
    · rename_i y
      cases y <;> simp only [isNil] at h <;> first | cases h | skip
      cases ha.dI
      exact ⟨eqIn_ff ht d, eqIn_ff ht d⟩
    · cases ha; exact eqIn_f ht d _ _ _
    · cases ha; exact eqIn_f ht d _ _ _
  | i =>
    have ht : ∃ m, P.underlying t = some (.interface m) := by
      simp only [nkOk] at hk; split at hk <;> simp_all
    obtain ⟨m, ht⟩ := ht
    cases x <;> simp only [isNil] at h <;> first | cases h | skip
    · cases ha; exact eqIn_iv ht d _ _
    · cases ha; exact ⟨eqIn_i ht d, eqIn_i ht d⟩
  | m =>
    have ht : ∃ a b, P.underlying t = some (.map a b) := by
      simp only [nkOk] at hk; split at hk <;> simp_all
    obtain ⟨_, _, ht⟩ := ht
    cases x <;> simp only [isNil] at h <;> first | cases h | skip
    · rename_i y
      cases y <;> simp only [isNil] at h <;> first | cases h | skip
      cases ha.dI
      exact eqIn_m ht d none
    · cases ha; exact eqIn_m ht d (some _)
  | s =>
    have ht : ∃ e, P.underlying t = some (.slice e) := by
      simp only [nkOk] at hk; split at hk <;> simp_all
    obtain ⟨e, ht⟩ := ht
    have key : ∃ q l c, a = .slice q l c ∧ q.isNone = b := by
      cases x with
      | d y =>
        cases y with
        | lst l =>
          cases l with
          | nil => cases h
          | cons y l =>
            cases h
            have hd := ha.dI
            clear ha
            cases hd with | lst _ es cap a vs hes hc hr hz =>
            rcases hz with hz | ⟨b', p, rfl, _⟩
            · cases hz
            · exact ⟨_, _, _, rfl, rfl⟩
        | _ => cases h
      | tl l nl =>
        cases ha with | tl _ _ es a vs hes hr ha hn hf =>
        cases l with
        | nil =>
          have hq := hn b h
          refine ⟨_, _, _, rfl, ?_⟩
          cases a with
          | none => exact (hq.2 rfl).symm
          | some a => cases b with
            | false => rfl
            | true => exact absurd (hq.1 rfl) (by simp)
        | cons y l =>
          cases h
          rcases ha with ha | ⟨b', p, rfl, _⟩
          · cases ha
          · exact ⟨_, _, _, rfl, rfl⟩
      | own n es tot off len => cases h; cases ha; exact ⟨_, _, _, rfl, rfl⟩
      | _ => cases h
    obtain ⟨q, l, c, rfl, rfl⟩ := key
    exact eqIn_s ht d q l c

theorem ub_eqIn {k : NK} {x : V} {z : V} {a : Value} {t : TypeId} (d : Nat) (hk : nkOk P k t = true) (h : ubOf k x = some z) (ha : Rep g x a) :
    z = .ub ∧ ∃ b, (Op.equalIn (d + 1) t a (nilOf k)).run P w = .ok b w ∧ (Op.equalIn (d + 1) t (nilOf k) a).run P w = .ok b w := by
  have key : ∃ q l c, k = .s ∧ z = .ub ∧ a = .slice q l c := by
    unfold ubOf at h
    split at h
    · cases h
      have hd := ha.dI
      cases hd with | lst _ es cap a vs hes hc hr hz => exact ⟨_, _, _, rfl, rfl, rfl⟩
    · cases h
      cases ha with | tl _ _ es a vs hes hr ha hn hf => exact ⟨_, _, _, rfl, rfl, rfl⟩
    · cases h
  obtain ⟨q, l, c, rfl, rfl, rfl⟩ := key
  have ht : ∃ e, P.underlying t = some (.slice e) := by
    simp only [nkOk] at hk; split at hk <;> simp_all
  obtain ⟨e, ht⟩ := ht
  obtain ⟨e1, e2⟩ := eqIn_s (w := w) ht d q l c
  exact ⟨rfl, _, e1, e2⟩
theorem nilBin_ok {k : NK} {op : BinOp} {x z : V} {a : Value} {t : TypeId} (hk : nkOk P k t = true) (h : nilBin k op x = some z) (ha : Rep g x a) :
    Gives P g w (binOp op t a (nilOf k)) z ∧ Gives P g w (binOp op t (nilOf k) a) z := by
  have hx : ∃ b, ((Op.equalIn (9999 + 1) t a (nilOf k)).run P w = .ok b w ∧ (Op.equalIn (9999 + 1) t (nilOf k) a).run P w = .ok b w) ∧ ((op = .eql ∧ Rep g z (.bool b)) ∨ (op = .neq ∧ Rep g z (.bool (!b)))) := by
    unfold nilBin at h
    split at h
    · rename_i b hb; cases h; exact ⟨b, isNil_eqIn (w := w) 9999 hk hb ha, .inl ⟨rfl, .d _ _ (.bool _)⟩⟩
    · rename_i b hb; cases h; exact ⟨b, isNil_eqIn (w := w) 9999 hk hb ha, .inr ⟨rfl, .d _ _ (.bool _)⟩⟩
    · obtain ⟨rfl, b, e⟩ := ub_eqIn (w := w) 9999 hk h ha
      exact ⟨b, e, .inl ⟨rfl, .ub _⟩⟩
    · obtain ⟨rfl, b, e⟩ := ub_eqIn (w := w) 9999 hk h ha
      exact ⟨b, e, .inr ⟨rfl, .ub _⟩⟩
    · cases h
  obtain ⟨b, ⟨e1, e2⟩, hz⟩ := hx
  have e1' : (Op.equal t a (nilOf k)).run P w = .ok b w := e1
  have e2' : (Op.equal t (nilOf k) a).run P w = .ok b w := e2
  have b1 : binOp .eql t a (nilOf k) = (do pure (.bool (← Op.equal t a (nilOf k)))) ∧ binOp .neq t a (nilOf k) = (do pure (.bool (!(← Op.equal t a (nilOf k))))) := by
    cases k <;> cases a <;> exact ⟨rfl, rfl⟩
  have b2 : binOp .eql t (nilOf k) a = (do pure (.bool (← Op.equal t (nilOf k) a))) ∧ binOp .neq t (nilOf k) a = (do pure (.bool (!(← Op.equal t (nilOf k) a)))) := by
    cases k <;> cases a <;> exact ⟨rfl, rfl⟩
  rcases hz with ⟨rfl, hz⟩ | ⟨rfl, hz⟩
  · exact ⟨⟨.bool b, by rw [b1.1]; simp only [Sem.run_bind, e1', Result.andThen_ok, Sem.run_pure], hz⟩, ⟨.bool b, by rw [b2.1]; simp only [Sem.run_bind, e2', Result.andThen_ok, Sem.run_pure], hz⟩⟩
  · exact ⟨⟨.bool (!b), by rw [b1.2]; simp only [Sem.run_bind, e1', Result.andThen_ok, Sem.run_pure], hz⟩, ⟨.bool (!b), by rw [b2.2]; simp only [Sem.run_bind, e2', Result.andThen_ok, Sem.run_pure], hz⟩⟩

theorem un_ok {op : UnOp} {x z : V} {a : Value} (h : un op x = some z) (ha : Rep g x a) : Gives P g w (Op.unary op a) z := by
  unfold un at h
  split at h
  · rename_i b
    obtain rfl := ha.boolI
    cases op
    case not => cases h; exact ⟨.bool (!b), rfl, .d _ _ (.bool _)⟩
    all_goals cases h
  · rename_i k n
    obtain rfl := ha.intI
    cases op
    case neg => cases h; exact ⟨.int k (k.wrap (0 - n)), rfl, .d _ _ (.int _ _)⟩
    all_goals cases h
  · cases h

theorem conv_ok {k : IntKind} {x z : V} {a : Value} {s t : TypeId} (hs : (P.underlying s).isSome = true) (ht : P.underlying t = some (.int k)) (h : conv k x = some z) (ha : Rep g x a) :
    Gives P g w (convert s t a) z := by
  unfold conv at h
  split at h
  · rename_i q n
    obtain rfl := ha.intI
    cases h
    obtain ⟨d, hd⟩ := Option.isSome_iff_exists.mp hs
    exact ⟨.int k (k.wrap n), by simp [convert, run_underlying hd, run_underlying ht, Conv.intToInt], .d _ _ (.int _ _)⟩
  · cases h

theorem pick_ok {x y z u : V} {c a b : Value} (h : pick x y z = some u) (hc : Rep g x c) (ha : Rep g y a) (hb : Rep g z b) :
    Gives P g w (do pure (if ← asBool c then a else b)) u := by
  unfold pick at h
  split at h
  · rename_i q
    obtain rfl := hc.boolI
    cases h
    cases q
    · exact ⟨b, rfl, hb⟩
    · exact ⟨a, rfl, ha⟩
  · cases h

theorem ixOf_ok {x : V} {n : Nat} {a : Value} (h : ixOf x = some n) (ha : Rep g x a) : ∃ k : IntKind, a = .int k (n : Int) := by
  unfold ixOf at h
  split at h
  · rename_i k i
    by_cases hi : 0 ≤ i
    · rw [if_pos hi] at h
      cases h
      exact ⟨k, by rw [ha.intI, Int.toNat_of_nonneg hi]⟩
    · rw [if_neg hi] at h; cases h
  · cases h

theorem lenS_ok {x z : V} {a : Value} {t ty : TypeId} (ht : P.underlying t = some .string) (h : lenS x = some z) (ha : Rep g x a) : Gives P g w (Builtin.len_ #[t] ty #[a]) z := by
  unfold lenS at h
  split at h
  · rename_i s
    obtain rfl := ha.strI
    cases h
    exact ⟨.int .i64 s.size, by simp [Builtin.len_, run_underlying ht, goInt], .d _ _ (.int _ _)⟩
  · cases h

theorem capT_ok {x z : V} {a : Value} {t e ty : TypeId} (ht : P.underlying t = some (.slice e)) (h : capT x = some z) (ha : Rep g x a) : Gives P g w (Builtin.cap_ #[t] ty #[a]) z := by
  unfold capT at h
  split at h
  · rename_i l nl
    cases ha with | tl _ _ es a vs hes hr ha hn hf =>
    cases h
    exact ⟨.int .i64 l.length, by simp [Builtin.cap_, run_underlying ht, goInt], .d _ _ (.int _ _)⟩
  · cases h
theorem lenL_ok {x z : V} {a : Value} {t e ty : TypeId} (ht : P.underlying t = some (.slice e)) (h : lenL x = some z) (ha : Rep g x a) : Gives P g w (Builtin.len_ #[t] ty #[a]) z := by
  unfold lenL at h
  split at h
  · rename_i l
    cases ha.dI with | lst _ es cap a vs hes hc hr ha =>
    cases h
    exact ⟨.int .i64 l.length, by simp [Builtin.len_, run_underlying ht, goInt], .d _ _ (.int _ _)⟩
  · rename_i l nl
    cases ha with | tl _ _ es a vs hes hr ha hn hf =>
    cases h
    exact ⟨.int .i64 l.length, by simp [Builtin.len_, run_underlying ht, goInt], .d _ _ (.int _ _)⟩
  · rename_i n es tot off len
    cases ha
    cases h
    exact ⟨.int .i64 len, by simp [Builtin.len_, run_underlying ht, goInt], .d _ _ (.int _ _)⟩
  · cases h

theorem ext_ok {i : Nat} {x z : V} {a : Value} (h : ext i x = some z) (ha : Rep g x a) : Gives P g w (Instr.extract a i) z := by
  unfold ext at h
  split at h
  · cases ha with | tup l vs hr =>
    obtain ⟨v, hv, hz⟩ := hr.get h
    exact ⟨v, by simp [Instr.extract, hv], hz⟩
  · cases h

end
end Zv
end
section
set_option linter.unusedSimpArgs false
set_option linter.unusedVariables false
set_option linter.unusedSimpArgs false
namespace Zv
open Go

section
variable {P : Program} {g : G} {w : World}

theorem add_none (b p n : Nat) : (⟨b, p, none⟩ : Addr).add n = ⟨b, p + n, none⟩ := by
  unfold Addr.add
  split
  · rename_i h; subst h; rfl
  · rfl

/-! ### Segments of cells -/
theorem flat_len {α β : Type} {f : α → List β} {es : Nat} : ∀ {l : List α}, (∀ x, x ∈ l → (f x).length = es) → (l.flatMap f).length = l.length * es
  | [], _ => by simp
  | x :: l, h => by
    rw [List.flatMap_cons, List.length_append, flat_len (fun y hy => h y (by simp [hy])), h x (by simp), List.length_cons, Nat.add_mul]
    omega
theorem flat_drop {α β : Type} {f : α → List β} {es : Nat} : ∀ {l : List α} (k : Nat), (∀ x, x ∈ l → (f x).length = es) → (l.flatMap f).drop (k * es) = (l.drop k).flatMap f
  | l, 0, _ => by simp
  | [], k + 1, _ => by simp
  | x :: l, k + 1, h => by
    rw [List.flatMap_cons, List.drop_succ_cons, ← flat_drop k (fun y hy => h y (by simp [hy])), List.drop_append]
    have e : (f x).length = es := h x (by simp)
    rw [List.drop_of_length_le (by rw [e, Nat.add_mul]; omega), List.nil_append, e]
    congr 1
    rw [Nat.add_mul]; omega
theorem flat_take {α β : Type} {f : α → List β} {es : Nat} : ∀ {l : List α} (k : Nat), (∀ x, x ∈ l → (f x).length = es) → (l.flatMap f).take (k * es) = (l.take k).flatMap f
  | l, 0, _ => by simp
  | [], k + 1, _ => by simp
  | x :: l, k + 1, h => by
    rw [List.flatMap_cons, List.take_succ_cons, List.flatMap_cons, ← flat_take k (fun y hy => h y (by simp [hy])), List.take_append]
    have e : (f x).length = es := h x (by simp)
    rw [List.take_of_length_le (by rw [e, Nat.add_mul]; omega), e]
    congr 2
    rw [Nat.add_mul]; omega
theorem flat_get {α β : Type} {f : α → List β} {es : Nat} {l : List α} {k : Nat} {x : α} (h : ∀ x, x ∈ l → (f x).length = es) (hk : l[k]? = some x) : ((l.flatMap f).drop (k * es)).take es = f x := by
  rw [flat_drop k h]
  have hd : l.drop k = x :: l.drop (k + 1) := by
    have hlt : k < l.length := by
      rcases Nat.lt_or_ge k l.length with h' | h'
      · exact h'
      · rw [List.getElem?_eq_none h'] at hk; cases hk
    rw [List.drop_eq_getElem_cons hlt]
    rw [List.getElem?_eq_getElem hlt] at hk
    cases hk; rfl
  rw [hd, List.flatMap_cons]
  have e : (f x).length = es := h x (List.mem_of_getElem? hk)
  rw [List.take_append, ← e]
  simp

theorem At.drop {φ : Nat → Option Obj} {b p : Nat} {vs : List Value} (h : At φ b p vs) (k : Nat) : At φ b (p + k) (vs.drop k) := by
  intro j v hj
  rw [List.getElem?_drop] at hj
  have := h (k + j) v hj
  rwa [← Nat.add_assoc] at this
theorem At.take {φ : Nat → Option Obj} {b p : Nat} {vs : List Value} (h : At φ b p vs) (k : Nat) : At φ b p (vs.take k) := by
  intro j v hj
  rw [List.getElem?_take] at hj
  split at hj
  · exact h j v hj
  · cases hj

theorem run_sizeOf' {t : TypeId} (h : (P.info? t).isSome = true) : (Go.sizeOf t).run P w = .ok (P.cellsOf t) w := by
  obtain ⟨i, hi⟩ := Option.isSome_iff_exists.mp h
  exact run_sizeOf w hi

theorem mem_of_get {α : Type} {l : List α} {k : Nat} {x : α} (h : l[k]? = some x) : x ∈ l := List.mem_of_getElem? h
theorem lt_of_get {α : Type} {l : List α} {k : Nat} {x : α} (h : l[k]? = some x) : k < l.length := by
  rcases Nat.lt_or_ge k l.length with h' | h'
  · exact h'
  · rw [List.getElem?_eq_none h'] at h; cases h

theorem indexAt_run {t e : TypeId} (ht : P.underlying t = some (.slice e)) (he : (P.info? e).isSome = true) (a : Addr) (len cap : Nat) (k : IntKind) (j : Nat) (hj : j < len) :
    (Instr.indexAt t (.slice (some a) len cap) (.int k (j : Int))).run P w = .ok (.pointer (some (a.add (j * P.cellsOf e)))) w := by
  have h2 : (0 : Int) ≤ (j : Int) ∧ (j : Int) < (len : Int) := by omega
  simp [Instr.indexAt, asIntOf, run_underlying ht, run_sizeOf' he, h2, hj]

theorem ia_ok {t e : TypeId} {es : Nat} {x y z : V} {a b : Value} (ht : P.underlying t = some (.slice e)) (he : (P.info? e).isSome = true) (hs : P.cellsOf e = es)
    (h : ia es x y = some z) (ha : Rep g x a) (hb : Rep g y b) : Gives P g w (Instr.indexAt t a b) z := by
  unfold ia at h
  split at h
  · rename_i l
    simp only [Option.bind_eq_some_iff] at h
    obtain ⟨j, hj, x, hx, h⟩ := h
    obtain ⟨k, rfl⟩ := ixOf_ok hj hb
    have hd := ha.dI
    clear ha
    cases hd with | lst _ es0 cap q vs hes hc hr hz =>
    split at h
    · rename_i hce
      cases h
      have h0 : es0 = es := by rw [← hes x (mem_of_get hx), hce]
      subst h0
      rcases hz with hz | ⟨b', p, rfl, hat⟩
      · subst hz; simp at hx
      · refine ⟨_, indexAt_run ht he _ _ _ k j (lt_of_get hx), ?_⟩
        rw [add_none, hs]
        refine .fp x 0 b' (p + j * es0) ((vs.drop (j * es0)).take es0) ?_ ((hat.drop _).take _)
        have hq := (hr.drop (j * es0)).take es0
        rwa [flat_get hes hx] at hq
    · cases h
  · rename_i l nl
    simp only [Option.bind_eq_some_iff] at h
    obtain ⟨j, hj, x, hx, y', hy, h⟩ := h
    obtain ⟨k, rfl⟩ := ixOf_ok hj hb
    cases ha with | tl _ _ es0 q vs hes hr hz hn hf =>
    split at h
    · rename_i hce
      cases h
      have h0 : es0 = es := by rw [← hes x (mem_of_get hx), ← toD_len hy, hce]
      subst h0
      rcases hz with hz | ⟨b', p, rfl, hat⟩
      · subst hz; simp at hx
      · refine ⟨_, indexAt_run ht he _ _ _ k j (lt_of_get hx), ?_⟩
        rw [add_none, hs]
        refine .fp y' 0 b' (p + j * es0) ((vs.drop (j * es0)).take es0) ?_ ((hat.drop _).take _)
        have hq := (hr.drop (j * es0)).take es0
        rw [flat_get hes hx] at hq
        exact hq.toDs (toD_cells hy) (fun u hu => hf u (List.mem_of_mem_drop (List.mem_of_mem_take hu)))
    · cases h
  · rename_i n e' tot off len
    simp only [Option.bind_eq_some_iff] at h
    obtain ⟨j, hj, h⟩ := h
    obtain ⟨k, rfl⟩ := ixOf_ok hj hb
    split at h
    · rename_i hlt
      cases h
      obtain ⟨hlt, hee⟩ := hlt
      cases ha with | own _ _ _ _ _ cap q hes hN hB hz hl hto hc hsz =>
      refine ⟨_, indexAt_run ht he _ _ _ k j hlt, ?_⟩
      rcases hz with hz | rfl
      · omega
      · rw [add_none, hs, ← hee, ← hes]
        have e1 : (g.μ n tot).o + off * (g.μ n tot).es + j * (g.μ n tot).es = (g.μ n tot).o + (off + j) * (g.μ n tot).es + 0 := by rw [Nat.add_mul]; omega
        rw [e1]
        exact .ptr n tot (off + j) 0 hN hB
    · cases h
  · cases h

theorem ixS_ok {t : TypeId} {x y z : V} {a b : Value} (ht : P.underlying t = some .string) (h : ixS x y = some z) (ha : Rep g x a) (hb : Rep g y b) : Gives P g w (Instr.index t a b) z := by
  unfold ixS at h
  split at h
  · rename_i s
    obtain rfl := ha.strI
    simp only [Option.bind_eq_some_iff] at h
    obtain ⟨j, hj, h⟩ := h
    obtain ⟨k, rfl⟩ := ixOf_ok hj hb
    split at h
    · rename_i hlt
      cases h
      refine ⟨.int .u8 (s[j]'hlt).toNat, ?_, .d _ _ (.int _ _)⟩
      simp [Instr.index, asIntOf, run_underlying ht, hlt]
    · cases h
  · cases h

theorem fa_ok {t : TypeId} {fs : Array Field} {f : Field} {i off : Nat} {x z : V} {a : Value} (ht : P.underlying t = some (.struct fs)) (hf : fs[i]? = some f) (ho : f.offset = off)
    (hi : (P.info? f.type).isSome = true) (hs : P.cellsOf f.type ≠ 0) (h : fa off x = some z) (ha : Rep g x a) : Gives P g w (Instr.fieldAt t a i) z := by
  have run : ∀ q : Addr, (Instr.fieldAt t (.pointer (some q)) i).run P w = .ok (.pointer (some (q.add off))) w := by
    intro q
    simp [Instr.fieldAt, run_underlying ht, hf, Instr.sureAddr, fieldPlace, run_sizeOf' hi, hs, ho]
  unfold fa at h
  split at h
  · rename_i x o
    cases h
    cases ha with | fp _ _ b p vs hr hat =>
    refine ⟨_, run _, ?_⟩
    rw [add_none, Nat.add_assoc]
    exact .fp x (o + off) b p vs hr hat
  · rename_i n tot j o
    cases h
    cases ha with | ptr _ _ _ _ hN hB =>
    refine ⟨_, run _, ?_⟩
    rw [add_none, Nat.add_assoc]
    exact .ptr n tot j (o + off) hN hB
  · cases h

/-- A part of cells. -/
theorem partD_ok {φ : Nat → Option Obj} {ag : Bool} {off sz : Nat} {l : List D} {vs : List Value} {y : D} (h : partD ag off sz l = some y) (hr : RepDs φ l vs) :
    ∃ v, RepD φ y v ∧ (if ag = true then v = .agg ((vs.drop off).take sz).toArray ∧ off + sz ≤ vs.length else vs[off]? = some v) := by
  unfold partD at h
  split at h
  · rename_i hag
    split at h
    · rename_i hle
      cases h
      exact ⟨_, .agg _ _ ((hr.drop off).take sz), by rw [if_pos hag]; exact ⟨rfl, by rw [hr.length]; exact hle⟩⟩
    · cases h
  · rename_i hag
    obtain ⟨v, hv, hy⟩ := hr.get h
    exact ⟨v, hy, by rw [if_neg hag]; exact hv⟩
theorem partV_ok {ag : Bool} {off sz : Nat} {l : List V} {vs : List Value} {y : V} (h : partV ag off sz l = some y) (hr : Reps g l vs) (hf : ∀ u, u ∈ vs → leaf u) :
    ∃ v, Rep g y v ∧ (if ag = true then v = .agg ((vs.drop off).take sz).toArray ∧ off + sz ≤ vs.length else vs[off]? = some v) := by
  unfold partV at h
  split at h
  · rename_i hag
    split at h
    · rename_i hle
      cases h
      exact ⟨_, Rep.mkAgg ((hr.drop off).take sz) (fun u hu => hf u (List.mem_of_mem_drop (List.mem_of_mem_take hu))), by rw [if_pos hag]; exact ⟨rfl, by rw [hr.length]; exact hle⟩⟩
    · cases h
  · rename_i hag
    obtain ⟨v, hv, hy⟩ := hr.get h
    exact ⟨v, hy, by rw [if_neg hag]; exact hv⟩

def agOf (P : Program) (t : TypeId) : Bool := match P.underlying t with
  | some (.struct _) => true
  | some (.array _ _) => true
  | _ => false

theorem run_isAgg' {t : TypeId} (h : (P.underlying t).isSome = true) : (isAgg t).run P w = .ok (agOf P t) w := by
  obtain ⟨d, hd⟩ := Option.isSome_iff_exists.mp h
  simp only [isAgg, Sem.run_bind, run_underlying hd, Result.andThen_ok, agOf, hd]
  cases d <;> rfl

theorem part_run {t : TypeId} {off : Nat} {vs : List Value} {v : Value} (hu : (P.underlying t).isSome = true) (hi : (P.info? t).isSome = true)
    (h : if agOf P t = true then v = .agg ((vs.drop off).take (P.cellsOf t)).toArray ∧ off + P.cellsOf t ≤ vs.length else vs[off]? = some v) :
    (part t vs.toArray off).run P w = .ok v w := by
  simp only [part, Sem.run_bind, run_isAgg' hu, Result.andThen_ok]
  split at h
  · rename_i hag
    obtain ⟨rfl, hle⟩ := h
    rw [if_pos hag]
    simp only [Sem.run_bind, run_sizeOf' hi, Result.andThen_ok, Sem.run_pure]
    congr 2
    apply Array.ext'
    simp [List.extract_eq_take_drop]
  · rename_i hag
    rw [if_neg hag]
    simp [h]

theorem fld_ok {t : TypeId} {fs : Array Field} {f : Field} {i off sz : Nat} {ag : Bool} {x z : V} {a : Value} (ht : P.underlying t = some (.struct fs)) (hf : fs[i]? = some f) (ho : f.offset = off)
    (hu : (P.underlying f.type).isSome = true) (hi : (P.info? f.type).isSome = true) (hag : agOf P f.type = ag) (hs : P.cellsOf f.type = sz) (h : fld ag off sz x = some z) (ha : Rep g x a) :
    Gives P g w (Instr.field t a i) z := by
  subst ho hag hs
  have run : ∀ (vs : List Value) (v : Value), (if agOf P f.type = true then v = .agg ((vs.drop f.offset).take (P.cellsOf f.type)).toArray ∧ f.offset + P.cellsOf f.type ≤ vs.length else vs[f.offset]? = some v) →
      (Instr.field t (.agg vs.toArray) i).run P w = .ok v w := by
    intro vs v hv
    simp only [Instr.field, Sem.run_bind, run_underlying ht, Result.andThen_ok, hf, asAgg, Sem.run_pure]
    exact part_run hu hi hv
  unfold fld at h
  split at h
  · rename_i l
    simp only [Option.map_eq_some_iff] at h
    obtain ⟨y, hy, rfl⟩ := h
    have hd := ha.dI
    clear ha
    cases hd with | agg _ vs hr =>
    obtain ⟨v, hv, he⟩ := partD_ok hy hr
    exact ⟨v, run vs v he, .d _ _ hv⟩
  · rename_i l
    cases ha with | agg _ vs hr hfl =>
    obtain ⟨v, hv, he⟩ := partV_ok h hr hfl
    exact ⟨v, run vs v he, hv⟩
  · cases h

end
end Zv
end
section
set_option linter.unusedSimpArgs false
set_option linter.unusedVariables false
set_option linter.unusedSimpArgs false
namespace Zv
open Go

section
variable {P : Program} {g : G} {w : World}

/-- An operand that may be missing. -/
def RepO (g : G) : Option V → Option Value → Prop
  | none, none => True
  | some x, some a => Rep g x a
  | _, _ => False

theorem bound_run {x : V} {a : Value} {n y : Nat} (code : BoundsCode) (h : ixOf x = some n) (ha : Rep g x a) (hn : n ≤ y) : (Instr.sliceBound a y code).run P w = .ok n w := by
  obtain ⟨k, rfl⟩ := ixOf_ok h ha
  have h2 : (0 : Int) ≤ (n : Int) ∧ (n : Int) ≤ (y : Int) := by omega
  simp [Instr.sliceBound, asIntOf, h2, hn]

theorem bounds_run (b : Bool) {len cap l h : Nat} {lo hi : Option V} {alo ahi : Option Value} (hh : bnd len hi = some h) (hl : bnd 0 lo = some l) (h1 : l ≤ h) (h2 : h ≤ cap)
    (rlo : RepO g lo alo) (rhi : RepO g hi ahi) : (Instr.sliceBounds b len cap alo ahi none).run P w = .ok (l, h, cap) w := by
  cases hi with
  | none =>
    cases ahi with
    | some _ => exact rhi.elim
    | none =>
      cases hh
      cases lo with
      | none => cases alo with
        | some _ => exact rlo.elim
        | none => cases hl; rfl
      | some x => cases alo with
        | none => exact rlo.elim
        | some a =>
          simp only [Instr.sliceBounds, Sem.run_bind, Sem.run_pure, Result.andThen_ok]
          rw [bound_run _ hl rlo h1]
          rfl
  | some y =>
    cases ahi with
    | none => exact rhi.elim
    | some c =>
      have e := bound_run (P := P) (w := w) (if b = true then .sliceAcap else .sliceAlen) hh rhi h2
      cases lo with
      | none => cases alo with
        | some _ => exact rlo.elim
        | none =>
          cases hl
          simp only [Instr.sliceBounds, Sem.run_bind, Sem.run_pure, Result.andThen_ok, e]
      | some x => cases alo with
        | none => exact rlo.elim
        | some a =>
          simp only [Instr.sliceBounds, Sem.run_bind, Sem.run_pure, Result.andThen_ok, e]
          rw [bound_run _ hl rlo h1]
          rfl

theorem bounds3_run {len cap l h m : Nat} {lo hi mx : Option V} {alo ahi amx : Option Value} (hh : bnd len hi = some h) (hl : bnd 0 lo = some l) (hm : bnd len mx = some m) (hs : hi.isSome = true) (hs2 : mx.isSome = true)
    (h1 : l ≤ h) (h2 : h ≤ m) (h3 : m ≤ cap) (rlo : RepO g lo alo) (rhi : RepO g hi ahi) (rmx : RepO g mx amx) : (Instr.sliceBounds true len cap alo ahi amx).run P w = .ok (l, h, m) w := by
  cases mx with
  | none => cases hs2
  | some z => cases amx with
    | none => exact rmx.elim
    | some c =>
      cases hi with
      | none => cases hs
      | some y => cases ahi with
        | none => exact rhi.elim
        | some d =>
          have e1 := bound_run (P := P) (w := w) (y := cap) .slice3Acap hm rmx h3
          have e2 := bound_run (P := P) (w := w) (y := m) .slice3B hh rhi h2
          cases lo with
          | none => cases alo with
            | some _ => exact rlo.elim
            | none =>
              cases hl
              simp [Instr.sliceBounds, e1, e2]
          | some x => cases alo with
            | none => exact rlo.elim
            | some a =>
              have e3 := bound_run (P := P) (w := w) (y := h) .slice3C hl rlo h1
              simp [Instr.sliceBounds, e1, e2, e3]

theorem slcS_ok {t : TypeId} {x z : V} {lo hi : Option V} {a : Value} {alo ahi : Option Value} (ht : P.underlying t = some .string) (h : slcS x lo hi = some z) (ha : Rep g x a) (rlo : RepO g lo alo) (rhi : RepO g hi ahi) :
    Gives P g w (Instr.sliceAt t a alo ahi none) z := by
  unfold slcS at h
  split at h
  · rename_i s
    obtain rfl := ha.strI
    simp only [Option.bind_eq_some_iff] at h
    obtain ⟨m, hm, l, hl, h⟩ := h
    split at h
    · rename_i hle
      cases h
      have e := bounds_run (P := P) (w := w) (g := g) false hm hl hle.1 hle.2 rlo rhi
      refine ⟨.string (s.extract l m), ?_, .d _ _ (.str _)⟩
      simp [Instr.sliceAt, Instr.slice, run_underlying ht, e]
    · cases h
  · cases h

theorem slice_run {t e : TypeId} (ht : P.underlying t = some (.slice e)) (he : (P.info? e).isSome = true) (q : Option Addr) {len cap l h m : Nat} {alo ahi amx : Option Value}
    (hb : (Instr.sliceBounds true len cap alo ahi amx).run P w = .ok (l, h, m) w) :
    (Instr.sliceAt t (.slice q len cap) alo ahi amx).run P w = .ok (.slice (if m = l then q else q.map (·.add (l * P.cellsOf e))) (h - l) (m - l)) w := by
  simp [Instr.sliceAt, Instr.slice, run_underlying ht, hb, run_sizeOf' he]

theorem allD_iff {es : Nat} {l : List D} (h : allD es l = true) : ∀ x, x ∈ l → x.cells.length = es := by
  unfold allD at h
  intro x hx
  have := List.all_eq_true.1 h x hx
  simpa using this
theorem allV_iff {es : Nat} {l : List V} (h : allV es l = true) : ∀ x, x ∈ l → x.cells.length = es := by
  unfold allV at h
  intro x hx
  have := List.all_eq_true.1 h x hx
  simpa using this

theorem sub_mem {α : Type} {l : List α} {a b : Nat} {x : α} (h : x ∈ (l.take a).drop b) : x ∈ l := List.mem_of_mem_take (List.mem_of_mem_drop h)

theorem flat_sub {α β : Type} {f : α → List β} {es : Nat} {l : List α} (a b : Nat) (h : ∀ x, x ∈ l → (f x).length = es) : ((l.take a).drop b).flatMap f = ((l.flatMap f).take (a * es)).drop (b * es) := by
  rw [flat_take a h, flat_drop b (fun x hx => h x (List.mem_of_mem_take hx))]

theorem flat_d (l : List D) : (l.map V.d).flatMap V.cells = (l.flatMap D.cells).map V.d := by
  induction l with
  | nil => rfl
  | cons x l ih => simp only [List.map_cons, List.flatMap_cons, ih, List.map_append]; rfl

theorem len_sub {α : Type} {l : List α} {a b : Nat} (h : a ≤ l.length) : ((l.take a).drop b).length = a - b := by
  rw [List.length_drop, List.length_take, Nat.min_eq_left h]

theorem slc_ok {t e : TypeId} {es : Nat} {x z : V} {lo hi : Option V} {a : Value} {alo ahi : Option Value} (ht : P.underlying t = some (.slice e)) (he : (P.info? e).isSome = true) (hs : P.cellsOf e = es)
    (h : slc es x lo hi = some z) (ha : Rep g x a) (rlo : RepO g lo alo) (rhi : RepO g hi ahi) : Gives P g w (Instr.sliceAt t a alo ahi none) z := by
  unfold slc at h
  split at h
  · rename_i xs
    simp only [Option.bind_eq_some_iff] at h
    obtain ⟨m, hm, l, hl, h⟩ := h
    have hd := ha.dI
    clear ha
    cases hd with | lst _ es0 cap q vs hes hc hr hz =>
    split at h
    · rename_i hle
      obtain ⟨h1, h2, h3⟩ := hle
      cases h
      refine ⟨_, slice_run ht he q (bounds_run (P := P) (w := w) (g := g) true hm hl h1 (Nat.le_trans h2 hc) rlo rhi), ?_⟩
      rw [hs, show m - l = ((xs.take m).drop l).length from (len_sub h2).symm]
      refine .d _ _ (.lst _ es (cap - l) _ ((vs.take (m * es)).drop (l * es)) (fun x hx => allD_iff h3 x (sub_mem hx)) (by rw [len_sub h2]; omega) ?_ ?_)
      · rw [flat_sub m l (allD_iff h3)]
        exact (hr.take _).drop _
      · by_cases hemp : (xs.take m).drop l = []
        · exact .inl hemp
        · right
          have hpos : l < m := by
            rcases Nat.lt_or_ge l m with h' | h'
            · exact h'
            · exact absurd (List.drop_of_length_le (by rw [List.length_take]; omega)) hemp
          rcases hz with hz | ⟨b', p, rfl, hat⟩
          · subst hz; simp at hemp
          · refine ⟨b', p + l * es, ?_, ((hat.take _).drop _)⟩
            rw [if_neg (by omega)]
            simp [add_none]
    · cases h
  · rename_i xs nl
    simp only [Option.bind_eq_some_iff] at h
    obtain ⟨m, hm, l, hl, h⟩ := h
    cases ha with | tl _ _ es0 q vs hes hr hz hn hf =>
    split at h
    · rename_i hle
      obtain ⟨h1, h2, h3⟩ := hle
      subst h2
      cases h
      refine ⟨_, slice_run ht he q (bounds_run (P := P) (w := w) (g := g) true hm hl h1 (Nat.le_refl _) rlo rhi), ?_⟩
      rw [hs, show xs.length - l = (xs.drop l).length from (List.length_drop).symm]
      refine .tl _ _ es _ (vs.drop (l * es)) (fun x hx => allV_iff h3 x (List.mem_of_mem_drop hx)) ?_ ?_ ?_ (fun u hu => hf u (List.mem_of_mem_drop hu))
      · rw [← flat_drop l (allV_iff h3)]
        exact hr.drop _
      · by_cases hemp : xs.drop l = []
        · exact .inl hemp
        · right
          have hpos : l < xs.length := by
            rcases Nat.lt_or_ge l xs.length with h' | h'
            · exact h'
            · exact absurd (List.drop_of_length_le h') hemp
          rcases hz with hz | ⟨b', p, rfl, hat⟩
          · subst hz; simp at hemp
          · refine ⟨b', p + l * es, ?_, hat.drop _⟩
            rw [if_neg (by omega)]
            simp [add_none]
      · intro b hb
        rw [hn b hb]
        split
        · rfl
        · simp
    · cases h
  · rename_i n e' tot off len
    simp only [Option.bind_eq_some_iff] at h
    obtain ⟨m, hm, l, hl, h⟩ := h
    split at h
    · rename_i hle
      obtain ⟨h1, h2, h3⟩ := hle
      cases h
      cases ha with | own _ _ _ _ _ cap q hes hN hB hz hlc hto hc hsz =>
      refine ⟨_, slice_run ht he (some q) (bounds_run (P := P) (w := w) (g := g) true hm hl h1 (Nat.le_trans h2 hlc) rlo rhi), ?_⟩
      rw [hs]
      have hsome : (if cap = l then some q else (some q).map (·.add (l * es))) = some (if cap = l then q else q.add (l * es)) := by split <;> rfl
      rw [hsome]
      refine .own n e' tot (off + l) (m - l) (cap - l) _ hes hN hB ?_ (by omega) (by omega) (by omega) ?_
      · by_cases hcl : cap = l
        · left; omega
        · right
          rcases hz with hz | rfl
          · omega
          · rw [if_neg hcl, add_none, hes, ← h3, Nat.add_mul, Nat.add_assoc]
      · rw [show off + l + (cap - l) = off + cap from by omega]
        exact hsz
    · cases h
  · cases h

theorem slc3_ok {t e : TypeId} {es : Nat} {x z : V} {lo hi mx : Option V} {a : Value} {alo ahi amx : Option Value} (ht : P.underlying t = some (.slice e)) (he : (P.info? e).isSome = true) (hs : P.cellsOf e = es)
    (hi1 : hi.isSome = true) (mx1 : mx.isSome = true)
    (h : slc3 es x lo hi mx = some z) (ha : Rep g x a) (rlo : RepO g lo alo) (rhi : RepO g hi ahi) (rmx : RepO g mx amx) : Gives P g w (Instr.sliceAt t a alo ahi amx) z := by
  unfold slc3 at h
  split at h
  · rename_i xs
    simp only [Option.bind_eq_some_iff] at h
    obtain ⟨m, hm, l, hl, k, hk, h⟩ := h
    have hd := ha.dI
    clear ha
    cases hd with | lst _ es0 cap q vs hes hc hr hz =>
    split at h
    · rename_i hle
      obtain ⟨h1, h2, rfl, h3⟩ := hle
      cases h
      refine ⟨_, slice_run ht he q (bounds3_run (P := P) (w := w) (g := g) hm hl hk hi1 mx1 h1 (Nat.le_refl _) (Nat.le_trans h2 hc) rlo rhi rmx), ?_⟩
      rw [hs]
      have hlen : k - l = (((xs.take k).drop l).map V.d).length := by rw [List.length_map, len_sub h2]
      rw [hlen]
      refine .tl _ _ es _ ((vs.take (k * es)).drop (l * es)) ?_ ?_ ?_ (fun q hq => by cases hq) (fun u hu => hr.leaf u (List.mem_of_mem_take (List.mem_of_mem_drop hu)))
      · intro x hx
        obtain ⟨y, hy, rfl⟩ := List.mem_map.1 hx
        show (y.cells.map V.d).length = es
        rw [List.length_map]
        exact allD_iff h3 y (sub_mem hy)
      · rw [flat_d, flat_sub k l (allD_iff h3)]
        exact Reps.of_map_d ((hr.take _).drop _)
      · by_cases hemp : (xs.take k).drop l = []
        · exact .inl (by rw [hemp]; rfl)
        · right
          have hpos : l < k := by
            rcases Nat.lt_or_ge l k with h' | h'
            · exact h'
            · exact absurd (List.drop_of_length_le (by rw [List.length_take]; omega)) hemp
          rcases hz with hz | ⟨b', p, rfl, hat⟩
          · subst hz; simp at hemp
          · refine ⟨b', p + l * es, ?_, ((hat.take _).drop _)⟩
            rw [if_neg (by omega)]
            simp [add_none]
    · cases h
  · rename_i xs nl
    simp only [Option.bind_eq_some_iff] at h
    obtain ⟨m, hm, l, hl, k, hk, h⟩ := h
    cases ha with | tl _ _ es0 q vs hes hr hz hn hf =>
    split at h
    · rename_i hle
      obtain ⟨h1, h2, rfl, h3⟩ := hle
      cases h
      refine ⟨_, slice_run ht he q (bounds3_run (P := P) (w := w) (g := g) hm hl hk hi1 mx1 h1 (Nat.le_refl _) h2 rlo rhi rmx), ?_⟩
      rw [hs]
      have hlen : k - l = ((xs.take k).drop l).length := (len_sub h2).symm
      rw [hlen]
      refine .tl _ _ es _ ((vs.take (k * es)).drop (l * es)) (fun x hx => allV_iff h3 x (sub_mem hx)) ?_ ?_ ?_ (fun u hu => hf u (List.mem_of_mem_take (List.mem_of_mem_drop hu)))
      · rw [flat_sub k l (allV_iff h3)]
        exact (hr.take _).drop _
      · by_cases hemp : (xs.take k).drop l = []
        · exact .inl hemp
        · right
          have hpos : l < k := by
            rcases Nat.lt_or_ge l k with h' | h'
            · exact h'
            · exact absurd (List.drop_of_length_le (by rw [List.length_take]; omega)) hemp
          rcases hz with hz | ⟨b', p, rfl, hat⟩
          · subst hz; simp at hemp
          · refine ⟨b', p + l * es, ?_, ((hat.take _).drop _)⟩
            rw [if_neg (by omega)]
            simp [add_none]
      · intro b hb
        rw [hn b hb]
        split
        · rfl
        · simp
    · cases h
  · cases h

/-! ### Structs -/

theorem fold_set : ∀ (v : List Value) (cs : Array Value) (off i : Nat), off + i + v.length ≤ cs.size →
    ((v.zipIdx i).foldl (fun cs (p : Value × Nat) => cs.setIfInBounds (off + p.2) p.1) cs).toList = cs.toList.take (off + i) ++ v ++ cs.toList.drop (off + i + v.length)
  | [], cs, off, i, h => by simp
  | c :: v, cs, off, i, h => by
    simp only [List.zipIdx_cons, List.foldl_cons]
    rw [fold_set v _ off (i + 1) (by simp at h ⊢; omega)]
    have e := list_seg_step cs.toList (off + i) c v (by simp at h ⊢; omega)
    simpa [Array.toList_setIfInBounds, Nat.add_assoc] using e

/-- The parts that are laid: fields by number, with their places. -/
inductive RepParts (g : G) (place : Nat → Option (Nat × Nat)) : List (Nat × Nat × V) → List (Nat × Value) → Prop
  | nil : RepParts g place [] []
  | cons (off sz i : Nat) (x : V) (a : Value) (l : List (Nat × Nat × V)) (m : List (Nat × Value)) (hp : place i = some (off, sz)) (h : Rep g x a) (r : RepParts g place l m) :
      RepParts g place ((off, sz, x) :: l) ((i, a) :: m)

theorem fill_ok {place : Nat → Option (Nat × Nat)} : ∀ {l : List (Nat × Nat × V)} {m : List (Nat × Value)} {cs : List V} {vs : Array Value} {zs : List V}, RepParts g place l m → Reps g cs vs.toList → (∀ u, u ∈ vs.toList → leaf u) →
    lay cs l = some zs → ∃ us : Array Value, Instr.fill place vs m = some us ∧ Reps g zs us.toList ∧ ∀ u, u ∈ us.toList → leaf u
  | [], _, cs, vs, zs, .nil, hr, hf, h => by
    simp only [lay] at h; cases h; exact ⟨vs, rfl, hr, hf⟩
  | _, _, cs, vs, zs, .cons off sz i x a l m hp hx r, hr, hf, h => by
    simp only [lay] at h
    split at h
    · rename_i hc
      obtain ⟨h1, h2, h3⟩ := hc
      obtain ⟨hcr, hcf⟩ := hx.cells h1
      have hsz : a.cells.size = sz := by have := hcr.length; rw [Array.length_toList] at this; omega
      have hvs : vs.size = cs.length := by have := hr.length; rw [Array.length_toList] at this; exact this
      simp only [Instr.fill, hp]
      have hno : ¬ ((decide (a.cells.size ≠ sz) || decide (off + a.cells.size > vs.size)) = true) := by
        simp only [hsz, hvs, ne_eq, not_true_eq_false, decide_false, Bool.false_or, decide_eq_true_eq]
        omega
      rw [if_neg hno]
      have e : (Array.foldl (fun (cs : Array Value) (p : Value × Nat) => cs.setIfInBounds (off + p.2) p.1) vs a.cells.zipIdx) = (vs.toList.take off ++ a.cells.toList ++ vs.toList.drop (off + sz)).toArray := by
        apply Array.ext'
        rw [← Array.foldl_toList, Array.toList_zipIdx]
        have hle : off + 0 + a.cells.toList.length ≤ vs.size := by rw [Array.length_toList, hsz, hvs]; omega
        have := fold_set a.cells.toList vs off 0 hle
        simp only [Nat.add_zero] at this
        rw [this, Array.length_toList, hsz]
      have hgoal := fill_ok (place := place) (vs := (vs.toList.take off ++ a.cells.toList ++ vs.toList.drop (off + sz)).toArray) r (((hr.take off).app hcr).app (hr.drop (off + sz))) (by
        intro u hu
        simp only [List.mem_append] at hu
        rcases hu with (hu | hu) | hu
        · exact hf u (List.mem_of_mem_take hu)
        · exact hcf u hu
        · exact hf u (List.mem_of_mem_drop hu)) h
      rw [← e] at hgoal
      exact hgoal
    · cases h

theorem build_ok {t : TypeId} {fs : Array Field} {zv : Value} {z : List V} {ps : List (Nat × Nat × V)} {as : Array (Nat × Value)} {y : V} {i : TypeInfo}
    (ht : P.underlying t = some (.struct fs)) (hi : P.info? t = some i) (hz : i.zero = some zv) (hzr : Reps g z zv.cells.toList) (hzf : ∀ u, u ∈ zv.cells.toList → leaf u)
    (hfs : ∀ f, f ∈ fs.toList → (P.info? f.type).isSome = true) (hp : RepParts g (fun j => (fs[j]?).map fun f => (f.offset, P.cellsOf f.type)) ps as.toList)
    (h : (lay z ps).map mkAgg = some y) : Gives P g w (Instr.build t as) y := by
  simp only [Option.map_eq_some_iff] at h
  obtain ⟨zs, hzs, rfl⟩ := h
  have hm : (fs.mapM (fun f : Field => (do pure (f.offset, ← Go.sizeOf f.type) : Sem (Nat × Nat)))).run P w = .ok (fs.map fun f => (f.offset, P.cellsOf f.type)) w := by
    rw [← Array.toArray_toList (xs := fs)]
    rw [List.mapM_toArray]
    have : ∀ (l : List Field), (∀ f, f ∈ l → (P.info? f.type).isSome = true) → (l.mapM (fun f : Field => (do pure (f.offset, ← Go.sizeOf f.type) : Sem (Nat × Nat)))).run P w = .ok (l.map fun f => (f.offset, P.cellsOf f.type)) w := by
      intro l
      induction l with
      | nil => intro _; rfl
      | cons f l ih =>
        intro hl
        rw [List.mapM_cons]
        simp only [Sem.run_bind, run_sizeOf' (hl f (by simp)), Result.andThen_ok, Sem.run_pure, ih (fun q hq => hl q (by simp [hq]))]
        rfl
    rw [Sem.run_map, this fs.toList hfs]
    simp only [Result.andThen_ok]
    congr 1
    apply Array.ext'
    simp
  obtain ⟨us, hus, hr, hf⟩ := fill_ok (place := fun j => (fs[j]?).map fun f => (f.offset, P.cellsOf f.type)) (vs := zv.cells) hp hzr hzf hzs
  have hpl : (fun j : Nat => (fs.map (fun f : Field => (f.offset, P.cellsOf f.type)))[j]?) = (fun j : Nat => (fs[j]?).map (fun f : Field => (f.offset, P.cellsOf f.type))) := by
    funext j
    simp
  have hg : Rep g (mkAgg zs) (.agg us) := by
    have := Rep.mkAgg hr hf
    simpa using this
  refine ⟨.agg us, ?_, hg⟩
  simp only [Instr.build, zeroValue, typeInfo, Sem.run_bind, run_program, Result.andThen_ok, hi, Sem.run_pure, hz, run_underlying ht, hm]
  rw [hpl, hus]
  rfl

/-! ### Constants -/

def rcDL : D → Value → Bool
  | .bool a, .bool b => a == b
  | .int k n, .int k' n' => decide (k = k') && n == n'
  | .str a, .string b => decide (a = b)
  | .nilp, .pointer none => true
  | .nilf, .nilFunc => true
  | .nilm, .map none => true
  | .lst [], .slice none 0 0 => true
  | _, _ => false
def rcL : V → Value → Bool
  | .d x, v => rcDL x v
  | .tl [] (some true), .slice none 0 0 => true
  | .clo f [], .func (.func f') a b => f == f' && a.isEmpty && b.isEmpty
  | _, _ => false
def rcLs : List V → List Value → Bool
  | [], [] => true
  | x :: l, v :: vs => rcL x v && rcLs l vs
  | _, _ => false
def rcDLs : List D → List Value → Bool
  | [], [] => true
  | x :: l, v :: vs => rcDL x v && rcDLs l vs
  | _, _ => false
/-- Does a value stand for a constant? -/
def rc : V → Value → Bool
  | .d (.agg l), .agg vs => rcDLs l vs.toList
  | .agg l, .agg vs => rcLs l vs.toList
  | x, v => rcL x v

theorem rcDL_ok {φ : Nat → Option Obj} {x : D} {v : Value} (h : rcDL x v = true) : RepD φ x v ∧ leaf v := by
  unfold rcDL at h
  split at h
  · simp at h; subst h; exact ⟨.bool _, trivial⟩
  · simp at h; obtain ⟨rfl, rfl⟩ := h; exact ⟨.int _ _, trivial⟩
  · simp at h; subst h; exact ⟨.str _, trivial⟩
  · exact ⟨.nilp, trivial⟩
  · exact ⟨.nilf, trivial⟩
  · exact ⟨.nilm, trivial⟩
  · exact ⟨.lst [] 0 0 none [] (by simp) (by simp) .nil (.inl rfl), trivial⟩
  · cases h
theorem rcL_ok {x : V} {v : Value} (h : rcL x v = true) : Rep g x v ∧ leaf v := by
  unfold rcL at h
  split at h
  · exact ⟨.d _ _ (rcDL_ok h).1, (rcDL_ok (φ := g.φ) h).2⟩
  · exact ⟨.tl [] (some true) 0 none [] (by simp) .nil (.inl rfl) (fun q hq => by cases hq; simp) (by simp), trivial⟩
  · simp at h; obtain ⟨⟨rfl, rfl⟩, rfl⟩ := h; exact ⟨.clo _ [] [] .nil, trivial⟩
  · cases h
theorem rcDLs_ok {φ : Nat → Option Obj} : ∀ {l : List D} {vs : List Value}, rcDLs l vs = true → RepDs φ l vs
  | [], [], _ => .nil
  | x :: l, v :: vs, h => by
    simp only [rcDLs, Bool.and_eq_true] at h
    exact .cons x l v vs (rcDL_ok h.1).1 (rcDLs_ok h.2) (rcDL_ok (φ := φ) h.1).2
  | [], _ :: _, h => by cases h
  | _ :: _, [], h => by cases h
theorem rcLs_ok : ∀ {l : List V} {vs : List Value}, rcLs l vs = true → Reps g l vs ∧ ∀ u, u ∈ vs → leaf u
  | [], [], _ => ⟨.nil, by simp⟩
  | x :: l, v :: vs, h => by
    simp only [rcLs, Bool.and_eq_true] at h
    have ih := rcLs_ok h.2
    refine ⟨.cons x l v vs (rcL_ok h.1).1 ih.1, fun u hu => ?_⟩
    rcases List.mem_cons.1 hu with rfl | hu
    · exact (rcL_ok (g := g) h.1).2
    · exact ih.2 u hu
  | [], _ :: _, h => by cases h
  | _ :: _, [], h => by cases h
theorem rc_ok {x : V} {v : Value} (h : rc x v = true) : Rep g x v := by
  unfold rc at h
  split at h
  · have := rcDLs_ok (φ := g.φ) h
    exact .d _ _ (by simpa using RepD.agg _ _ this)
  · have := rcLs_ok (g := g) h
    simpa using Rep.agg _ _ this.1 this.2
  · exact (rcL_ok h).1

end
end Zv
end
section
set_option linter.unusedSimpArgs false
set_option linter.unusedVariables false
set_option linter.unusedSimpArgs false
namespace Zv
open Go

def G.put (g : G) (k tot : Nat) (pl : Pl) : G :=
  { φ := g.φ, μ := fun n t => if n = k ∧ t = tot then pl else g.μ n t, N := max g.N (k + 1), B := fun n => if n = k then tot else g.B n, F := g.F, C := g.C }

def G.fix (g : G) (b : Nat) (o : Obj) : G := { g with φ := fun c => if c = b then some o else g.φ c }

theorem Le.put {g : G} {k tot : Nat} {pl : Pl} (hk : (k < g.N ∧ (g.B k < tot ∨ (tot = g.B k ∧ pl = g.μ k tot))) ∨ k = g.N) : Le g (g.put k tot pl) := by
  refine ⟨fun _ _ h => h, Nat.le_max_left _ _, fun n hn => ?_, fun n t hn ht => ?_, rfl, rfl⟩
  · show g.B n ≤ if n = k then tot else g.B n
    split
    · rename_i e; subst e
      rcases hk with ⟨_, h | h⟩ | h
      · omega
      · omega
      · omega
    · exact Nat.le_refl _
  · show (if n = k ∧ t = tot then pl else g.μ n t) = g.μ n t
    split
    · rename_i e
      obtain ⟨rfl, rfl⟩ := e
      rcases hk with ⟨_, h | h⟩ | h
      · omega
      · exact h.2
      · omega
    · rfl

theorem Rel.put {g : G} {h h' : Hp} {w w' : World} (R : Rel g h w) (k : Nat) (O : Ob) (pl : Pl)
    (hk : (k < g.N ∧ (g.B k < O.tot ∨ (O.tot = g.B k ∧ pl = g.μ k O.tot))) ∨ k = g.N) (hnx : h'.next = max g.N (k + 1)) (hnd : (h'.objs.map (·.1)).Nodup)
    (hob : ∀ m o, h'.get m = some o → (m = k ∧ o = O) ∨ (m ≠ k ∧ h.get m = some o))
    (hblk : pl.b = w.heap.size ∨ (∃ n o, h.get n = some o ∧ pl.b = blk g n o ∧ ∀ m o', h'.get m = some o' → m ≠ k → m ≠ n) ∨ (g.φ pl.b = none ∧ g.F pl.b = none ∧ ∀ n o, h.get n = some o → blk g n o ≠ pl.b))
    (hw : ∀ b, b < w.heap.size → b ≠ pl.b → w'.heap[b]? = w.heap[b]?) (hO : ObRep (g.put k O.tot pl) w' k O) : Le g (g.put k O.tot pl) ∧ Rel (g.put k O.tot pl) h' w' := by
  have hle := Le.put (pl := pl) hk
  have hφ : g.φ pl.b = none := by
    rcases hblk with e | ⟨n, o, hn, e, _⟩ | e
    · cases hp : g.φ pl.b with
      | none => rfl
      | some o =>
        have := (Array.getElem?_eq_some_iff.1 (R.fr _ _ hp)).1
        omega
    · rw [e]; exact R.out n o hn
    · exact e.1
  have hF : g.F pl.b = none := by
    rcases hblk with e | ⟨n, o, hn, e, _⟩ | e
    · cases hp : g.F pl.b with
      | none => rfl
      | some o =>
        have := (Array.getElem?_eq_some_iff.1 (R.kp _ _ hp).1).1
        omega
    · rw [e]; exact R.kpo n o hn
    · exact e.2.1
  have hlt : ∀ n o, h.get n = some o → blk g n o < w.heap.size := by
    intro n o hn
    have := (R.ob n o hn).2.2
    cases o with
    | arr es els => obtain ⟨c, ty, vs, h1, _⟩ := this; exact (Array.getElem?_eq_some_iff.1 h1).1
    | mp kvs => obtain ⟨es, cl, h1, _⟩ := this; exact (Array.getElem?_eq_some_iff.1 h1).1
    | lp b e s => obtain ⟨r, h1, _⟩ := this; exact (Array.getElem?_eq_some_iff.1 h1).1
  have hbk : blk (g.put k O.tot pl) k O = pl.b := by simp [blk, G.put]
  have hne : ∀ m o, h'.get m = some o → m ≠ k → blk g m o ≠ pl.b := by
    intro m o hm hmk
    rcases hob m o hm with ⟨e, _⟩ | ⟨_, hm'⟩
    · exact absurd e hmk
    · rcases hblk with e | ⟨n, p, hn, e, hx⟩ | e
      · have := hlt m o hm'; omega
      · rw [e]; exact R.sep m n o p hm' hn (hx m o hm hmk)
      · exact e.2.2 m o hm'
  refine ⟨hle, ⟨hnx, fun b o hb => ?_, hnd, fun n o hn => ?_, fun n m o p hn hm hnm => ?_, fun n o hn => ?_, fun b o hb => ?_, fun n o hn => ?_⟩⟩
  · have h1 := R.fr b o hb
    have h2 := (Array.getElem?_eq_some_iff.1 h1).1
    rw [hw b h2 (fun e => by subst e; rw [show (g.put k O.tot pl).φ = g.φ from rfl, hφ] at hb; cases hb)]
    exact h1
  · rcases hob n o hn with ⟨rfl, rfl⟩ | ⟨hnk, hn'⟩
    · exact ⟨Nat.lt_of_lt_of_le (Nat.lt_succ_self n) (Nat.le_max_right g.N (n + 1)), by simp [G.put], hO⟩
    · obtain ⟨h1, h2, h3⟩ := R.ob n o hn'
      refine ⟨Nat.lt_of_lt_of_le h1 hle.N, by simp [G.put, hnk, h2], ?_⟩
      exact h3.mono hle h1 (by omega) (hw _ (hlt n o hn') (hne n o hn hnk))
  · rcases hob n o hn with ⟨rfl, rfl⟩ | ⟨hnk, hn'⟩
    · rcases hob m p hm with ⟨rfl, rfl⟩ | ⟨hmk, hm'⟩
      · exact absurd rfl hnm
      · rw [hbk, blk_mono hle (R.ob m p hm').1 (by rw [(R.ob m p hm').2.1]; exact Nat.le_refl _)]
        exact fun e => hne m p hm hmk e.symm
    · rcases hob m p hm with ⟨rfl, rfl⟩ | ⟨hmk, hm'⟩
      · rw [hbk, blk_mono hle (R.ob n o hn').1 (by rw [(R.ob n o hn').2.1]; exact Nat.le_refl _)]
        exact hne n o hn hnk
      · rw [blk_mono hle (R.ob n o hn').1 (by rw [(R.ob n o hn').2.1]; exact Nat.le_refl _), blk_mono hle (R.ob m p hm').1 (by rw [(R.ob m p hm').2.1]; exact Nat.le_refl _)]
        exact R.sep n m o p hn' hm' hnm
  · rcases hob n o hn with ⟨rfl, rfl⟩ | ⟨hnk, hn'⟩
    · rw [hbk]; exact hφ
    · rw [blk_mono hle (R.ob n o hn').1 (by rw [(R.ob n o hn').2.1]; exact Nat.le_refl _)]
      exact R.out n o hn'
  · have h1 := R.kp b o hb
    have h2 := (Array.getElem?_eq_some_iff.1 h1.1).1
    rw [hw b h2 (fun e => by subst e; rw [show (g.put k O.tot pl).F = g.F from rfl, hF] at hb; cases hb)]
    exact h1
  · rcases hob n o hn with ⟨rfl, rfl⟩ | ⟨hnk, hn'⟩
    · rw [hbk]; exact hF
    · rw [blk_mono hle (R.ob n o hn').1 (by rw [(R.ob n o hn').2.1]; exact Nat.le_refl _)]
      exact R.kpo n o hn'

/-- A new block that stays as it is. -/
theorem Rel.fix {g : G} {h : Hp} {w w' : World} (R : Rel g h w) (o : Obj) (hb : w'.heap[w.heap.size]? = some o) (hw : ∀ b, b < w.heap.size → w'.heap[b]? = w.heap[b]?) :
    Le g (g.fix w.heap.size o) ∧ Rel (g.fix w.heap.size o) h w' := by
  have hnew : g.φ w.heap.size = none := by
    cases hp : g.φ w.heap.size with
    | none => rfl
    | some q => have := (Array.getElem?_eq_some_iff.1 (R.fr _ _ hp)).1; omega
  have hle : Le g (g.fix w.heap.size o) := by
    refine ⟨fun b q hq => ?_, Nat.le_refl _, fun _ _ => Nat.le_refl _, fun _ _ _ _ => rfl, rfl, rfl⟩
    show (if b = w.heap.size then some o else g.φ b) = some q
    rw [if_neg (fun e => by subst e; rw [hnew] at hq; cases hq)]
    exact hq
  have hlt : ∀ n o, h.get n = some o → blk g n o < w.heap.size := by
    intro n o hn
    have := (R.ob n o hn).2.2
    cases o with
    | arr es els => obtain ⟨c, ty, vs, h1, _⟩ := this; exact (Array.getElem?_eq_some_iff.1 h1).1
    | mp kvs => obtain ⟨es, cl, h1, _⟩ := this; exact (Array.getElem?_eq_some_iff.1 h1).1
    | lp b e s => obtain ⟨r, h1, _⟩ := this; exact (Array.getElem?_eq_some_iff.1 h1).1
  refine ⟨hle, ⟨R.nx, fun b q hq => ?_, R.nd, fun n q hn => ?_, fun n m q p hn hm hnm => R.sep n m q p hn hm hnm, fun n q hn => ?_, fun b q hq => ?_, R.kpo⟩⟩
  · have hq' : (if b = w.heap.size then some o else g.φ b) = some q := hq
    split at hq'
    · rename_i e; subst e; cases hq'; exact hb
    · have h1 := R.fr b q hq'
      rw [hw b (Array.getElem?_eq_some_iff.1 h1).1]
      exact h1
  · obtain ⟨h1, h2, h3⟩ := R.ob n q hn
    exact ⟨h1, h2, h3.mono hle h1 (by omega) (hw _ (hlt n q hn))⟩
  · show (if blk g n q = w.heap.size then some o else g.φ (blk g n q)) = none
    rw [if_neg (by have := hlt n q hn; omega)]
    exact R.out n q hn
  · have h1 := R.kp b q hq
    have h2 := (Array.getElem?_eq_some_iff.1 h1.1).1
    refine ⟨by rw [hw b h2]; exact h1.1, ?_⟩
    show (if b = w.heap.size then some o else g.φ b) = none
    rw [if_neg (by omega)]
    exact h1.2

theorem Rel.kill {g : G} {h : Hp} {w : World} (R : Rel g h w) (n : Nat) : Rel g (h.kill n) w := by
  have hg : ∀ m o, (h.kill n).get m = some o → h.get m = some o := by
    intro m o hm
    unfold Hp.get Hp.kill at hm
    rw [look_del m R.nd] at hm
    split at hm
    · cases hm
    · exact hm
  exact ⟨R.nx, R.fr, (del_keys h.objs n).nodup R.nd, fun m o hm => R.ob m o (hg m o hm), fun m k o p hm hk hmk => R.sep m k o p (hg m o hm) (hg k p hk) hmk, fun m o hm => R.out m o (hg m o hm), R.kp, fun m o hm => R.kpo m o (hg m o hm)⟩

/-- The world moves, no block that is known turns. -/
theorem Rel.world {g : G} {h : Hp} {w w' : World} (R : Rel g h w) (hw : ∀ b, b < w.heap.size → w'.heap[b]? = w.heap[b]?) : Rel g h w' := by
  have hlt : ∀ n o, h.get n = some o → blk g n o < w.heap.size := by
    intro n o hn
    have := (R.ob n o hn).2.2
    cases o with
    | arr es els => obtain ⟨c, ty, vs, h1, _⟩ := this; exact (Array.getElem?_eq_some_iff.1 h1).1
    | mp kvs => obtain ⟨es, cl, h1, _⟩ := this; exact (Array.getElem?_eq_some_iff.1 h1).1
    | lp b e s => obtain ⟨r, h1, _⟩ := this; exact (Array.getElem?_eq_some_iff.1 h1).1
  refine ⟨R.nx, fun b q hq => ?_, R.nd, fun n q hn => ?_, R.sep, R.out, fun b q hq => ?_, R.kpo⟩
  · have h1 := R.fr b q hq
    rw [hw b (Array.getElem?_eq_some_iff.1 h1).1]; exact h1
  · obtain ⟨h1, h2, h3⟩ := R.ob n q hn
    exact ⟨h1, h2, h3.mono (Le.refl g) h1 (by omega) (hw _ (hlt n q hn))⟩
  · have h1 := R.kp b q hq
    exact ⟨by rw [hw b (Array.getElem?_eq_some_iff.1 h1.1).1]; exact h1.1, h1.2⟩

/-! ### Shapes of the heap after a change -/
theorem get_alloc {h : Hp} {O : Ob} (m : Nat) : (h.alloc O).get m = if m = h.next then some O else h.get m := rfl
theorem nodup_alloc {g : G} {h : Hp} {w : World} (R : Rel g h w) (O : Ob) : ((h.alloc O).objs.map (·.1)).Nodup := by
  show (h.next :: h.objs.map (·.1)).Nodup
  rw [List.nodup_cons]
  refine ⟨fun hm => ?_, R.nd⟩
  obtain ⟨⟨k, o⟩, hko, rfl⟩ := List.mem_map.1 hm
  have := (R.ob h.next o (look_of_mem R.nd hko)).1
  rw [R.nx] at this
  omega
theorem get_set {h : Hp} {n : Nat} {O q : Ob} (hq : h.get n = some q) (m : Nat) : (h.set n O).get m = if m = n then some O else h.get m := look_upd m hq
theorem nodup_set {g : G} {h : Hp} {w : World} (R : Rel g h w) (n : Nat) (O : Ob) : ((h.set n O).objs.map (·.1)).Nodup := by
  show ((upd h.objs n O).map (·.1)).Nodup
  rw [upd_keys]; exact R.nd

/-- A new object in a new block. -/
theorem Rel.alloc {g : G} {h : Hp} {w w' : World} (R : Rel g h w) (O : Ob) (pl : Pl) (hb : pl.b = w.heap.size) (hw : ∀ b, b < w.heap.size → w'.heap[b]? = w.heap[b]?)
    (hO : ObRep (g.put h.next O.tot pl) w' h.next O) : Le g (g.put h.next O.tot pl) ∧ Rel (g.put h.next O.tot pl) (h.alloc O) w' := by
  refine R.put h.next O pl (.inr R.nx) ?_ (nodup_alloc R O) (fun m o hm => ?_) (.inl hb) (fun b hb' _ => hw b hb') hO
  · show h.next + 1 = max g.N (h.next + 1)
    rw [R.nx]; omega
  · rw [get_alloc] at hm
    split at hm
    · cases hm; exact .inl ⟨by assumption, rfl⟩
    · exact .inr ⟨by assumption, hm⟩

/-- An object is changed in its place; its length stays. -/
theorem Rel.set {g : G} {h : Hp} {w w' : World} (R : Rel g h w) {n : Nat} {O q : Ob} (hq : h.get n = some q) (ht : O.tot = q.tot)
    (hw : ∀ b, b < w.heap.size → b ≠ blk g n q → w'.heap[b]? = w.heap[b]?) (hO : ObRep g w' n O) : Rel g (h.set n O) w' := by
  obtain ⟨h1, h2, h3⟩ := R.ob n q hq
  have hpl : (g.put n O.tot (g.μ n O.tot)).φ = g.φ ∧ (g.put n O.tot (g.μ n O.tot)) = g := by
    refine ⟨rfl, ?_⟩
    cases g with
    | mk φ μ N B F =>
      simp only [G.put, G.mk.injEq, true_and, and_true]
      refine ⟨?_, by simp at h1; omega, ?_⟩
      · funext a b
        split
        · rename_i e; rw [e.1, e.2]
        · rfl
      · funext a
        split
        · rename_i e; subst e; rw [ht]; exact h2.symm
        · rfl
  have := R.put (h' := h.set n O) (w' := w') n O (g.μ n O.tot) (.inl ⟨h1, .inr ⟨by rw [ht, h2], rfl⟩⟩) (by show h.next = max g.N (n + 1); rw [R.nx]; omega) (nodup_set R n O)
    (fun m o hm => by
      rw [get_set hq] at hm
      split at hm
      · cases hm; exact .inl ⟨by assumption, rfl⟩
      · exact .inr ⟨by assumption, hm⟩)
    (.inr (.inl ⟨n, q, hq, by rw [ht]; rfl, fun m _ _ hmk => hmk⟩)) (fun b hb hne => hw b hb (by rw [ht] at hne; exact hne)) (by rw [hpl.2]; exact hO)
  rw [hpl.2] at this
  exact this.2

/-- What an operation on the heap gives. -/
def GivesH (P : Program) (g : G) (w : World) (s : Sem Value) (x : V) (h' : Hp) : Prop :=
  ∃ v w' g', s.run P w = .ok v w' ∧ Le g g' ∧ Rel g' h' w' ∧ Rep g' x v ∧ Fx w w'
def GivesU (P : Program) (g : G) (w : World) (s : Sem Unit) (h' : Hp) : Prop :=
  ∃ w' g', s.run P w = .ok () w' ∧ Le g g' ∧ Rel g' h' w' ∧ Fx w w'

theorem Gives.h {P : Program} {g : G} {h : Hp} {w : World} {s : Sem Value} {x : V} (R : Rel g h w) (hg : Gives P g w s x) : GivesH P g w s x h := by
  obtain ⟨v, hr, hx⟩ := hg
  exact ⟨v, w, g, hr, Le.refl g, R, hx, Fx.refl w⟩

theorem heap_alloc (w : World) (o : Obj) : (w.alloc o).heap[w.heap.size]? = some o ∧ (∀ b, b < w.heap.size → (w.alloc o).heap[b]? = w.heap[b]?) ∧ Fx w (w.alloc o) := by
  refine ⟨?_, fun b hb => ?_, ⟨rfl, rfl, rfl, ?_⟩⟩
  · show (w.heap.push o)[w.heap.size]? = some o
    simp
  · show (w.heap.push o)[b]? = w.heap[b]?
    rw [Array.getElem?_push, if_neg (by omega)]
  · show w.heap.size ≤ (w.heap.push o).size
    simp

theorem heap_setRow {w : World} {b : Nat} {c c' : Array Value} {ty : TypeId} (hb : w.heap[b]? = some (.cells c ty (0, 0))) :
    (w.setRow b c').heap[b]? = some (.cells c' ty (0, 0)) ∧ (∀ d, d < w.heap.size → d ≠ b → (w.setRow b c').heap[d]? = w.heap[d]?) ∧ Fx w (w.setRow b c') := by
  refine ⟨setRow_heap w b c c' ty (0, 0) hb, fun d hd hne => ?_, ⟨rfl, rfl, rfl, by simp [World.setRow]⟩⟩
  simp only [World.setRow, Array.getElem?_modify]
  rw [if_neg (fun e => hne e.symm)]

end Zv
end
section
set_option linter.unusedSimpArgs false
set_option linter.unusedVariables false
set_option linter.unusedSimpArgs false
namespace Zv
open Go

section
variable {P : Program} {g : G} {h : Hp} {w : World}

theorem cell_of {b p : Nat} {v : Value} (R : Rel g h w) (hc : cellφ g.φ b p = some v) : w.cell? ⟨b, p, none⟩ = some v := by
  unfold cellφ at hc
  split at hc
  · rename_i c ty fr hb
    simp [World.cell?, R.fr _ _ hb, hc]
  · cases hc

theorem cell_row {b p : Nat} {c : Array Value} {ty : TypeId} {v : Value} (hb : w.heap[b]? = some (.cells c ty (0, 0))) (hc : c[p]? = some v) : w.cell? ⟨b, p, none⟩ = some v := by
  simp [World.cell?, hb, hc]

theorem row_get {n tot es : Nat} {els : List V} (hr : h.row n tot = some (es, els)) : h.get n = some (.arr es els) ∧ els.length = tot := by
  unfold Hp.row at hr
  split at hr
  · rename_i e l hg
    split at hr
    · cases hr; exact ⟨hg, by assumption⟩
    · cases hr
  · cases hr

theorem loadVar_run {t : TypeId} {b p : Nat} {v : Value} {vs : List Value} (hu : (P.underlying t).isSome = true) (hi : (P.info? t).isSome = true) (off : Nat)
    (hv : if agOf P t = true then v = .agg ((vs.drop off).take (P.cellsOf t)).toArray ∧ off + P.cellsOf t ≤ vs.length else vs[off]? = some v)
    (hc : ∀ j u, vs[j]? = some u → w.cell? ⟨b, p + j, none⟩ = some u) : (loadVar t ⟨b, p + off, none⟩).run P w = .ok v w := by
  simp only [loadVar, Sem.run_bind, run_isAgg' hu, Result.andThen_ok]
  split at hv
  · rename_i hag
    obtain ⟨rfl, hle⟩ := hv
    rw [if_pos hag]
    have hl : ((vs.drop off).take (P.cellsOf t)).length = P.cellsOf t := by rw [List.length_take, List.length_drop]; omega
    have := run_loadCells_list (P := P) w ⟨b, p + off, none⟩ ((vs.drop off).take (P.cellsOf t)) (fun j u hj => by
      rw [add_none, Nat.add_assoc]
      refine hc (off + j) u ?_
      rw [List.getElem?_take] at hj
      split at hj
      · rw [List.getElem?_drop] at hj; exact hj
      · cases hj)
    rw [hl] at this
    simp only [Sem.run_bind, run_sizeOf' hi, Result.andThen_ok, this, Sem.run_pure]
  · rename_i hag
    rw [if_neg hag]
    simp [hc off v hv]

/-- An element of a row, in memory. -/
theorem elem_seg {n i : Nat} {es : Nat} {els : List V} {e : V} (R : Rel g h w) (hn : h.get n = some (.arr es els)) (he : els[i]? = some e) :
    ∃ seg, Reps g e.cells seg ∧ (∀ u, u ∈ seg → leaf u) ∧ seg.length = es ∧ (∀ j u, seg[j]? = some u → w.cell? ⟨(g.μ n els.length).b, (g.μ n els.length).o + i * es + j, none⟩ = some u) ∧
      (g.μ n els.length).es = es := by
  obtain ⟨c, ty, vs, h1, h2, h3, h4, h5, h6, h7⟩ := (R.ob n _ hn).2.2
  have hr := (h5.drop (i * es)).take es
  rw [flat_get h4 he] at hr
  refine ⟨(vs.drop (i * es)).take es, hr, fun u hu => h6 u (List.mem_of_mem_drop (List.mem_of_mem_take hu)), ?_, fun j u hj => ?_, h3.1⟩
  · rw [hr.length]; exact h4 e (mem_of_get he)
  · rw [List.getElem?_take] at hj
    split at hj
    · rw [List.getElem?_drop] at hj
      have := h7 _ _ hj
      exact cell_row h1 (by rw [← this]; congr 1; omega)
    · cases hj

theorem ld_ok {t : TypeId} {ag : Bool} {sz : Nat} {x z : V} {a : Value} (hu : (P.underlying t).isSome = true) (hi : (P.info? t).isSome = true) (hag : agOf P t = ag) (hs : P.cellsOf t = sz)
    (R : Rel g h w) (hl : ld ag sz h x = some z) (ha : Rep g x a) : Gives P g w (Instr.loadAt t a) z := by
  subst hag hs
  unfold ld at hl
  split at hl
  · rename_i x off
    simp only [Option.map_eq_some_iff] at hl
    obtain ⟨y, hy, rfl⟩ := hl
    cases ha with | fp _ _ b p vs hr hat =>
    obtain ⟨v, hv, he⟩ := partD_ok hy hr
    exact ⟨v, loadVar_run hu hi off he (fun j u hj => cell_of R (hat j u hj)), .d _ _ hv⟩
  · rename_i n tot i off
    simp only [Option.bind_eq_some_iff] at hl
    obtain ⟨⟨es, els⟩, hrow, e, he, hl⟩ := hl
    obtain ⟨hn, rfl⟩ := row_get hrow
    simp only at he hl
    obtain ⟨seg, s1, s2, s3, s4, s5⟩ := elem_seg R hn he
    cases ha with | ptr _ _ _ _ hN hB =>
    rw [s5]
    split at hl
    · rename_i hw
      obtain ⟨h1, rfl, h3⟩ := hw
      have hpart : partV (agOf P t) 0 (P.cellsOf t) e.cells = some z → Gives P g w (Instr.loadAt t (.pointer (some ⟨(g.μ n els.length).b, (g.μ n els.length).o + i * es + 0, none⟩))) z := by
        intro hl
        obtain ⟨v, hv, hq⟩ := partV_ok hl s1 s2
        exact ⟨v, loadVar_run hu hi 0 hq s4, hv⟩
      have hrun : (Instr.loadAt t (.pointer (some ⟨(g.μ n els.length).b, (g.μ n els.length).o + i * es + 0, none⟩))).run P w = .ok (.agg seg.toArray) w := by
        refine loadVar_run (vs := seg) hu hi 0 ?_ s4
        rw [if_pos h1]
        refine ⟨?_, by omega⟩
        rw [List.drop_zero, List.take_of_length_le (by omega)]
      split at hl
      · cases hl; exact ⟨_, hrun, .d _ _ (.agg _ _ (Reps.to_map_d s1 s2))⟩
      · cases hl; exact ⟨_, hrun, .agg _ _ s1 s2⟩
      · exact hpart hl
    · obtain ⟨v, hv, hq⟩ := partV_ok hl s1 s2
      exact ⟨v, loadVar_run hu hi off hq s4, hv⟩
  · cases hl

/-! ### Stores -/
theorem leaf_one {v : Value} (h : leaf v) : v.oneCell' = true := by cases v <;> first | rfl | exact h.elim

theorem mkAgg_cells : ∀ (l : List V), (mkAgg l).cells = l := by
  have key : ∀ (l : List V) (ds : List D), asD l = some ds → ds.map V.d = l := by
    intro l
    induction l with
    | nil => intro ds h; simp [asD] at h; subst h; rfl
    | cons x l ih =>
      intro ds h
      cases x <;> simp only [asD] at h <;> first | cases h | skip
      simp only [Option.map_eq_some_iff] at h
      obtain ⟨r, hr, rfl⟩ := h
      rw [List.map_cons, ih r hr]
  intro l
  unfold mkAgg
  split
  · rename_i ds hds; exact key l ds hds
  · rfl

theorem flat_split {α β : Type} {f : α → List β} {l : List α} {i : Nat} {x : α} (h : l[i]? = some x) : l.flatMap f = (l.take i).flatMap f ++ f x ++ (l.drop (i + 1)).flatMap f := by
  have hlt := lt_of_get h
  rw [List.getElem?_eq_getElem hlt] at h
  cases h
  have e : l = l.take i ++ (l[i] :: l.drop (i + 1)) := by rw [← List.drop_eq_getElem_cons hlt, List.take_append_drop]
  rw [show l.flatMap f = (l.take i ++ (l[i] :: l.drop (i + 1))).flatMap f by rw [← e]]
  rw [List.flatMap_append, List.flatMap_cons, List.append_assoc]
theorem flat_set {α β : Type} {f : α → List β} {l : List α} {i : Nat} {x y : α} (h : l[i]? = some x) : (l.set i y).flatMap f = (l.take i).flatMap f ++ f y ++ (l.drop (i + 1)).flatMap f := by
  have hlt := lt_of_get h
  have h' : (l.set i y)[i]? = some y := by simp [hlt]
  rw [flat_split h', List.take_set, List.drop_set, if_pos (by omega)]
  congr 2
  rw [List.set_eq_of_length_le (by rw [List.length_take]; omega)]

/-- Cells of a row in which some are replaced. -/
theorem splice_at {c : Array Value} {o k : Nat} {vs xv : List Value} (hc : ∀ j v, vs[j]? = some v → c[o + j]? = some v) (hk : k + xv.length ≤ vs.length) :
    ∀ j v, (vs.take k ++ xv ++ vs.drop (k + xv.length))[j]? = some v → (c.toList.take (o + k) ++ xv ++ c.toList.drop (o + k + xv.length)).toArray[o + j]? = some v := by
  intro j v hj
  have hlast : vs.length = 0 ∨ o + vs.length ≤ c.size := by
    rcases Nat.eq_zero_or_pos vs.length with h0 | h0
    · exact .inl h0
    · right
      have := hc (vs.length - 1) vs[vs.length - 1] (by rw [List.getElem?_eq_getElem (by omega)])
      have h2 := (Array.getElem?_eq_some_iff.1 this).1
      omega
  have hs : o + k ≤ c.toList.length ∨ (k = 0 ∧ xv = [] ∧ vs = []) := by
    rcases hlast with h0 | h0
    · right
      refine ⟨by omega, List.eq_nil_of_length_eq_zero (by omega), List.eq_nil_of_length_eq_zero h0⟩
    · left; rw [Array.length_toList]; omega
  rcases hs with hs | ⟨rfl, rfl, rfl⟩
  · have hget : ∀ i, c.toList[i]? = c[i]? := fun i => Array.getElem?_toList
    have hta : ∀ (l : List Value) (i : Nat), l.toArray[i]? = l[i]? := fun l i => by simp
    rw [hta]
    rw [List.append_assoc] at hj ⊢
    have l1 : (vs.take k).length = k := by rw [List.length_take]; omega
    have l2 : (c.toList.take (o + k)).length = o + k := by rw [List.length_take]; omega
    by_cases h1 : j < k
    · rw [List.getElem?_append_left (by omega), List.getElem?_take, if_pos h1] at hj
      rw [List.getElem?_append_left (by omega), List.getElem?_take, if_pos (by omega), hget]
      exact hc j v hj
    · rw [List.getElem?_append_right (by omega), l1] at hj
      rw [List.getElem?_append_right (by omega), l2, show o + j - (o + k) = j - k from by omega]
      by_cases h2 : j - k < xv.length
      · rw [List.getElem?_append_left h2] at hj ⊢
        exact hj
      · rw [List.getElem?_append_right (by omega), List.getElem?_drop] at hj ⊢
        rw [hget]
        have := hc _ _ hj
        rw [← this]
        congr 1
        omega
  · simp at hj

theorem storeVar_run {t : TypeId} {b p : Nat} {ty : TypeId} {c : Array Value} {v : Value} (hi : (P.info? t).isSome = true) (hs : v.cells.size = P.cellsOf t) (hb : w.heap[b]? = some (.cells c ty (0, 0)))
    (hle : p + v.cells.size ≤ c.size) (hf : ∀ u, u ∈ v.cells.toList → leaf u) :
    (storeVar t ⟨b, p, none⟩ v).run P w = .ok () (w.setRow b (c.toList.take p ++ v.cells.toList ++ c.toList.drop (p + v.cells.toList.length)).toArray) := by
  have := run_storeCells_at P b p ty v.cells.toList 0 c w hb (by rw [Array.length_toList]; omega) (fun u hu => leaf_one (hf u hu))
  simp only [Nat.add_zero] at this
  simp only [storeVar, Sem.run_bind, run_sizeOf' hi, Result.andThen_ok]
  rw [if_neg (fun hh => hh hs)]
  exact this

theorem st_ok {t : TypeId} {sz : Nat} {x y : V} {a b : Value} {h' : Hp} (hi : (P.info? t).isSome = true) (hs : P.cellsOf t = sz)
    (R : Rel g h w) (hst : st sz h x y = some h') (ha : Rep g x a) (hb : Rep g y b) : GivesU P g w (Instr.storeAt t a b) h' := by
  subst hs
  unfold st at hst
  split at hst
  · rename_i n tot i off
    simp only [Option.bind_eq_some_iff] at hst
    obtain ⟨⟨es, els⟩, hrow, e, he, hst⟩ := hst
    obtain ⟨hn, rfl⟩ := row_get hrow
    simp only at he hst
    split at hst
    · rename_i hy
      obtain ⟨hy1, hy2⟩ := hy
      obtain ⟨yr, yf⟩ := hb.cells hy1
      have hbs : b.cells.size = P.cellsOf t := by have := yr.length; rw [Array.length_toList] at this; omega
      obtain ⟨c, ty, vs, h1, h2, h3, h4, h5, h6, h7⟩ := (R.ob n _ hn).2.2
      have hes : e.cells.length = es := h4 e (mem_of_get he)
      have hil := lt_of_get he
      have hvl : vs.length = els.length * es := by rw [h5.length, flat_len h4]
      have hi1 : (i + 1) * es ≤ els.length * es := Nat.mul_le_mul_right es hil
      have hi2 : (i + 1) * es = i * es + es := by rw [Nat.add_mul]; omega
      cases ha with | ptr _ _ _ _ hN hB =>
      -- the new element
      obtain ⟨e', he', hoff, hh⟩ : ∃ e', e'.cells = e.cells.take off ++ y.cells ++ e.cells.drop (off + P.cellsOf t) ∧ off + P.cellsOf t ≤ es ∧ h' = h.set n (.arr es (els.set i e')) := by
        split at hst
        · rename_i hw
          obtain ⟨rfl, hw2⟩ := hw
          cases hst
          refine ⟨y, ?_, by omega, rfl⟩
          rw [List.take_zero, List.nil_append, List.drop_of_length_le (by omega), List.append_nil]
        · split at hst
          · rename_i hw
            cases hst
            exact ⟨_, mkAgg_cells _, by omega, rfl⟩
          · cases hst
      subst hh
      have hk : i * es + off + b.cells.toList.length ≤ vs.length := by rw [Array.length_toList, hbs, hvl]; omega
      have hcs : (g.μ n els.length).o + (i * es + off) + b.cells.size ≤ c.size := by
        rw [Array.length_toList] at hk
        have := h3.2
        omega
      have hrun := storeVar_run (P := P) (t := t) (p := (g.μ n els.length).o + (i * es + off)) hi hbs h1 (by omega) yf
      obtain ⟨k1, k2, k3⟩ := heap_setRow (c' := (c.toList.take ((g.μ n els.length).o + (i * es + off)) ++ b.cells.toList ++ c.toList.drop ((g.μ n els.length).o + (i * es + off) + b.cells.toList.length)).toArray) h1
      refine ⟨_, g, ?_, Le.refl g, ?_, k3⟩
      · show (Instr.storeAt t (.pointer (some _)) b).run P w = _
        rw [h3.1, Nat.add_assoc]
        exact hrun
      · refine R.set hn (by simp [Ob.tot]) (fun d hd hne => k2 d hd hne) ?_
        simp only [ObRep]
        rw [List.length_set]
        refine ⟨_, ty, vs.take (i * es + off) ++ b.cells.toList ++ vs.drop (i * es + off + b.cells.toList.length), k1, ?_, h3, ?_, ?_, ?_, splice_at h7 hk⟩
        · rw [← h2]
          simp only [List.size_toArray, List.length_append, List.length_take, List.length_drop, Array.length_toList]
          omega
        · intro q hq
          rcases List.mem_or_eq_of_mem_set hq with hq | rfl
          · exact h4 q hq
          · rw [he']
            simp only [List.length_append, List.length_take, List.length_drop]
            omega
        · have hflat : (els.set i e').flatMap V.cells = (els.flatMap V.cells).take (i * es + off) ++ y.cells ++ (els.flatMap V.cells).drop (i * es + off + P.cellsOf t) := by
            rw [flat_set he, flat_split he, he']
            have hA : ((els.take i).flatMap V.cells).length = i * es := by
              rw [flat_len (fun x hx => h4 x (List.mem_of_mem_take hx)), List.length_take, Nat.min_eq_left (by omega)]
            have t1 : ((els.take i).flatMap V.cells ++ e.cells ++ (els.drop (i + 1)).flatMap V.cells).take (i * es + off) = (els.take i).flatMap V.cells ++ e.cells.take off := by
              rw [List.append_assoc, List.take_append, List.take_of_length_le (by omega), hA, show i * es + off - i * es = off from by omega, List.take_append_of_le_length (by omega)]
            have t2 : ((els.take i).flatMap V.cells ++ e.cells ++ (els.drop (i + 1)).flatMap V.cells).drop (i * es + off + P.cellsOf t) = e.cells.drop (off + P.cellsOf t) ++ (els.drop (i + 1)).flatMap V.cells := by
              rw [List.append_assoc, List.drop_append, List.drop_of_length_le (by omega), hA, List.nil_append, show i * es + off + P.cellsOf t - i * es = off + P.cellsOf t from by omega, List.drop_append_of_le_length (by omega)]
            rw [t1, t2]
            simp only [List.append_assoc]
          rw [hflat, Array.length_toList, hbs]
          exact ((h5.take _).app yr).app (h5.drop _)
        · intro u hu
          simp only [List.mem_append] at hu
          rcases hu with (hu | hu) | hu
          · exact h6 u (List.mem_of_mem_take hu)
          · exact yf u hu
          · exact h6 u (List.mem_of_mem_drop hu)
    · cases hst
  · cases hst

end
end Zv
end
section
set_option linter.unusedSimpArgs false
set_option linter.unusedVariables false
set_option linter.unusedSimpArgs false
namespace Zv
open Go

section
variable {P : Program} {g : G} {h : Hp} {w : World}

/-- A new row of whole elements. -/
theorem newRow_ok {es : Nat} {els : List V} {vs : List Value} {c : Array Value} {ty : TypeId} {w0 : World} (R : Rel g h w) (hw0 : w0.heap = w.heap)
    (hes : ∀ x, x ∈ els → x.cells.length = es) (hr : Reps g (els.flatMap V.cells) vs) (hf : ∀ u, u ∈ vs → leaf u) (hc : ∀ (j : Nat) (v : Value), vs[j]? = some v → c[j]? = some v) (hle : els.length * es ≤ c.size) :
    Le g (g.put h.next els.length ⟨w.heap.size, 0, es, c.size⟩) ∧ Rel (g.put h.next els.length ⟨w.heap.size, 0, es, c.size⟩) (h.alloc (.arr es els)) (w0.alloc (.cells c ty)) ∧
      (g.put h.next els.length ⟨w.heap.size, 0, es, c.size⟩).μ h.next els.length = ⟨w.heap.size, 0, es, c.size⟩ := by
  have hμ : (g.put h.next els.length ⟨w.heap.size, 0, es, c.size⟩).μ h.next els.length = ⟨w.heap.size, 0, es, c.size⟩ := by simp [G.put]
  have hleq := Le.put (g := g) (k := h.next) (tot := els.length) (pl := ⟨w.heap.size, 0, es, c.size⟩) (.inr R.nx)
  have hsz : w0.heap.size = w.heap.size := by rw [hw0]
  obtain ⟨a1, a2, _⟩ := heap_alloc w0 (.cells c ty)
  have := R.alloc (w' := w0.alloc (.cells c ty)) (.arr es els) ⟨w.heap.size, 0, es, c.size⟩ rfl (fun b hb => by rw [a2 b (by omega), hw0]) (by
    simp only [ObRep, Ob.tot]
    rw [hμ]
    rw [hsz] at a1
    exact ⟨c, ty, vs, a1, rfl, ⟨rfl, by simpa using hle⟩, hes, hr.mono hleq, hf, fun j v hj => by rw [Nat.zero_add]; exact hc j v hj⟩)
  exact ⟨this.1, this.2, hμ⟩

theorem newVar_ok {t : TypeId} {es : Nat} {x : V} {v : Value} (R : Rel g h w) (hx : Rep g x v) (hs : stor x = true) (hl : x.cells.length = es) :
    GivesH P g w (do pure (.pointer (some (← newVar t v)))) (.ptr h.next 1 0 0) (h.alloc (.arr es [x])) := by
  obtain ⟨xr, xf⟩ := hx.cells hs
  have hvs : v.cells.size = es := by have := xr.length; rw [Array.length_toList] at this; omega
  obtain ⟨k1, k2, k3⟩ := newRow_ok (es := es) (els := [x]) (vs := v.cells.toList) (c := v.cells) (ty := t) (w0 := w) R rfl (by simpa using hl) (by simpa using xr) xf (fun j u hj => by rw [← Array.getElem?_toList]; exact hj) (by simp [hvs])
  refine ⟨.pointer (some ⟨w.heap.size, 0, none⟩), _, _, rfl, k1, k2, ?_, (heap_alloc w (.cells v.cells t)).2.2⟩
  · have := Rep.ptr (g := g.put h.next 1 ⟨w.heap.size, 0, es, v.cells.size⟩) h.next 1 0 0 (by show h.next < max g.N (h.next + 1); omega) (by simp [G.put])
    rw [show (g.put h.next 1 ⟨w.heap.size, 0, es, v.cells.size⟩).μ h.next 1 = ⟨w.heap.size, 0, es, v.cells.size⟩ from k3] at this
    simpa using this

theorem alloc_ok {t : TypeId} {i : TypeInfo} {zv : Value} {es : Nat} {z : V} (R : Rel g h w) (hi : P.info? t = some i) (hz : i.zero = some zv) (hr : Rep g z zv) (hs : stor z = true) (hl : z.cells.length = es) (old : Value) :
    GivesH P g w (Instr.alloc t true old) (.ptr h.next 1 0 0) (h.alloc (.arr es [z])) := by
  obtain ⟨v, w', g', h1, h2⟩ := newVar_ok (P := P) (t := t) R hr hs hl
  refine ⟨v, w', g', ?_, h2⟩
  rw [← h1]
  cases old <;> simp [Instr.alloc, zeroValue, typeInfo, hi, hz]

theorem box_ok {t : TypeId} {es : Nat} {x : V} {v : Value} (R : Rel g h w) (hx : Rep g x v) (hs : stor x = true) (hl : x.cells.length = es) :
    GivesH P g w (Instr.box t v) (.ptr h.next 1 0 0) (h.alloc (.arr es [x])) := newVar_ok R hx hs hl

/-! ### Slice literals -/

theorem fillAll {es : Nat} : ∀ (vs : List Value) (k : Nat) (c : Array Value), c.size = (k + vs.length) * es → (∀ v, v ∈ vs → v.cells.size = es) →
    Instr.fill (fun i => some (i * es, es)) c ((vs.zipIdx k).map fun p => (p.2, p.1)) = some (c.toList.take (k * es) ++ vs.flatMap (fun v => v.cells.toList)).toArray
  | [], k, c, hc, _ => by
    simp only [List.zipIdx_nil, List.map_nil, Instr.fill, List.flatMap_nil, List.append_nil]
    rw [List.take_of_length_le (by rw [Array.length_toList]; simp at hc; omega)]
  | v :: vs, k, c, hc, hv => by
    have hvs : v.cells.size = es := hv v (by simp)
    have hmul : (k + (vs.length + 1)) * es = k * es + es + vs.length * es := by rw [Nat.add_mul, Nat.add_mul]; omega
    have hmul1 : (k + 1) * es = k * es + es := by rw [Nat.add_mul]; omega
    rw [List.length_cons] at hc
    have hle : k * es + 0 + v.cells.toList.length ≤ c.size := by rw [Array.length_toList, hvs, hc, hmul]; omega
    simp only [List.zipIdx_cons, List.map_cons, Instr.fill]
    have hno : ¬ ((decide (v.cells.size ≠ es) || decide (k * es + v.cells.size > c.size)) = true) := by
      simp only [hvs, ne_eq, not_true_eq_false, decide_false, Bool.false_or, decide_eq_true_eq]
      rw [hc, hmul]; omega
    rw [if_neg hno]
    have e : (Array.foldl (fun (cs : Array Value) (p : Value × Nat) => cs.setIfInBounds (k * es + p.2) p.1) c v.cells.zipIdx) = (c.toList.take (k * es) ++ v.cells.toList ++ c.toList.drop (k * es + es)).toArray := by
      apply Array.ext'
      rw [← Array.foldl_toList, Array.toList_zipIdx]
      have := fold_set v.cells.toList c (k * es) 0 hle
      simp only [Nat.add_zero] at this
      rw [this, Array.length_toList, hvs]
    have hgo := fillAll vs (k + 1) (c.toList.take (k * es) ++ v.cells.toList ++ c.toList.drop (k * es + es)).toArray (by
      simp only [List.size_toArray, List.length_append, List.length_take, List.length_drop, Array.length_toList, hvs, hc]
      rw [show k + 1 + vs.length = k + (vs.length + 1) from by omega]
      rw [hmul]; omega) (fun u hu => hv u (by simp [hu]))
    rw [← e] at hgo
    refine hgo.trans ?_
    congr 2
    rw [e]
    simp only [List.flatMap_cons]
    rw [← List.append_assoc]
    congr 1
    have hl : (c.toList.take (k * es) ++ v.cells.toList).length = (k + 1) * es := by
      rw [List.length_append, List.length_take, Array.length_toList, Array.length_toList, hvs, hc, hmul, hmul1]; omega
    rw [List.append_assoc, ← List.append_assoc, ← hl, List.take_left']
    rfl

/-- Values that stand for a list, each storable and of es cells. -/
theorem flat_reps {es : Nat} : ∀ {xs : List V} {vs : List Value}, Reps g xs vs → (∀ x, x ∈ xs → stor x = true ∧ x.cells.length = es) →
    Reps g (xs.flatMap V.cells) (vs.flatMap fun v => v.cells.toList) ∧ (∀ u, u ∈ (vs.flatMap fun v => v.cells.toList) → leaf u) ∧ ∀ v, v ∈ vs → v.cells.size = es
  | _, _, .nil, _ => ⟨.nil, by simp, by simp⟩
  | _, _, .cons x l v vs hx hs, hp => by
    obtain ⟨i1, i2, i3⟩ := flat_reps hs (fun y hy => hp y (by simp [hy]))
    obtain ⟨c1, c2⟩ := hx.cells (hp x (by simp)).1
    refine ⟨by simpa using c1.app i1, fun u hu => ?_, fun u hu => ?_⟩
    · rw [List.flatMap_cons] at hu
      rcases List.mem_append.1 hu with hu | hu
      · exact c2 u hu
      · exact i2 u hu
    · rcases List.mem_cons.1 hu with rfl | hu
      · have := c1.length; rw [Array.length_toList, (hp x (by simp)).2] at this; exact this
      · exact i3 u hu

theorem Reps.normAll : ∀ {xs : List V} {vs : List Value}, Reps g xs vs → Reps g (xs.map Zv.norm) vs
  | _, _, .nil => .nil
  | _, _, .cons x l v vs hx hs => .cons _ _ v vs hx.norm (Reps.normAll hs)

theorem buildSlice_run {t e : TypeId} {i : TypeInfo} {zv : Value} {es : Nat} {vs : List Value} (ht : P.underlying t = some (.slice e)) (hi : P.info? e = some i) (hz : i.zero = some zv) (hs : P.cellsOf e = es)
    (hlen : vs.length * es ≤ 2 ^ 24) (hv : ∀ v, v ∈ vs → v.cells.size = es) :
    (Instr.buildSlice t vs.length ((vs.zipIdx 0).map fun p => (p.2, p.1)).toArray).run P w =
      .ok (.slice (some ⟨w.heap.size, 0, none⟩) vs.length vs.length) (w.alloc (.cells (vs.flatMap fun v => v.cells.toList).toArray e)) := by
  have hsz : (Go.sizeOf e).run P w = .ok es w := by rw [run_sizeOf' (by rw [hi]; rfl), hs]
  have hfill : ∀ c : Array Value, c.size = vs.length * es → Instr.fill (fun i => some (i * es, es)) c ((vs.zipIdx 0).map fun p => (p.2, p.1)) = some (vs.flatMap (fun v => v.cells.toList)).toArray := by
    intro c hc
    have := fillAll vs 0 c (by simpa using hc) hv
    simpa using this
  have hno : ¬ (vs.length * es > 2 ^ 24) := by omega
  simp only [Instr.buildSlice, Sem.run_bind, run_underlying ht, Result.andThen_ok, hsz, if_neg hno, Sem.run_pure]
  by_cases h0 : vs.length * es = 0
  · simp only [h0, if_true, Sem.run_pure, Result.andThen_ok]
    have := hfill #[] (by simp [h0])
    have e0 : ∀ f : Nat → Value, Array.map f (Array.range 0) = #[] := fun f => by simp [Array.range_zero']
    simp only [e0, Sem.run_bind, Sem.run_pure, Result.andThen_ok, this]
    rfl
  · simp only [h0, if_false, Sem.run_bind, zeroValue, typeInfo, run_program, Result.andThen_ok, hi, Sem.run_pure, hz]
    rw [hfill _ (by simp)]
    rfl

theorem bsl_ok {t e : TypeId} {i : TypeInfo} {zv : Value} {es : Nat} {xs : List V} {vs : List Value} (R : Rel g h w) (ht : P.underlying t = some (.slice e)) (hi : P.info? e = some i) (hz : i.zero = some zv) (hs : P.cellsOf e = es)
    (hlen : vs.length * es ≤ 2 ^ 24) (hr : Reps g xs vs) (hp : ∀ x, x ∈ xs → stor x = true ∧ x.cells.length = es) :
    GivesH P g w (Instr.buildSlice t vs.length ((vs.zipIdx 0).map fun p => (p.2, p.1)).toArray) (.tl (xs.map norm) (some false)) h := by
  have hp' : ∀ x, x ∈ xs.map norm → stor x = true ∧ x.cells.length = es := by
    intro x hx
    obtain ⟨y, hy, rfl⟩ := List.mem_map.1 hx
    exact ⟨stor_norm (hp y hy).1, by rw [norm_len]; exact (hp y hy).2⟩
  obtain ⟨f1, f2, f3⟩ := flat_reps hr.normAll hp'
  obtain ⟨a1, a2, a3⟩ := heap_alloc w (.cells (vs.flatMap fun v => v.cells.toList).toArray e)
  obtain ⟨b1, b2⟩ := R.fix _ a1 a2
  refine ⟨_, _, _, buildSlice_run ht hi hz hs hlen f3, b1, b2, ?_, a3⟩
  have hl : vs.length = (xs.map norm).length := by rw [List.length_map, hr.length]
  rw [hl]
  refine .tl _ _ es _ _ (fun x hx => (hp' x hx).2) (f1.mono b1) (.inr ⟨w.heap.size, 0, rfl, fun j v hj => ?_⟩) (fun q hq => by cases hq; simp) f2
  show cellφ (fun c => if c = w.heap.size then some _ else g.φ c) w.heap.size (0 + j) = some v
  simp only [cellφ, if_true]
  rw [Nat.zero_add]
  simpa using hj

theorem bslO_ok {t e : TypeId} {i : TypeInfo} {zv : Value} {es : Nat} {xs : List V} {vs : List Value} (R : Rel g h w) (ht : P.underlying t = some (.slice e)) (hi : P.info? e = some i) (hz : i.zero = some zv) (hs : P.cellsOf e = es)
    (hlen : vs.length * es ≤ 2 ^ 24) (hr : Reps g xs vs) (hp : ∀ x, x ∈ xs → stor x = true ∧ x.cells.length = es) :
    GivesH P g w (Instr.buildSlice t vs.length ((vs.zipIdx 0).map fun p => (p.2, p.1)).toArray) (.own h.next es xs.length 0 xs.length) (h.alloc (.arr es (xs.map norm))) := by
  have hp' : ∀ x, x ∈ xs.map norm → stor x = true ∧ x.cells.length = es := by
    intro x hx
    obtain ⟨y, hy, rfl⟩ := List.mem_map.1 hx
    exact ⟨stor_norm (hp y hy).1, by rw [norm_len]; exact (hp y hy).2⟩
  obtain ⟨f1, f2, f3⟩ := flat_reps hr.normAll hp'
  have hl : vs.length = xs.length := hr.length
  have hcs : ((vs.flatMap fun v => v.cells.toList).toArray).size = xs.length * es := by
    rw [List.size_toArray, flat_len (fun v hv => by rw [Array.length_toList]; exact f3 v hv), hl]
  obtain ⟨k1, k2, k3⟩ := newRow_ok (es := es) (els := xs.map norm) (vs := vs.flatMap fun v => v.cells.toList) (c := (vs.flatMap fun v => v.cells.toList).toArray) (ty := e) (w0 := w) R rfl (fun x hx => (hp' x hx).2) f1 f2 (fun j u hj => by simpa using hj) (by rw [hcs, List.length_map]; exact Nat.le_refl _)
  rw [List.length_map] at k1 k2 k3
  refine ⟨_, _, _, buildSlice_run ht hi hz hs hlen f3, k1, k2, ?_, (heap_alloc w _).2.2⟩
  rw [hl]
  refine .own h.next es xs.length 0 xs.length xs.length _ (by rw [k3]) (by show h.next < max g.N (h.next + 1); omega) (by simp [G.put]) (.inr ?_) (Nat.le_refl _) (by omega) (by omega) ?_
  · rw [k3]; simp
  · rw [k3]; simp [hcs] 

/-! ### Made slices -/

theorem made_reps {z : V} {zc : List Value} (hz : Reps g z.cells zc) : ∀ n, Reps g ((List.replicate n z).flatMap V.cells) ((List.replicate n zc).flatMap id)
  | 0 => .nil
  | n + 1 => by simpa [List.replicate_succ] using hz.app (made_reps hz n)

theorem madeCells_eq (zc : Array Value) (n : Nat) : (madeCells zc (n * zc.size)).toList = (List.replicate n zc.toList).flatMap id := by
  apply List.ext_getElem?
  intro j
  have hl : ((List.replicate n zc.toList).flatMap id).length = n * zc.size := by
    rw [flat_len (es := zc.size) (fun x hx => by rw [List.eq_of_mem_replicate hx]; simp), List.length_replicate]
  by_cases hj : j < n * zc.size
  · have hpos : 0 < zc.size := by
      rcases Nat.eq_zero_or_pos zc.size with h0 | h0
      · rw [h0] at hj; simp at hj
      · exact h0
    have hd : j / zc.size < n := Nat.div_lt_of_lt_mul (by rw [Nat.mul_comm]; exact hj)
    have hm : j % zc.size < zc.size := Nat.mod_lt _ hpos
    have e := flat_get (f := id) (es := zc.size) (l := List.replicate n zc.toList) (k := j / zc.size) (x := zc.toList) (fun x hx => by rw [List.eq_of_mem_replicate hx]; simp) (by simp [hd])
    have e2 : ((List.replicate n zc.toList).flatMap id)[j]? = zc.toList[j % zc.size]? := by
      have e3 : zc.toList[j % zc.size]? = (List.take zc.size (List.drop (j / zc.size * zc.size) (List.flatMap id (List.replicate n zc.toList))))[j % zc.size]? := by rw [e]; rfl
      rw [e3, List.getElem?_take, if_pos hm, List.getElem?_drop, Nat.mul_comm, Nat.div_add_mod]
    rw [e2]
    simp [madeCells, hj, hm]
  · rw [List.getElem?_eq_none (by rw [Array.length_toList, size_madeCells]; omega), List.getElem?_eq_none (by rw [hl]; omega)]

theorem mksl_run {t e : TypeId} {i : TypeInfo} {zv : Value} {es by_ : Nat} {x : V} {a : Value} {k : Nat} (ht : P.underlying t = some (.slice e)) (hi : P.info? e = some i) (hz : i.zero = some zv) (hs : P.cellsOf e = es)
    (hb : i.bytes = by_) (hk : ixOf x = some k) (hroom : k * by_ ≤ roomB) (h62 : k < 2 ^ 62) (ha : Rep g x a) :
    (Instr.makeSlice t a a).run P w = .ok (.slice (some ⟨w.heap.size, 0, none⟩) k k) (w.alloc (.cells (madeCells zv.cells (k * es)) e)) := by
  obtain ⟨q, rfl⟩ := ixOf_ok hk ha
  have hs' : i.size = es := by rw [← hs]; simp [Program.cellsOf, hi]
  have h1 : ((i.bytes * k : Nat) : Int) ≤ 281474976710656 := by
    have : k * by_ ≤ 140737488355328 := hroom
    rw [hb, Nat.mul_comm]; omega
  rw [Int.natCast_mul] at h1
  have := run_make (P := P) w t e i zv ht hi hz q q k k (by omega) (Int.le_refl _) h1 (by omega)
  simpa [hs'] using this

theorem mkslO_ok {t e : TypeId} {i : TypeInfo} {zv : Value} {es by_ : Nat} {z x y : V} {a : Value} {h' : Hp} (R : Rel g h w) (ht : P.underlying t = some (.slice e)) (hi : P.info? e = some i) (hz : i.zero = some zv) (hs : P.cellsOf e = es)
    (hb : i.bytes = by_) (hzr : Rep g z zv) (hzs : stor z = true) (hzl : z.cells.length = es) (H : mkslO z es by_ h x = some (y, h')) (ha : Rep g x a) : GivesH P g w (Instr.makeSlice t a a) y h' := by
  unfold mkslO at H
  simp only [Option.bind_eq_some_iff] at H
  obtain ⟨k, hk, H⟩ := H
  split at H
  · rename_i hc
    cases H
    obtain ⟨zr, zf⟩ := hzr.cells hzs
    have hzc : zv.cells.size = es := by have := zr.length; rw [Array.length_toList, hzl] at this; exact this
    have hme := madeCells_eq zv.cells k
    rw [hzc] at hme
    obtain ⟨k1, k2, k3⟩ := newRow_ok (es := es) (els := List.replicate k z) (vs := (List.replicate k zv.cells.toList).flatMap id) (c := madeCells zv.cells (k * es)) (ty := e) (w0 := w) R rfl
      (fun x hx => by rw [List.eq_of_mem_replicate hx]; exact hzl) (made_reps zr k) (fun u hu => by
        obtain ⟨l, hl, hu⟩ := List.mem_flatMap.1 hu
        rw [List.eq_of_mem_replicate hl] at hu
        exact zf u hu) (fun j u hj => by rw [← hme] at hj; rw [← Array.getElem?_toList]; exact hj) (by rw [List.length_replicate, size_madeCells]; exact Nat.le_refl _)
    rw [List.length_replicate] at k1 k2 k3
    refine ⟨_, _, _, mksl_run ht hi hz hs hb hk hc.1 hc.2 ha, k1, k2, ?_, (heap_alloc w _).2.2⟩
    refine .own h.next es k 0 k k _ (by rw [k3]) (by show h.next < max g.N (h.next + 1); omega) (by simp [G.put]) (.inr ?_) (Nat.le_refl _) (by omega) (by omega) ?_
    · rw [k3]; simp
    · rw [k3]; simp [size_madeCells]
  · cases H

theorem mkslT_ok {t e : TypeId} {i : TypeInfo} {zv : Value} {es by_ : Nat} {z x y : V} {a : Value} (R : Rel g h w) (ht : P.underlying t = some (.slice e)) (hi : P.info? e = some i) (hz : i.zero = some zv) (hs : P.cellsOf e = es)
    (hb : i.bytes = by_) (hzr : Rep g z zv) (hzs : stor z = true) (hzl : z.cells.length = es) (H : mkslT z by_ x = some y) (ha : Rep g x a) : GivesH P g w (Instr.makeSlice t a a) y h := by
  unfold mkslT at H
  simp only [Option.bind_eq_some_iff] at H
  obtain ⟨k, hk, H⟩ := H
  split at H
  · rename_i hc
    cases H
    obtain ⟨zr, zf⟩ := hzr.cells hzs
    have hzc : zv.cells.size = es := by have := zr.length; rw [Array.length_toList, hzl] at this; exact this
    have hme := madeCells_eq zv.cells k
    rw [hzc] at hme
    obtain ⟨a1, a2, a3⟩ := heap_alloc w (.cells (madeCells zv.cells (k * es)) e)
    obtain ⟨b1, b2⟩ := R.fix _ a1 a2
    refine ⟨_, _, _, mksl_run ht hi hz hs hb hk hc.1 hc.2 ha, b1, b2, ?_, a3⟩
    have := Rep.tl (g := g.fix w.heap.size (.cells (madeCells zv.cells (k * es)) e)) (List.replicate k z) (some false) es (some ⟨w.heap.size, 0, none⟩) ((List.replicate k zv.cells.toList).flatMap id)
      (fun x hx => by rw [List.eq_of_mem_replicate hx]; exact hzl) ((made_reps zr k).mono b1) (.inr ⟨w.heap.size, 0, rfl, fun j v hj => by
        show cellφ (fun c => if c = w.heap.size then some _ else g.φ c) w.heap.size (0 + j) = some v
        simp only [cellφ, if_true]
        rw [Nat.zero_add, ← Array.getElem?_toList, hme]
        exact hj⟩) (fun q hq => by cases hq; simp) (fun u hu => by
        obtain ⟨l, hl, hu⟩ := List.mem_flatMap.1 hu
        rw [List.eq_of_mem_replicate hl] at hu
        exact zf u hu)
    rw [List.length_replicate] at this
    exact this
  · cases H

end
end Zv
end
section
set_option linter.unusedSimpArgs false
set_option linter.unusedVariables false
set_option linter.unusedSimpArgs false
namespace Zv
open Go

section
variable {P : Program} {g : G} {h : Hp} {w : World}

/-- A slice's elements, in memory. -/
theorem elems_ok {x : V} {xs : List V} {a : Value} (R : Rel g h w) (H : elems h x = some xs) (ha : Rep g x a) :
    ∃ xa xc vs, a = .slice xa xs.length xc ∧ Reps g (xs.flatMap V.cells) vs ∧ (∀ u, u ∈ vs → leaf u) ∧
      (xs = [] ∨ ∃ b p, xa = some ⟨b, p, none⟩ ∧ ∀ j v, vs[j]? = some v → w.cell? ⟨b, p + j, none⟩ = some v) := by
  unfold elems at H
  split at H
  · rename_i l
    cases H
    have hd := ha.dI
    clear ha
    cases hd with | lst _ es0 cap q vs hes hc hr hz =>
    refine ⟨q, cap, vs, by rw [List.length_map], by rw [flat_d]; exact Reps.of_map_d hr, hr.leaf, ?_⟩
    rcases hz with hz | ⟨b, p, rfl, hat⟩
    · left; rw [hz]; rfl
    · exact .inr ⟨b, p, rfl, fun j v hj => cell_of R (hat j v hj)⟩
  · rename_i l nl
    cases H
    cases ha with | tl _ _ es0 q vs hes hr hz hn hf =>
    refine ⟨q, _, vs, rfl, hr, hf, ?_⟩
    rcases hz with hz | ⟨b, p, rfl, hat⟩
    · exact .inl hz
    · exact .inr ⟨b, p, rfl, fun j v hj => cell_of R (hat j v hj)⟩
  · rename_i n e tot off len
    simp only [Option.bind_eq_some_iff] at H
    obtain ⟨⟨es, els⟩, hrow, H⟩ := H
    obtain ⟨hn, rfl⟩ := row_get hrow
    simp only at H
    split at H
    · rename_i hle
      cases H
      cases ha with | own _ _ _ _ _ cap q hes hN hB hz hl hto hc hsz =>
      obtain ⟨c, ty, vs, h1, h2, h3, h4, h5, h6, h7⟩ := (R.ob n _ hn).2.2
      have hlen : ((els.drop off).take len).length = len := by rw [List.length_take, List.length_drop]; omega
      refine ⟨some q, cap, (vs.drop (off * es)).take (len * es), by rw [hlen], ?_, fun u hu => h6 u (List.mem_of_mem_drop (List.mem_of_mem_take hu)), ?_⟩
      · rw [← flat_take len (fun x hx => h4 x (List.mem_of_mem_drop hx)), ← flat_drop off h4]
        exact (h5.drop _).take _
      · rcases Nat.eq_zero_or_pos len with h0 | h0
        · left; subst h0; simp
        · right
          rcases hz with hz | rfl
          · omega
          · refine ⟨_, _, rfl, fun j v hj => ?_⟩
            rw [List.getElem?_take] at hj
            split at hj
            · rw [List.getElem?_drop] at hj
              rw [h3.1]
              exact cell_row h1 (by rw [← h7 _ _ hj]; congr 1; omega)
            · cases hj
    · cases H
  · cases H

/-- The same cells, where the world's memory is the same. -/
theorem firstCells_run {w0 : World} (hw : w0.heap = w.heap) {n m es : Nat} {xa : Option Addr} {xc : Nat} {vs : List Value} (hl : vs.length = n * es)
    (hz : n = 0 ∨ ∃ b p, xa = some ⟨b, p, none⟩ ∧ ∀ j v, vs[j]? = some v → w.cell? ⟨b, p + j, none⟩ = some v) :
    (Builtin.firstCells es n (.slice xa m xc)).run P w0 = .ok vs.toArray w0 := by
  have hcell : ∀ a, w0.cell? a = w.cell? a := fun a => by simp [World.cell?, hw]
  rcases hz with rfl | ⟨b, p, rfl, hc⟩
  · have : vs = [] := List.eq_nil_of_length_eq_zero (by simpa using hl)
    subst this
    cases xa with
    | none => rfl
    | some a => simp [Builtin.firstCells, loadCells, loadCellsFrom]
  · have := run_loadCells_list (P := P) w0 ⟨b, p, none⟩ vs (fun j v hj => by rw [add_none, hcell]; exact hc j v hj)
    rw [hl] at this
    exact this

theorem norm_flat {es : Nat} : ∀ {xs : List V} {vs : List Value}, (∀ x, x ∈ xs → x.cells.length = es) → Reps g (xs.flatMap V.cells) vs → (∀ u, u ∈ vs → leaf u) → Reps g ((xs.map norm).flatMap V.cells) vs
  | [], _, _, hr, _ => hr
  | x :: xs, vs, hes, hr, hf => by
    rw [List.flatMap_cons] at hr
    obtain ⟨h1, h2⟩ := hr.split
    rw [List.map_cons, List.flatMap_cons, ← List.take_append_drop x.cells.length vs]
    refine Reps.app ?_ (norm_flat (fun y hy => hes y (by simp [hy])) h2 (fun u hu => hf u (List.mem_of_mem_drop hu)))
    unfold norm
    split
    · rename_i y hy
      exact Reps.of_map_d (h1.toDs (toD_cells hy) (fun u hu => hf u (List.mem_of_mem_take hu)))
    · exact h1

theorem normed_es {es : Nat} {xs : List V} (hes : ∀ x, x ∈ xs → x.cells.length = es) : ∀ x, x ∈ xs.map norm → x.cells.length = es := by
  intro x hx
  obtain ⟨y, hy, rfl⟩ := List.mem_map.1 hx
  rw [norm_len]; exact hes y hy

/-- Cells of a row that is written on from its k-th cell. -/
theorem splice_end {c : Array Value} {o k : Nat} {vs xv : List Value} (hc : ∀ (j : Nat) (v : Value), vs[j]? = some v → c[o + j]? = some v) (hk : k ≤ vs.length) (hs : o + k + xv.length ≤ c.size) :
    ∀ (j : Nat) (v : Value), (vs.take k ++ xv)[j]? = some v → (c.toList.take (o + k) ++ xv ++ c.toList.drop (o + k + xv.length)).toArray[o + j]? = some v := by
  intro j v hj
  have hget : ∀ i, c.toList[i]? = c[i]? := fun i => Array.getElem?_toList
  have hta : ∀ (l : List Value) (i : Nat), l.toArray[i]? = l[i]? := fun l i => by simp
  rw [hta]
  rw [List.append_assoc]
  have l1 : (vs.take k).length = k := by rw [List.length_take]; omega
  have l2 : (c.toList.take (o + k)).length = o + k := by rw [List.length_take, Array.length_toList]; omega
  by_cases h1 : j < k
  · rw [List.getElem?_append_left (by omega), List.getElem?_take, if_pos h1] at hj
    rw [List.getElem?_append_left (by omega), List.getElem?_take, if_pos (by omega), hget]
    exact hc j v hj
  · rw [List.getElem?_append_right (by omega), l1] at hj
    rw [List.getElem?_append_right (by omega), l2, show o + j - (o + k) = j - k from by omega]
    have h2 : j - k < xv.length := by
      rcases Nat.lt_or_ge (j - k) xv.length with h' | h'
      · exact h'
      · rw [List.getElem?_eq_none h'] at hj; cases hj
    rw [List.getElem?_append_left h2]
    exact hj

/-! ### The machine's append -/
section
variable {t t2 ty e e2 : TypeId} {i : TypeInfo} {zv : Value} {es : Nat}

theorem append_room (ht : P.underlying t = some (.slice e)) (ht2 : P.underlying t2 = some (.slice e2)) (hi : P.info? e = some i) (hs : P.cellsOf e = es)
    {base : Option Addr} {sLen sCap n xc : Nat} {xa : Option Addr} {news : List Value} {w' : World} (hle : sLen + n ≤ sCap) (hf : (Builtin.firstCells es n (.slice xa n xc)).run P w = .ok news.toArray w)
    (hst : ∀ a, base = some a → (storeCells (a.add (sLen * es)) news).run P w = .ok () w') (hno : base = none → w' = w) :
    (Builtin.append_ #[t, t2] ty #[.slice base sLen sCap, .slice xa n xc]).run P w = .ok (.slice base (sLen + n) sCap) w' := by
  have hs' : i.size = es := by rw [← hs]; simp [Program.cellsOf, hi]
  cases base with
  | none =>
    obtain rfl := hno rfl
    simp [Builtin.append_, run_underlying ht, run_underlying ht2, Go.sizeOf, typeInfo, hi, hs', Builtin.lenOf, hle, hf]
  | some a =>
    have := hst a rfl
    simp [Builtin.append_, run_underlying ht, run_underlying ht2, Go.sizeOf, typeInfo, hi, hs', Builtin.lenOf, hle, hf, this]

theorem append_grow (ht : P.underlying t = some (.slice e)) (ht2 : P.underlying t2 = some (.slice e2)) (hi : P.info? e = some i) (hz : i.zero = some zv) (hs : P.cellsOf e = es)
    {base : Option Addr} {sLen sCap n xc : Nat} {xa : Option Addr} {olds news : List Value} (hgt : sCap < sLen + n)
    (ho : (Builtin.firstCells es sLen (.slice base sLen sCap)).run P w.drew = .ok olds.toArray w.drew) (hf : (Builtin.firstCells es n (.slice xa n xc)).run P w.drew = .ok news.toArray w.drew)
    (hb : (sLen + n) * i.bytes ≤ roomB) (hb1 : 1 ≤ i.bytes) :
    (Builtin.append_ #[t, t2] ty #[.slice base sLen sCap, .slice xa n xc]).run P w =
      .ok (.slice (some ⟨w.heap.size, 0, none⟩) (sLen + n) (grownCap w (sLen + n) sCap e))
        (w.drew.alloc (.cells (olds ++ news ++ (Builtin.zeroCells zv.cells (grownCap w (sLen + n) sCap e - (sLen + n))).toList).toArray e)) := by
  have hs' : i.size = es := by rw [← hs]; simp [Program.cellsOf, hi]
  have hroom : (sLen + n) * i.bytes ≤ 140737488355328 := hb
  have hle : sLen + n ≤ (sLen + n) * i.bytes := Nat.le_mul_of_pos_right _ hb1
  have hn : ¬ (sLen + n ≤ sCap) := by omega
  have hb0 : ¬ i.bytes = 0 := by omega
  have hfit : Builtin.nextslicecap (sLen + n) sCap * i.bytes ≤ 281474976710656 := by
    have h1 := nextslicecap_le hgt
    have h2 : Builtin.nextslicecap (sLen + n) sCap * i.bytes ≤ 2 * (sLen + n) * i.bytes := Nat.mul_le_mul_right _ h1
    rw [Nat.mul_assoc] at h2
    omega
  have h48' : ¬ (281474976710656 < Builtin.nextslicecap (sLen + n) sCap * i.bytes) := by omega
  simp [Builtin.append_, run_underlying ht, run_underlying ht2, Go.sizeOf, typeInfo, zeroValue, hi, hz, hs', Builtin.lenOf, hn, hb0, h48', Question.forced, ho, hf, newRow, grownCap]
  congr 2
  apply Array.ext'
  simp [List.append_assoc]

theorem wrap_nat62 {n : Nat} (h : n ≤ 2 ^ 62) : IntKind.i64.wrap (n : Int) = (n : Int) := by
  simp [IntKind.wrap, IntKind.signed, IntKind.bits, IntKind.min, IntKind.max]
  omega
theorem append_zeros {k : IntKind} (hk : k = .i64) (ht : P.underlying t = some (.slice e)) (ht2 : P.underlying t2 = some (.int k)) (hi : P.info? e = some i) (hz : i.zero = some zv) (hs : P.cellsOf e = es)
    {base : Option Addr} {n : Nat} {q : IntKind} (hb : n * i.bytes ≤ roomB) (hb1 : 1 ≤ i.bytes) (hes : zv.cells.size = es) :
    (Builtin.append_ #[t, t2] ty #[.slice base 0 0, .int q (n : Int)]).run P w =
      if n = 0 then .ok (.slice base 0 0) w else .ok (.slice (some ⟨w.heap.size, 0, none⟩) n (grownCap w n 0 e))
        (w.drew.alloc (.cells ((Builtin.zeroCells zv.cells n).toList ++ (Builtin.zeroCells zv.cells (grownCap w n 0 e - n)).toList).toArray e)) := by
  subst hk
  have hs' : i.size = es := by rw [← hs]; simp [Program.cellsOf, hi]
  have hroom : n * i.bytes ≤ 140737488355328 := hb
  have hle : n ≤ n * i.bytes := Nat.le_mul_of_pos_right _ hb1
  have hw : IntKind.i64.wrap (n : Int) = (n : Int) := wrap_nat62 (by omega)
  have hneg : ¬ ((n : Int) < 0) := by omega
  have h48 : ¬ ((281474976710656 : Int) < (n : Int) * (i.bytes : Int)) := by
    have : ((n * i.bytes : Nat) : Int) ≤ 140737488355328 := by omega
    rw [Int.natCast_mul] at this
    omega
  by_cases h0 : n = 0
  · subst h0
    rw [if_pos rfl]
    have hw0 : IntKind.i64.wrap 0 = 0 := by decide
    cases base <;> simp [Builtin.append_, run_underlying ht, run_underlying ht2, Go.sizeOf, typeInfo, hi, hs', asInt, asIntOf, hw0, storeCells]
  · rw [if_neg h0]
    have hgt : 0 < 0 + n := by omega
    have hfit : Builtin.nextslicecap n 0 * i.bytes ≤ 281474976710656 := by
      have h1 := nextslicecap_le hgt
      rw [Nat.zero_add] at h1
      have h2 : Builtin.nextslicecap n 0 * i.bytes ≤ 2 * n * i.bytes := Nat.mul_le_mul_right _ h1
      rw [Nat.mul_assoc] at h2
      omega
    have h48' : ¬ (281474976710656 < Builtin.nextslicecap n 0 * i.bytes) := by omega
    have hb0 : ¬ i.bytes = 0 := by omega
    have hint : ¬ ((9223372036854775807 : Int) < (n : Int)) := by omega
    simp [Builtin.append_, run_underlying ht, run_underlying ht2, Go.sizeOf, typeInfo, zeroValue, hi, hz, hs', asInt, asIntOf, hw, hneg, h48, h0, h48', hb0, hint, Question.forced, newRow, grownCap]
    have hfc := firstCells_run (P := P) (w0 := w.drew) (w := w) (n := 0) (es := es) (vs := []) (m := 0) (xa := base) (xc := 0) rfl (by simp) (.inl rfl)
    rw [hfc]
    have hze : n * es = 0 → Builtin.zeroCells zv.cells n = #[] := by
      intro h
      simp [Builtin.zeroCells, hes, h]
    by_cases hn0 : n * es = 0
    · simp [hn0, hze hn0]
    · simp [hn0]
      congr 2
      apply Array.ext'
      simp
theorem grown_le {need old : Nat} {e : TypeId} (hn : need ≤ 2 ^ 62) : need ≤ grownCap w need old e := by
  unfold grownCap
  simp only [Question.cut]
  omega
end

end
end Zv
end
