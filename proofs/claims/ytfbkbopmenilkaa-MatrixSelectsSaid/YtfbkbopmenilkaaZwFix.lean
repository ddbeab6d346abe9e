/-
  The run of ZvVal without a number of rounds: a call and a loop as limits, and the equations that they satisfy.
-/
import Derived.Test.YtfbkbopmenilkaaZwVal
namespace Zv
open Go

open Classical in
noncomputable def lim {α : Type} (g : Nat → Option α) : Option α := if h : ∃ k a, g k = some a then some h.choose_spec.choose else none

def Mono {α : Type} (g : Nat → Option α) : Prop := ∀ k a, g k = some a → g (k + 1) = some a

theorem Mono.le {α : Type} {g : Nat → Option α} (m : Mono g) {k l : Nat} (h : k ≤ l) {a : α} (hk : g k = some a) : g l = some a := by
  induction h with
  | refl => exact hk
  | step _ ih => exact m _ _ ih

theorem lim_some {α : Type} {g : Nat → Option α} (m : Mono g) {a : α} : lim g = some a ↔ ∃ k, g k = some a := by
  constructor
  · intro h
    unfold lim at h
    split at h
    · rename_i hx
      exact ⟨hx.choose, by rw [← h]; exact hx.choose_spec.choose_spec⟩
    · cases h
  · rintro ⟨k, hk⟩
    have hx : ∃ k a, g k = some a := ⟨k, a, hk⟩
    unfold lim
    rw [dif_pos hx]
    have h1 := m.le (Nat.le_max_left hx.choose k) hx.choose_spec.choose_spec
    have h2 := m.le (Nat.le_max_right hx.choose k) hk
    rw [h1] at h2
    exact h2

theorem opt_ext {α : Type} {x y : Option α} (h : ∀ a, x = some a ↔ y = some a) : x = y := by
  cases x with
  | none => cases y with
    | none => rfl
    | some b => exact ((h b).2 rfl)
  | some a => exact ((h a).1 rfl).symm

def BLe (f g : Bf) : Prop := ∀ e h r, f e h = some r → g e h = some r
def CLe (f g : Cf) : Prop := ∀ v vs h r, f v vs h = some r → g v vs h = some r
def LLe (f g : Bf → Bf) : Prop := ∀ a b, BLe a b → BLe (f a) (g b)

theorem bind_mono {α β : Type} {x y : Option α} {f g : α → Option β} {r : β} (h : x.bind f = some r) (hx : ∀ a, x = some a → y = some a) (hf : ∀ a, f a = some r → g a = some r) :
    y.bind g = some r := by
  cases x with
  | none => cases h
  | some a => rw [hx a rfl]; exact hf a h

theorem map_mono {α β : Type} {x y : Option α} {f : α → β} {r : β} (h : x.map f = some r) (hx : ∀ a, x = some a → y = some a) : y.map f = some r := by
  cases x with
  | none => cases h
  | some a => rw [hx a rfl]; exact h

theorem nxt_norm (k : Bf) (e : Env) (h : Hp) : nxt k (.norm, e, h) = k e h := rfl
theorem nxt_exit (k : Bf) (i : Nat) (e : Env) (h : Hp) : nxt k (.exit i, e, h) = some (.exit i, e, h) := rfl
theorem nxt_ret (k : Bf) (e : Env) (h : Hp) : nxt k (.ret, e, h) = some (.ret, e, h) := rfl
theorem nxt_mono {k k' : Bf} {o r : Out} (H : nxt k o = some r) (hk : ∀ e h, k e h = some r → k' e h = some r) : nxt k' o = some r := by
  obtain ⟨x, e, h⟩ := o
  cases x with
  | norm => exact hk _ _ H
  | exit i => exact H
  | ret => exact H

theorem opX_mono {cf cf' : Cf} (hc : CLe cf cf') {e : Env} {h : Hp} {o : AOp} {r : V × Hp} (H : opX cf e h o = some r) : opX cf' e h o = some r := by
  cases o <;> first | exact H | exact hc _ _ _ _ H | exact bind_mono H (fun _ ha => hc _ _ _ _ ha) (fun _ hq => hq)

theorem itX_mono {cf cf' : Cf} (hc : CLe cf cf') {e : Env} {h : Hp} {o : It} {r : Env × Hp} (H : itX cf e h o = some r) : itX cf' e h o = some r := by
  cases o with
  | o dst op g =>
    unfold itX at H ⊢
    refine bind_mono H (fun a ha => ha) (fun a ha => ?_)
    split at ha
    · rename_i hw
      rw [if_pos hw]
      exact map_mono ha (fun _ hb => opX_mono hc hb)
    · rename_i hw
      rw [if_neg hw]
      exact ha
  | frz t => exact H
  | kill t => exact H

theorem itsX_mono {cf cf' : Cf} (hc : CLe cf cf') : ∀ {l : List It} {e : Env} {h : Hp} {r : Env × Hp}, itsX cf l e h = some r → itsX cf' l e h = some r
  | [], _, _, _, H => H
  | i :: l, e, h, r, H => by
    unfold itsX at H ⊢
    exact bind_mono H (fun _ ha => itX_mono hc ha) (fun _ ha => itsX_mono hc ha)

theorem exec_mono {lp lp' : Bf → Bf} {cf cf' : Cf} (hl : LLe lp lp') (hc : CLe cf cf') : ∀ c : AC, BLe (exec lp cf c) (exec lp' cf' c) := by
  intro c
  induction c with
  | skip => intro e h r H; exact H
  | reg its kp =>
    intro e h r H
    unfold exec at H ⊢
    exact map_mono H (fun _ ha => itsX_mono hc ha)
  | seq a b iha ihb =>
    intro e h r H
    unfold exec at H ⊢
    refine bind_mono H (fun _ ha => iha _ _ _ ha) (fun o ho => nxt_mono ho fun _ _ hq => ihb _ _ _ hq)
  | cond x a b iha ihb =>
    intro e h r H
    unfold exec at H ⊢
    refine bind_mono H (fun _ ha => ha) (fun t ht => ?_)
    split at ht
    · rename_i hw; rw [if_pos hw]; exact iha _ _ _ ht
    · rename_i hw; rw [if_neg hw]; exact ihb _ _ _ ht
  | blk id a iha =>
    intro e h r H
    unfold exec at H ⊢
    exact map_mono H (fun _ ha => iha _ _ _ ha)
  | loop a iha => intro e h r H; exact hl _ _ iha _ _ _ H
  | exit id => intro e h r H; exact H
  | ret => intro e h r H; exact H
  | amb p x a b r' ihp iha ihb ihr =>
    intro e h r H
    unfold exec at H ⊢
    refine bind_mono H (fun _ ha => ihp _ _ _ ha) (fun o ho => nxt_mono ho fun e h hq => ?_)
    have sq : ∀ {p : AC}, BLe (exec lp cf p) (exec lp' cf' p) → ∀ o, (exec lp cf p e h).bind (nxt (exec lp cf r')) = some o → (exec lp' cf' p e h).bind (nxt (exec lp' cf' r')) = some o :=
      fun ihp o ho => bind_mono ho (fun _ ha => ihp _ _ _ ha) (fun q hq => nxt_mono hq fun _ _ hz => ihr _ _ _ hz)
    unfold ambB at hq ⊢
    split at hq
    · refine bind_mono hq (fun _ ha => sq iha _ ha) (fun o ho => bind_mono ho (fun _ hb => sq ihb _ hb) (fun _ hq => hq))
    · refine bind_mono hq (fun _ ha => ha) (fun t ht => ?_)
      split at ht
      · rename_i hw; rw [if_pos hw]; exact sq iha _ ht
      · rename_i hw; rw [if_neg hw]; exact sq ihb _ ht
  | rng g b =>
    intro e h r H
    unfold exec at H ⊢
    split at H
    · rename_i hq
      rw [if_pos hq]
      exact bind_mono H (fun _ ha => hc _ _ _ _ ha) (fun _ ho => ho)
    · cases H

theorem loopN_mono {f g : Bf} (hf : BLe f g) : ∀ {n m : Nat}, n ≤ m → BLe (loopN f n) (loopN g m)
  | 0, _, _, _, _, _, H => by cases H
  | n + 1, 0, hm, _, _, _, _ => by omega
  | n + 1, m + 1, hm, e, h, r, H => by
    unfold loopN at H ⊢
    refine bind_mono H (fun _ ha => hf _ _ _ ha) (fun o ho => nxt_mono ho fun _ _ hq => loopN_mono hf (by omega) _ _ _ hq)

theorem BLe.refl (f : Bf) : BLe f f := fun _ _ _ h => h

theorem callee_mono {c c' : Nat → List V → Hp → Option (V × Hp)} (h : ∀ f vs x r, c f vs x = some r → c' f vs x = some r) : CLe (callee c) (callee c') := by
  intro v vs x r H
  cases v with
  | clo f caps =>
    simp only [callee] at H ⊢
    split at H
    · cases H
    · rename_i hy
      rw [if_neg hy]
      exact h _ _ _ _ H
  | yld n => exact h _ _ _ _ H
  | _ => cases H

theorem rnd_mono {T : Tab} {lp lp' : Bf → Bf} {cf cf' : Cf} (hl : LLe lp lp') (hc : CLe cf cf') {n : Nat} {vs : List V} {h : Hp} {r : V × Hp} (H : rnd T lp cf n vs h = some r) :
    rnd T lp' cf' n vs h = some r := by
  unfold rnd at H ⊢
  split at H
  · refine bind_mono H (fun _ ha => ha) (fun fn hfn => ?_)
    split at hfn
    · rename_i asg bdy hb
      split at hfn
      · rename_i hn
        rw [if_pos hn]
        refine bind_mono hfn (fun _ ha => exec_mono hl hc _ _ _ _ ha) (fun o ho => ?_)
        split at ho
        · exact bind_mono ho (fun _ ha => exec_mono hl hc _ _ _ _ ha) (fun _ hq => hq)
        · cases ho
      · cases hfn
    · cases hfn
  · cases H
theorem body_mono {T : Tab} {lp lp' : Bf → Bf} {cf cf' : Cf} (hl : LLe lp lp') (hc : CLe cf cf') {f : Nat} {vs : List V} {h : Hp} {r : V × Hp} (H : body T lp cf f vs h = some r) :
    body T lp' cf' f vs h = some r := by
  unfold body at H ⊢
  by_cases hy : f = YF
  · rw [if_pos hy] at H ⊢
    split at H
    · exact rnd_mono hl hc H
    · cases H
  rw [if_neg hy] at H ⊢
  by_cases hr : f < RB
  case neg => rw [if_neg hr] at H; cases H
  rw [if_pos hr] at H ⊢
  refine bind_mono H (fun _ ha => ha) (fun fn hfn => ?_)
  split at hfn
  · rename_i hn
    rw [if_pos hn]
    cases hp : isPr fn.body with
    | some k => rw [hp] at hfn; exact hfn
    | none =>
      rw [hp] at hfn
      exact bind_mono hfn (fun _ ha => exec_mono hl hc _ _ _ _ ha) (fun _ ho => ho)
  · cases hfn

theorem callK_mono1 (T : Tab) : ∀ (k f : Nat) (vs : List V) (h : Hp) (r : V × Hp), callK T k f vs h = some r → callK T (k + 1) f vs h = some r
  | 0, _, _, _, _, H => by cases H
  | k + 1, f, vs, h, r, H => by
    unfold callK at H ⊢
    exact body_mono (fun _ _ hab => loopN_mono hab (Nat.le_succ k)) (callee_mono (fun f vs x r => callK_mono1 T k f vs x r)) H

noncomputable def loopW (f : Bf) : Bf := fun e h => lim fun n => loopN f n e h
noncomputable def callW (T : Tab) : Nat → List V → Hp → Option (V × Hp) := fun f vs h => lim fun k => callK T k f vs h
noncomputable def cW (T : Tab) : Cf := callee (callW T)
/-- Code, run without a number of rounds. -/
noncomputable def ex (T : Tab) (c : AC) : Bf := exec loopW (cW T) c

theorem loopN_M (f : Bf) (e : Env) (h : Hp) : Mono fun n => loopN f n e h := fun k _ H => loopN_mono (BLe.refl f) (Nat.le_succ k) _ _ _ H
theorem callK_M (T : Tab) (f : Nat) (vs : List V) (h : Hp) : Mono fun k => callK T k f vs h := fun k _ H => callK_mono1 T k _ _ _ _ H

theorem loopW_some {f : Bf} {e : Env} {h : Hp} {r : Out} : loopW f e h = some r ↔ ∃ n, loopN f n e h = some r := lim_some (loopN_M f e h)
theorem callW_some {T : Tab} {f : Nat} {vs : List V} {h : Hp} {r : V × Hp} : callW T f vs h = some r ↔ ∃ k, callK T k f vs h = some r := lim_some (callK_M T f vs h)

/-- A loop: one round, and the loop again. -/
theorem loopW_eq (f : Bf) (e : Env) (h : Hp) : loopW f e h = (f e h).bind (nxt (loopW f)) := by
  refine opt_ext fun a => ?_
  rw [loopW_some]
  constructor
  · rintro ⟨n, hn⟩
    cases n with
    | zero => cases hn
    | succ n =>
      unfold loopN at hn
      exact bind_mono hn (fun _ ha => ha) (fun o ho => nxt_mono ho fun _ _ hq => loopW_some.2 ⟨n, hq⟩)
  · intro H
    cases hf : f e h with
    | none => rw [hf] at H; cases H
    | some o =>
      obtain ⟨x, e', h'⟩ := o
      rw [hf] at H
      simp only [Option.bind_some] at H
      cases x with
      | norm =>
        obtain ⟨n, hn⟩ := loopW_some.1 H
        exact ⟨n + 1, by unfold loopN; rw [hf]; exact hn⟩
      | exit i => exact ⟨1, by unfold loopN; rw [hf]; exact H⟩
      | ret => exact ⟨1, by unfold loopN; rw [hf]; exact H⟩

theorem cf_compact (T : Tab) {v : V} {vs : List V} {h : Hp} {r : V × Hp} (H : cW T v vs h = some r) : ∃ k0, ∀ k, k0 ≤ k → callee (callK T k) v vs h = some r := by
  unfold cW at H
  cases v with
  | clo f caps =>
    simp only [callee] at H ⊢
    split at H
    · cases H
    · rename_i hy
      obtain ⟨k, hk⟩ := callW_some.1 H
      exact ⟨k, fun l hl => by rw [if_neg hy]; exact (callK_M T _ _ _).le hl hk⟩
  | yld n =>
    obtain ⟨k, hk⟩ := callW_some.1 H
    exact ⟨k, fun l hl => (callK_M T _ _ _).le hl hk⟩
  | _ => cases H

theorem opX_compact (T : Tab) {e : Env} {h : Hp} {o : AOp} {r : V × Hp} (H : opX (cW T) e h o = some r) : ∃ k0, ∀ k, k0 ≤ k → opX (callee (callK T k)) e h o = some r := by
  cases o <;> first | exact ⟨0, fun _ _ => H⟩ | skip
  · exact cf_compact T H
  · rename_i f nm xs
    simp only [opX] at H ⊢
    cases hc : cW T (e.ev f) (normArgs nm (xs.map e.ev)) h with
    | none => rw [hc] at H; cases H
    | some q =>
      rw [hc] at H
      obtain ⟨k0, hk⟩ := cf_compact T hc
      exact ⟨k0, fun k hle => by rw [hk k hle]; exact H⟩

theorem itX_compact (T : Tab) {e : Env} {h : Hp} {o : It} {r : Env × Hp} (H : itX (cW T) e h o = some r) : ∃ k0, ∀ k, k0 ≤ k → itX (callee (callK T k)) e h o = some r := by
  cases o with
  | o dst op g =>
    simp only [itX] at H
    cases hw : want e g with
    | none => rw [hw] at H; cases H
    | some w =>
      rw [hw] at H
      simp only [Option.bind_some] at H
      by_cases hx : w = true
      · rw [if_pos hx] at H
        cases ho : opX (cW T) e h op with
        | none => rw [ho] at H; cases H
        | some q =>
          rw [ho] at H
          obtain ⟨k0, hk⟩ := opX_compact T ho
          refine ⟨k0, fun k hle => ?_⟩
          simp only [itX]
          rw [hw]
          simp only [Option.bind_some]
          rw [if_pos hx, hk k hle]
          exact H
      · rw [if_neg hx] at H
        refine ⟨0, fun k _ => ?_⟩
        simp only [itX]
        rw [hw]
        simp only [Option.bind_some]
        rw [if_neg hx]
        exact H
  | frz t => exact ⟨0, fun _ _ => H⟩
  | kill t => exact ⟨0, fun _ _ => H⟩

theorem itsX_compact (T : Tab) : ∀ {l : List It} {e : Env} {h : Hp} {r : Env × Hp}, itsX (cW T) l e h = some r → ∃ k0, ∀ k, k0 ≤ k → itsX (callee (callK T k)) l e h = some r
  | [], _, _, _, H => ⟨0, fun _ _ => H⟩
  | i :: l, e, h, r, H => by
    unfold itsX at H
    cases hi : itX (cW T) e h i with
    | none => rw [hi] at H; cases H
    | some s =>
      rw [hi] at H
      obtain ⟨k1, h1⟩ := itX_compact T hi
      obtain ⟨k2, h2⟩ := itsX_compact T H
      refine ⟨max k1 k2, fun k hk => ?_⟩
      unfold itsX
      rw [h1 k (by omega)]
      exact h2 k (by omega)

theorem exec_compact (T : Tab) : ∀ (c : AC) {e : Env} {h : Hp} {r : Out}, ex T c e h = some r → ∃ k0, ∀ k, k0 ≤ k → exec (fun b => loopN b k) (callee (callK T k)) c e h = some r := by
  intro c
  induction c with
  | skip => intro e h r H; exact ⟨0, fun _ _ => H⟩
  | reg its kp =>
    intro e h r H
    unfold ex exec at H
    cases hi : itsX (cW T) its e h with
    | none => rw [hi] at H; cases H
    | some s =>
      rw [hi] at H
      obtain ⟨k0, hk⟩ := itsX_compact T hi
      exact ⟨k0, fun k hle => by unfold exec; rw [hk k hle]; exact H⟩
  | seq a b iha ihb =>
    intro e h r H
    unfold ex exec at H
    cases ha : exec loopW (cW T) a e h with
    | none => rw [ha] at H; cases H
    | some o =>
      rw [ha] at H
      obtain ⟨k1, h1⟩ := iha ha
      simp only [Option.bind_some] at H
      obtain ⟨x, e', h'⟩ := o
      cases x with
      | norm =>
        obtain ⟨k2, h2⟩ := ihb (show ex T b e' h' = some r from H)
        exact ⟨max k1 k2, fun k hk => by unfold exec; rw [h1 k (by omega)]; exact h2 k (by omega)⟩
      | exit i => exact ⟨k1, fun k hk => by unfold exec; rw [h1 k hk]; exact H⟩
      | ret => exact ⟨k1, fun k hk => by unfold exec; rw [h1 k hk]; exact H⟩
  | cond x a b iha ihb =>
    intro e h r H
    unfold ex exec at H
    cases hc : condB (e.ev x) with
    | none => rw [hc] at H; cases H
    | some t =>
      rw [hc] at H
      simp only [Option.bind_some] at H
      by_cases ht : t = true
      · rw [if_pos ht] at H
        obtain ⟨k0, hk⟩ := iha H
        exact ⟨k0, fun k hle => by unfold exec; rw [hc]; simp only [Option.bind_some]; rw [if_pos ht]; exact hk k hle⟩
      · rw [if_neg ht] at H
        obtain ⟨k0, hk⟩ := ihb H
        exact ⟨k0, fun k hle => by unfold exec; rw [hc]; simp only [Option.bind_some]; rw [if_neg ht]; exact hk k hle⟩
  | blk id a iha =>
    intro e h r H
    unfold ex exec at H
    cases ha : exec loopW (cW T) a e h with
    | none => rw [ha] at H; cases H
    | some o =>
      rw [ha] at H
      obtain ⟨k0, hk⟩ := iha ha
      exact ⟨k0, fun k hle => by unfold exec; rw [hk k hle]; exact H⟩
  | loop a iha =>
    intro e h r H
    unfold ex exec at H
    obtain ⟨n, hn⟩ := loopW_some.1 H
    have key : ∀ n e h, loopN (exec loopW (cW T) a) n e h = some r → ∃ k0, ∀ k, k0 ≤ k → ∀ m, n ≤ m → loopN (exec (fun b => loopN b k) (callee (callK T k)) a) m e h = some r := by
      intro n
      induction n with
      | zero => intro e h hn; cases hn
      | succ n ih =>
        intro e h hn
        unfold loopN at hn
        cases ha : exec loopW (cW T) a e h with
        | none => rw [ha] at hn; cases hn
        | some o =>
          rw [ha] at hn
          obtain ⟨k1, h1⟩ := iha ha
          simp only [Option.bind_some] at hn
          obtain ⟨x, e', h'⟩ := o
          cases x with
          | norm =>
            obtain ⟨k2, h2⟩ := ih _ _ hn
            refine ⟨max k1 k2, fun k hk m hm => ?_⟩
            obtain ⟨m, rfl⟩ : ∃ q, m = q + 1 := ⟨m - 1, by omega⟩
            unfold loopN
            rw [h1 k (by omega)]
            exact h2 k (by omega) m (by omega)
          | exit i =>
            refine ⟨k1, fun k hk m hm => ?_⟩
            obtain ⟨m, rfl⟩ : ∃ q, m = q + 1 := ⟨m - 1, by omega⟩
            unfold loopN
            rw [h1 k hk]
            exact hn
          | ret =>
            refine ⟨k1, fun k hk m hm => ?_⟩
            obtain ⟨m, rfl⟩ : ∃ q, m = q + 1 := ⟨m - 1, by omega⟩
            unfold loopN
            rw [h1 k hk]
            exact hn
    obtain ⟨k0, hk⟩ := key n e h hn
    exact ⟨max k0 n, fun k hle => by unfold exec; exact hk k (by omega) k (by omega)⟩
  | exit id => intro e h r H; exact ⟨0, fun _ _ => H⟩
  | ret => intro e h r H; exact ⟨0, fun _ _ => H⟩
  | amb pp x a b r' ihp iha ihb ihr =>
    intro e h r H
    have key : ∀ (e : Env) (h : Hp), ambB x (exec loopW (cW T) a) (exec loopW (cW T) b) (exec loopW (cW T) r') e h = some r → ∃ k0, ∀ k, k0 ≤ k → ambB x (exec (fun b => loopN b k) (callee (callK T k)) a) (exec (fun b => loopN b k) (callee (callK T k)) b) (exec (fun b => loopN b k) (callee (callK T k)) r') e h = some r := by
      intro e h H
      have sq : ∀ {p : AC}, (∀ {e : Env} {h : Hp} {r : Out}, ex T p e h = some r → ∃ k0, ∀ k, k0 ≤ k → exec (fun b => loopN b k) (callee (callK T k)) p e h = some r) → ∀ {o : Out}, (exec loopW (cW T) p e h).bind (nxt (exec loopW (cW T) r')) = some o → ∃ k0, ∀ k, k0 ≤ k → (exec (fun b => loopN b k) (callee (callK T k)) p e h).bind (nxt (exec (fun b => loopN b k) (callee (callK T k)) r')) = some o := by
        intro p ihp o ho
        cases ha : exec loopW (cW T) p e h with
        | none => rw [ha] at ho; cases ho
        | some q =>
          rw [ha] at ho
          obtain ⟨k1, h1⟩ := ihp ha
          simp only [Option.bind_some] at ho
          obtain ⟨y, e', h'⟩ := q
          cases y with
          | norm =>
            obtain ⟨k2, h2⟩ := ihr (show ex T r' e' h' = some o from ho)
            exact ⟨max k1 k2, fun k hk => by rw [h1 k (by omega)]; exact h2 k (by omega)⟩
          | exit i => exact ⟨k1, fun k hk => by rw [h1 k hk]; exact ho⟩
          | ret => exact ⟨k1, fun k hk => by rw [h1 k hk]; exact ho⟩
      unfold ambB at H
      split at H
      · rename_i hu
        simp only [Option.bind_eq_some_iff] at H
        obtain ⟨o, ho, q, hq, H⟩ := H
        obtain ⟨k1, h1⟩ := sq iha (Option.bind_eq_some_iff.2 ho)
        obtain ⟨k2, h2⟩ := sq ihb (Option.bind_eq_some_iff.2 hq)
        refine ⟨max k1 k2, fun k hk => ?_⟩
        unfold ambB
        rw [hu]
        simp only
        rw [h1 k (by omega)]
        simp only [Option.bind_some]
        rw [h2 k (by omega)]
        exact H
      · rename_i v hv
        cases hc : condB (e.ev x) with
        | none => rw [hc] at H; cases H
        | some t =>
          rw [hc] at H
          simp only [Option.bind_some] at H
          by_cases ht : t = true
          · rw [if_pos ht] at H
            obtain ⟨k0, hk⟩ := sq iha H
            refine ⟨k0, fun k hle => ?_⟩
            unfold ambB
            split
            · rename_i hu; exact absurd hu hv
            · rw [hc]; simp only [Option.bind_some]; rw [if_pos ht]; exact hk k hle
          · rw [if_neg ht] at H
            obtain ⟨k0, hk⟩ := sq ihb H
            refine ⟨k0, fun k hle => ?_⟩
            unfold ambB
            split
            · rename_i hu; exact absurd hu hv
            · rw [hc]; simp only [Option.bind_some]; rw [if_neg ht]; exact hk k hle
    unfold ex exec at H
    cases ha : exec loopW (cW T) pp e h with
    | none => rw [ha] at H; cases H
    | some o =>
      rw [ha] at H
      obtain ⟨k1, h1⟩ := ihp ha
      simp only [Option.bind_some] at H
      obtain ⟨y, e', h'⟩ := o
      cases y with
      | norm =>
        obtain ⟨k2, h2⟩ := key e' h' H
        exact ⟨max k1 k2, fun k hk => by unfold exec; rw [h1 k (by omega)]; exact h2 k (by omega)⟩
      | exit i => exact ⟨k1, fun k hk => by unfold exec; rw [h1 k hk]; exact H⟩
      | ret => exact ⟨k1, fun k hk => by unfold exec; rw [h1 k hk]; exact H⟩
  | rng g b =>
    intro e h r H
    unfold ex exec at H
    split at H
    case isFalse => cases H
    rename_i hq
    cases hc : cW T (e.ev g) [.yld h.next] (h.alloc (.lp b e none)) with
    | none => rw [hc] at H; cases H
    | some q =>
      rw [hc] at H
      obtain ⟨k0, hk⟩ := cf_compact T hc
      exact ⟨k0, fun k hle => by unfold exec; rw [if_pos hq, hk k hle]; exact H⟩

theorem rnd_compact (T : Tab) {n : Nat} {vs : List V} {h : Hp} {r : V × Hp} (H : rnd T loopW (cW T) n vs h = some r) : ∃ k0, ∀ k, k0 ≤ k → rnd T (fun b => loopN b k) (callee (callK T k)) n vs h = some r := by
  unfold rnd at H
  split at H
  case h_2 => cases H
  rename_i b e hg
  cases hT : T (RB + b) with
  | none => rw [hT] at H; cases H
  | some fn =>
    rw [hT] at H
    simp only [Option.bind_some] at H
    split at H
    case h_2 => cases H
    rename_i asg bdy hb
    split at H
    case isFalse => cases H
    rename_i hn
    cases ha : exec loopW (cW T) asg (binds (fn.res.map (·.1)) vs e) h with
    | none => rw [ha] at H; cases H
    | some o =>
      rw [ha] at H
      obtain ⟨k1, h1⟩ := exec_compact T asg ha
      simp only [Option.bind_some] at H
      split at H
      case h_2 => cases H
      rename_i b' e' hx hg'
      cases hq : exec loopW (cW T) bdy o.2.1 (o.2.2.set n (.lp b' e' (some .norm))) with
      | none => rw [hq] at H; cases H
      | some q =>
        rw [hq] at H
        obtain ⟨k2, h2⟩ := exec_compact T bdy hq
        refine ⟨max k1 k2, fun k hk => ?_⟩
        unfold rnd
        rw [hg]
        simp only
        rw [hT]
        simp only [Option.bind_some]
        rw [hb]
        simp only
        rw [if_pos hn, h1 k (by omega)]
        simp only [Option.bind_some]
        rw [hx, hg']
        simp only
        rw [h2 k (by omega)]
        exact H

theorem LLe_loopW (k : Nat) : LLe (fun b => loopN b k) loopW := by
  intro a b hab e h r H
  exact loopW_some.2 ⟨k, loopN_mono hab (Nat.le_refl k) _ _ _ H⟩

/-- A call: the body. -/
theorem callW_eq (T : Tab) (f : Nat) (vs : List V) (h : Hp) : callW T f vs h = body T loopW (cW T) f vs h := by
  refine opt_ext fun r => ?_
  rw [callW_some]
  constructor
  · rintro ⟨k, hk⟩
    cases k with
    | zero => cases hk
    | succ k =>
      unfold callK at hk
      exact body_mono (LLe_loopW k) (callee_mono fun f vs x r hr => callW_some.2 ⟨k, hr⟩) hk
  · intro H
    unfold body at H
    by_cases hy : f = YF
    · rw [if_pos hy] at H
      split at H
      case h_2 => cases H
      obtain ⟨k0, hk⟩ := rnd_compact T H
      refine ⟨k0 + 1, ?_⟩
      unfold callK body
      rw [if_pos hy]
      exact hk k0 (Nat.le_refl _)
    rw [if_neg hy] at H
    by_cases hr : f < RB
    case neg => rw [if_neg hr] at H; cases H
    rw [if_pos hr] at H
    cases hT : T f with
    | none => rw [hT] at H; cases H
    | some fn =>
      rw [hT] at H
      simp only [Option.bind_some] at H
      by_cases hn : vs.length = fn.np
      · rw [if_pos hn] at H
        cases hp : isPr fn.body with
        | some k =>
          rw [hp] at H
          refine ⟨1, ?_⟩
          unfold callK body
          rw [if_neg hy, if_pos hr, hT]
          simp only [Option.bind_some]
          rw [if_pos hn, hp]
          exact H
        | none =>
        rw [hp] at H
        simp only at H
        cases he : exec loopW (cW T) fn.body (args 0 vs) h with
        | none => rw [he] at H; cases H
        | some o =>
          rw [he] at H
          obtain ⟨k0, hk⟩ := exec_compact T fn.body he
          refine ⟨k0 + 1, ?_⟩
          unfold callK body
          rw [if_neg hy, if_pos hr, hT]
          simp only [Option.bind_some]
          rw [if_pos hn, hp]
          simp only
          rw [hk k0 (Nat.le_refl _)]
          exact H
      · rw [if_neg hn] at H
        cases H

/-- What a run with a number of rounds gives is given. -/
theorem callW_of (T : Tab) (k : Nat) {f : Nat} {vs : List V} {h : Hp} {r : V × Hp} (H : callK T k f vs h = some r) : callW T f vs h = some r := callW_some.2 ⟨k, H⟩

end Zv
