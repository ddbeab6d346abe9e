/-
  Parts of the proof.
-/
import Derived.Test.YtfbkbopmenilkaaZwFix
import Derived.Test.YtfbkbopmenilkaaTab
import Derived.Test.YtfbkbopmenilkaaChecked
import Derived.ChangeArms
import Derived.WideShapes
import Derived.RowKit
import Derived.ChangeMaps5
import Derived.OpenShut
import Derived.ChangeOld
import Derived.Below
import Derived.SizedLaws
section
set_option linter.unusedSimpArgs false
set_option linter.unusedVariables false
set_option linter.unusedSimpArgs false
namespace Zv
open Go

section
variable {P : Program}

def mtC (P : Program) (T : Tab) (N : Nat) (rg : Bool) : Code → AC → Bool
  | .skip, .skip => true
  | .region _ ops draw, .reg its _ => if draw = true then mtDraw P ops N its else mtIts P ops N 0 its
  | .seq a b, .seq x y => mtC P T N rg a x && mtC P T N rg b y
  | .cond c a b, .cond x p q => mtOpd c x && mtC P T N rg a p && mtC P T N rg b q
  | .seq (.seq z (.cond c a b)) d, .amb y x p q r => mtC P T N rg z y && mtOpd c x && mtC P T N rg a p && mtC P T N rg b q && mtC P T N rg d r
  | .block i a, .blk j x => i == j && mtC P T N rg a x
  | .loop a, .loop x => mtC P T N rg a x
  | .exit i, .exit j => i == j
  | .ret, .ret => true
  | .rangeFunc g ps asg bdy, .rng x b => rg && mtOpd g x && (match T (RB + b) with
    | some fn => (match fn.body with
      | .seq p q => decide (ps.size = fn.np) && decide (ps.toList = fn.res.map (·.1)) && ps.toList.all (fun t => decide (t < N)) && mtC P T N false asg p && mtC P T N false bdy q
      | _ => false)
    | none => false)
  | _, _ => false

/-- The code of a round, by its number. -/
def LpC (P : Program) (T : Tab) : CTy := fun b ps asg bdy N => ∃ fn p q, T (RB + b) = some fn ∧ fn.body = .seq p q ∧ ps.size = fn.np ∧ ps.toList = fn.res.map (·.1) ∧ (∀ t, t ∈ ps.toList → t < N) ∧ mtC P T N false asg p = true ∧ mtC P T N false bdy q = true

def exitOf : Ex → Exit
  | .norm => .normal
  | .exit i => .exit i
  | .ret => .ret

/-! ### More is known later; what is kept may grow -/
structure LeF (g g' : G) : Prop where
  φ : ∀ b o, g.φ b = some o → g'.φ b = some o
  N : g.N ≤ g'.N
  B : ∀ n, n < g.N → g.B n ≤ g'.B n
  μ : ∀ n t, n < g.N → t ≤ g.B n → g'.μ n t = g.μ n t
  F : ∀ b o, g.F b = some o → g'.F b = some o
  C : g'.C = g.C
theorem Le.toF {g g' : G} (h : Le g g') : LeF g g' := ⟨h.φ, h.N, h.B, h.μ, fun b o hb => by rw [h.F]; exact hb, h.C⟩
theorem LeF.refl (g : G) : LeF g g := (Le.refl g).toF
theorem LeF.trans {a b c : G} (h : LeF a b) (k : LeF b c) : LeF a c :=
  ⟨fun _ _ x => k.φ _ _ (h.φ _ _ x), Nat.le_trans h.N k.N, fun n hn => Nat.le_trans (h.B n hn) (k.B n (Nat.lt_of_lt_of_le hn h.N)),
    fun n t hn ht => (k.μ n t (Nat.lt_of_lt_of_le hn h.N) (Nat.le_trans ht (h.B n hn))).trans (h.μ n t hn ht), fun _ _ x => k.F _ _ (h.F _ _ x), k.C.trans h.C⟩
theorem LeF.un {g g' : G} (h : LeF g g') : Le (g.un g'.F) g' := ⟨h.φ, h.N, h.B, h.μ, rfl, h.C⟩
theorem Rep.monoF {g g' : G} (h : LeF g g') {x : V} {v : Value} (hx : Rep g x v) : Rep g' x v := hx.un.mono h.un
theorem EnvRep.monoF {g g' : G} {e : Env} {a : Act} (hle : LeF g g') (he : EnvRep g e a) : EnvRep g' e a := fun t => (he t).monoF hle
/-- The same, with the kept blocks as they were. -/
theorem LeF.back {g g' : G} (h : LeF g g') : Le g (g'.un g.F) := ⟨h.φ, h.N, h.B, h.μ, rfl, h.C⟩

/-- A block that nobody knows. -/
theorem Rel.other {g : G} {h : Hp} {w w' : World} (R : Rel g h w) (d : Nat) (hw : ∀ b, b ≠ d → w'.heap[b]? = w.heap[b]?) (h1 : g.φ d = none) (h2 : g.F d = none) (h3 : ∀ n o, h.get n = some o → blk g n o ≠ d) : Rel g h w' := by
  refine ⟨R.nx, fun b o hb => ?_, R.nd, fun n q hn => ?_, R.sep, R.out, fun b o hb => ?_, R.kpo⟩
  · rw [hw b (fun e => by subst e; rw [h1] at hb; cases hb)]; exact R.fr b o hb
  · obtain ⟨k1, k2, k3⟩ := R.ob n q hn
    exact ⟨k1, k2, k3.mono (Le.refl g) k1 (by omega) (hw _ (h3 n q hn))⟩
  · rw [hw b (fun e => by subst e; rw [h2] at hb; cases hb)]; exact R.kp b o hb
/-- An object is gone; its block may turn. -/
theorem Rel.gone {g : G} {h : Hp} {w w' : World} (R : Rel g h w) {n : Nat} {o : Ob} (hn : h.get n = some o) (hw : ∀ b, b ≠ blk g n o → w'.heap[b]? = w.heap[b]?) : Rel g (h.kill n) w' := by
  have hg : ∀ m q, (h.kill n).get m = some q → m ≠ n ∧ h.get m = some q := by
    intro m q hm
    unfold Hp.get Hp.kill at hm
    rw [look_del m R.nd] at hm
    split at hm
    · cases hm
    · exact ⟨by assumption, hm⟩
  exact (R.kill n).other _ hw (R.out n o hn) (R.kpo n o hn) (fun m q hm => R.sep m n q o (hg m q hm).2 hn (hg m q hm).1)

/-- The marks of the ranges over functions that were entered: their blocks are kept. -/
def markOf (D : Nat) : Deferred := { target := .collected D, args := #[] }
structure Marks (g g' : G) (Ds : List Nat) : Prop where
  nd : Ds.Nodup
  new : ∀ D, D ∈ Ds → g.F D = none
  kept : ∀ D, D ∈ Ds → g'.F D = some (.deferred (some []))
theorem Marks.nil (g g' : G) : Marks g g' [] := ⟨List.nodup_nil, fun _ h => (by cases h), fun _ h => (by cases h)⟩
theorem Marks.app {g g1 g2 : G} {Ds Es : List Nat} (l : LeF g g1) (k : LeF g1 g2) (h1 : Marks g g1 Ds) (h2 : Marks g1 g2 Es) : Marks g g2 (Es ++ Ds) := by
  refine ⟨?_, fun D hD => ?_, fun D hD => ?_⟩
  · rw [List.nodup_append]
    refine ⟨h2.nd, h1.nd, ?_⟩
    rintro a ha b hb rfl
    have := h1.kept a hb
    rw [h2.new a ha] at this; cases this
  · rcases List.mem_append.1 hD with hD | hD
    · cases hq : g.F D with
      | none => rfl
      | some o => have := l.F _ _ hq; rw [h2.new D hD] at this; cases this
    · exact h1.new D hD
  · rcases List.mem_append.1 hD with hD | hD
    · exact h2.kept D hD
    · exact k.F _ _ (h1.kept D hD)

/-- What is handed on behind a piece of code. -/
def Post (N : Nat) (g : G) (w : World) (a : Act) (x : Ex) (e' : Env) (h' : Hp) (Q : Exit → Act → World → Prop) : Prop :=
  ∀ a' w' g' Ds, LeF g g' → Rel g' h' w' → EnvRep g' e' a' → a'.tmps.size = N → a'.defers = Ds.map markOf ++ a.defers → Marks g g' Ds → Fx w w' → Q (exitOf x) a' w'

theorem get_keep (e : Env) : ∀ (l : List Nat) (t : Nat), Env.get (e.keep l) t = .undef ∨ Env.get (e.keep l) t = e.get t
  | [], _ => .inl rfl
  | u :: l, t => by
    show (if t = u then e.get u else Env.get (Env.keep e l) t) = .undef ∨ (if t = u then e.get u else Env.get (Env.keep e l) t) = e.get t
    by_cases h : t = u
    · subst h; rw [if_pos rfl]; exact .inr rfl
    · rw [if_neg h]; exact get_keep e l t
theorem env_keep {g : G} {e : Env} {a : Act} (kp : Option (List Nat)) (he : EnvRep g e a) : EnvRep g (keepE kp e) a := by
  cases kp with
  | none => exact he
  | some l =>
    intro t
    rcases get_keep e l t with h | h
    · show Rep g (Env.get (e.keep l) t) _; rw [h]; exact .undef _
    · show Rep g (Env.get (e.keep l) t) _; rw [h]; exact he t

theorem env_eq {g : G} {e e2 : Env} {a : Act} (h : ∀ t, Env.get e2 t = Env.get e t) (he : EnvRep g e2 a) : EnvRep g e a := fun t => by rw [← h t]; exact he t

theorem Post.next {N : Nat} {g g1 : G} {w w1 : World} {a a1 : Act} {x : Ex} {e' : Env} {h' : Hp} {Q : Exit → Act → World → Prop} (K : Post N g w a x e' h' Q) {Ds : List Nat} (l1 : LeF g g1) (d : a1.defers = Ds.map markOf ++ a.defers) (m : Marks g g1 Ds) (f : Fx w w1) : Post N g1 w1 a1 x e' h' Q :=
  fun a2 w2 g2 Es m1 m2 m3 m4 m5 m6 m7 => K a2 w2 g2 (Es ++ Ds) (l1.trans m1) m2 m3 m4 (by rw [m5, d, List.map_append, List.append_assoc]) (m.app l1 m1 m6) (f.trans m7)

theorem condB_ok {g : G} {x : V} {b : Bool} {v : Value} (h : condB x = some b) (hx : Rep g x v) : v = .bool b := by
  unfold condB at h
  split at h
  · cases h; exact hx.boolI
  · cases h

theorem joinV_ok {g : G} {a b c : V} {v : Value} (h : joinV a b = some c) : (Rep g a v → Rep g c v) ∧ (Rep g b v → Rep g c v) := by
  unfold joinV at h
  split at h
  · rename_i hb; cases h
    have := V.beq_eq hb
    subst this
    exact ⟨id, id⟩
  · split at h
    · cases h
      constructor
      · intro r
        cases r with | tl _ _ es a vs hes hr ha hn hf => exact .tl [] none es a vs hes hr ha (fun q hq => by cases hq) hf
      · intro r
        cases r with | tl _ _ es a vs hes hr ha hn hf => exact .tl [] none es a vs hes hr ha (fun q hq => by cases hq) hf
    · cases h
theorem joinE_ok {g : G} {a : Act} : ∀ {e f j : List (Nat × V)}, joinE e f = some j → ∀ t, (Rep g (Env.get e t) (a.tmps.getD t undef) → Rep g (Env.get j t) (a.tmps.getD t undef)) ∧ (Rep g (Env.get f t) (a.tmps.getD t undef) → Rep g (Env.get j t) (a.tmps.getD t undef))
  | [], [], _, h, t => by cases h; exact ⟨id, id⟩
  | (u, x) :: r, (u', y) :: s, j, h, t => by
    unfold joinE at h
    split at h
    case isFalse => cases h
    rename_i hu
    subst hu
    simp only [Option.bind_eq_some_iff, Option.map_eq_some_iff] at h
    obtain ⟨v, h1, k, h2, rfl⟩ := h
    show (Rep g (if t = u then x else Env.get r t) _ → Rep g (if t = u then v else Env.get k t) _) ∧ (Rep g (if t = u then y else Env.get s t) _ → Rep g (if t = u then v else Env.get k t) _)
    by_cases ht : t = u
    · rw [if_pos ht, if_pos ht, if_pos ht]; exact joinV_ok h1
    · rw [if_neg ht, if_neg ht, if_neg ht]; exact joinE_ok h2 t
  | [], _ :: _, _, h, _ => by cases h
  | _ :: _, [], _, h, _ => by cases h
theorem outJoin_eq {o q r : Out} (h : outJoin o q = some r) : o.1 = r.1 ∧ q.1 = r.1 ∧ o.2.2 = r.2.2 ∧ q.2.2 = r.2.2 ∧ joinE o.2.1 q.2.1 = some r.2.1 := by
  unfold outJoin at h
  split at h
  · rename_i hc
    obtain ⟨h1, h2, h3⟩ := hc
    simp only [Option.map_eq_some_iff] at h
    obtain ⟨e, he, rfl⟩ := h
    refine ⟨rfl, h1.symm, rfl, ?_, he⟩
    obtain ⟨x, e1, ob, nx⟩ := o
    obtain ⟨x', e2, ob', nx'⟩ := q
    cases objsBeq_eq h2; cases h3; rfl
  · cases h

theorem exec_ok {T : Tab} {c : Cs} (HC : CallOk P (LpC P T) c) (k : Nat) {N : Nat} (rg : Bool) {ro : Option Nat} (hro : rg = true → ro = none) : ∀ (code : Code) (ac : AC) {g : G} {h : Hp} {w : World} {e : Env} {a : Act} {x : Ex} {e' : Env} {h' : Hp} {Q : Exit → Act → World → Prop},
    mtC P T N rg code ac = true → exec (fun b => loopN b k) (callee c) ac e h = some (x, e', h') → EnvRep g e a → Rel g h w → g.C = LpC P T → a.tmps.size = N → Post N g w a x e' h' Q → code.wpIn (FR ro) 0 P Q a w := by
  intro code ac
  induction ac generalizing code with
  | skip =>
    intro g h w e a x e' h' Q hm H he R hC hN K
    cases code <;> simp only [mtC, Bool.false_eq_true] at hm
    unfold exec at H
    cases H
    exact wpIn_skip (K a w g [] (LeF.refl g) R he hN rfl (Marks.nil g g) (Fx.refl w))
  | reg its kp =>
    intro g h w e a x e' h' Q hm H he R hC hN K
    cases code <;> simp only [mtC, Bool.false_eq_true] at hm
    rename_i id ops draw
    unfold exec at H
    simp only [Option.map_eq_some_iff] at H
    obtain ⟨⟨e1, h1⟩, hi, hq⟩ := H
    cases hq
    cases draw with
    | true =>
      rw [if_pos rfl] at hm
      exact draw_ok HC hm hi he R hC hN (fun e2 a' w' g' heq l1 l2 l3 l4 l5 l6 => K a' w' g' [] l1.toF l2 (env_keep kp (env_eq heq l3)) l4 l5 (Marks.nil g g') l6)
    | false =>
      rw [if_neg (by simp)] at hm
      refine wpIn_region ?_
      have := its_ok HC (ro := ro) (Q := Q) its 0 hm hi he R hC hN (fun a' w' g' l1 l2 l3 l4 l5 l6 => K a' w' g' [] l1.toF l2 (env_keep kp l3) l4 l5 (Marks.nil g g') l6)
      rw [Nat.sub_zero] at this
      rw [List.range_eq_range']
      exact this
  | seq p q ihp ihq =>
    intro g h w e a x e' h' Q hm H he R hC hN K
    cases code <;> simp only [mtC, Bool.false_eq_true] at hm
    rename_i c1 c2
    simp only [Bool.and_eq_true] at hm
    unfold exec at H
    simp only [Option.bind_eq_some_iff] at H
    obtain ⟨⟨x1, e1, h1⟩, h2, h3⟩ := H
    refine wpIn_seq ?_
    refine ihp c1 hm.1 h2 he R hC hN ?_
    intro a1 w1 g1 Ds l1 l2 l3 l4 l5 l6 l7
    cases x1 with
    | norm =>
      show c2.wpIn (FR ro) 0 P Q a1 w1
      exact ihq c2 hm.2 h3 l3 l2 (l1.C.trans hC) l4 (K.next l1 l5 l6 l7)
    | exit i => cases h3; exact K a1 w1 g1 Ds l1 l2 l3 l4 l5 l6 l7
    | ret => cases h3; exact K a1 w1 g1 Ds l1 l2 l3 l4 l5 l6 l7
  | cond cx p q ihp ihq =>
    intro g h w e a x e' h' Q hm H he R hC hN K
    cases code <;> simp only [mtC, Bool.false_eq_true] at hm
    rename_i cc c1 c2
    simp only [Bool.and_eq_true] at hm
    unfold exec at H
    simp only [Option.bind_eq_some_iff] at H
    obtain ⟨t, ht, H⟩ := H
    have hv := condB_ok ht (opd_ok hm.1.1 he)
    refine wpIn_cond hv ?_
    cases t with
    | true => rw [if_pos rfl] at H; exact ihp c1 hm.1.2 H he R hC hN K
    | false => rw [if_neg (by simp)] at H; exact ihq c2 hm.2 H he R hC hN K
  | amb pz cx p q r' ihz ihp ihq ihr =>
    intro g h w e a x e' h' Q hm H he R hC hN K
    have hshape : ∃ cz cc c1 c2 c3, code = .seq (.seq cz (.cond cc c1 c2)) c3 := by
      cases code with
      | seq c0 c3 =>
        cases c0 with
        | seq cz c0 =>
          cases c0 with
          | cond cc c1 c2 => exact ⟨_, _, _, _, _, rfl⟩
          | _ => simp [mtC] at hm
        | _ => simp [mtC] at hm
      | _ => simp [mtC] at hm
    obtain ⟨cz, cc, c1, c2, c3, rfl⟩ := hshape
    simp only [mtC] at hm
    simp only [Bool.and_eq_true] at hm
    unfold exec at H
    simp only [Option.bind_eq_some_iff] at H
    obtain ⟨⟨x0, e0, h0⟩, hz2, hz3⟩ := H
    refine wpIn_seq (wpIn_seq ?_)
    refine ihz cz hm.1.1.1.1 hz2 he R hC hN ?_
    intro a0 w0 g0 Ds0 l1 l2 l3 l4 l5 l6 l7
    cases x0 with
    | exit i => cases hz3; exact K a0 w0 g0 Ds0 l1 l2 l3 l4 l5 l6 l7
    | ret => cases hz3; exact K a0 w0 g0 Ds0 l1 l2 l3 l4 l5 l6 l7
    | norm =>
    show (Code.cond cc c1 c2).wpIn (FR ro) 0 P (Exit.then (c3.wpIn (FR ro) 0 P Q) Q) a0 w0
    have K0 := K.next l1 l5 l6 l7
    have hz4 : ambB cx (exec (fun b => loopN b k) (callee c) p) (exec (fun b => loopN b k) (callee c) q) (exec (fun b => loopN b k) (callee c) r') e0 h0 = some (x, e', h') := hz3
    have hC0 := l1.C.trans hC
    have sq : ∀ (e' : Env) (cp : Code) (p : AC), (∀ {g : G} {h : Hp} {w : World} {e : Env} {a : Act} {x : Ex} {e' : Env} {h' : Hp} {Q : Exit → Act → World → Prop},
        exec (fun b => loopN b k) (callee c) p e h = some (x, e', h') → EnvRep g e a → Rel g h w → g.C = LpC P T → a.tmps.size = N → Post N g w a x e' h' Q → cp.wpIn (FR ro) 0 P Q a w) →
        (exec (fun b => loopN b k) (callee c) p e0 h0).bind (nxt (exec (fun b => loopN b k) (callee c) r')) = some (x, e', h') → Post N g0 w0 a0 x e' h' Q → cp.wpIn (FR ro) 0 P (Exit.then (c3.wpIn (FR ro) 0 P Q) Q) a0 w0 := by
      intro e' cp p ihp' H K0
      simp only [Option.bind_eq_some_iff] at H
      obtain ⟨⟨x1, e1, h1⟩, h2, h3⟩ := H
      refine ihp' h2 l3 l2 hC0 l4 ?_
      intro a1 w1 g1 Ds m1 m2 m3 m4 m5 m6 m7
      cases x1 with
      | norm =>
        show c3.wpIn (FR ro) 0 P Q a1 w1
        exact ihr c3 hm.2 h3 m3 m2 (m1.C.trans hC0) m4 (K0.next m1 m5 m6 m7)
      | exit i => cases h3; exact K0 a1 w1 g1 Ds m1 m2 m3 m4 m5 m6 m7
      | ret => cases h3; exact K0 a1 w1 g1 Ds m1 m2 m3 m4 m5 m6 m7
    unfold ambB at hz4
    have hop := opd_ok hm.1.1.1.2 l3
    split at hz4
    · rename_i hu
      rw [hu] at hop
      rw [Option.bind_eq_some_iff] at hz4
      obtain ⟨o1, h1, hz4⟩ := hz4
      rw [Option.bind_eq_some_iff] at hz4
      obtain ⟨⟨y2, f2, k2⟩, h2, h3⟩ := hz4
      obtain ⟨y1, f1, k1⟩ := o1
      obtain ⟨q1, q2, q3, q4, q5⟩ := outJoin_eq h3
      simp only at q1 q2 q3 q4 q5
      subst q1 q2 q3 q4
      generalize hfe : a0.eval cc = fv at hop
      cases hop with | ub t =>
      refine wpIn_cond hfe ?_
      cases t with
      | true => exact sq f1 c1 p (fun H he R hC hN K => ihp c1 hm.1.1.2 H he R hC hN K) h1 (fun a w g Ds r1 r2 r3 r4 r5 r6 r7 => K0 a w g Ds r1 r2 (fun t => (joinE_ok q5 t).1 (r3 t)) r4 r5 r6 r7)
      | false => exact sq f2 c2 q (fun H he R hC hN K => ihq c2 hm.1.2 H he R hC hN K) h2 (fun a w g Ds r1 r2 r3 r4 r5 r6 r7 => K0 a w g Ds r1 r2 (fun t => (joinE_ok q5 t).2 (r3 t)) r4 r5 r6 r7)
    · rw [Option.bind_eq_some_iff] at hz4
      obtain ⟨t, ht, H⟩ := hz4
      have hv := condB_ok ht hop
      refine wpIn_cond hv ?_
      cases t with
      | true => rw [if_pos rfl] at H; exact sq e' c1 p (fun H he R hC hN K => ihp c1 hm.1.1.2 H he R hC hN K) H K0
      | false => rw [if_neg (by simp)] at H; exact sq e' c2 q (fun H he R hC hN K => ihq c2 hm.1.2 H he R hC hN K) H K0
  | blk id p ihp =>
    intro g h w e a x e' h' Q hm H he R hC hN K
    cases code <;> simp only [mtC, Bool.false_eq_true] at hm
    rename_i i c1
    simp only [Bool.and_eq_true, beq_iff_eq] at hm
    obtain ⟨rfl, hm⟩ := hm
    unfold exec at H
    simp only [Option.map_eq_some_iff] at H
    obtain ⟨⟨x1, e1, h1⟩, h2, h3⟩ := H
    cases h3
    refine wpIn_block ?_
    refine ihp c1 hm h2 he R hC hN ?_
    intro a1 w1 g1 Ds l1 l2 l3 l4 l5 l6 l7
    have k1 := K a1 w1 g1 Ds l1 l2 l3 l4 l5 l6 l7
    cases x1 with
    | norm => exact k1
    | exit j =>
      show if j = i then Q .normal a1 w1 else Q (.exit j) a1 w1
      by_cases hj : j = i
      · subst hj; rw [if_pos rfl]; simpa [exitOf] using k1
      · rw [if_neg hj]; simpa [exitOf, hj] using k1
    | ret => exact k1
  | loop p ihp =>
    intro g h w e a x e' h' Q hm H he R hC hN K
    cases code <;> simp only [mtC, Bool.false_eq_true] at hm
    rename_i c1
    unfold exec at H
    have key : ∀ n, ∀ (g : G) (h : Hp) (w : World) (e : Env) (a : Act), loopN (exec (fun b => loopN b k) (callee c) p) n e h = some (x, e', h') → EnvRep g e a → Rel g h w → g.C = LpC P T → a.tmps.size = N → Post N g w a x e' h' Q →
        ∀ (b : Frame) (kk : List Item) (cs : List Frame), b.roundOf = (FR ro).round → (FR ro).fn b.fn → (FR ro).room (cs.length + 1 + 0) → ∃ e a' w', Q e a' w' ∧ ArrivesIn (Machine.fenced P (FR ro)) P (lone (b.atR a (.code c1 :: .inLoop c1 :: kk)) cs w) b kk cs e a' w' := by
      intro n
      induction n with
      | zero => intro g h w e a hn; cases hn
      | succ n ih =>
        intro g h w e a hn he R hC hN K b kk cs hb1 hb2 hb3
        unfold loopN at hn
        simp only [Option.bind_eq_some_iff] at hn
        obtain ⟨⟨x1, e1, h1⟩, h2, h3⟩ := hn
        -- one round, with what follows as its post
        let Q1 : Exit → Act → World → Prop := fun ex a1 w1 => match x1 with
          | .norm => ex = .normal ∧ ∀ (b : Frame) (kk : List Item) (cs : List Frame), b.roundOf = (FR ro).round → (FR ro).fn b.fn → (FR ro).room (cs.length + 1 + 0) → ∃ e a' w', Q e a' w' ∧ ArrivesIn (Machine.fenced P (FR ro)) P (lone (b.atR a1 (.code c1 :: .inLoop c1 :: kk)) cs w1) b kk cs e a' w'
          | _ => ex = exitOf x1 ∧ Q ex a1 w1
        have hround : c1.wpIn (FR ro) 0 P Q1 a w := by
          refine ihp c1 hm h2 he R hC hN ?_
          intro a1 w1 g1 Ds l1 l2 l3 l4 l5 l6 l7
          cases x1 with
          | norm => exact ⟨rfl, ih g1 h1 w1 e1 a1 h3 l3 l2 (l1.C.trans hC) l4 (K.next l1 l5 l6 l7)⟩
          | exit i => cases h3; exact ⟨rfl, K a1 w1 g1 Ds l1 l2 l3 l4 l5 l6 l7⟩
          | ret => cases h3; exact ⟨rfl, K a1 w1 g1 Ds l1 l2 l3 l4 l5 l6 l7⟩
        obtain ⟨ex, a1, w1, hq, harr⟩ := hround b (.inLoop c1 :: kk) cs hb1 hb2 hb3
        cases x1 with
        | norm =>
          obtain ⟨rfl, hrest⟩ := hq
          obtain ⟨e2, a2, w2, q2, harr2⟩ := hrest b kk cs hb1 hb2 hb3
          exact ⟨e2, a2, w2, q2, .of_steps (StepsIn.trans harr (.one (fenced_calm hb2 hb3 rfl) stepR_inLoop)) harr2⟩
        | exit i =>
          obtain ⟨rfl, hq⟩ := hq
          exact ⟨_, a1, w1, hq, .pass (x := .inLoop c1) rfl (fun _ _ => .inl (by simp [exitOf])) harr⟩
        | ret =>
          obtain ⟨rfl, hq⟩ := hq
          exact ⟨_, a1, w1, hq, .pass (x := .inLoop c1) rfl (fun _ _ => .inl (by simp [exitOf])) harr⟩
    intro b kk cs hb1 hb2 hb3
    obtain ⟨e2, a2, w2, q2, harr⟩ := key k g h w e a H he R hC hN K b kk cs hb1 hb2 hb3
    exact ⟨e2, a2, w2, q2, .of_steps (.one (fenced_calm hb2 hb3 rfl) stepR_loop) harr⟩
  | exit id =>
    intro g h w e a x e' h' Q hm H he R hC hN K
    cases code <;> simp only [mtC, Bool.false_eq_true] at hm
    simp only [beq_iff_eq] at hm
    subst hm
    unfold exec at H
    cases H
    exact wpIn_exit (K a w g [] (LeF.refl g) R he hN rfl (Marks.nil g g) (Fx.refl w))
  | ret =>
    intro g h w e a x e' h' Q hm H he R hC hN K
    cases code <;> simp only [mtC, Bool.false_eq_true] at hm
    unfold exec at H
    cases H
    exact wpIn_ret (K a w g [] (LeF.refl g) R he hN rfl (Marks.nil g g) (Fx.refl w))
  | rng gx b =>
    intro g h w e a x e' h' Q hm H he R hC hN K
    cases code <;> simp only [mtC, Bool.false_eq_true] at hm
    rename_i gop ps asg bdy
    simp only [Bool.and_eq_true] at hm
    obtain ⟨⟨hrg, hmo⟩, hm⟩ := hm
    obtain rfl := hro hrg
    have hL : LpC P T b ps asg bdy N := by
      split at hm
      · rename_i fn hT
        split at hm
        · rename_i p q hb
          simp only [Bool.and_eq_true, decide_eq_true_eq, List.all_eq_true] at hm
          exact ⟨fn, p, q, hT, hb, hm.1.1.1.1, hm.1.1.1.2, hm.1.1.2, hm.1.2, hm.2⟩
        · cases hm
      · cases hm
    clear hm
    unfold exec at H
    split at H
    case isFalse => cases H
    rename_i hclo
    simp only [Option.bind_eq_some_iff] at H
    obtain ⟨⟨rv, h2⟩, hcall, hend⟩ := H
    have hfr := opd_ok hmo he
    generalize e.ev gx = fv at hcall hfr hclo
    cases fv with
    | clo fid caps =>
      simp only [callee] at hcall
      split at hcall
      · cases hcall
      rename_i hy
      obtain ⟨⟨fn, hfn, hbd, hname⟩, hc⟩ := HC.fn _ _ _ _ _ hy hcall
      generalize hfe : a.eval gop = fval at hfr
      cases hfr with | clo _ _ cv hcr =>
      refine wpIn_rangeFunc (fun fno _ => ?_)
      -- the record
      let rec0 : Loop := { state := .ready, pending := none, fn := fno, tmps := a.tmps, params := ps, assign := asg, body := bdy, defers := w.heap.size }
      let w1 := w.alloc (.deferred (some []))
      let w2 := w1.alloc (.loop rec0)
      obtain ⟨a1, a2, a3⟩ := heap_alloc w (.deferred (some []))
      obtain ⟨b1, b2, b3⟩ := heap_alloc w1 (.loop rec0)
      have hs1 : w1.heap.size = w.heap.size + 1 := World.size_alloc ..
      obtain ⟨o1, o2, o3⟩ := R.old
      let F1 : Nat → Option Obj := fun d => if d = w.heap.size then some (.deferred (some [])) else g.F d
      have R1 : Rel (g.un F1) h w1 := (R.world a2).un (fun d o hd => by
          have hd' : (if d = w.heap.size then some (Obj.deferred (some [])) else g.F d) = some o := hd
          split at hd'
          · rename_i he; subst he; cases hd'; exact ⟨a1, o1⟩
          · exact (R.world a2).kp d o hd') (fun n o hn => by
          show (if blk g n o = w.heap.size then _ else g.F (blk g n o)) = none
          rw [if_neg (o3 n o hn)]; exact (R.world a2).kpo n o hn)
      have hput := R1.put (h' := h.alloc (.lp b e none)) (w' := w2) h.next (.lp b e none) ⟨w1.heap.size, 0, 0, 0⟩ (.inr R.nx) (by show h.next + 1 = max g.N (h.next + 1); have := R.nx; omega) (nodup_alloc R _) (fun m o hm => by
          rw [get_alloc] at hm
          split at hm
          · cases hm; exact .inl ⟨by assumption, rfl⟩
          · exact .inr ⟨by assumption, hm⟩) (.inl rfl) (fun d hd _ => b2 d hd) (by
          refine ⟨rec0, ?_, fun t => ?_, ?_, rfl, rfl⟩
          · show w2.heap[((g.un F1).put h.next 0 ⟨w1.heap.size, 0, 0, 0⟩).μ h.next 0 |>.b]? = _
            have : (((g.un F1).put h.next 0 ⟨w1.heap.size, 0, 0, 0⟩).μ h.next 0).b = w1.heap.size := by simp [G.put]
            rw [this]; exact b1
          · exact ((he t).un (F := F1)).mono (Le.put (g := g.un F1) (.inr R.nx))
          · show g.C b ps asg bdy a.tmps.size
            rw [hC, hN]; exact hL)
      obtain ⟨le1, R2⟩ := hput
      have hμ : (((g.un F1).put h.next (Ob.lp b e none).tot ⟨w1.heap.size, 0, 0, 0⟩).μ h.next 0) = ⟨w1.heap.size, 0, 0, 0⟩ := by simp [G.put, Ob.tot]
      generalize hg1 : (g.un F1).put h.next (Ob.lp b e none).tot ⟨w1.heap.size, 0, 0, 0⟩ = g1 at le1 R2 hμ
      have lF1 : LeF g g1 := ⟨le1.φ, le1.N, le1.B, le1.μ, fun d o hd => by
        rw [le1.F]
        show (if d = w.heap.size then some (Obj.deferred (some [])) else g.F d) = some o
        rw [if_neg (fun e => by subst e; rw [o2] at hd; cases hd)]; exact hd, le1.C⟩
      have hNn : h.next < g1.N := by rw [← hg1]; show h.next < max g.N (h.next + 1); omega
      have hyv : Rep g1 (.yld h.next) (.func (.yield (w.heap.size + 1)) #[] #[]) := by
        have := Rep.yld (g := g1) h.next hNn
        rw [hμ, hs1] at this
        exact this
      have hcc : g1.C = LpC P T := le1.C.trans hC
      refine ⟨w.heap.size + 1, [markOf w.heap.size], w2, ⟨.fn (.func fid) cv.toArray, #[.func (.yield (w.heap.size + 1)) #[] #[]]⟩, w2, fid, (.func (.yield (w.heap.size + 1)) #[] #[] :: cv).toArray, w2, ?_, ?_, fun _ _ => trivial, ?_, fun hd => (by cases hd), ?_⟩
      · exact run_enterLoop_outer ..
      · have hev : ∀ v : Value, a.eval (.const v) = v := fun _ => rfl
        simp only [resolve, rangeCall, hfe, Deferred.ofValue, Sem.run_bind, Sem.run_pure, Result.andThen_ok]
        congr 2
        simp [hev]
      · have hb' : fn.body.isNone = false := by cases hq : fn.body <;> simp_all
        simp only [invoke, callFunc, Sem.run_bind, Sem.run_pure, Result.andThen_ok, run_program, hfn, hname, hb', Bool.false_eq_true, if_false]
        congr 2
        apply Array.ext'
        simp
      · refine callsIn_wide.2 ((hc g1 w2 _ R2 hcc (.cons _ _ _ _ hyv (hcr.un.mono le1))).mono ?_)
        rintro e3 w3 ⟨v, g2, rfl, m1, m2, m3, m4⟩
        unfold rngEnd at hend
        have key : ∀ s, (∃ b' e'', h2.get h.next = some (.lp b' e'' s)) → s ≠ some .norm → (x = (match s with | none => Ex.norm | some y => y)) → e' = e → h' = h2.kill h.next → rangePost (FR none) (0 - 1) P (w.heap.size + 1) Q { a with defers := [markOf w.heap.size] ++ a.defers } (.returned v) w3 := by
          rintro s ⟨b', e'', hget⟩ hs rfl rfl rfl
          obtain ⟨q1, q2, r, q3, q4, q5, q6⟩ := m2.ob _ _ hget
          have hμ2 : (g2.μ h.next 0) = ⟨w1.heap.size, 0, 0, 0⟩ := by rw [m1.μ _ _ hNn (Nat.zero_le _)]; exact hμ
          rw [hμ2] at q3
          simp only at q3
          rw [hs1] at q3
          have hst : r.state ≠ .busy := by
            cases s with
            | none => rw [q6.1]; simp
            | some y => cases y with
              | norm => exact absurd rfl hs
              | exit i => rw [q6.1]; simp
              | ret => rw [q6.1]; simp
          refine ⟨r.pending, _, run_endLoop q3 hst, ?_⟩
          have hblk : blk g2 h.next (.lp b' e'' s) = w.heap.size + 1 := by
            show (g2.μ h.next 0).b = _; rw [hμ2]; exact hs1
          have R4 : Rel g2 (h2.kill h.next) (w3.putObj (w.heap.size + 1) (.loop { r with state := .exhausted })) := m2.gone hget (fun d hd => World.putObj_heap_other (by rw [← hblk]; exact hd))
          have hFx : Fx w (w3.putObj (w.heap.size + 1) (.loop { r with state := .exhausted })) := (a3.trans (b3.trans m4)).trans ⟨rfl, rfl, rfl, by rw [World.putObj_size]; exact Nat.le_refl _⟩
          have hM : Marks g g2 [w.heap.size] := by
            refine ⟨by simp, fun D hD => ?_, fun D hD => ?_⟩
            · simp at hD; subst hD; exact o2
            · simp at hD; subst hD
              rw [m1.F, le1.F]
              show (if w.heap.size = w.heap.size then some (Obj.deferred (some [])) else g.F _) = _
              rw [if_pos rfl]
          have hK := K { a with defers := [markOf w.heap.size] ++ a.defers } _ g2 [w.heap.size] (lF1.trans m1.toF) R4 (he.monoF (lF1.trans m1.toF)) hN rfl hM hFx
          cases s with
          | none => simp only [q6.2] at hK ⊢; exact hK
          | some y => cases y with
            | norm => exact absurd rfl hs
            | exit i => simp only [q6.2] at hK ⊢; exact wpIn_exit hK
            | ret => simp only [q6.2] at hK ⊢; exact wpIn_ret hK
        split at hend
        · rename_i b' e'' hget; cases hend; exact key none ⟨b', e'', hget⟩ (by simp) rfl rfl rfl
        · rename_i b' e'' i hget; cases hend; exact key (some (.exit i)) ⟨b', e'', hget⟩ (by simp) rfl rfl rfl
        · rename_i b' e'' hget; cases hend; exact key (some .ret) ⟨b', e'', hget⟩ (by simp) rfl rfl rfl
        · cases hend
    | _ => cases hclo

end
end Zv
end
section
set_option linter.unusedSimpArgs false
set_option linter.unusedVariables false
set_option linter.unusedSimpArgs false
namespace Zv
open Go

section
variable {P : Program}

/-! ### The state behind a function that hands back data -/

/-- The state behind the call: new blocks stay as they are; no new name is in use. -/
def G.back (g1 : G) (n0 : Nat) (new : Nat → Prop) [DecidablePred new] (w : World) : G :=
  { φ := fun b => if new b then w.heap[b]? else g1.φ b, μ := g1.μ, N := n0, B := g1.B, F := g1.F, C := g1.C }

theorem mapM_cons {α β : Type} {f : α → Option β} {a : α} {l : List α} {r : List β} (h : (a :: l).mapM f = some r) : ∃ b s, f a = some b ∧ l.mapM f = some s ∧ r = b :: s := by
  rw [List.mapM_cons] at h
  cases hb : f a with
  | none => rw [hb] at h; cases h
  | some b =>
    rw [hb] at h
    cases hs : l.mapM f with
    | none => rw [hs] at h; cases h
    | some s => rw [hs] at h; cases h; exact ⟨b, s, rfl, rfl, rfl⟩
theorem mapM_length {α β : Type} {f : α → Option β} : ∀ {l : List α} {r : List β}, l.mapM f = some r → r.length = l.length
  | [], r, h => by cases h; rfl
  | a :: l, r, h => by
    obtain ⟨b, s, _, h2, rfl⟩ := mapM_cons h
    simp [mapM_length h2]

section
variable {g1 : G} {h : Hp} {w : World} {φ2 : Nat → Option Obj} {n0 : Nat}

/-- What is read deeply as data: blocks of new rows stay as they are. -/
theorem deep_ok (R : Rel g1 h w) (hφ : ∀ b o, g1.φ b = some o → φ2 b = some o) (hnew : ∀ n es els, n0 ≤ n → h.get n = some (.arr es els) → φ2 (blk g1 n (.arr es els)) = w.heap[blk g1 n (.arr es els)]?) :
    ∀ (k : Nat), (∀ (x : V) (y : D) (v : Value), deep h n0 k x = some y → Rep g1 x v → RepD φ2 y v) ∧
      (∀ (x : V) (y : D) (seg : List Value), deep h n0 k x = some y → Reps g1 x.cells seg → (∀ u, u ∈ seg → leaf u) → RepDs φ2 y.cells seg ∧ y.cells.length = x.cells.length)
  | 0 => ⟨fun x y v H => by simp [deep] at H, fun x y seg H => by simp [deep] at H⟩
  | k + 1 => by
    obtain ⟨ih1, ih2⟩ := deep_ok R hφ hnew k
    -- lists of whole elements
    have flat : ∀ (l : List V) (ds : List D) (vs : List Value), l.mapM (deep h n0 k) = some ds → Reps g1 (l.flatMap V.cells) vs → (∀ u, u ∈ vs → leaf u) → RepDs φ2 (ds.flatMap D.cells) vs ∧ ∀ es, (∀ x, x ∈ l → x.cells.length = es) → ∀ y, y ∈ ds → y.cells.length = es := by
      intro l
      induction l with
      | nil =>
        intro ds vs H hr hf
        cases H
        cases hr
        exact ⟨.nil, fun _ _ y hy => by cases hy⟩
      | cons x l ih =>
        intro ds vs H hr hf
        obtain ⟨y, s, h1, h2, rfl⟩ := mapM_cons H
        rw [List.flatMap_cons] at hr
        obtain ⟨r1, r2⟩ := hr.split
        obtain ⟨q1, q2⟩ := ih2 x y _ h1 r1 (fun u hu => hf u (List.mem_of_mem_take hu))
        obtain ⟨q3, q4⟩ := ih s _ h2 r2 (fun u hu => hf u (List.mem_of_mem_drop hu))
        refine ⟨?_, fun es hes z hz => ?_⟩
        · rw [List.flatMap_cons, ← List.take_append_drop x.cells.length vs]
          exact q1.app q3
        · rcases List.mem_cons.1 hz with rfl | hz
          · rw [q2]; exact hes x (by simp)
          · exact q4 es (fun u hu => hes u (by simp [hu])) z hz
    -- cells, one by one
    have cells : ∀ (l : List V) (ds : List D) (vs : List Value), l.mapM (deep h n0 k) = some ds → Reps g1 l vs → (∀ u, u ∈ vs → leaf u) → RepDs φ2 ds vs := by
      intro l
      induction l with
      | nil => intro ds vs H hr hf; cases H; cases hr; exact .nil
      | cons x l ih =>
        intro ds vs H hr hf
        obtain ⟨y, s, h1, h2, rfl⟩ := mapM_cons H
        cases hr with | cons _ _ v vs hx hs =>
        exact .cons y s v vs (ih1 x y v h1 hx) (ih s vs h2 hs (fun u hu => hf u (List.mem_cons_of_mem _ hu))) (hf v List.mem_cons_self)
    have one : ∀ (x : V) (y : D) (v : Value), deep h n0 (k + 1) x = some y → Rep g1 x v → RepD φ2 y v := by
      intro x y v H hx
      cases x with
      | d z => simp only [deep] at H; cases H; exact hx.dI.mono hφ
      | tl l nl =>
        simp only [deep, Option.map_eq_some_iff] at H
        obtain ⟨ds, hds, rfl⟩ := H
        cases hx with | tl _ _ es a vs hes hr ha hn hf =>
        obtain ⟨q1, q2⟩ := flat l ds vs hds hr hf
        rw [show l.length = ds.length from (mapM_length hds).symm]
        refine .lst ds es ds.length a vs (q2 es hes) (Nat.le_refl _) q1 (ha.imp (fun e => by subst e; cases hds; rfl) fun ⟨b, p, e, hat⟩ => ⟨b, p, e, hat.mono hφ⟩)
      | agg l =>
        simp only [deep, Option.map_eq_some_iff] at H
        obtain ⟨ds, hds, rfl⟩ := H
        cases hx with | agg _ vs hr hf =>
        exact .agg ds vs (cells l ds vs hds hr hf)
      | own n e tot off len =>
        simp only [deep] at H
        split at H
        case isFalse => cases H
        rename_i hn0
        simp only [Option.bind_eq_some_iff] at H
        obtain ⟨⟨es, els⟩, hrow, H⟩ := H
        obtain ⟨hn, rfl⟩ := row_get hrow
        simp only at H
        split at H
        case isFalse => cases H
        rename_i hle
        simp only [Option.map_eq_some_iff] at H
        obtain ⟨ds, hds, rfl⟩ := H
        obtain ⟨hnN, hnB, c, ty, vs, h1, h2, h3, h4, h5, h6, h7⟩ := R.ob n _ hn
        have hblk := hnew n es els hn0 hn
        rw [show w.heap[blk g1 n (.arr es els)]? = some (.cells c ty (0, 0)) from h1] at hblk
        cases hx with | own _ _ _ _ _ cap q hes hN hB hz0 hl hto hc hsz =>
        have hl2 : ((els.drop off).take len).length = len := by rw [List.length_take, List.length_drop]; omega
        have hdl : ds.length = len := by rw [mapM_length hds, hl2]
        have hr : Reps g1 (((els.drop off).take len).flatMap V.cells) ((vs.drop (off * es)).take (len * es)) := by
          rw [← flat_take len (fun x hx => h4 x (List.mem_of_mem_drop hx)), ← flat_drop off h4]
          exact (h5.drop _).take _
        obtain ⟨q1, q2⟩ := flat _ ds _ hds hr (fun u hu => h6 u (List.mem_of_mem_drop (List.mem_of_mem_take hu)))
        rw [← hdl]
        refine .lst ds es cap (some q) ((vs.drop (off * es)).take (len * es)) (q2 es (fun y hy => h4 y (List.mem_of_mem_drop (List.mem_of_mem_take hy)))) (by omega) q1 ?_
        rcases Nat.eq_zero_or_pos len with h0 | h0
        · left; exact List.eq_nil_of_length_eq_zero (by omega)
        · right
          rcases hz0 with hz0 | hz0
          · omega
          · refine ⟨_, _, congrArg some hz0, fun j v hj => ?_⟩
            rw [List.getElem?_take] at hj
            split at hj
            · rw [List.getElem?_drop] at hj
              have := h7 _ _ hj
              unfold cellφ
              rw [show φ2 (g1.μ n els.length).b = some (.cells c ty (0, 0)) from hblk]
              rw [h3.1]
              show c[_]? = some v
              rw [← this]
              congr 1
              omega
            · cases hj
      | _ => simp only [deep] at H; cases H
    refine ⟨one, fun x y seg H hr hf => ?_⟩
    cases x with
    | d z =>
      simp only [deep] at H
      cases H
      exact ⟨(Reps.to_map_d hr hf).mono hφ, by simp [V.cells]⟩
    | agg l =>
      simp only [deep, Option.map_eq_some_iff] at H
      obtain ⟨ds, hds, rfl⟩ := H
      exact ⟨cells l ds seg hds hr hf, mapM_length hds⟩
    | tl l nl =>
      have H' := H
      simp only [deep, Option.map_eq_some_iff] at H'
      obtain ⟨ds, hds, rfl⟩ := H'
      cases hr with | cons _ _ v vs hx hs =>
      cases hs
      exact ⟨.cons _ _ _ _ (one _ _ v H hx) .nil (hf v List.mem_cons_self), rfl⟩
    | own n e tot off len =>
      have hy : ∃ ds, y = .lst ds := by
        have H' := H
        simp only [deep] at H'
        split at H'
        case isFalse => cases H'
        simp only [Option.bind_eq_some_iff] at H'
        obtain ⟨r, _, H'⟩ := H'
        split at H'
        case isFalse => cases H'
        simp only [Option.map_eq_some_iff] at H'
        obtain ⟨ds, _, rfl⟩ := H'
        exact ⟨ds, rfl⟩
      obtain ⟨ds, rfl⟩ := hy
      cases hr with | cons _ _ v vs hx hs =>
      cases hs
      exact ⟨.cons _ _ _ _ (one _ _ v H hx) .nil (hf v List.mem_cons_self), rfl⟩
    | _ => simp only [deep] at H; cases H
end

/-! ### Results -/

def mtRes (P : Program) : List ResultVar → List (Nat × Option (Bool × Nat)) → Bool
  | [], [] => true
  | .tmp t :: l, (u, none) :: r => t == u && mtRes P l r
  | .cell t ty :: l, (u, some (ag, sz)) :: r => t == u && (P.underlying ty).isSome && (P.info? ty).isSome && agOf P ty == ag && P.cellsOf ty == sz && mtRes P l r
  | _, _ => false

theorem as_sure {a : Value} {ty : TypeId} {w : World} (h : ∃ q, a = .pointer (some q)) : (do loadVar ty (← asAddr a) : Sem Value).run P w = (Instr.loadAt ty a).run P w := by
  obtain ⟨q, rfl⟩ := h
  simp [Instr.loadAt, asAddr, Instr.sureAddr, Sem.run_bind]
theorem ld_ptr {ag : Bool} {sz : Nat} {h : Hp} {x z : V} {g : G} {a : Value} (H : ld ag sz h x = some z) (hx : Rep g x a) : ∃ q, a = .pointer (some q) := by
  cases hx <;> simp only [ld] at H <;> first | exact ⟨_, rfl⟩ | cases H

theorem results_run {fn : Func} {rs : List (Nat × Option (Bool × Nat))} (hr : mtRes P fn.results.toList rs = true) {g : G} {h : Hp} {e : Env} {a : Act} {w : World} {xs : List V} (he : EnvRep g e a) (R : Rel g h w) (hx : resL e h rs = some xs) :
    ∃ vs : List Value, (results fn a.tmps).run P w = .ok (if h : vs.toArray.size = 1 then vs.toArray[0] else .tuple vs.toArray) w ∧ Reps g xs vs := by
  have gen : ∀ (f : ResultVar → Sem Value), (∀ t, f (.tmp t) = pure (a.tmps.getD t undef)) → (∀ t ty, f (.cell t ty) = (do loadVar ty (← asAddr (a.tmps.getD t undef)))) → ∀ (l : List ResultVar) (rs : List (Nat × Option (Bool × Nat))) (xs : List V), mtRes P l rs = true → resL e h rs = some xs →
      ∃ vs : List Value, (l.mapM f).run P w = .ok vs w ∧ Reps g xs vs := by
    intro f hf1 hf2 l
    induction l with
    | nil =>
      intro rs xs hm hx
      cases rs with
      | nil => cases hx; exact ⟨[], rfl, .nil⟩
      | cons r rs => cases hm
    | cons v l ih =>
      intro rs xs hm hx
      cases rs with
      | nil => cases v <;> cases hm
      | cons r rs =>
        obtain ⟨u, o⟩ := r
        cases v with
        | tmp t =>
          cases o with
          | some q => simp [mtRes] at hm
          | none =>
            simp only [mtRes, Bool.and_eq_true, beq_iff_eq] at hm
            obtain ⟨rfl, hm⟩ := hm
            simp only [resL, Option.map_eq_some_iff] at hx
            obtain ⟨ys, hy, rfl⟩ := hx
            obtain ⟨vs, h1, h2⟩ := ih rs ys hm hy
            refine ⟨a.tmps.getD t undef :: vs, ?_, .cons _ _ _ _ (he t) h2⟩
            rw [List.mapM_cons]
            simp only [Sem.run_bind, hf1, Sem.run_pure, Result.andThen_ok, h1]
        | cell t ty =>
          cases o with
          | none => simp [mtRes] at hm
          | some q =>
            obtain ⟨ag, sz⟩ := q
            simp only [mtRes, Bool.and_eq_true, beq_iff_eq] at hm
            obtain ⟨⟨⟨⟨⟨rfl, k1⟩, k2⟩, k3⟩, k4⟩, hm⟩ := hm
            simp only [resL, Option.bind_eq_some_iff, Option.map_eq_some_iff] at hx
            obtain ⟨z, hz, ys, hy, rfl⟩ := hx
            obtain ⟨vs, h1, h2⟩ := ih rs ys hm hy
            obtain ⟨v, q1, q2⟩ := ld_ok k1 k2 k3 k4 R hz (he t)
            refine ⟨v :: vs, ?_, .cons _ _ _ _ q2 h2⟩
            rw [List.mapM_cons]
            simp only [hf2]
            rw [Sem.run_bind, as_sure (ld_ptr hz (he t)), q1]
            simp only [Sem.run_bind, Sem.run_pure, Result.andThen_ok, h1]
  unfold results
  simp only [Sem.run_bind]
  have key : ∀ (f : ResultVar → Sem Value), (∀ t, f (.tmp t) = pure (a.tmps.getD t undef)) → (∀ t ty, f (.cell t ty) = (do loadVar ty (← asAddr (a.tmps.getD t undef)))) → ∃ vs : List Value, (fn.results.mapM f).run P w = .ok vs.toArray w ∧ Reps g xs vs := by
    intro f h1 h2
    obtain ⟨vs, q1, q2⟩ := gen f h1 h2 _ rs xs hr hx
    refine ⟨vs, ?_, q2⟩
    rw [← Array.toArray_toList (xs := fn.results), List.mapM_toArray, Sem.run_map, q1]
    rfl
  obtain ⟨vs, q1, q2⟩ := key (fun x => match x with
    | .tmp t => pure (a.tmps.getD t undef)
    | .cell b t => do loadVar t (← asAddr (a.tmps.getD b undef))) (fun t => rfl) (fun t ty => rfl)
  refine ⟨vs, ?_, q2⟩
  refine Eq.trans (congrArg (fun r => Result.andThen r _) q1) ?_
  rfl

theorem resV_ok {g : G} : ∀ {l : List V} {vs : List Value}, Reps g l vs → Rep g (resV l) (if h : vs.toArray.size = 1 then vs.toArray[0] else .tuple vs.toArray)
  | [], _, .nil => .tup [] [] .nil
  | [x], _, .cons _ _ v _ hx .nil => by simpa [resV] using hx
  | x :: y :: l, _, .cons _ _ v _ hx (.cons _ _ u us hy hs) => by
    rw [dif_neg (by simp)]
    exact .tup _ _ (.cons _ _ _ _ hx (.cons _ _ _ _ hy hs))

theorem look_suffix : ∀ {new base : List (Nat × Ob)} {n : Nat} {o : Ob}, ((new ++ base).map (·.1)).Nodup → look base n = some o → look (new ++ base) n = some o := by
  intro new base n o hd hb
  exact look_of_mem hd (List.mem_append_right _ (look_mem hb))

theorem finish_ok {fn : AF} {g0 g1 : G} {h0 h1 : Hp} {w0 w1 : World} {e : Env} {x : V} {h' : Hp} {xs : List V} {vs : List Value} (R0 : Rel g0 h0 w0) (R1 : Rel g1 h1 w1) (hle : Le g0 g1) (hx : resL e h1 fn.res = some xs) (H : finish fn h0 e h1 = some (x, h'))
    (hr : Reps g1 xs vs) : ∃ g', Le g0 g' ∧ Rel g' h' w1 ∧ Rep g' x (if h : vs.toArray.size = 1 then vs.toArray[0] else .tuple vs.toArray) := by
  unfold finish at H
  rw [hx] at H
  simp only [Option.bind_some] at H
  split at H
  · split at H
    case isFalse => cases H
    rename_i hsuf
    simp only [Option.map_eq_some_iff] at H
    obtain ⟨l, hl, heq⟩ := H
    cases heq
    -- the heap: new objects ahead of the old ones
    obtain ⟨new, hobjs⟩ : ∃ new, h1.objs = new ++ h0.objs := by
      refine ⟨h1.objs.take (h1.objs.length - h0.objs.length), ?_⟩
      have := objsBeq_eq hsuf
      exact ((List.take_append_drop _ _).symm.trans (congrArg (h1.objs.take (h1.objs.length - h0.objs.length) ++ ·) this.symm))
    have hold : ∀ n o, h0.get n = some o → h1.get n = some o := by
      intro n o hn
      unfold Hp.get at hn ⊢
      rw [hobjs]
      exact look_suffix (by rw [← hobjs]; exact R1.nd) hn
    have hnewN : ∀ n o, h1.get n = some o → g0.N ≤ n → h0.get n = none := by
      intro n o hn hge
      cases hq : h0.get n with
      | none => rfl
      | some q => have := (R0.ob n q hq).1; omega
    classical
    let nb : Nat → Prop := fun b => ∃ n o, h1.get n = some o ∧ g0.N ≤ n ∧ b = blk g1 n o
    let g2 : G := g1.back g0.N nb w1
    have hnbφ : ∀ b, nb b → g1.φ b = none := by
      rintro b ⟨n, o, hn, _, rfl⟩
      exact R1.out n o hn
    have hφ12 : ∀ b o, g1.φ b = some o → g2.φ b = some o := by
      intro b o hb
      show (if nb b then w1.heap[b]? else g1.φ b) = some o
      rw [if_neg (fun hn => by rw [hnbφ b hn] at hb; cases hb)]
      exact hb
    have hle2 : Le g0 g2 := ⟨fun b o hb => hφ12 b o (hle.φ b o hb), Nat.le_refl _, hle.B, hle.μ, hle.F, hle.C⟩
    have hlt1 : ∀ n o, h0.get n = some o → n < g0.N := fun n o hn => (R0.ob n o hn).1
    have R2 : Rel g2 h0 w1 := by
      refine ⟨R0.nx, fun b o hb => ?_, R0.nd, fun n o hn => ?_, fun n m o p hn hm hnm => R1.sep n m o p (hold n o hn) (hold m p hm) hnm, fun n o hn => ?_, fun b o hb => ?_, fun n o hn => R1.kpo n o (hold n o hn)⟩
      · have hb' : (if nb b then w1.heap[b]? else g1.φ b) = some o := hb
        split at hb'
        · exact hb'
        · exact R1.fr b o hb'
      · obtain ⟨a1, a2, a3⟩ := R0.ob n o hn
        obtain ⟨b1, b2, b3⟩ := R1.ob n o (hold n o hn)
        refine ⟨a1, b2, ?_⟩
        cases o with
        | arr es els =>
          obtain ⟨c0, ty0, vs0, p1, p2, p3, p4, p5, p6, p7⟩ := a3
          obtain ⟨c, ty, vs, q1, q2, q3, q4, q5, q6, q7⟩ := b3
          exact ⟨c, ty, vs, q1, q2, q3, q4, Reps.back (g0 := g0) (g1 := g1) (g2 := g2) (Nat.le_refl _) rfl rfl hφ12 p5 q5, q6, q7⟩
        | lp b0 ev s0 =>
          obtain ⟨r0, p1, p2, p3, p4⟩ := a3
          obtain ⟨r1, q1, q2, q3, q4⟩ := b3
          exact ⟨r1, q1, fun t => Rep.back (g0 := g0) (g1 := g1) (g2 := g2) (Nat.le_refl _) rfl rfl hφ12 (p2 t) (q2 t), q3, q4⟩
        | mp kvs =>
          obtain ⟨es0, cl0, p1, p2⟩ := a3
          obtain ⟨es, cl, q1, q2⟩ := b3
          exact ⟨es, cl, q1, RepKvs.back (g0 := g0) (g1 := g1) (g2 := g2) (Nat.le_refl _) rfl rfl hφ12 p2 q2⟩
      · show (if nb (blk g1 n o) then w1.heap[blk g1 n o]? else g1.φ (blk g1 n o)) = none
        rw [if_neg ?_]
        · exact R1.out n o (hold n o hn)
        · rintro ⟨m, p, hm, hge, he⟩
          exact R1.sep n m o p (hold n o hn) hm (by have := hlt1 n o hn; omega) he
      · refine ⟨(R1.kp b o hb).1, ?_⟩
        show (if nb b then w1.heap[b]? else g1.φ b) = none
        rw [if_neg ?_]
        · exact (R1.kp b o hb).2
        · rintro ⟨m, p, hm, _, he⟩
          have hk := R1.kpo m p hm
          rw [← he] at hk
          rw [show g2.F = g1.F from rfl, hk] at hb
          cases hb
    refine ⟨g2, hle2, R2, ?_⟩
    have hdeep := deep_ok (n0 := h0.next) (φ2 := g2.φ) R1 hφ12 (fun n es els hge hn => by
      show (if nb (blk g1 n (.arr es els)) then w1.heap[blk g1 n (.arr es els)]? else g1.φ (blk g1 n (.arr es els))) = w1.heap[blk g1 n (.arr es els)]?
      rw [if_pos ⟨n, _, hn, by rw [← R0.nx]; exact hge, rfl⟩]) 8
    have hback : ∀ {y : V} {z : V} {u : Value}, back1 h1 h0.next y = some z → Rep g1 y u → Rep g2 z u := by
      intro y z u hb hy
      unfold back1 at hb
      split at hb
      · rename_i q hq
        cases hb
        exact .d _ _ (hdeep.1 y q u hq hy)
      · split at hb
        · rename_i ho
          cases hb
          have hN2 : g2.N = h0.next := R0.nx.symm
          unfold old at ho
          split at ho <;> first | cases ho | skip
          · have hn := of_decide_eq_true ho
            cases hy with | ptr _ _ _ _ a1 a2 => exact Rep.ptr (g := g2) _ _ _ _ (by rw [hN2]; exact hn) a2
          · have hn := of_decide_eq_true ho
            cases hy with | own _ _ _ _ _ cap a he a1 a2 ha hl ht hc hs => exact Rep.own (g := g2) _ _ _ _ _ cap a he (by rw [hN2]; exact hn) a2 ha hl ht hc hs
          · have hn := of_decide_eq_true ho
            cases hy with | map _ a1 => exact Rep.map (g := g2) _ (by rw [hN2]; exact hn)
          · have hn := of_decide_eq_true ho
            cases hy with | yld _ a1 => exact Rep.yld (g := g2) _ (by rw [hN2]; exact hn)
        · cases hb
    have hall : ∀ (ys : List V) (zs : List V) (us : List Value), ys.mapM (back1 h1 h0.next) = some zs → Reps g1 ys us → Reps g2 zs us := by
      intro ys
      induction ys with
      | nil => intro zs us h1 h2; cases h1; cases h2; exact .nil
      | cons y ys ih =>
        intro zs us hz hu
        obtain ⟨z, s, q1, q2, rfl⟩ := mapM_cons hz
        cases hu with | cons _ _ u us hy hs =>
        exact .cons _ _ _ _ (hback q1 hy) (ih s us q2 hs)
    exact resV_ok (hall _ l vs hl hr)
  · cases H
    exact ⟨g1, hle, R1, resV_ok hr⟩

/-! ### Calls -/

/-- Values that stand for data, one by one. -/
inductive RepEs (φ : Nat → Option Obj) : List D → List Value → Prop
  | nil : RepEs φ [] []
  | cons (x : D) (l : List D) (v : Value) (vs : List Value) (h : RepD φ x v) (hs : RepEs φ l vs) : RepEs φ (x :: l) (v :: vs)

def fnOk (P : Program) (T : Tab) (f : Nat) (fn : AF) : Bool :=
  match P.funcs[f]? with
  | some F => match F.body with
    | some c => (isPr fn.body).isNone && mtC P T F.ntmps true c fn.body && mtRes P F.results.toList fn.res && decide (fn.np ≤ F.ntmps) && !(F.name == "runtime.NumGoroutine")
    | none => false
  | none => false

/-- A function that is no code: what the machine's call returns. -/
def PrimOk (P : Program) (f k : Nat) : Prop :=
  (∃ fn, P.funcs[f]? = some fn ∧ fn.body.isSome = true ∧ (fn.name == "runtime.NumGoroutine") = false) ∧
  ∀ (ds : List D) (y : D), prim k ds = some y → ∀ (φ : Nat → Option Obj) (w : World) (vals : List Value), (∀ b o, φ b = some o → w.heap[b]? = some o) → RepEs φ ds vals →
    Calls P f vals.toArray w fun e w' => ∃ v, e = .returned v ∧ (∀ ψ, RepD ψ y v) ∧ Fx w w' ∧ ∀ b, b < w.heap.size → w'.heap[b]? = w.heap[b]?

def TabOk (P : Program) (T : Tab) : Prop := ∀ f fn, f < RB → T f = some fn → fnOk P T f fn = true ∨ ∃ k, fn.body = .exit k ∧ PrimOk P f k

theorem primC_ok {f k : Nat} (H : PrimOk P f k) {vs : List V} {h : Hp} {r : V} {h' : Hp} (hc : primC k vs h = some (r, h')) {g : G} {w : World} {vals : List Value} (R : Rel g h w) (hr : Reps g vs vals) :
    Calls P f vals.toArray w fun e w' => ∃ v g', e = .returned v ∧ Le g g' ∧ Rel g' h' w' ∧ Rep g' r v ∧ Fx w w' := by
  unfold primC at hc
  simp only [Option.bind_eq_some_iff, Option.map_eq_some_iff] at hc
  obtain ⟨ds, hds, y, hy, hq⟩ := hc
  cases hq
  classical
  let nb : Nat → Prop := fun b => ∃ n o, h.get n = some o ∧ b = blk g n o
  let φ2 : Nat → Option Obj := fun b => if nb b then w.heap[b]? else g.φ b
  have hnbφ : ∀ b, nb b → g.φ b = none := by
    rintro b ⟨n, o, hn, rfl⟩
    exact R.out n o hn
  have hφ : ∀ b o, g.φ b = some o → φ2 b = some o := by
    intro b o hb
    show (if nb b then w.heap[b]? else g.φ b) = some o
    rw [if_neg (fun hn => by rw [hnbφ b hn] at hb; cases hb)]
    exact hb
  have hw : ∀ b o, φ2 b = some o → w.heap[b]? = some o := by
    intro b o hb
    have hb' : (if nb b then w.heap[b]? else g.φ b) = some o := hb
    split at hb'
    · exact hb'
    · exact R.fr b o hb'
  have hdeep := (deep_ok (n0 := 0) (φ2 := φ2) R hφ (fun n es els _ hn => by
      show (if nb (blk g n (.arr es els)) then w.heap[blk g n (.arr es els)]? else g.φ (blk g n (.arr es els))) = w.heap[blk g n (.arr es els)]?
      rw [if_pos ⟨n, _, hn, rfl⟩]) 8).1
  have hall : ∀ (ys : List V) (zs : List D) (us : List Value), ys.mapM (deep h 0 8) = some zs → Reps g ys us → RepEs φ2 zs us := by
    intro ys
    induction ys with
    | nil => intro zs us h1 h2; cases h1; cases h2; exact .nil
    | cons y ys ih =>
      intro zs us hz hu
      obtain ⟨z, s, q1, q2, rfl⟩ := mapM_cons hz
      cases hu with | cons _ _ u us hy hs =>
      exact .cons _ _ _ _ (hdeep y z u q1 hy) (ih s us q2 hs)
  refine (H.2 ds y hy φ2 w vals hw (hall vs ds vals hds hr)).mono ?_
  rintro e w' ⟨v, rfl, hv, hf, hb⟩
  exact ⟨v, g, rfl, Le.refl g, R.world hb, .d _ _ (hv _), hf⟩

theorem args_get : ∀ (vs : List V) (i t : Nat), Env.get (args i vs) t = if i ≤ t then (vs[t - i]?).getD .undef else .undef
  | [], i, t => by simp [args, Env.get]
  | v :: vs, i, t => by
    show (if t = i then v else Env.get (args (i + 1) vs) t) = _
    rw [args_get vs (i + 1) t]
    by_cases h : t = i
    · subst h; simp
    · rw [if_neg h]
      by_cases h2 : i + 1 ≤ t
      · rw [if_pos h2, if_pos (by omega), show t - i = (t - (i + 1)) + 1 from by omega, List.getElem?_cons_succ]
      · rw [if_neg h2, if_neg (by omega)]

theorem env_args {g : G} {vs : List V} {vals : List Value} (n : Nat) (hr : Reps g vs vals) : EnvRep g (args 0 vs) { tmps := vals.toArray ++ Array.replicate (n - vals.toArray.size) undef, defers := [] } := by
  intro t
  rw [args_get, if_pos (Nat.zero_le t), Nat.sub_zero]
  cases hv : vs[t]? with
  | none => exact .undef _
  | some x =>
    obtain ⟨v, h1, h2⟩ := hr.get hv
    have : (vals.toArray ++ Array.replicate (n - vals.toArray.size) undef).getD t undef = v := by
      rw [Array.getD_eq_getD_getElem?, Array.getElem?_append_left (by simpa using lt_of_get h1)]
      simp [h1]
    show Rep g x _
    rw [this]
    exact h2

theorem binds_get : ∀ (ps : List Nat) (vs : List V) (vals : List Value) (e : Env) (tmps : Array Value) {g : G}, (∀ t, t ∈ ps → t < tmps.size) → ps.length = vs.length → Reps g vs vals → (∀ t, Rep g (Env.get e t) (tmps.getD t undef)) →
    ∀ t, Rep g (Env.get (binds ps vs e) t) (((ps.zip vals).foldl (fun tmps (t, a) => tmps.setIfInBounds t a) tmps).getD t undef)
  | [], vs, vals, e, tmps, g, _, _, _, he => fun t => by
    cases vs <;> simpa [binds] using he t
  | p :: ps, [], vals, e, tmps, g, _, hl, _, _ => by simp at hl
  | p :: ps, v :: vs, _, e, tmps, g, hp, hl, .cons _ _ a vals hx hs, he => by
    intro t
    simp only [binds, List.zip_cons_cons, List.foldl_cons]
    refine binds_get ps vs vals ((p, v) :: e) (tmps.setIfInBounds p a) (fun u hu => by rw [Array.size_setIfInBounds]; exact hp u (List.mem_cons_of_mem _ hu)) (by simpa using hl) hs (fun u => ?_) t
    show Rep g (if u = p then v else Env.get e u) _
    rw [Array.getD_eq_getD_getElem?, Array.getElem?_setIfInBounds]
    by_cases hup : u = p
    · subst hup; rw [if_pos rfl, if_pos rfl, if_pos (hp u List.mem_cons_self)]; exact hx
    · rw [if_neg hup, if_neg (fun e => hup e.symm), ← Array.getD_eq_getD_getElem?]; exact he u

theorem Fx.put (w : World) (d : Nat) (o : Obj) : Fx w (w.putObj d o) := ⟨rfl, rfl, rfl, by rw [World.putObj_size]; exact Nat.le_refl _⟩

/-- A round is the machine's. -/
theorem rnd_ok {T : Tab} {c : Cs} (HC : CallOk P (LpC P T) c) (k : Nat) {n : Nat} {vs : List V} {h : Hp} {r : V} {h' : Hp} (H : rnd T (fun b => loopN b k) (callee c) n vs h = some (r, h')) (g : G) (w : World) (vals : List Value) (R : Rel g h w) (hC : g.C = LpC P T) (hN : n < g.N) (hr : Reps g vs vals) :
    ∃ f tmps asg bdy, (Instr.yield (g.μ n 0).b vals.toArray).run P w = .ok (.round (g.μ n 0).b f tmps asg bdy) w ∧
      RoundIn (FR none) 0 P (g.μ n 0).b f tmps asg bdy w fun e w' => ∃ v, e = .returned v ∧ ∃ g', Le g g' ∧ Rel g' h' w' ∧ Rep g' r v ∧ Fx w w' := by
  unfold rnd at H
  split at H
  case h_2 => cases H
  rename_i b e hget
  obtain ⟨k1, k2, r0, k3, k4, k5, k6, k7⟩ := R.ob _ _ hget
  rw [hC] at k5
  obtain ⟨fn, p, q, hT, hb, hsz, hps, hlt, hma, hmb⟩ := k5
  rw [hT] at H
  simp only [Option.bind_some] at H
  rw [hb] at H
  simp only at H
  split at H
  case isFalse => cases H
  rename_i hlen
  simp only [Option.bind_eq_some_iff] at H
  obtain ⟨⟨x1, e1, h1⟩, hex1, H⟩ := H
  split at H
  case h_2 => cases H
  rename_i b1 e1' hx1 hget1
  simp only at hx1 hget1
  subst hx1
  simp only [Option.bind_eq_some_iff] at H
  obtain ⟨⟨x2, e2, h2⟩, hex2, hend⟩ := H
  have hvl : vals.length = r0.params.size := by rw [hr.length, hlen, hsz]
  refine ⟨r0.fn, _, r0.assign, r0.body, run_yield k3 (by simpa using hvl), ?_⟩
  refine roundIn_of_wpIn (F := FR none) trivial ?_
  have htm : (r0.params.zip vals.toArray).foldl (fun tmps (x : Nat × Value) => match x with | (t, a) => tmps.setIfInBounds t a) r0.tmps = (r0.params.toList.zip vals).foldl (fun tmps (x : Nat × Value) => match x with | (t, a) => tmps.setIfInBounds t a) r0.tmps := by
    rw [← Array.foldl_toList, Array.toList_zip]
  have hE : EnvRep g (binds (fn.res.map (·.1)) vs e) { tmps := (r0.params.zip vals.toArray).foldl (fun tmps (x : Nat × Value) => match x with | (t, a) => tmps.setIfInBounds t a) r0.tmps, defers := [] } := by
    intro t
    show Rep g _ (((r0.params.zip vals.toArray).foldl _ r0.tmps).getD t undef)
    rw [htm, ← hps]
    exact binds_get _ vs vals e r0.tmps hlt (by rw [Array.length_toList, ← hvl, hr.length]) hr k4 t
  have hsize : ∀ (l : List (Nat × Value)) (a : Array Value), (l.foldl (fun tmps (x : Nat × Value) => match x with | (t, a) => tmps.setIfInBounds t a) a).size = a.size := by
    intro l
    induction l with
    | nil => intro a; rfl
    | cons x l ih => intro a; rw [List.foldl_cons, ih]; exact Array.size_setIfInBounds ..
  refine exec_ok HC k false (ro := some (g.μ n 0).b) (fun h => by cases h) r0.assign p hma hex1 hE R hC (by rw [htm]; exact hsize _ _) ?_
  intro a1 w1 g1 Ds l1 l2 l3 l4 l5 l6 l7
  show ∃ w₂, _ ∧ _
  obtain ⟨_, _, r1, q3, q4, q5, q6⟩ := l2.ob _ _ hget1
  have hμ1 : g1.μ n 0 = g.μ n 0 := l1.μ _ _ hN (Nat.zero_le _)
  rw [hμ1] at q3
  refine ⟨_, run_beginRound q3 q6.1, ?_⟩
  have hlt1 := (Array.getElem?_eq_some_iff.1 q3).1
  have R2 : Rel g1 (h1.set n (.lp b1 e1' (some .norm))) (w1.putObj (g.μ n 0).b (.loop { r1 with state := .busy })) := l2.set hget1 rfl (fun d hd hne => World.putObj_heap_other (by rw [← hμ1]; exact hne))
    ⟨{ r1 with state := .busy }, by rw [hμ1]; exact World.putObj_heap_same hlt1, q4, q5, rfl, q6.2⟩
  refine exec_ok HC k false (ro := some (g.μ n 0).b) (fun h => by cases h) r0.body q hmb hex2 l3 R2 (l1.C.trans hC) l4 ?_
  intro a2 w2 g2 Es m1 m2 m3 m4 m5 m6 m7
  unfold rndEnd at hend
  simp only at hend
  split at hend
  case h_2 => cases hend
  rename_i b2 e2' hget2
  cases hend
  obtain ⟨_, _, r2, p3, p4, p5, p6⟩ := m2.ob _ _ hget2
  have hμ2 : g2.μ n 0 = g.μ n 0 := by rw [m1.μ n 0 (Nat.lt_of_lt_of_le hN l1.N) (Nat.zero_le _)]; exact hμ1
  rw [hμ2] at p3
  have hlt2 := (Array.getElem?_eq_some_iff.1 p3).1
  have lF := l1.trans m1
  have fin : ∀ (s : Option Ex) (j : Option Code), (∀ q, s = some q → q ≠ .norm) → LpSt s (if j.isNone then .ready else .done) j → s = (if x2 = .norm then none else some x2) → j.isNone = decide (x2 = .norm) →
      ∃ v w', (Instr.endRound (g.μ n 0).b j).run P w2 = .ok v w' ∧ ∃ v', Ending.returned v = .returned v' ∧ ∃ g', Le g g' ∧ Rel g' (h2.set n (.lp b2 e2' (if x2 = .norm then none else some x2))) w' ∧ Rep g' (bool (decide (x2 = .norm))) v' ∧ Fx w w' := by
    intro s j _ hs hse hj
    refine ⟨_, _, run_endRound j p3, _, rfl, g2.un g.F, lF.back, ?_, ?_, ?_⟩
    · rw [← hse]
      have R3 : Rel g2 (h2.set n (.lp b2 e2' s)) (w2.putObj (g.μ n 0).b (.loop { r2 with state := if j.isNone then .ready else .done, pending := j })) := m2.set hget2 rfl (fun d hd hne => World.putObj_heap_other (by rw [← hμ2]; exact hne))
        ⟨{ r2 with state := if j.isNone then .ready else .done, pending := j }, by rw [hμ2]; exact World.putObj_heap_same hlt2, p4, p5, hs⟩
      exact R3.un (fun d o hd => R3.kp d o (lF.F d o hd)) (fun m o hm => by
        cases hq : g.F (blk g2 m o) with
        | none => rfl
        | some y => have := lF.F _ _ hq; rw [R3.kpo m o hm] at this; cases this)
    · rw [hj]; exact .d _ _ (.bool _)
    · exact (l7.trans (Fx.put ..)).trans (m7.trans (Fx.put ..))
  cases x2 with
  | norm => exact fin none none (fun _ h => by cases h) ⟨rfl, rfl⟩ rfl rfl
  | exit i => exact fin (some (.exit i)) (some (.exit i)) (fun _ h => by cases h; simp) ⟨rfl, rfl⟩ rfl rfl
  | ret => exact fin (some .ret) (some .ret) (fun _ h => by cases h; simp) ⟨rfl, rfl⟩ rfl rfl

/-- Behind a function: the marks are taken up. -/
theorem marks_ok {F : Func} {tmps : Array Value} {R : Ending → World → Prop} {g0 : G} {h : Hp} : ∀ (Ds : List Nat) {g1 : G} {w : World}, Rel (g1.un g0.F) h w → Ds.Nodup → (∀ D, D ∈ Ds → g0.F D = none ∧ g1.φ D = none ∧ w.heap[D]? = some (.deferred (some [])) ∧ ∀ n o, h.get n = some o → blk g1 n o ≠ D) →
    (∀ w', Rel (g1.un g0.F) h w' → Fx w w' → ∃ v, (results F tmps).run P w' = .ok v w' ∧ R (.returned v) w') → LeavesInM (FR none) 0 P F tmps R (Ds.map markOf ++ []) .returning w
  | [], g1, w, R1, _, _, K => K w R1 (Fx.refl w)
  | D :: Ds, g1, w, R1, hnd, hD, K => by
    rw [List.nodup_cons] at hnd
    obtain ⟨d1, d2, d3, d4⟩ := hD D List.mem_cons_self
    refine ⟨by simp, .inl ⟨D, _, rfl, run_takeDeferred d3, ?_⟩⟩
    have R2 : Rel (g1.un g0.F) h (w.putObj D (.deferred none)) := R1.other D (fun b hb => World.putObj_heap_other hb) d2 d1 (fun n o hn => d4 n o hn)
    have f2 : Fx w (w.putObj D (.deferred none)) := ⟨rfl, rfl, rfl, by rw [World.putObj_size]; exact Nat.le_refl _⟩
    refine marks_ok Ds (g1 := g1) R2 hnd.2 (fun E hE => ?_) (fun w' r f => K w' r (f2.trans f))
    obtain ⟨e1, e2, e3, e4⟩ := hD E (List.mem_cons_of_mem _ hE)
    exact ⟨e1, e2, by rw [World.putObj_heap_other (fun e => hnd.1 (by rw [← e]; exact hE))]; exact e3, e4⟩

theorem callK_ok {T : Tab} (HT : TabOk P T) : ∀ k, CallOk P (LpC P T) (callK T k)
  | 0 => ⟨fun f vs h r h' _ H => (by cases H), fun n vs h r h' H => (by cases H)⟩
  | k + 1 => by
    have ih := callK_ok HT k
    refine ⟨fun f vs h r h' hy H => ?_, fun n vs h r h' H g w vals R hC hN hr => ?_⟩
    · unfold callK body at H
      rw [if_neg hy] at H
      split at H
      case isFalse => cases H
      rename_i hrb
      simp only [Option.bind_eq_some_iff] at H
      obtain ⟨fn, hfn, H⟩ := H
      rcases HT f fn hrb hfn with hok | ⟨q, hb, hok⟩
      rotate_left
      · split at H
        case isFalse => cases H
        rw [show isPr fn.body = some q from by rw [hb]; rfl] at H
        exact ⟨hok.1, fun g w vals R _ hr => primC_ok hok H R hr⟩
      unfold fnOk at hok
      split at hok
      case h_2 => cases hok
      rename_i F hF
      split at hok
      case h_2 => cases hok
      rename_i c hc
      simp only [Bool.and_eq_true, decide_eq_true_eq, Bool.not_eq_true'] at hok
      obtain ⟨⟨⟨⟨hpr, hm⟩, hres⟩, hnp⟩, hname⟩ := hok
      have hpr : isPr fn.body = none := by cases hq : isPr fn.body with
        | none => rfl
        | some q => rw [hq] at hpr; cases hpr
      split at H
      case isFalse => cases H
      rename_i hlen
      rw [hpr] at H
      simp only [Option.bind_eq_some_iff] at H
      obtain ⟨⟨x, e1, h1⟩, hex, H⟩ := H
      refine ⟨⟨F, hF, by rw [hc]; rfl, hname⟩, fun g w vals R hC hr => ?_⟩
      have hsz : vals.length = fn.np := by rw [hr.length, hlen]
      refine callsIn_wide.1 (callsIn_of_wp_marks (F := FR none) (n := 0) hF hc trivial ?_)
      refine exec_ok ih k true (fun _ => rfl) c fn.body hm hex (env_args F.ntmps hr) R hC (by simp; omega) ?_
      intro a' w' g' Ds l1 l2 l3 l4 l5 l6 l7
      have fin : ∀ q : Option (V × Hp), q = some (r, h') → q = finish fn h e1 h1 → LeavesInM (FR none) 0 P F a'.tmps (fun e w' => ∃ v g', e = .returned v ∧ Le g g' ∧ Rel g' h' w' ∧ Rep g' r v ∧ Fx w w') a'.defers .returning w' := by
        intro q hq1 hq2
        rw [hq1] at hq2
        have R2 : Rel (g'.un g.F) h1 w' := l2.un (fun d o hd => l2.kp d o (l1.F d o hd)) (fun m o hm => by
          cases hq : g.F (blk g' m o) with
          | none => rfl
          | some y => have := l1.F _ _ hq; rw [l2.kpo m o hm] at this; cases this)
        rw [l5]
        refine marks_ok Ds (g1 := g') (g0 := g) R2 l6.nd (fun D hD => ⟨l6.new D hD, (l2.kp D _ (l6.kept D hD)).2, (l2.kp D _ (l6.kept D hD)).1, fun n o hn he => ?_⟩) ?_
        · have := l2.kpo n o hn
          rw [he, l6.kept D hD] at this; cases this
        · intro w2 R3 f2
          have hq3 := hq2.symm
          unfold finish at hq3
          simp only [Option.bind_eq_some_iff] at hq3
          obtain ⟨xs, hxs, _⟩ := hq3
          obtain ⟨vs, hrun, hrr⟩ := results_run (P := P) hres (l3.un (F := g.F)) R3 hxs
          obtain ⟨g2, m1, m2, m3⟩ := finish_ok R R3 l1.back hxs hq2.symm hrr
          exact ⟨_, hrun, _, g2, rfl, m1, m2, m3, l7.trans f2⟩
      cases x with
      | norm => exact fin _ H rfl
      | exit i => cases H
      | ret => exact fin _ H rfl
    · unfold callK body at H
      rw [if_pos rfl] at H
      exact rnd_ok ih k H g w vals R hC hN hr

/-- THE CALL: where the run without rounds gives a value, the machine's call returns what stands for it. -/
theorem callW_ok {T : Tab} (HT : TabOk P T) {f : Nat} {vs : List V} {h : Hp} {r : V} {h' : Hp} (hy : f ≠ YF) (H : callW T f vs h = some (r, h')) {g : G} {w : World} {vals : List Value} (R : Rel g h w) (hC : g.C = LpC P T) (hr : Reps g vs vals) :
    Calls P f vals.toArray w fun e w' => ∃ v g', e = .returned v ∧ Le g g' ∧ Rel g' h' w' ∧ Rep g' r v ∧ Fx w w' := by
  obtain ⟨k, hk⟩ := callW_some.1 H
  exact ((callK_ok HT k).fn f vs h r h' hy hk).2 g w vals R hC hr

end
end Zv
end
section
set_option linter.unusedSimpArgs false
set_option linter.unusedVariables false
set_option linter.unusedSimpArgs false
namespace Zv
open Go

mutual
def sh (s : Nat) : V → V
  | .d x => .d x
  | .tl l nl => .tl (shs s l) nl
  | .own n es tot off len => .own (n + s) es tot off len
  | .ptr n tot i off => .ptr (n + s) tot i off
  | .fp x off => .fp x off
  | .clo f caps => .clo f (shs s caps)
  | .agg l => .agg (shs s l)
  | .tup l => .tup (shs s l)
  | .map n => .map (n + s)
  | .yld n => .yld (n + s)
  | .ub => .ub
  | .undef => .undef
def shs (s : Nat) : List V → List V
  | [] => []
  | v :: r => sh s v :: shs s r
end
theorem shs_map (s : Nat) : ∀ l : List V, shs s l = l.map (sh s)
  | [] => rfl
  | v :: r => by simp [shs, shs_map s r]

def shO (s : Nat) : Ob → Ob
  | .arr es els => .arr es (els.map (sh s))
  | .mp kvs => .mp (kvs.map fun p => (p.1, sh s p.2))
  | .lp b e st => .lp b (e.map fun p => (p.1, sh s p.2)) st
def shK (s : Nat) (p : Nat × Ob) : Nat × Ob := (p.1 + s, shO s p.2)
def shH (b h : Hp) : Hp := ⟨h.objs.map (shK b.next) ++ b.objs, h.next + b.next⟩
def shE (s : Nat) (e : Env) : Env := e.map fun p => (p.1, sh s p.2)

/-- Every name is below the next one. -/
def Low (b : Hp) : Prop := ∀ m, b.next ≤ m → look b.objs m = none

section
variable {s : Nat}

mutual
theorem toD_sh : ∀ v : V, toD (sh s v) = toD v
  | .d _ | .own .. | .ptr .. | .fp .. | .clo .. | .tup _ | .map _ | .yld _ | .ub | .undef => by simp [sh, toD]
  | .tl l nl => by simp only [sh, toD, toDs_sh l]
  | .agg l => by simp only [sh, toD, toDs_sh l]
theorem toDs_sh : ∀ l : List V, toDs (shs s l) = toDs l
  | [] => rfl
  | v :: r => by simp only [shs, toDs, toD_sh v, toDs_sh r]
end
theorem toDs_shm (l : List V) : toDs (l.map (sh s)) = toDs l := by rw [← shs_map, toDs_sh]
theorem norm_sh (v : V) : norm (sh s v) = sh s (norm v) := by
  unfold norm
  rw [toD_sh]
  split <;> rfl
theorem stor_sh (v : V) : stor (sh s v) = stor v := by cases v <;> rfl
theorem map_d_sh (l : List D) : (l.map V.d).map (sh s) = l.map V.d := by rw [List.map_map]; rfl
theorem cells_sh (v : V) : (sh s v).cells = v.cells.map (sh s) := by
  cases v with
  | d x => exact (map_d_sh _).symm
  | agg l => exact shs_map s l
  | _ => rfl
theorem asD_sh : ∀ l : List V, asD (l.map (sh s)) = asD l
  | [] => rfl
  | .d x :: r => by simp only [List.map_cons, sh, asD, asD_sh r]
  | .tl .. :: r | .own .. :: r | .ptr .. :: r | .fp .. :: r | .clo .. :: r | .agg _ :: r | .tup _ :: r | .map _ :: r | .yld _ :: r | .ub :: r | .undef :: r => by simp only [List.map_cons, sh, asD]
theorem mkAgg_sh (l : List V) : mkAgg (l.map (sh s)) = sh s (mkAgg l) := by
  unfold mkAgg
  rw [asD_sh]
  split
  · rfl
  · simp [sh, shs_map]
theorem get_sh : ∀ (e : Env) (t : Nat), Env.get (shE s e) t = sh s (e.get t)
  | [], _ => rfl
  | (u, v) :: r, t => by
    show (if t = u then sh s v else Env.get (shE s r) t) = sh s (if t = u then v else Env.get r t)
    rw [get_sh r t]
    split <;> rfl
theorem putO_sh (e : Env) (t : Option Nat) (v : V) : (shE s e).putO t (sh s v) = shE s (e.putO t v) := by cases t <;> rfl
theorem keep_sh (e : Env) : ∀ l : List Nat, Env.keep (shE s e) l = shE s (Env.keep e l)
  | [] => rfl
  | t :: l => by
    show (t, Env.get (shE s e) t) :: Env.keep (shE s e) l = (t, sh s (e.get t)) :: shE s (Env.keep e l)
    rw [get_sh, keep_sh e l]
theorem keepE_sh (e : Env) (k : Option (List Nat)) : keepE k (shE s e) = shE s (keepE k e) := by
  cases k with
  | none => rfl
  | some l => exact keep_sh e l
theorem args_sh : ∀ (i : Nat) (l : List V), args i (l.map (sh s)) = shE s (args i l)
  | _, [] => rfl
  | i, v :: r => by simp only [List.map_cons, args, args_sh (i + 1) r]; rfl
theorem normArgs_sh : ∀ (b : List Bool) (l : List V), normArgs b (l.map (sh s)) = (normArgs b l).map (sh s)
  | [], _ => by simp [normArgs]
  | _ :: _, [] => rfl
  | b :: bs, v :: r => by
    simp only [List.map_cons, normArgs, normArgs_sh bs r, norm_sh]
    split <;> rfl

/-! Operations on values -/
theorem isNil_sh (k : NK) (v : V) : isNil k (sh s v) = isNil k v := by
  cases v with
  | tl l nl => cases l <;> cases k <;> rfl
  | d x => rfl
  | _ => cases k <;> rfl
theorem ubOf_sh {k : NK} {v r : V} (H : ubOf k v = some r) : ubOf k (sh s v) = some (sh s r) := by
  unfold ubOf at H
  split at H <;> cases H <;> rfl
theorem nilBin_sh {k : NK} {op : BinOp} {v r : V} (H : nilBin k op v = some r) : nilBin k op (sh s v) = some (sh s r) := by
  unfold nilBin at H ⊢
  rw [isNil_sh]
  split at H
  · rename_i b hb; cases H; simp [sh]
  · rename_i b hb; cases H; simp [sh]
  · exact ubOf_sh H
  · exact ubOf_sh H
  · cases H
theorem intBin_d {op : BinOp} {k : IntKind} {a b : Int} {r : V} (H : intBin op k a b = some r) : sh s r = r := by
  unfold intBin at H
  split at H <;> (try split at H) <;> cases H <;> rfl
theorem strBin_d {op : BinOp} {a b : ByteArray} {r : V} (H : strBin op a b = some r) : sh s r = r := by
  unfold strBin at H
  split at H <;> (try split at H) <;> cases H <;> rfl
theorem bin_sh {op : BinOp} {a b r : V} (H : bin op a b = some r) : bin op (sh s a) (sh s b) = some (sh s r) := by
  unfold bin at H
  split at H
  · split at H
    · rename_i h; subst h; rw [intBin_d H]; simpa [bin, sh] using H
    · cases H
  · rw [strBin_d H]; exact H
  · cases H
theorem binB_sh {op : BinOp} {a b r : V} (H : binB op a b = some r) : binB op (sh s a) (sh s b) = some (sh s r) := by
  unfold binB at H
  split at H
  · split at H <;> cases H <;> rfl
  · cases H
theorem aggBin_sh {ks : List KK} {op : BinOp} {a b r : V} (H : aggBin ks op a b = some r) : aggBin ks op (sh s a) (sh s b) = some (sh s r) := by
  unfold aggBin at H
  split at H
  · rename_i x y
    split at H
    · rename_i h1; cases H; simp only [aggBin, sh, h1]
    · rename_i h1; cases H; simp only [aggBin, sh, h1]
    · cases H
  · cases H
theorem un_sh {op : UnOp} {a r : V} (H : un op a = some r) : un op (sh s a) = some (sh s r) := by
  unfold un at H
  split at H
  · split at H <;> cases H <;> rfl
  · split at H <;> cases H <;> rfl
  · cases H
theorem pick_sh {c a b r : V} (H : pick c a b = some r) : pick (sh s c) (sh s a) (sh s b) = some (sh s r) := by
  unfold pick at H
  split at H
  · cases H; simp only [pick, sh]; split <;> rfl
  · cases H
theorem conv_sh {k : IntKind} {a r : V} (H : conv k a = some r) : conv k (sh s a) = some (sh s r) := by
  unfold conv at H
  split at H
  · cases H; rfl
  · cases H
theorem nilck_sh {a r : V} (H : nilck a = some r) : nilck (sh s a) = some (sh s r) := by
  unfold nilck at H
  split at H <;> cases H <;> rfl
theorem lenS_sh {a r : V} (H : lenS a = some r) : lenS (sh s a) = some (sh s r) := by
  unfold lenS at H
  split at H <;> cases H; rfl
theorem lenL_sh {a r : V} (H : lenL a = some r) : lenL (sh s a) = some (sh s r) := by
  unfold lenL at H
  split at H <;> cases H
  · rfl
  · simp [lenL, sh, shs_map, int]
  · rfl
theorem ixOf_sh (v : V) : ixOf (sh s v) = ixOf v := by cases v <;> rfl
theorem ia_sh {es : Nat} {x i r : V} (H : ia es x i = some r) : ia es (sh s x) (sh s i) = some (sh s r) := by
  unfold ia at H ⊢
  rw [ixOf_sh]
  split at H
  · simp only [sh, Option.bind_eq_some_iff] at H ⊢
    obtain ⟨j, h1, y, h2, h3⟩ := H
    refine ⟨j, h1, y, h2, ?_⟩
    split at h3 <;> cases h3
    rename_i hc; rw [if_pos hc]; rfl
  · simp only [sh, Option.bind_eq_some_iff] at H ⊢
    obtain ⟨j, h1, y, h2, x, h3, h4⟩ := H
    refine ⟨j, h1, sh s y, by rw [shs_map]; simp [h2], x, by rw [toD_sh]; exact h3, ?_⟩
    split at h4 <;> cases h4
    rename_i hc; rw [if_pos hc]; rfl
  · simp only [sh, Option.bind_eq_some_iff] at H ⊢
    obtain ⟨j, h1, h2⟩ := H
    refine ⟨j, h1, ?_⟩
    split at h2 <;> cases h2
    rename_i hc; rw [if_pos hc]; rfl
  · cases H
theorem ixS_sh {x i r : V} (H : ixS x i = some r) : ixS (sh s x) (sh s i) = some (sh s r) := by
  unfold ixS at H
  split at H
  · rename_i b
    simp only [sh, ixS, ixOf_sh, Option.bind_eq_some_iff] at H ⊢
    obtain ⟨j, h1, h2⟩ := H
    refine ⟨j, h1, ?_⟩
    split at h2 <;> cases h2
    rename_i hc; rw [dif_pos hc]; rfl
  · cases H
theorem fa_sh {off : Nat} {x r : V} (H : fa off x = some r) : fa off (sh s x) = some (sh s r) := by
  unfold fa at H
  split at H <;> cases H <;> rfl
theorem partV_sh {ag : Bool} {off sz : Nat} {l : List V} {r : V} (H : partV ag off sz l = some r) : partV ag off sz (l.map (sh s)) = some (sh s r) := by
  unfold partV at H ⊢
  split at H
  · rename_i hag
    rw [if_pos hag]
    split at H <;> cases H
    rename_i hc
    rw [if_pos (by rw [List.length_map]; exact hc), ← List.map_drop, ← List.map_take, mkAgg_sh]
  · rename_i hag
    rw [if_neg hag, List.getElem?_map, H]; rfl
theorem fld_sh {ag : Bool} {off sz : Nat} {x r : V} (H : fld ag off sz x = some r) : fld ag off sz (sh s x) = some (sh s r) := by
  unfold fld at H
  split at H
  · simp only [Option.map_eq_some_iff] at H
    obtain ⟨y, h1, h2⟩ := H
    subst h2
    simp [fld, sh, h1]
  · have := partV_sh (s := s) H
    simpa [fld, sh, shs_map] using this
  · cases H
theorem bnd_sh (n : Nat) (x : Option V) : bnd n (x.map (sh s)) = bnd n x := by cases x <;> simp [bnd, ixOf_sh]
theorem allV_sh (es : Nat) (l : List V) : allV es (l.map (sh s)) = allV es l := by
  unfold allV
  rw [List.all_map]
  congr 1
  funext x
  simp [cells_sh]
theorem slcS_sh {x r : V} {lo hi : Option V} (H : slcS x lo hi = some r) : slcS (sh s x) (lo.map (sh s)) (hi.map (sh s)) = some (sh s r) := by
  unfold slcS at H
  split at H
  · simp only [slcS, sh, bnd_sh]
    rw [H]
    simp only [Option.bind_eq_some_iff] at H
    obtain ⟨a, _, b, _, h⟩ := H
    split at h <;> cases h
    rfl
  · cases H
theorem slc_sh {es : Nat} {x r : V} {lo hi : Option V} (H : slc es x lo hi = some r) : slc es (sh s x) (lo.map (sh s)) (hi.map (sh s)) = some (sh s r) := by
  unfold slc at H
  split at H
  · simp only [slc, sh, bnd_sh]
    rw [H]
    simp only [Option.bind_eq_some_iff] at H
    obtain ⟨a, _, b, _, h⟩ := H
    split at h <;> cases h
    rfl
  · simp only [slc, sh, bnd_sh, shs_map, List.length_map, allV_sh, Option.bind_eq_some_iff] at H ⊢
    obtain ⟨a, h1, b, h2, h⟩ := H
    refine ⟨a, h1, b, h2, ?_⟩
    split at h <;> cases h
    rename_i hc; rw [if_pos hc]
    simp [sh, shs_map, List.map_drop]
  · simp only [slc, sh, bnd_sh, Option.bind_eq_some_iff] at H ⊢
    obtain ⟨a, h1, b, h2, h⟩ := H
    refine ⟨a, h1, b, h2, ?_⟩
    split at h <;> cases h
    rename_i hc; rw [if_pos hc]; rfl
  · cases H
theorem slc3_sh {es : Nat} {x r : V} {lo hi mx : Option V} (H : slc3 es x lo hi mx = some r) : slc3 es (sh s x) (lo.map (sh s)) (hi.map (sh s)) (mx.map (sh s)) = some (sh s r) := by
  unfold slc3 at H
  split at H
  · simp only [slc3, sh, bnd_sh, Option.bind_eq_some_iff] at H ⊢
    obtain ⟨a, h1, b, h2, c, h3, h⟩ := H
    refine ⟨a, h1, b, h2, c, h3, ?_⟩
    split at h <;> cases h
    rename_i hc; rw [if_pos hc]
    simp only [sh, shs_map, List.map_map]; rfl
  · simp only [slc3, sh, bnd_sh, shs_map, List.length_map, allV_sh, Option.bind_eq_some_iff] at H ⊢
    obtain ⟨a, h1, b, h2, c, h3, h⟩ := H
    refine ⟨a, h1, b, h2, c, h3, ?_⟩
    split at h <;> cases h
    rename_i hc; rw [if_pos hc]
    simp [sh, shs_map, List.map_drop, List.map_take]
  · cases H
theorem ext_sh {i : Nat} {x r : V} (H : ext i x = some r) : ext i (sh s x) = some (sh s r) := by
  unfold ext at H
  split at H
  · simp [ext, sh, shs_map, H]
  · cases H
theorem lay_sh : ∀ (ps : List (Nat × Nat × V)) (cs r : List V), lay cs ps = some r → lay (cs.map (sh s)) (ps.map fun p => (p.1, p.2.1, sh s p.2.2)) = some (r.map (sh s))
  | [], cs, r, H => by cases H; rfl
  | (off, sz, v) :: ps, cs, r, H => by
    simp only [lay] at H
    split at H
    · rename_i hc
      simp only [List.map_cons, lay]
      rw [if_pos (by rw [stor_sh, cells_sh, List.length_map, List.length_map]; exact hc)]
      have := lay_sh ps _ r H
      rw [cells_sh, ← List.map_take, ← List.map_drop, ← List.map_append, ← List.map_append]
      exact this
    · cases H
end

section
variable {b : Hp} {h : Hp}

theorem look_map : ∀ (l : List (Nat × Ob)) (base : List (Nat × Ob)) (n s : Nat), look (l.map (shK s) ++ base) (n + s) = match look l n with
    | some o => some (shO s o)
    | none => look base (n + s)
  | [], base, n, s => rfl
  | (m, o) :: l, base, n, s => by
    show (if n + s = m + s then some (shO s o) else look (l.map (shK s) ++ base) (n + s)) = match (if n = m then some o else look l n) with
      | some o => some (shO s o)
      | none => look base (n + s)
    by_cases hn : n = m
    · subst hn; simp
    · rw [if_neg (by omega), if_neg hn]; exact look_map l base n s
theorem get_shH (L : Low b) (n : Nat) : (shH b h).get (n + b.next) = (h.get n).map (shO b.next) := by
  unfold Hp.get shH
  rw [look_map]
  split
  · rename_i o ho; rw [ho]; rfl
  · rename_i ho; rw [ho]; exact L _ (by omega)
theorem row_shH (L : Low b) (n tot : Nat) : (shH b h).row (n + b.next) tot = (h.row n tot).map fun r => (r.1, r.2.map (sh b.next)) := by
  unfold Hp.row
  rw [get_shH L]
  cases h.get n with
  | none => rfl
  | some o =>
    cases o with
    | arr es els =>
      simp only [Option.map_some, shO, List.length_map]
      split <;> rfl
    | mp kvs => rfl
    | lp _ _ _ => rfl
theorem upd_map : ∀ (l : List (Nat × Ob)) (base : List (Nat × Ob)) (n s : Nat) (o q : Ob), look l n = some q → upd (l.map (shK s) ++ base) (n + s) (shO s o) = (upd l n o).map (shK s) ++ base
  | [], _, _, _, _, _, hq => by cases hq
  | (m, x) :: l, base, n, s, o, q, hq => by
    show (if n + s = m + s then (m + s, shO s o) :: (l.map (shK s) ++ base) else (m + s, shO s x) :: upd (l.map (shK s) ++ base) (n + s) (shO s o)) = _
    unfold look at hq
    by_cases hn : n = m
    · subst hn; simp [upd, shK]
    · rw [if_neg hn] at hq
      rw [if_neg (by omega), upd_map l base n s o q hq]
      simp [upd, hn, shK]
theorem set_shH {n : Nat} {o q : Ob} (hq : h.get n = some q) : (shH b h).set (n + b.next) (shO b.next o) = shH b (h.set n o) := by
  unfold Hp.set shH
  simp only [Hp.mk.injEq, and_true]
  exact upd_map _ _ _ _ _ q hq
theorem alloc_shH (o : Ob) : (shH b h).alloc (shO b.next o) = shH b (h.alloc o) := by
  unfold Hp.alloc shH
  simp [shK]
  omega
theorem del_low : ∀ {l : List (Nat × Ob)} {n : Nat}, look l n = none → del l n = l
  | [], _, _ => rfl
  | (m, o) :: l, n, hl => by
    unfold look at hl
    split at hl
    · cases hl
    · rename_i hn; unfold del; rw [if_neg hn, del_low hl]
theorem del_map : ∀ (l : List (Nat × Ob)) (base : List (Nat × Ob)) (n s : Nat), look base (n + s) = none → del (l.map (shK s) ++ base) (n + s) = (del l n).map (shK s) ++ base
  | [], base, n, s, hb => by simpa [del] using del_low hb
  | (m, x) :: l, base, n, s, hb => by
    show (if n + s = m + s then (l.map (shK s) ++ base) else (m + s, shO s x) :: del (l.map (shK s) ++ base) (n + s)) = _
    by_cases hn : n = m
    · subst hn; simp [del]
    · rw [if_neg (by omega), del_map l base n s hb]
      simp [del, hn, shK]
theorem kill_shH (L : Low b) (n : Nat) : (shH b h).kill (n + b.next) = shH b (h.kill n) := by
  unfold Hp.kill shH
  simp only [Hp.mk.injEq, and_true]
  exact del_map _ _ _ _ (L _ (by omega))
theorem next_shH : (shH b h).next = h.next + b.next := rfl

theorem ld_sh (L : Low b) {ag : Bool} {sz : Nat} {a r : V} (H : ld ag sz h a = some r) : ld ag sz (shH b h) (sh b.next a) = some (sh b.next r) := by
  unfold ld at H
  split at H
  · simp only [Option.map_eq_some_iff] at H
    obtain ⟨y, h1, h2⟩ := H
    subst h2
    simp [ld, sh, h1]
  · simp only [ld, sh, row_shH L, Option.bind_eq_some_iff, Option.map_eq_some_iff] at H ⊢
    obtain ⟨⟨es, els⟩, h1, e, h2, h3⟩ := H
    refine ⟨_, ⟨_, h1, rfl⟩, sh b.next e, by simp [h2], ?_⟩
    split at h3
    · rename_i hc
      rw [if_pos hc]
      split at h3 <;> cases h3
      · rfl
      · rfl
    · rename_i hc
      rw [if_neg hc, cells_sh]
      exact partV_sh h3
  · cases H
theorem ldf_sh (L : Low b) {ag : Bool} {sz : Nat} {a r : V} (H : ldf ag sz h a = some r) : ldf ag sz (shH b h) (sh b.next a) = some (sh b.next r) := by
  unfold ldf at H
  split at H
  · exact ld_sh L H
  · cases H
theorem arr_sh (s es : Nat) (l : List V) : Ob.arr es (l.map (sh s)) = shO s (.arr es l) := rfl
theorem row_get' {n tot : Nat} {r : Nat × List V} (H : h.row n tot = some r) : ∃ q, h.get n = some q := by
  unfold Hp.row at H
  cases hg : h.get n with
  | none => rw [hg] at H; cases H
  | some q => exact ⟨q, rfl⟩
theorem st_sh (L : Low b) {sz : Nat} {a x : V} {h' : Hp} (H : st sz h a x = some h') : st sz (shH b h) (sh b.next a) (sh b.next x) = some (shH b h') := by
  unfold st at H
  split at H
  · simp only [st, sh, row_shH L, Option.bind_eq_some_iff, Option.map_eq_some_iff] at H ⊢
    obtain ⟨⟨es, els⟩, h1, e, h2, h3⟩ := H
    obtain ⟨q, hq⟩ := row_get' h1
    refine ⟨_, ⟨_, h1, rfl⟩, sh b.next e, by simp [h2], ?_⟩
    simp only [stor_sh, cells_sh, List.length_map] at h3 ⊢
    split at h3
    · rename_i hc
      rw [if_pos hc]
      split at h3
      · rename_i hc2
        cases h3
        rw [if_pos hc2, ← List.map_set, arr_sh, set_shH hq]
      · rename_i hc2
        rw [if_neg hc2]
        split at h3
        · rename_i hc3
          cases h3
          rw [if_pos hc3, ← List.map_take, ← List.map_drop, ← List.map_append, ← List.map_append, mkAgg_sh, ← List.map_set, arr_sh, set_shH hq]
        · cases h3
    · cases h3
  · cases H
theorem elems_sh (L : Low b) {x : V} {l : List V} (H : elems h x = some l) : elems (shH b h) (sh b.next x) = some (l.map (sh b.next)) := by
  unfold elems at H
  split at H
  · cases H; simp only [elems, sh, map_d_sh]
  · cases H; simp only [elems, sh, shs_map]
  · simp only [elems, sh, row_shH L, Option.bind_eq_some_iff, Option.map_eq_some_iff] at H ⊢
    obtain ⟨⟨es, els⟩, h1, h2⟩ := H
    refine ⟨_, ⟨_, h1, rfl⟩, ?_⟩
    simp only [List.length_map]
    split at h2
    · rename_i hc
      cases h2
      rw [if_pos hc, ← List.map_drop, ← List.map_take]
    · cases h2
  · cases H
theorem norms_sh (s : Nat) (l : List V) : (l.map (sh s)).map norm = (l.map norm).map (sh s) := by
  rw [List.map_map, List.map_map]
  exact List.map_congr_left fun x _ => norm_sh x

theorem app_sh (L : Low b) {es by_ : Nat} {x y : V} {r : V × Hp} (H : app es by_ h x y = some r) : app es by_ (shH b h) (sh b.next x) (sh b.next y) = some (sh b.next r.1, shH b r.2) := by
  unfold app at H ⊢
  simp only [Option.bind_eq_some_iff] at H ⊢
  obtain ⟨xs, h1, h2⟩ := H
  refine ⟨_, elems_sh L h1, ?_⟩
  simp only [norms_sh, allV_sh] at h2 ⊢
  split at h2
  case isFalse => cases h2
  rename_i hc
  rw [if_pos hc]
  clear hc h1
  generalize xs.map norm = ns at h2 ⊢
  cases x with
  | tl l nl =>
    simp only [sh, shs_map, allV_sh, List.length_map, List.isEmpty_map] at h2 ⊢
    split at h2
    · rename_i hc2; cases h2; rw [if_pos hc2]; simp [sh, shs_map]
    · rename_i hc2
      rw [if_neg hc2]
      split at h2
      · rename_i hc3
        cases h2
        rw [if_pos hc3, ← List.map_append, arr_sh, alloc_shH]
        simp [sh, next_shH]
      · cases h2
  | own n e tot off len =>
    simp only [sh, row_shH L, Option.bind_eq_some_iff, Option.map_eq_some_iff] at h2 ⊢
    obtain ⟨⟨es', els⟩, h3, h4⟩ := h2
    obtain ⟨q, hq⟩ := row_get' h3
    refine ⟨_, ⟨_, h3, rfl⟩, ?_⟩
    simp only [List.length_map, List.isEmpty_map] at h4 ⊢
    split at h4
    case isFalse => cases h4
    rename_i hc2
    rw [if_pos hc2]
    split at h4
    · rename_i hc3; cases h4; rw [if_pos hc3]; rfl
    · rename_i hc3
      rw [if_neg hc3]
      split at h4
      · rename_i hc4
        cases h4
        rw [if_pos hc4, ← List.map_take, ← List.map_drop, ← List.map_append, ← List.map_append, arr_sh, set_shH hq]
        rfl
      · rename_i hc4
        rw [if_neg hc4]
        split at h4
        · rename_i hc5
          rw [if_pos hc5]
          split at h4
          · rename_i hc6
            cases h4
            rw [if_pos hc6, ← List.map_take, ← List.map_append, arr_sh, set_shH hq]
            rfl
          · rename_i hc6
            cases h4
            rw [if_neg hc6, ← List.map_drop, ← List.map_take, ← List.map_append, arr_sh, kill_shH L, alloc_shH]
            simp [sh, next_shH]
        · cases h4
  | d x =>
    cases x with
    | lst l =>
      simp only [sh, List.isEmpty_map] at h2 ⊢
      split at h2
      · rename_i hc2; cases h2; rw [if_pos hc2]; rfl
      · cases h2
    | _ => cases h2
  | _ => cases h2
theorem appn_sh (L : Low b) {es by_ : Nat} {x y : V} {r : V × Hp} (H : appn es by_ h x y = some r) : appn es by_ (shH b h) (sh b.next x) (sh b.next y) = some (sh b.next r.1, shH b r.2) := by
  unfold appn at H
  split at H
  · exact app_sh L H
  · cases H
theorem elems0_sh {n : Nat} {x : V} {l : List V} (H : elems0 x = some l) : elems0 (sh n x) = some (l.map (sh n)) := by
  unfold elems0 at H
  split at H
  · cases H; simp only [elems0, sh, map_d_sh]
  · cases H; simp only [elems0, sh, shs_map]
  · cases H
theorem appd_sh {b : Hp} {es by_ : Nat} {x y v : V} (H : appd es by_ x y = some v) : appd es by_ (sh b.next x) (sh b.next y) = some (sh b.next v) := by
  unfold appd at H
  split at H
  · rename_i l nl
    simp only [Option.bind_eq_some_iff] at H
    obtain ⟨xs, h1, h2⟩ := H
    have e0 : toD (V.tl (l.map (sh b.next)) nl) = toD (.tl l nl) := by
      have := toD_sh (s := b.next) (.tl l nl)
      simp only [sh, shs_map] at this
      exact this
    simp only [appd, sh, shs_map, elems0_sh h1, Option.bind_some]
    simp only [e0, allV_sh, List.length_map, norms_sh, List.isEmpty_map] at h2 ⊢
    split at h2
    case isFalse => cases h2
    rename_i hc
    rw [if_pos hc]
    split at h2
    · rename_i hc2
      rw [if_pos hc2]
      simp only [Option.map_eq_some_iff] at h2 ⊢
      obtain ⟨q, hq, rfl⟩ := h2
      exact ⟨q, hq, by simp [sh]⟩
    · rename_i hc2
      rw [if_neg hc2]
      split at h2
      · rename_i hc3
        rw [if_pos hc3]
        simp only [Option.map_eq_some_iff] at h2 ⊢
        obtain ⟨q, hq, rfl⟩ := h2
        exact ⟨q, by rw [← List.map_append, toDs_shm]; exact hq, by simp [sh]⟩
      · cases h2
  · cases H
theorem cpy_sh (L : Low b) {es : Nat} {x y : V} {r : V × Hp} (H : cpy es h x y = some r) : cpy es (shH b h) (sh b.next x) (sh b.next y) = some (sh b.next r.1, shH b r.2) := by
  unfold cpy at H ⊢
  simp only [Option.bind_eq_some_iff] at H ⊢
  obtain ⟨xs, h1, h2⟩ := H
  refine ⟨_, elems_sh L h1, ?_⟩
  simp only [allV_sh, List.length_map] at h2 ⊢
  split at h2
  case isFalse => cases h2
  rename_i hc
  rw [if_pos hc]
  cases x with
  | own n e tot off len =>
    simp only [sh, row_shH L, Option.bind_eq_some_iff, Option.map_eq_some_iff] at h2 ⊢
    obtain ⟨⟨es', els⟩, h3, h4⟩ := h2
    obtain ⟨q, hq⟩ := row_get' h3
    refine ⟨_, ⟨_, h3, rfl⟩, ?_⟩
    simp only [List.length_map] at h4 ⊢
    split at h4
    · rename_i hc2
      cases h4
      rw [if_pos hc2, ← List.map_take, ← List.map_take, ← List.map_drop, ← List.map_append, ← List.map_append, arr_sh, set_shH hq]
      rfl
    · cases h4
  | tl l nl =>
    cases l with
    | nil => cases h2; rfl
    | cons _ _ => cases h2
  | _ => cases h2
theorem mkslO_sh {z : V} (hz : sh b.next z = z) {es by_ : Nat} {n : V} {r : V × Hp} (H : mkslO z es by_ h n = some r) : mkslO z es by_ (shH b h) (sh b.next n) = some (sh b.next r.1, shH b r.2) := by
  unfold mkslO at H ⊢
  rw [ixOf_sh]
  simp only [Option.bind_eq_some_iff] at H ⊢
  obtain ⟨k, h1, h2⟩ := H
  refine ⟨k, h1, ?_⟩
  split at h2
  · rename_i hc
    cases h2
    rw [if_pos hc, ← alloc_shH]
    simp [sh, next_shH, shO, hz]
  · cases h2
theorem mkslT_sh {s : Nat} {z : V} (hz : sh s z = z) {by_ : Nat} {n r : V} (H : mkslT z by_ n = some r) : mkslT z by_ (sh s n) = some (sh s r) := by
  unfold mkslT at H ⊢
  rw [ixOf_sh]
  simp only [Option.bind_eq_some_iff] at H ⊢
  obtain ⟨k, h1, h2⟩ := H
  refine ⟨k, h1, ?_⟩
  split at h2
  · rename_i hc
    cases h2
    rw [if_pos hc]
    simp [sh, shs_map, hz]
  · cases h2
theorem entries_sh (L : Low b) {m : V} {l : List (D × V)} (H : entries h m = some l) : entries (shH b h) (sh b.next m) = some (l.map fun p => (p.1, sh b.next p.2)) := by
  unfold entries at H
  split at H
  · rename_i n
    simp only [entries, sh, get_shH L]
    split at H
    · rename_i kvs hg
      cases H
      rw [hg]; rfl
    · cases H
  · cases H; rfl
  · cases H
theorem findK_sh (s : Nat) (kk : KK) (k : D) : ∀ (l : List (D × V)) (r : Option V), findK kk k l = some r → findK kk k (l.map fun p => (p.1, sh s p.2)) = some (r.map (sh s))
  | [], r, H => by cases H; rfl
  | (q, v) :: l, r, H => by
    simp only [findK, List.map_cons] at H ⊢
    split at H
    · cases H; rfl
    · exact findK_sh s kk k l r H
    · cases H
theorem putK_sh (s : Nat) (kk : KK) (k : D) (x : V) : ∀ (l r : List (D × V)), putK kk k x l = some r → putK kk k (sh s x) (l.map fun p => (p.1, sh s p.2)) = some (r.map fun p => (p.1, sh s p.2))
  | [], r, H => by cases H; rfl
  | (q, v) :: l, r, H => by
    simp only [putK, List.map_cons] at H ⊢
    split at H
    · cases H; rfl
    · simp only [Option.map_eq_some_iff] at H ⊢
      obtain ⟨t, h2, h3⟩ := H
      subst h3
      exact ⟨_, putK_sh s kk k x l t h2, rfl⟩
    · cases H
theorem lk_sh (L : Low b) {kk : KK} {z : V} (hz : sh b.next z = z) {ok : Bool} {m k r : V} (H : lk kk z ok h m k = some r) : lk kk z ok (shH b h) (sh b.next m) (sh b.next k) = some (sh b.next r) := by
  unfold lk at H
  split at H
  · simp only [lk, sh, Option.bind_eq_some_iff, Option.map_eq_some_iff] at H ⊢
    obtain ⟨kvs, h1, o, h2, h3⟩ := H
    refine ⟨_, entries_sh L h1, _, findK_sh _ _ _ _ _ h2, ?_⟩
    subst h3
    have hg : (o.map (sh b.next)).getD z = sh b.next (o.getD z) := by cases o <;> simp [hz]
    split
    · simp [sh, shs, hg]
    · exact hg
  · cases H
theorem mu_sh (L : Low b) {kk : KK} {m k x : V} {h' : Hp} (H : mu kk h m k x = some h') : mu kk (shH b h) (sh b.next m) (sh b.next k) (sh b.next x) = some (shH b h') := by
  unfold mu at H
  split at H
  · simp only [mu, sh, get_shH L]
    split at H
    · rename_i n k kvs hg
      rw [hg]
      simp only [Option.map_some, shO, stor_sh, norm_sh]
      split at H
      · rename_i hc
        rw [if_pos hc]
        simp only [Option.map_eq_some_iff] at H ⊢
        obtain ⟨t, h2, h3⟩ := H
        subst h3
        refine ⟨_, putK_sh _ _ _ _ _ _ h2, ?_⟩
        exact set_shH (o := .mp t) hg
      · cases H
    · cases H
  · cases H
theorem lenM_sh (L : Low b) {x r : V} (H : lenM h x = some r) : lenM (shH b h) (sh b.next x) = some (sh b.next r) := by
  unfold lenM at H ⊢
  simp only [Option.map_eq_some_iff] at H ⊢
  obtain ⟨l, h1, h2⟩ := H
  subst h2
  exact ⟨_, entries_sh L h1, by simp [int, sh]⟩
theorem frz_sh (L : Low b) {v : V} {r : V × Hp} (H : frz h v = some r) : frz (shH b h) (sh b.next v) = some (sh b.next r.1, shH b r.2) := by
  unfold frz at H
  split at H
  · simp only [frz, sh, row_shH L, Option.bind_eq_some_iff, Option.map_eq_some_iff] at H ⊢
    obtain ⟨⟨es, els⟩, h1, h2⟩ := H
    refine ⟨_, ⟨_, h1, rfl⟩, ?_⟩
    simp only [List.length_map] at h2 ⊢
    split at h2
    · rename_i hc
      rw [if_pos hc, ← List.map_drop, ← List.map_take, toDs_shm]
      simp only [Option.map_eq_some_iff] at h2 ⊢
      obtain ⟨l, h3, h4⟩ := h2
      subst h4
      exact ⟨l, h3, by rw [kill_shH L]; rfl⟩
    · cases h2
  · simp only [frz, sh, row_shH L, Option.bind_eq_some_iff, Option.map_eq_some_iff] at H ⊢
    obtain ⟨⟨es, els⟩, h1, e, h2, h3⟩ := H
    refine ⟨_, ⟨_, h1, rfl⟩, sh b.next e, by simp [h2], ?_⟩
    rw [toD_sh]
    split at h3
    · rename_i x hx; subst h3; rw [kill_shH L]; rfl
    · subst h3; rfl
  · rename_i hn1 hn2
    simp only [Option.map_eq_some_iff] at H
    obtain ⟨x, h1, h2⟩ := H
    subst h2
    have hfin : ∀ u : V, (∀ n es tot off len, u ≠ .own n es tot off len) → (∀ n tot i off, u ≠ .ptr n tot i off) → toD u = some x → frz (shH b h) u = some (.d x, shH b h) := by
      intro u k1 k2 k3
      cases u with
      | own n es tot off len => exact absurd rfl (k1 _ _ _ _ _)
      | ptr n tot i off => exact absurd rfl (k2 _ _ _ _)
      | _ => simp only [frz, k3, Option.map_some]
    refine hfin _ (fun n es tot off len he => ?_) (fun n tot i off he => ?_) (by rw [toD_sh]; exact h1)
    · cases v <;> simp [sh] at he
      exact hn1 _ _ _ _ _ rfl
    · cases v <;> simp [sh] at he
      exact hn2 _ _ _ _ rfl
end


/-! ### Code without names -/
mutual
def clV : V → Bool
  | .d _ | .fp _ _ | .ub | .undef => true
  | .tl l _ | .clo _ l | .agg l | .tup l => clVs l
  | .own .. | .ptr .. | .map _ | .yld _ => false
def clVs : List V → Bool
  | [] => true
  | v :: r => clV v && clVs r
end
mutual
theorem clV_sh {s : Nat} : ∀ {v : V}, clV v = true → sh s v = v
  | .d _, _ | .fp _ _, _ | .ub, _ | .undef, _ => rfl
  | .tl l _, h | .clo _ l, h | .agg l, h | .tup l, h => by simp only [clV] at h; simp only [sh, clVs_sh h]
  | .own .., h | .ptr .., h | .map _, h | .yld _, h => by simp [clV] at h
theorem clVs_sh {s : Nat} : ∀ {l : List V}, clVs l = true → shs s l = l
  | [], _ => rfl
  | v :: r, h => by simp only [clVs, Bool.and_eq_true] at h; simp only [shs, clV_sh h.1, clVs_sh h.2]
end
def clO : Opd → Bool
  | .t _ => true
  | .c v => clV v
def clOo : Option Opd → Bool
  | none => true
  | some x => clO x
def clOp : AOp → Bool
  | .mv x | .box _ x | .ld _ _ x | .nilck x | .nilBin _ _ x | .un _ x | .conv _ x | .fa _ x | .fld _ _ _ x
  | .lenS x | .lenL x | .lenM x | .ext _ x | .ldf _ _ x => clO x
  | .mksl z _ _ x | .mkslT z _ x => clV z && clO x
  | .pick c a b => clO c && clO a && clO b
  | .alloc _ z => clV z
  | .mkmap => true
  | .build z ps => clVs z && ps.all fun p => clO p.2.2
  | .bsl _ xs | .bslO _ xs | .mkf _ xs => xs.all clO
  | .st _ x y | .bin _ x y | .binB _ x y | .aggBin _ _ x y | .ia _ x y | .ixS x y | .app _ _ x y | .appn _ _ x y | .appf _ _ x y | .appd _ _ x y | .cpy _ x y => clO x && clO y
  | .lk _ z _ x y => clV z && clO x && clO y
  | .slcS x lo hi | .slc _ x lo hi => clO x && clOo lo && clOo hi
  | .slc3 _ x lo hi mx => clO x && clOo lo && clOo hi && clOo mx
  | .mu _ m k x => clO m && clO k && clO x
  | .call f _ xs | .calln f _ xs | .callf f _ xs => clO f && xs.all clO
def clI : It → Bool
  | .o _ op _ => clOp op
  | _ => true
def clC : AC → Bool
  | .reg its _ => its.all clI
  | .seq a b => clC a && clC b
  | .cond c a b => clO c && clC a && clC b
  | .blk _ a | .loop a => clC a
  | .rng g _ => clO g
  | .amb p c a b r => clC p && clO c && clC a && clC b && clC r
  | _ => true

section
variable {b : Hp} {h : Hp} {e : Env} {cf : Cf}

theorem ev_sh {s : Nat} {x : Opd} (hc : clO x = true) : (shE s e).ev x = sh s (e.ev x) := by
  cases x with
  | t n => exact get_sh e n
  | c v => exact (clV_sh hc).symm
theorem evO_sh {s : Nat} {x : Option Opd} (hc : clOo x = true) : x.map (shE s e).ev = (x.map e.ev).map (sh s) := by
  cases x with
  | none => rfl
  | some y => exact congrArg some (ev_sh hc)
theorem evL_sh {s : Nat} {l : List Opd} (hc : l.all clO = true) : l.map (shE s e).ev = (l.map e.ev).map (sh s) := by
  rw [List.map_map]
  exact List.map_congr_left fun x hx => ev_sh (List.all_eq_true.1 hc x hx)

/-- What a call does in a greater heap. -/
def CfSh (b : Hp) (cf : Cf) : Prop := ∀ v vs h r, cf v vs h = some r → cf (sh b.next v) (vs.map (sh b.next)) (shH b h) = some (sh b.next r.1, shH b r.2)

theorem pure_sh {f : Option V} {g : Option V} {r : V × Hp} (hf : ∀ v, f = some v → g = some (sh b.next v)) (H : pureV h f = some r) : pureV (shH b h) g = some (sh b.next r.1, shH b r.2) := by
  cases f with
  | none => cases H
  | some v => cases H; rw [hf v rfl]; rfl

theorem opX_sh (L : Low b) (HC : CfSh b cf) {op : AOp} (hc : clOp op = true) {r : V × Hp} (H : opX cf e h op = some r) : opX cf (shE b.next e) (shH b h) op = some (sh b.next r.1, shH b r.2) := by
  cases op with
  | mv x => cases H; simp only [opX]; rw [ev_sh hc]
  | pick c x y =>
    simp only [clOp, Bool.and_eq_true] at hc
    simp only [opX] at H ⊢
    rw [ev_sh hc.1.1, ev_sh hc.1.2, ev_sh hc.2]
    exact pure_sh (fun v hv => pick_sh hv) H
  | alloc es z =>
    cases H
    simp only [opX, sh, next_shH]
    have hz := clV_sh (s := b.next) hc
    have := alloc_shH (b := b) (h := h) (.arr es [z])
    simp only [shO, List.map_cons, List.map_nil, hz] at this
    rw [this]
  | box es x =>
    simp only [opX] at H ⊢
    rw [ev_sh hc, stor_sh, cells_sh, List.length_map]
    split at H
    · rename_i h1
      cases H
      rw [if_pos h1]
      have := alloc_shH (b := b) (h := h) (.arr es [e.ev x])
      simp only [shO, List.map_cons, List.map_nil] at this
      rw [this]; rfl
    · cases H
  | build z ps =>
    simp only [clOp, Bool.and_eq_true] at hc
    simp only [opX] at H ⊢
    refine pure_sh (fun v hv => ?_) H
    simp only [Option.map_eq_some_iff] at hv ⊢
    obtain ⟨l, h1, h2⟩ := hv
    subst h2
    have h3 := lay_sh (s := b.next) _ _ _ h1
    rw [← shs_map, clVs_sh hc.1, List.map_map] at h3
    refine ⟨_, ?_, mkAgg_sh l⟩
    rw [← h3]
    congr 1
    exact List.map_congr_left fun p hp => by
      show (p.1, p.2.1, (shE b.next e).ev p.2.2) = _
      rw [ev_sh (List.all_eq_true.1 hc.2 p hp)]; rfl
  | bsl es xs =>
    simp only [opX] at H ⊢
    have hl := evL_sh (e := e) (s := b.next) hc
    rw [hl]
    have hall : ((xs.map e.ev).map (sh b.next)).all (fun v => stor v && v.cells.length == es) = (xs.map e.ev).all (fun v => stor v && v.cells.length == es) := by
      rw [List.all_map]; congr 1; funext x; simp [stor_sh, cells_sh]
    rw [hall]
    split at H
    · rename_i h1
      cases H
      rw [if_pos h1]
      simp only [sh, shs_map, List.map_map, Option.some.injEq, Prod.mk.injEq, V.tl.injEq, and_true]
      exact List.map_congr_left fun x hx => by simp only [Function.comp]; rw [ev_sh (List.all_eq_true.1 hc x hx), norm_sh]
    · cases H
  | bslO es xs =>
    simp only [opX] at H ⊢
    have hl := evL_sh (e := e) (s := b.next) hc
    rw [hl]
    have hall : ((xs.map e.ev).map (sh b.next)).all (fun v => stor v && v.cells.length == es) = (xs.map e.ev).all (fun v => stor v && v.cells.length == es) := by
      rw [List.all_map]; congr 1; funext x; simp [stor_sh, cells_sh]
    rw [hall]
    split at H
    · rename_i h1
      cases H
      rw [if_pos h1, ← alloc_shH]
      simp only [sh, next_shH, shO, List.map_map, Option.some.injEq, Prod.mk.injEq, true_and]
      congr 2
      exact List.map_congr_left fun x hx => by simp only [Function.comp]; rw [ev_sh (List.all_eq_true.1 hc x hx), norm_sh]
    · cases H
  | ld ag sz a => simp only [opX] at H ⊢; rw [ev_sh hc]; exact pure_sh (fun v hv => ld_sh L hv) H
  | st sz a x =>
    simp only [clOp, Bool.and_eq_true] at hc
    simp only [opX, Option.map_eq_some_iff] at H ⊢
    obtain ⟨h', h1, h2⟩ := H
    subst h2
    rw [ev_sh hc.1, ev_sh hc.2]
    exact ⟨_, st_sh L h1, rfl⟩
  | nilck x => simp only [opX] at H ⊢; rw [ev_sh hc]; exact pure_sh (fun v hv => nilck_sh hv) H
  | bin op x y => simp only [clOp, Bool.and_eq_true] at hc; simp only [opX] at H ⊢; rw [ev_sh hc.1, ev_sh hc.2]; exact pure_sh (fun v hv => bin_sh hv) H
  | binB op x y => simp only [clOp, Bool.and_eq_true] at hc; simp only [opX] at H ⊢; rw [ev_sh hc.1, ev_sh hc.2]; exact pure_sh (fun v hv => binB_sh hv) H
  | nilBin k op x => simp only [opX] at H ⊢; rw [ev_sh hc]; exact pure_sh (fun v hv => nilBin_sh hv) H
  | aggBin ks op x y => simp only [clOp, Bool.and_eq_true] at hc; simp only [opX] at H ⊢; rw [ev_sh hc.1, ev_sh hc.2]; exact pure_sh (fun v hv => aggBin_sh hv) H
  | un op x => simp only [opX] at H ⊢; rw [ev_sh hc]; exact pure_sh (fun v hv => un_sh hv) H
  | conv k x => simp only [opX] at H ⊢; rw [ev_sh hc]; exact pure_sh (fun v hv => conv_sh hv) H
  | mkf f xs => cases H; simp only [opX, sh, shs_map]; rw [evL_sh hc]
  | mkmap =>
    cases H
    simp only [opX, sh, next_shH]
    have := alloc_shH (b := b) (h := h) (.mp [])
    simp only [shO, List.map_nil] at this
    rw [this]
  | mksl z es by_ n =>
    simp only [clOp, Bool.and_eq_true] at hc
    simp only [opX] at H ⊢
    rw [ev_sh hc.2]
    exact mkslO_sh (clV_sh hc.1) H
  | mkslT z by_ n =>
    simp only [clOp, Bool.and_eq_true] at hc
    simp only [opX] at H ⊢
    rw [ev_sh hc.2]
    exact pure_sh (fun v hv => mkslT_sh (clV_sh hc.1) hv) H
  | slcS x lo hi => simp only [clOp, Bool.and_eq_true] at hc; simp only [opX] at H ⊢; rw [ev_sh hc.1.1, evO_sh hc.1.2, evO_sh hc.2]; exact pure_sh (fun v hv => slcS_sh hv) H
  | slc es x lo hi => simp only [clOp, Bool.and_eq_true] at hc; simp only [opX] at H ⊢; rw [ev_sh hc.1.1, evO_sh hc.1.2, evO_sh hc.2]; exact pure_sh (fun v hv => slc_sh hv) H
  | slc3 es x lo hi mx => simp only [clOp, Bool.and_eq_true] at hc; simp only [opX] at H ⊢; rw [ev_sh hc.1.1.1, evO_sh hc.1.1.2, evO_sh hc.1.2, evO_sh hc.2]; exact pure_sh (fun v hv => slc3_sh hv) H
  | fa off x => simp only [opX] at H ⊢; rw [ev_sh hc]; exact pure_sh (fun v hv => fa_sh hv) H
  | fld ag off sz x => simp only [opX] at H ⊢; rw [ev_sh hc]; exact pure_sh (fun v hv => fld_sh hv) H
  | ia es x y => simp only [clOp, Bool.and_eq_true] at hc; simp only [opX] at H ⊢; rw [ev_sh hc.1, ev_sh hc.2]; exact pure_sh (fun v hv => ia_sh hv) H
  | ixS x y => simp only [clOp, Bool.and_eq_true] at hc; simp only [opX] at H ⊢; rw [ev_sh hc.1, ev_sh hc.2]; exact pure_sh (fun v hv => ixS_sh hv) H
  | lk kk z ok m k => simp only [clOp, Bool.and_eq_true] at hc; simp only [opX] at H ⊢; rw [ev_sh hc.1.2, ev_sh hc.2]; exact pure_sh (fun v hv => lk_sh L (clV_sh hc.1.1) hv) H
  | mu kk m k x =>
    simp only [clOp, Bool.and_eq_true] at hc
    simp only [opX, Option.map_eq_some_iff] at H ⊢
    obtain ⟨h', h1, h2⟩ := H
    subst h2
    rw [ev_sh hc.1.1, ev_sh hc.1.2, ev_sh hc.2]
    exact ⟨_, mu_sh L h1, rfl⟩
  | lenS x => simp only [opX] at H ⊢; rw [ev_sh hc]; exact pure_sh (fun v hv => lenS_sh hv) H
  | lenL x => simp only [opX] at H ⊢; rw [ev_sh hc]; exact pure_sh (fun v hv => lenL_sh hv) H
  | lenM x => simp only [opX] at H ⊢; rw [ev_sh hc]; exact pure_sh (fun v hv => lenM_sh L hv) H
  | app es by_ x y => simp only [clOp, Bool.and_eq_true] at hc; simp only [opX] at H ⊢; rw [ev_sh hc.1, ev_sh hc.2]; exact app_sh L H
  | appn es by_ x y => simp only [clOp, Bool.and_eq_true] at hc; simp only [opX] at H ⊢; rw [ev_sh hc.1, ev_sh hc.2]; exact appn_sh L H
  | appd es by_ x y => simp only [clOp, Bool.and_eq_true] at hc; simp only [opX] at H ⊢; rw [ev_sh hc.1, ev_sh hc.2]; exact pure_sh (fun v hv => appd_sh hv) H
  | appf es by_ x y =>
    simp only [clOp, Bool.and_eq_true] at hc
    simp only [opX] at H ⊢
    rw [ev_sh hc.1, ev_sh hc.2]
    simp only [Option.bind_eq_some_iff] at H ⊢
    obtain ⟨q, h1, h2⟩ := H
    exact ⟨_, app_sh L h1, frz_sh L h2⟩
  | cpy es x y => simp only [clOp, Bool.and_eq_true] at hc; simp only [opX] at H ⊢; rw [ev_sh hc.1, ev_sh hc.2]; exact cpy_sh L H
  | ext i x => simp only [opX] at H ⊢; rw [ev_sh hc]; exact pure_sh (fun v hv => ext_sh hv) H
  | ldf ag sz a => simp only [opX] at H ⊢; rw [ev_sh hc]; exact pure_sh (fun v hv => ldf_sh L hv) H
  | call f nm xs =>
    simp only [clOp, Bool.and_eq_true] at hc
    simp only [opX] at H ⊢
    rw [ev_sh hc.1, evL_sh hc.2, normArgs_sh]
    exact HC _ _ _ _ H
  | callf f nm xs =>
    simp only [clOp, Bool.and_eq_true] at hc
    simp only [opX, Option.bind_eq_some_iff] at H ⊢
    obtain ⟨q, h1, h2⟩ := H
    rw [ev_sh hc.1, evL_sh hc.2, normArgs_sh]
    exact ⟨_, HC _ _ _ _ h1, frz_sh L h2⟩
  | calln f nm xs =>
    simp only [clOp, Bool.and_eq_true] at hc
    simp only [opX, Option.bind_eq_some_iff] at H ⊢
    obtain ⟨q, h1, h2⟩ := H
    rw [ev_sh hc.1, evL_sh hc.2, normArgs_sh]
    refine ⟨_, HC _ _ _ _ h1, ?_⟩
    obtain ⟨h3, h4⟩ := quiet_eq h2
    subst h3
    rw [h4]
    unfold quiet
    rw [if_pos ⟨objsBeq_refl _, rfl⟩]

theorem want_sh {s : Nat} (g : Option (Nat × Bool)) : want (shE s e) g = want e g := by
  cases g with
  | none => rfl
  | some p =>
    simp only [want, get_sh]
    cases e.get p.1 with
    | tup l => cases l <;> rfl
    | _ => rfl
theorem itX_sh (L : Low b) (HC : CfSh b cf) {i : It} (hc : clI i = true) {r : Env × Hp} (H : itX cf e h i = some r) : itX cf (shE b.next e) (shH b h) i = some (shE b.next r.1, shH b r.2) := by
  cases i with
  | o dst op g =>
    simp only [itX, want_sh, Option.bind_eq_some_iff] at H ⊢
    obtain ⟨w, hw, H⟩ := H
    refine ⟨w, hw, ?_⟩
    split at H
    · rename_i h1
      rw [if_pos h1]
      simp only [Option.map_eq_some_iff] at H ⊢
      obtain ⟨q, h2, h3⟩ := H
      subst h3
      exact ⟨_, opX_sh L HC hc h2, by rw [putO_sh]⟩
    · rename_i h1
      rw [if_neg h1]
      cases H
      exact congrArg (fun q => some (q, shH b h)) (putO_sh (s := b.next) e dst (.tup []))
  | frz t =>
    simp only [itX, get_sh, Option.map_eq_some_iff] at H ⊢
    obtain ⟨q, h2, h3⟩ := H
    subst h3
    exact ⟨_, frz_sh L h2, rfl⟩
  | kill t =>
    simp only [itX, get_sh] at H ⊢
    split at H
    · rename_i hx
      cases H
      rw [hx]
      simp only [sh]
      rw [kill_shH L]; rfl
    · rename_i hx
      cases H
      rw [hx]
      simp only [sh]
      rw [kill_shH L]; rfl
    · rename_i k1 k2
      cases H
      split
      · rename_i hx
        exfalso
        cases hq : e.get t <;> rw [hq] at hx <;> simp [sh] at hx
        exact k1 _ _ _ _ hq
      · rename_i hx
        exfalso
        cases hq : e.get t <;> rw [hq] at hx <;> simp [sh] at hx
        exact k2 _ _ _ _ _ hq
      · rfl
end

theorem itsX_sh {b : Hp} {cf : Cf} (L : Low b) (HC : CfSh b cf) : ∀ {l : List It} {e : Env} {h : Hp} {r : Env × Hp}, l.all clI = true → itsX cf l e h = some r → itsX cf l (shE b.next e) (shH b h) = some (shE b.next r.1, shH b r.2)
  | [], _, _, _, _, H => by cases H; rfl
  | i :: l, e, h, r, hc, H => by
    simp only [List.all_cons, Bool.and_eq_true] at hc
    simp only [itsX, Option.bind_eq_some_iff] at H ⊢
    obtain ⟨q, h1, h2⟩ := H
    exact ⟨_, itX_sh L HC hc.1 h1, itsX_sh L HC hc.2 h2⟩

def OutSh (b : Hp) (o : Out) : Out := (o.1, shE b.next o.2.1, shH b o.2.2)
def BfSh (b : Hp) (f : Bf) : Prop := ∀ e h r, f e h = some r → f (shE b.next e) (shH b h) = some (OutSh b r)

theorem loopN_sh {b : Hp} {f : Bf} (hf : BfSh b f) : ∀ n, BfSh b (loopN f n)
  | 0 => fun e h r H => by cases H
  | n + 1 => fun e h r H => by
    simp only [loopN, Option.bind_eq_some_iff] at H ⊢
    obtain ⟨⟨x, e1, h1⟩, h2, h3⟩ := H
    refine ⟨_, hf _ _ _ h2, ?_⟩
    cases x with
    | norm => exact loopN_sh hf n _ _ _ h3
    | exit i => cases h3; rfl
    | ret => cases h3; rfl

theorem rngEnd_sh {b : Hp} (L : Low b) {e : Env} {h : Hp} {n : Nat} {r : Out} (H : rngEnd e h n = some r) : rngEnd (shE b.next e) (shH b h) (n + b.next) = some (OutSh b r) := by
  unfold rngEnd at H ⊢
  rw [get_shH L]
  split at H <;> first | (cases H; done) | skip
  all_goals
    rename_i hg
    cases H
    rw [hg]
    simp only [Option.map_some, shO, kill_shH L]
    rfl
theorem joinV_sh {s : Nat} {a b c : V} (h : joinV a b = some c) : joinV (sh s a) (sh s b) = some (sh s c) := by
  unfold joinV at h ⊢
  split at h
  · rename_i hb; cases h
    have := V.beq_eq hb
    subst this
    rw [if_pos (V.beq_refl _)]
  · rename_i hb
    split at h
    · rename_i p q
      cases h
      rw [if_neg (by simpa [sh, shs] using hb)]
      rfl
    · cases h
theorem joinE_sh {s : Nat} : ∀ {e f j : List (Nat × V)}, joinE e f = some j → joinE (shE s e) (shE s f) = some (shE s j)
  | [], [], _, h => by cases h; rfl
  | (u, x) :: r, (u', y) :: l, j, h => by
    unfold joinE at h
    split at h
    case isFalse => cases h
    rename_i hu
    subst hu
    simp only [Option.bind_eq_some_iff, Option.map_eq_some_iff] at h
    obtain ⟨v, h1, k, h2, rfl⟩ := h
    show (if u = u then (joinV (sh s x) (sh s y)).bind fun v => (joinE (shE s r) (shE s l)).map ((u, v) :: ·) else none) = _
    rw [if_pos rfl, joinV_sh h1]
    simp only [Option.bind_some]
    rw [joinE_sh h2]
    rfl
  | [], _ :: _, _, h => by cases h
  | _ :: _, [], _, h => by cases h
theorem outJoin_sh {b : Hp} {o q r : Out} (h : outJoin o q = some r) : outJoin (OutSh b o) (OutSh b q) = some (OutSh b r) := by
  unfold outJoin at h ⊢
  split at h
  · rename_i hc
    obtain ⟨h1, h2, h3⟩ := hc
    simp only [Option.map_eq_some_iff] at h
    obtain ⟨e, he, rfl⟩ := h
    have hq : (OutSh b o).2.2 = (OutSh b q).2.2 := by
      obtain ⟨x, e1, ob, nx⟩ := o
      obtain ⟨x', e2, ob', nx'⟩ := q
      cases objsBeq_eq h2; cases h3; rfl
    rw [if_pos ⟨h1, by rw [hq]; exact objsBeq_refl _, by rw [hq]⟩]
    show (joinE (shE b.next o.2.1) (shE b.next q.2.1)).map _ = _
    rw [joinE_sh he]
    rfl
  · cases h
theorem exec_sh {b : Hp} {cf : Cf} (L : Low b) (HC : CfSh b cf) (k : Nat) : ∀ c : AC, clC c = true → BfSh b (exec (fun f => loopN f k) cf c) := by
  intro c
  induction c with
  | skip => intro _ e h r H; cases H; rfl
  | reg its kp =>
    intro hc e h r H
    simp only [exec, Option.map_eq_some_iff] at H ⊢
    obtain ⟨q, h1, h2⟩ := H
    subst h2
    exact ⟨_, itsX_sh L HC hc h1, by rw [keepE_sh]; rfl⟩
  | seq x y ihx ihy =>
    intro hc e h r H
    simp only [clC, Bool.and_eq_true] at hc
    simp only [exec, Option.bind_eq_some_iff] at H ⊢
    obtain ⟨⟨o, e1, h1⟩, h2, h3⟩ := H
    refine ⟨_, ihx hc.1 _ _ _ h2, ?_⟩
    cases o with
    | norm => exact ihy hc.2 _ _ _ h3
    | exit i => cases h3; rfl
    | ret => cases h3; rfl
  | cond x p q ihp ihq =>
    intro hc e h r H
    simp only [clC, Bool.and_eq_true] at hc
    simp only [exec, Option.bind_eq_some_iff] at H ⊢
    obtain ⟨t, h1, h2⟩ := H
    refine ⟨t, ?_, ?_⟩
    · rw [ev_sh hc.1.1]
      unfold condB at h1
      split at h1
      · rename_i hx; cases h1; rw [hx]; rfl
      · cases h1
    · split at h2
      · rename_i ht; rw [if_pos ht]; exact ihp hc.1.2 _ _ _ h2
      · rename_i ht; rw [if_neg ht]; exact ihq hc.2 _ _ _ h2
  | blk id x ih =>
    intro hc e h r H
    simp only [exec, Option.map_eq_some_iff] at H ⊢
    obtain ⟨o, h1, h2⟩ := H
    subst h2
    exact ⟨_, ih hc _ _ _ h1, rfl⟩
  | loop x ih =>
    intro hc e h r H
    simp only [exec] at H ⊢
    exact loopN_sh (ih hc) k _ _ _ H
  | exit id => intro _ e h r H; cases H; rfl
  | ret => intro _ e h r H; cases H; rfl
  | amb z x p q r' ihz ihp ihq ihr =>
    intro hc e h r H
    simp only [clC, Bool.and_eq_true] at hc
    simp only [exec] at H ⊢
    rw [Option.bind_eq_some_iff] at H ⊢
    obtain ⟨⟨y0, e0, h0⟩, hz, H⟩ := H
    refine ⟨_, ihz hc.1.1.1.1 _ _ _ hz, ?_⟩
    cases y0 with
    | exit i => cases H; rfl
    | ret => cases H; rfl
    | norm =>
    show ambB x (exec (fun f => loopN f k) cf p) (exec (fun f => loopN f k) cf q) (exec (fun f => loopN f k) cf r') (shE b.next e0) (shH b h0) = some (OutSh b r)
    have H : ambB x (exec (fun f => loopN f k) cf p) (exec (fun f => loopN f k) cf q) (exec (fun f => loopN f k) cf r') e0 h0 = some r := H
    have sq : ∀ (p : AC), BfSh b (exec (fun f => loopN f k) cf p) → ∀ o, (exec (fun f => loopN f k) cf p e0 h0).bind (nxt (exec (fun f => loopN f k) cf r')) = some o → (exec (fun f => loopN f k) cf p (shE b.next e0) (shH b h0)).bind (nxt (exec (fun f => loopN f k) cf r')) = some (OutSh b o) := by
      intro p ih o ho
      simp only [Option.bind_eq_some_iff] at ho ⊢
      obtain ⟨⟨y, e1, h1⟩, h2, h3⟩ := ho
      refine ⟨_, ih _ _ _ h2, ?_⟩
      cases y with
      | norm => exact ihr hc.2 _ _ _ h3
      | exit i => cases h3; rfl
      | ret => cases h3; rfl
    unfold ambB at H ⊢
    rw [ev_sh hc.1.1.1.2]
    split at H
    · rename_i hu
      rw [hu]
      simp only [sh]
      rw [Option.bind_eq_some_iff] at H
      obtain ⟨o1, h1, H⟩ := H
      rw [Option.bind_eq_some_iff] at H
      obtain ⟨o2, h2, h3⟩ := H
      rw [sq p (ihp hc.1.1.2) _ h1]
      simp only [Option.bind_some]
      rw [sq q (ihq hc.1.2) _ h2]
      simp only [Option.bind_some]
      exact outJoin_sh h3
    · rename_i v hv
      have hne : sh b.next (e0.ev x) = .ub → False := by
        intro hx
        generalize e0.ev x = y at hx hv
        cases y <;> first | exact hv rfl | cases hx
      split
      · rename_i hx; exact (hne hx).elim
      rw [Option.bind_eq_some_iff] at H
      obtain ⟨t, h1, h2⟩ := H
      have hcb : condB (sh b.next (e0.ev x)) = some t := by
        unfold condB at h1
        split at h1
        · rename_i hx; cases h1; rw [hx]; rfl
        · cases h1
      rw [hcb]
      simp only [Option.bind_some]
      split at h2
      · rename_i ht; rw [if_pos ht]; exact sq p (ihp hc.1.1.2) _ h2
      · rename_i ht; rw [if_neg ht]; exact sq q (ihq hc.1.2) _ h2
  | rng g n =>
    intro hc e h r H
    simp only [exec] at H ⊢
    split at H
    case isFalse => cases H
    rename_i hcl
    simp only [Option.bind_eq_some_iff] at H
    obtain ⟨q, h1, h2⟩ := H
    have hclo : isClo ((shE b.next e).ev g) = true := by
      rw [ev_sh hc]
      generalize e.ev g = v at hcl
      cases v <;> first | rfl | cases hcl
    rw [if_pos hclo, ev_sh hc]
    have hal : (shH b h).alloc (.lp n (shE b.next e) none) = shH b (h.alloc (.lp n e none)) := alloc_shH (.lp n e none)
    rw [hal]
    have hk := HC _ _ _ _ h1
    have hk' : cf (sh b.next (e.ev g)) [.yld (shH b h).next] (shH b (h.alloc (.lp n e none))) = some (sh b.next q.1, shH b q.2) := hk
    rw [hk']
    exact rngEnd_sh L h2

theorem deep_sh {b h : Hp} (L : Low b) (n0 : Nat) : ∀ (k : Nat) (v : V) (x : D), deep h n0 k v = some x → deep (shH b h) (n0 + b.next) k (sh b.next v) = some x
  | 0, v, x, H => by cases H
  | k + 1, v, x, H => by
    have hm : ∀ (l : List V) (r : List D), l.mapM (deep h n0 k) = some r → (l.map (sh b.next)).mapM (deep (shH b h) (n0 + b.next) k) = some r := by
      intro l
      induction l with
      | nil => intro r hr; cases hr; rfl
      | cons y l ih =>
        intro r hr
        rw [List.mapM_cons] at hr
        cases hy : deep h n0 k y with
        | none => rw [hy] at hr; cases hr
        | some d =>
          rw [hy] at hr
          cases hl : l.mapM (deep h n0 k) with
          | none => rw [hl] at hr; cases hr
          | some ds =>
            rw [hl] at hr
            cases hr
            rw [List.map_cons, List.mapM_cons, deep_sh L n0 k y d hy, ih ds hl]; rfl
    cases v with
    | d y => exact H
    | tl l nl =>
      simp only [deep, sh, shs_map, Option.map_eq_some_iff] at H ⊢
      obtain ⟨r, h1, h2⟩ := H
      exact ⟨r, hm l r h1, h2⟩
    | agg l =>
      simp only [deep, sh, shs_map, Option.map_eq_some_iff] at H ⊢
      obtain ⟨r, h1, h2⟩ := H
      exact ⟨r, hm l r h1, h2⟩
    | own n es tot off len =>
      simp only [deep, sh] at H ⊢
      split at H
      · rename_i hn
        rw [if_pos (by omega)]
        simp only [row_shH L, Option.bind_eq_some_iff, Option.map_eq_some_iff] at H ⊢
        obtain ⟨⟨es', els⟩, h1, h2⟩ := H
        refine ⟨_, ⟨_, h1, rfl⟩, ?_⟩
        simp only [List.length_map] at h2 ⊢
        split at h2
        · rename_i hc
          rw [if_pos hc, ← List.map_drop, ← List.map_take]
          simp only [Option.map_eq_some_iff] at h2 ⊢
          obtain ⟨r, h3, h4⟩ := h2
          exact ⟨r, hm _ r h3, h4⟩
        · cases h2
      · cases H
    | _ => cases H

theorem old_sh {s n0 : Nat} {v : V} (H : old n0 v = true) : old (n0 + s) (sh s v) = true := by
  cases v <;> simp only [old, Bool.false_eq_true] at H <;> simp only [old, sh, decide_eq_true_eq] at H ⊢ <;> omega
theorem back1_sh {b h : Hp} (L : Low b) {n0 : Nat} {v r : V} (H : back1 h n0 v = some r) : back1 (shH b h) (n0 + b.next) (sh b.next v) = some (sh b.next r) := by
  unfold back1 at H ⊢
  split at H
  · rename_i x hx
    cases H
    rw [deep_sh L n0 8 v x hx]; rfl
  · split at H
    · rename_i ho
      cases H
      have hn : deep (shH b h) (n0 + b.next) 8 (sh b.next v) = none := by
        cases v with
        | own n es tot off len =>
          have ho' : decide (n < n0) = true := ho
          simp only [decide_eq_true_eq] at ho'
          simp only [sh, deep]
          rw [if_neg (by omega)]
        | ptr n tot i off => rfl
        | map n => rfl
        | yld n => rfl
        | _ => cases ho
      rw [hn]
      simp only
      rw [if_pos (old_sh ho)]
    · cases H
theorem sufOk_sh {b h0 h : Hp} (H : sufOk h0.objs h.objs = true) : sufOk (shH b h0).objs (shH b h).objs = true := by
  unfold sufOk at H ⊢
  have h1 := objsBeq_eq H
  have hle : h0.objs.length ≤ h.objs.length := by
    have := congrArg List.length h1
    rw [List.length_drop] at this
    omega
  have : h.objs = h.objs.take (h.objs.length - h0.objs.length) ++ h0.objs := by
    conv => lhs; rw [← List.take_append_drop (h.objs.length - h0.objs.length) h.objs]
    rw [← h1]
  have h2 : (shH b h).objs = (h.objs.take (h.objs.length - h0.objs.length)).map (shK b.next) ++ (shH b h0).objs := by
    show h.objs.map (shK b.next) ++ b.objs = _ ++ (h0.objs.map (shK b.next) ++ b.objs)
    rw [← List.append_assoc, ← List.map_append, ← this]
  rw [h2, List.length_append, Nat.add_sub_cancel, List.drop_left]
  exact objsBeq_refl _
theorem finish_sh {b h0 h : Hp} (L : Low b) {fn : AF} {e : Env} {r : V × Hp} (H : finish fn h0 e h = some r) : finish fn (shH b h0) (shE b.next e) (shH b h) = some (sh b.next r.1, shH b r.2) := by
  have hres : ∀ (l : List (Nat × Option (Bool × Nat))) (vs : List V), resL e h l = some vs → resL (shE b.next e) (shH b h) l = some (vs.map (sh b.next)) := by
    intro l
    induction l with
    | nil => intro vs hv; cases hv; rfl
    | cons p l ih =>
      intro vs hv
      obtain ⟨t, o⟩ := p
      cases o with
      | none =>
        simp only [resL, Option.map_eq_some_iff] at hv ⊢
        obtain ⟨ws, h1, rfl⟩ := hv
        exact ⟨_, ih ws h1, by rw [List.map_cons, get_sh]⟩
      | some q =>
        obtain ⟨ag, sz⟩ := q
        simp only [resL, Option.bind_eq_some_iff, Option.map_eq_some_iff] at hv ⊢
        obtain ⟨v, h1, ws, h2, rfl⟩ := hv
        exact ⟨sh b.next v, by rw [get_sh]; exact ld_sh L h1, _, ih ws h2, rfl⟩
  have hrv : ∀ l : List V, resV (l.map (sh b.next)) = sh b.next (resV l) := by
    intro l
    match l with
    | [] => rfl
    | [x] => rfl
    | x :: y :: l => simp [resV, sh, shs_map]
  unfold finish at H ⊢
  simp only [Option.bind_eq_some_iff] at H
  obtain ⟨vs0, hv0, H⟩ := H
  rw [hres _ _ hv0]
  simp only [Option.bind_some]
  split at H
  · rename_i hs
    rw [if_pos hs]
    split at H
    · rename_i h1
      rw [if_pos (sufOk_sh h1)]
      simp only [Option.map_eq_some_iff] at H ⊢
      obtain ⟨l, h2, h3⟩ := H
      subst h3
      have hm : ∀ (l r : List V), l.mapM (back1 h h0.next) = some r → (l.map (sh b.next)).mapM (back1 (shH b h) (shH b h0).next) = some (r.map (sh b.next)) := by
        intro l
        induction l with
        | nil => intro r hr; cases hr; rfl
        | cons y l ih =>
          intro r hr
          rw [List.mapM_cons] at hr
          cases hy : back1 h h0.next y with
          | none => rw [hy] at hr; cases hr
          | some d =>
            rw [hy] at hr
            cases hl : l.mapM (back1 h h0.next) with
            | none => rw [hl] at hr; cases hr
            | some ds =>
              rw [hl] at hr
              cases hr
              rw [List.map_cons, List.mapM_cons, show (shH b h0).next = h0.next + b.next from rfl, back1_sh L hy]
              have := ih ds hl
              rw [show (shH b h0).next = h0.next + b.next from rfl] at this
              rw [this]; rfl
      exact ⟨_, hm _ _ h2, by rw [hrv]⟩
    · cases H
  · rename_i hs
    rw [if_neg hs, hrv]
    cases H
    rfl

theorem deep_low {h : Hp} {n0 n1 : Nat} (hn : n1 ≤ n0) : ∀ (k : Nat) (v : V) (x : D), deep h n0 k v = some x → deep h n1 k v = some x
  | 0, v, x, H => by cases H
  | k + 1, v, x, H => by
    have hm : ∀ (l : List V) (r : List D), l.mapM (deep h n0 k) = some r → l.mapM (deep h n1 k) = some r := by
      intro l
      induction l with
      | nil => intro r hr; exact hr
      | cons y l ih =>
        intro r hr
        rw [List.mapM_cons] at hr ⊢
        cases hy : deep h n0 k y with
        | none => rw [hy] at hr; cases hr
        | some d =>
          rw [hy] at hr
          cases hl : l.mapM (deep h n0 k) with
          | none => rw [hl] at hr; cases hr
          | some ds => rw [hl] at hr; rw [deep_low hn k y d hy, ih ds hl]; exact hr
    cases v with
    | d z => exact H
    | tl l nl =>
      simp only [deep, Option.map_eq_some_iff] at H ⊢
      obtain ⟨r, h1, h2⟩ := H
      exact ⟨r, hm _ _ h1, h2⟩
    | agg l =>
      simp only [deep, Option.map_eq_some_iff] at H ⊢
      obtain ⟨r, h1, h2⟩ := H
      exact ⟨r, hm _ _ h1, h2⟩
    | own n es tot off len =>
      simp only [deep] at H ⊢
      split at H
      case isFalse => cases H
      rename_i h0
      rw [if_pos (Nat.le_trans hn h0)]
      simp only [Option.bind_eq_some_iff] at H ⊢
      obtain ⟨r, h1, h2⟩ := H
      refine ⟨r, h1, ?_⟩
      split at h2
      case isFalse => cases h2
      rename_i h3
      rw [if_pos h3]
      simp only [Option.map_eq_some_iff] at h2 ⊢
      obtain ⟨s, h4, h5⟩ := h2
      exact ⟨s, hm _ _ h4, h5⟩
    | _ => cases H
theorem primC_sh {b h : Hp} (L : Low b) {k : Nat} {vs : List V} {r : V × Hp} (H : primC k vs h = some r) : primC k (vs.map (sh b.next)) (shH b h) = some (sh b.next r.1, shH b r.2) := by
  unfold primC at H ⊢
  simp only [Option.bind_eq_some_iff, Option.map_eq_some_iff] at H ⊢
  obtain ⟨ds, h1, y, h2, rfl⟩ := H
  refine ⟨ds, ?_, y, h2, rfl⟩
  clear h2
  induction vs generalizing ds with
  | nil => cases h1; rfl
  | cons v vs ih =>
    rw [List.mapM_cons] at h1
    cases hv : deep h 0 8 v with
    | none => rw [hv] at h1; cases h1
    | some d =>
      rw [hv] at h1
      cases hl : vs.mapM (deep h 0 8) with
      | none => rw [hl] at h1; cases h1
      | some ds' =>
        rw [hl] at h1
        cases h1
        rw [List.map_cons, List.mapM_cons, deep_low (Nat.zero_le _) 8 _ _ (deep_sh L 0 8 v d hv), ih ds' hl]
        rfl

/-- A table whose code names no object. -/
def TabCl (T : Tab) : Prop := ∀ f fn, T f = some fn → clC fn.body = true

theorem binds_sh {s : Nat} : ∀ (ps : List Nat) (vs : List V) (e : Env), binds ps (vs.map (sh s)) (shE s e) = shE s (binds ps vs e)
  | [], vs, e => by cases vs <;> rfl
  | p :: ps, [], e => rfl
  | p :: ps, v :: vs, e => by
    simp only [List.map_cons, binds]
    exact binds_sh ps vs ((p, v) :: e)
theorem rndEnd_sh {b : Hp} (L : Low b) {n : Nat} {o : Out} {r : V × Hp} (H : rndEnd n o = some r) : rndEnd (n + b.next) (OutSh b o) = some (sh b.next r.1, shH b r.2) := by
  unfold rndEnd at H ⊢
  split at H
  case h_2 => cases H
  rename_i b1 e1 hg
  cases H
  have hg' : (OutSh b o).2.2.get (n + b.next) = some (.lp b1 (e1.map fun p => (p.1, sh b.next p.2)) (some .norm)) := by
    show (shH b o.2.2).get (n + b.next) = _
    rw [get_shH L, hg]; rfl
  rw [hg']
  simp only
  have := set_shH (b := b) (o := .lp b1 e1 (if o.1 = .norm then none else some o.1)) hg
  simp only [shO] at this
  show some (bool (decide (o.1 = .norm)), (shH b o.2.2).set (n + b.next) (.lp b1 (e1.map fun p => (p.1, sh b.next p.2)) (if o.1 = .norm then none else some o.1))) = _
  rw [this]
  rfl
theorem rnd_sh {T : Tab} (HT : TabCl T) {b : Hp} {cf : Cf} (L : Low b) (HC : CfSh b cf) (k : Nat) {n : Nat} {vs : List V} {h : Hp} {r : V × Hp} (H : rnd T (fun f => loopN f k) cf n vs h = some r) : rnd T (fun f => loopN f k) cf (n + b.next) (vs.map (sh b.next)) (shH b h) = some (sh b.next r.1, shH b r.2) := by
  unfold rnd at H ⊢
  rw [get_shH L]
  split at H
  case h_2 => cases H
  rename_i q e hg
  rw [hg]
  simp only [Option.map_some, shO]
  cases hT : T (RB + q) with
  | none => rw [hT] at H; cases H
  | some fn =>
    rw [hT] at H
    simp only [Option.bind_some] at H ⊢
    split at H
    case h_2 => cases H
    rename_i asg bdy hb
    have hcl := HT _ _ hT
    rw [hb] at hcl
    simp only [clC, Bool.and_eq_true] at hcl
    simp only [List.length_map]
    split at H
    case isFalse => cases H
    rename_i hn
    rw [if_pos hn]
    simp only [Option.bind_eq_some_iff] at H ⊢
    obtain ⟨o, h1, h2⟩ := H
    refine ⟨OutSh b o, ?_, ?_⟩
    · have := exec_sh L HC k asg hcl.1 _ _ _ h1
      rw [← binds_sh] at this
      exact this
    · obtain ⟨x, e1, h3⟩ := o
      simp only [OutSh] at h2 ⊢
      cases x with
      | exit i => cases h2
      | ret => cases h2
      | norm =>
        rw [get_shH L]
        split at h2
        case h_2 => cases h2
        rename_i b' e' _ hg2
        rw [hg2]
        simp only [Option.map_some, shO]
        simp only [Option.bind_eq_some_iff] at h2 ⊢
        obtain ⟨o2, h4, h5⟩ := h2
        refine ⟨OutSh b o2, ?_, rndEnd_sh L h5⟩
        have := exec_sh L HC k bdy hcl.2 _ _ _ h4
        have hs := set_shH (b := b) (o := .lp b' e' (some .norm)) hg2
        simp only [shO] at hs
        rw [hs]
        exact this
theorem callK_sh {T : Tab} (HT : TabCl T) {b : Hp} (L : Low b) : ∀ (k f : Nat) (vs : List V) (h : Hp) (r : V × Hp), callK T k f vs h = some r → callK T k f (vs.map (sh b.next)) (shH b h) = some (sh b.next r.1, shH b r.2)
  | 0, _, _, _, _, H => by cases H
  | k + 1, f, vs, h, r, H => by
    have HC : CfSh b (callee (callK T k)) := by
      intro v vs h r H
      cases v with
      | clo g caps =>
        simp only [callee, sh, shs_map] at H ⊢
        split at H
        · cases H
        rename_i hg
        rw [if_neg hg, ← List.map_append]
        exact callK_sh HT L k g (vs ++ caps) h r H
      | yld n =>
        have := callK_sh HT L k YF (.yld n :: vs) h r H
        exact this
      | _ => cases H
    unfold callK body at H ⊢
    split at H
    · rename_i hy
      rw [if_pos hy]
      split at H
      case h_2 => cases H
      exact rnd_sh HT L HC k H
    rename_i hy
    rw [if_neg hy]
    split at H
    case isFalse => cases H
    rename_i hrb
    rw [if_pos hrb]
    simp only [Option.bind_eq_some_iff] at H ⊢
    obtain ⟨fn, hT, H⟩ := H
    refine ⟨fn, hT, ?_⟩
    rw [List.length_map]
    split at H
    · rename_i hn
      rw [if_pos hn]
      cases hp : isPr fn.body with
      | some q => rw [hp] at H; exact primC_sh L H
      | none =>
      rw [hp] at H
      simp only [Option.bind_eq_some_iff] at H ⊢
      obtain ⟨o, h1, h2⟩ := H
      rw [args_sh]
      refine ⟨_, exec_sh L HC k fn.body (HT f fn hT) _ _ _ h1, ?_⟩
      obtain ⟨x, e1, h3⟩ := o
      cases x with
      | exit i => cases h2
      | norm => exact finish_sh L h2
      | ret => exact finish_sh L h2
    · cases H

theorem callW_sh {T : Tab} (HT : TabCl T) {b : Hp} (L : Low b) {f : Nat} {vs : List V} {h : Hp} {r : V × Hp} (H : callW T f vs h = some r) : callW T f (vs.map (sh b.next)) (shH b h) = some (sh b.next r.1, shH b r.2) := by
  obtain ⟨k, hk⟩ := callW_some.1 H
  exact callW_some.2 ⟨k, callK_sh HT L k f vs h r hk⟩

/-- What is shown in the empty heap holds in every heap. -/
theorem callW_any {T : Tab} (HT : TabCl T) {f : Nat} {xs : List D} {y : D} (H : callW T f (xs.map .d) ⟨[], 0⟩ = some (.d y, ⟨[], 0⟩)) {b : Hp} (L : Low b) : callW T f (xs.map .d) b = some (.d y, b) := by
  have := callW_sh HT L H
  rw [map_d_sh] at this
  have hb : shH b ⟨[], 0⟩ = b := by cases b; simp [shH]
  rw [hb] at this
  exact this
end Zv
end
section
set_option linter.unusedSimpArgs false
set_option linter.unusedVariables false
namespace Zc27
open Go Zv
theorem k3 : fnOk Go.Proofs.Try.prog tab 3 f3 = true := by kernel_rfl
theorem k4 : fnOk Go.Proofs.Try.prog tab 4 f4 = true := by kernel_rfl
theorem k6 : fnOk Go.Proofs.Try.prog tab 6 f6 = true := by kernel_rfl
theorem k8 : fnOk Go.Proofs.Try.prog tab 8 f8 = true := by kernel_rfl
theorem k9 : fnOk Go.Proofs.Try.prog tab 9 f9 = true := by kernel_rfl
theorem k10 : fnOk Go.Proofs.Try.prog tab 10 f10 = true := by kernel_rfl
theorem k11 : fnOk Go.Proofs.Try.prog tab 11 f11 = true := by kernel_rfl
theorem k12 : fnOk Go.Proofs.Try.prog tab 12 f12 = true := by kernel_rfl
theorem k13 : fnOk Go.Proofs.Try.prog tab 13 f13 = true := by kernel_rfl
theorem k14 : fnOk Go.Proofs.Try.prog tab 14 f14 = true := by kernel_rfl
theorem k15 : fnOk Go.Proofs.Try.prog tab 15 f15 = true := by kernel_rfl
theorem k16 : fnOk Go.Proofs.Try.prog tab 16 f16 = true := by kernel_rfl
theorem k17 : fnOk Go.Proofs.Try.prog tab 17 f17 = true := by kernel_rfl
theorem k18 : fnOk Go.Proofs.Try.prog tab 18 f18 = true := by kernel_rfl
theorem k19 : fnOk Go.Proofs.Try.prog tab 19 f19 = true := by kernel_rfl
theorem k20 : fnOk Go.Proofs.Try.prog tab 20 f20 = true := by kernel_rfl
theorem k21 : fnOk Go.Proofs.Try.prog tab 21 f21 = true := by kernel_rfl
theorem k22 : fnOk Go.Proofs.Try.prog tab 22 f22 = true := by kernel_rfl
theorem k23 : fnOk Go.Proofs.Try.prog tab 23 f23 = true := by kernel_rfl
theorem k24 : fnOk Go.Proofs.Try.prog tab 24 f24 = true := by kernel_rfl
theorem k25 : fnOk Go.Proofs.Try.prog tab 25 f25 = true := by kernel_rfl
theorem k26 : fnOk Go.Proofs.Try.prog tab 26 f26 = true := by kernel_rfl
theorem k27 : fnOk Go.Proofs.Try.prog tab 27 f27 = true := by kernel_rfl
theorem k28 : fnOk Go.Proofs.Try.prog tab 28 f28 = true := by kernel_rfl
theorem k29 : fnOk Go.Proofs.Try.prog tab 29 f29 = true := by kernel_rfl
theorem k30 : fnOk Go.Proofs.Try.prog tab 30 f30 = true := by kernel_rfl
theorem k31 : fnOk Go.Proofs.Try.prog tab 31 f31 = true := by kernel_rfl
theorem k32 : fnOk Go.Proofs.Try.prog tab 32 f32 = true := by kernel_rfl
theorem k33 : fnOk Go.Proofs.Try.prog tab 33 f33 = true := by kernel_rfl
theorem k34 : fnOk Go.Proofs.Try.prog tab 34 f34 = true := by kernel_rfl
theorem k35 : fnOk Go.Proofs.Try.prog tab 35 f35 = true := by kernel_rfl
theorem k36 : fnOk Go.Proofs.Try.prog tab 36 f36 = true := by kernel_rfl
theorem k37 : fnOk Go.Proofs.Try.prog tab 37 f37 = true := by kernel_rfl
theorem k38 : fnOk Go.Proofs.Try.prog tab 38 f38 = true := by kernel_rfl
theorem k39 : fnOk Go.Proofs.Try.prog tab 39 f39 = true := by kernel_rfl
theorem k40 : fnOk Go.Proofs.Try.prog tab 40 f40 = true := by kernel_rfl
theorem k41 : fnOk Go.Proofs.Try.prog tab 41 f41 = true := by kernel_rfl
theorem k42 : fnOk Go.Proofs.Try.prog tab 42 f42 = true := by kernel_rfl
theorem k43 : fnOk Go.Proofs.Try.prog tab 43 f43 = true := by kernel_rfl
theorem k44 : fnOk Go.Proofs.Try.prog tab 44 f44 = true := by kernel_rfl
theorem k45 : fnOk Go.Proofs.Try.prog tab 45 f45 = true := by kernel_rfl
theorem k46 : fnOk Go.Proofs.Try.prog tab 46 f46 = true := by kernel_rfl
theorem k47 : fnOk Go.Proofs.Try.prog tab 47 f47 = true := by kernel_rfl
theorem k48 : fnOk Go.Proofs.Try.prog tab 48 f48 = true := by kernel_rfl
theorem k49 : fnOk Go.Proofs.Try.prog tab 49 f49 = true := by kernel_rfl
theorem k50 : fnOk Go.Proofs.Try.prog tab 50 f50 = true := by kernel_rfl
theorem k51 : fnOk Go.Proofs.Try.prog tab 51 f51 = true := by kernel_rfl
theorem k52 : fnOk Go.Proofs.Try.prog tab 52 f52 = true := by kernel_rfl
theorem k53 : fnOk Go.Proofs.Try.prog tab 53 f53 = true := by kernel_rfl
theorem k54 : fnOk Go.Proofs.Try.prog tab 54 f54 = true := by kernel_rfl
theorem k55 : fnOk Go.Proofs.Try.prog tab 55 f55 = true := by kernel_rfl
theorem k56 : fnOk Go.Proofs.Try.prog tab 56 f56 = true := by kernel_rfl
theorem k57 : fnOk Go.Proofs.Try.prog tab 57 f57 = true := by kernel_rfl
theorem k58 : fnOk Go.Proofs.Try.prog tab 58 f58 = true := by kernel_rfl
theorem k59 : fnOk Go.Proofs.Try.prog tab 59 f59 = true := by kernel_rfl
theorem k60 : fnOk Go.Proofs.Try.prog tab 60 f60 = true := by kernel_rfl
theorem k61 : fnOk Go.Proofs.Try.prog tab 61 f61 = true := by kernel_rfl
theorem k62 : fnOk Go.Proofs.Try.prog tab 62 f62 = true := by kernel_rfl
theorem k63 : fnOk Go.Proofs.Try.prog tab 63 f63 = true := by kernel_rfl
theorem k64 : fnOk Go.Proofs.Try.prog tab 64 f64 = true := by kernel_rfl
theorem k65 : fnOk Go.Proofs.Try.prog tab 65 f65 = true := by kernel_rfl
theorem k66 : fnOk Go.Proofs.Try.prog tab 66 f66 = true := by kernel_rfl
theorem k67 : fnOk Go.Proofs.Try.prog tab 67 f67 = true := by kernel_rfl
theorem k68 : fnOk Go.Proofs.Try.prog tab 68 f68 = true := by kernel_rfl
theorem k69 : fnOk Go.Proofs.Try.prog tab 69 f69 = true := by kernel_rfl
theorem k70 : fnOk Go.Proofs.Try.prog tab 70 f70 = true := by kernel_rfl
theorem k71 : fnOk Go.Proofs.Try.prog tab 71 f71 = true := by kernel_rfl
theorem k72 : fnOk Go.Proofs.Try.prog tab 72 f72 = true := by kernel_rfl
theorem k73 : fnOk Go.Proofs.Try.prog tab 73 f73 = true := by kernel_rfl
theorem k74 : fnOk Go.Proofs.Try.prog tab 74 f74 = true := by kernel_rfl
theorem k75 : fnOk Go.Proofs.Try.prog tab 75 f75 = true := by kernel_rfl
theorem k76 : fnOk Go.Proofs.Try.prog tab 76 f76 = true := by kernel_rfl
theorem k77 : fnOk Go.Proofs.Try.prog tab 77 f77 = true := by kernel_rfl
theorem k78 : fnOk Go.Proofs.Try.prog tab 78 f78 = true := by kernel_rfl
theorem k79 : fnOk Go.Proofs.Try.prog tab 79 f79 = true := by kernel_rfl
theorem k80 : fnOk Go.Proofs.Try.prog tab 80 f80 = true := by kernel_rfl
theorem k81 : fnOk Go.Proofs.Try.prog tab 81 f81 = true := by kernel_rfl
theorem k82 : fnOk Go.Proofs.Try.prog tab 82 f82 = true := by kernel_rfl
theorem k83 : fnOk Go.Proofs.Try.prog tab 83 f83 = true := by kernel_rfl
theorem k84 : fnOk Go.Proofs.Try.prog tab 84 f84 = true := by kernel_rfl
theorem k85 : fnOk Go.Proofs.Try.prog tab 85 f85 = true := by kernel_rfl
theorem k86 : fnOk Go.Proofs.Try.prog tab 86 f86 = true := by kernel_rfl
theorem k87 : fnOk Go.Proofs.Try.prog tab 87 f87 = true := by kernel_rfl
theorem k88 : fnOk Go.Proofs.Try.prog tab 88 f88 = true := by kernel_rfl
theorem k89 : fnOk Go.Proofs.Try.prog tab 89 f89 = true := by kernel_rfl
theorem k90 : fnOk Go.Proofs.Try.prog tab 90 f90 = true := by kernel_rfl
theorem k91 : fnOk Go.Proofs.Try.prog tab 91 f91 = true := by kernel_rfl
theorem k92 : fnOk Go.Proofs.Try.prog tab 92 f92 = true := by kernel_rfl
theorem k93 : fnOk Go.Proofs.Try.prog tab 93 f93 = true := by kernel_rfl
theorem k94 : fnOk Go.Proofs.Try.prog tab 94 f94 = true := by kernel_rfl
theorem k95 : fnOk Go.Proofs.Try.prog tab 95 f95 = true := by kernel_rfl
theorem k96 : fnOk Go.Proofs.Try.prog tab 96 f96 = true := by kernel_rfl
theorem k97 : fnOk Go.Proofs.Try.prog tab 97 f97 = true := by kernel_rfl
theorem k98 : fnOk Go.Proofs.Try.prog tab 98 f98 = true := by kernel_rfl
theorem k99 : fnOk Go.Proofs.Try.prog tab 99 f99 = true := by kernel_rfl
theorem k100 : fnOk Go.Proofs.Try.prog tab 100 f100 = true := by kernel_rfl
theorem tabOk : TabOk Go.Proofs.Try.prog tab := by
  intro n fn hlt h
  unfold tab at h
  split at h
  · cases h; exact .inl k3
  · cases h; exact .inl k4
  · cases h; exact .inl k6
  · cases h; exact .inl k8
  · cases h; exact .inl k9
  · cases h; exact .inl k10
  · cases h; exact .inl k11
  · cases h; exact .inl k12
  · cases h; exact .inl k13
  · cases h; exact .inl k14
  · cases h; exact .inl k15
  · cases h; exact .inl k16
  · cases h; exact .inl k17
  · cases h; exact .inl k18
  · cases h; exact .inl k19
  · cases h; exact .inl k20
  · cases h; exact .inl k21
  · cases h; exact .inl k22
  · cases h; exact .inl k23
  · cases h; exact .inl k24
  · cases h; exact .inl k25
  · cases h; exact .inl k26
  · cases h; exact .inl k27
  · cases h; exact .inl k28
  · cases h; exact .inl k29
  · cases h; exact .inl k30
  · cases h; exact .inl k31
  · cases h; exact .inl k32
  · cases h; exact .inl k33
  · cases h; exact .inl k34
  · cases h; exact .inl k35
  · cases h; exact .inl k36
  · cases h; exact .inl k37
  · cases h; exact .inl k38
  · cases h; exact .inl k39
  · cases h; exact .inl k40
  · cases h; exact .inl k41
  · cases h; exact .inl k42
  · cases h; exact .inl k43
  · cases h; exact .inl k44
  · exact absurd hlt (by decide)
  · cases h; exact .inl k45
  · cases h; exact .inl k46
  · cases h; exact .inl k47
  · cases h; exact .inl k48
  · cases h; exact .inl k49
  · cases h; exact .inl k50
  · cases h; exact .inl k51
  · exact absurd hlt (by decide)
  · cases h; exact .inl k52
  · cases h; exact .inl k53
  · cases h; exact .inl k54
  · cases h; exact .inl k55
  · cases h; exact .inl k56
  · cases h; exact .inl k57
  · cases h; exact .inl k58
  · cases h; exact .inl k59
  · cases h; exact .inl k60
  · cases h; exact .inl k61
  · cases h; exact .inl k62
  · cases h; exact .inl k63
  · cases h; exact .inl k64
  · cases h; exact .inl k65
  · cases h; exact .inl k66
  · cases h; exact .inl k67
  · cases h; exact .inl k68
  · cases h; exact .inl k69
  · cases h; exact .inl k70
  · cases h; exact .inl k71
  · cases h; exact .inl k72
  · cases h; exact .inl k73
  · cases h; exact .inl k74
  · cases h; exact .inl k75
  · cases h; exact .inl k76
  · cases h; exact .inl k77
  · cases h; exact .inl k78
  · cases h; exact .inl k79
  · cases h; exact .inl k80
  · cases h; exact .inl k81
  · cases h; exact .inl k82
  · cases h; exact .inl k83
  · cases h; exact .inl k84
  · cases h; exact .inl k85
  · cases h; exact .inl k86
  · cases h; exact .inl k87
  · cases h; exact .inl k88
  · cases h; exact .inl k89
  · cases h; exact .inl k90
  · cases h; exact .inl k91
  · cases h; exact .inl k92
  · cases h; exact .inl k93
  · cases h; exact .inl k94
  · cases h; exact .inl k95
  · cases h; exact .inl k96
  · cases h; exact .inl k97
  · cases h; exact .inl k98
  · cases h; exact .inl k99
  · cases h; exact .inl k100
  · cases h
theorem c3 : clC f3.body = true := by kernel_rfl
theorem c4 : clC f4.body = true := by kernel_rfl
theorem c6 : clC f6.body = true := by kernel_rfl
theorem c8 : clC f8.body = true := by kernel_rfl
theorem c9 : clC f9.body = true := by kernel_rfl
theorem c10 : clC f10.body = true := by kernel_rfl
theorem c11 : clC f11.body = true := by kernel_rfl
theorem c12 : clC f12.body = true := by kernel_rfl
theorem c13 : clC f13.body = true := by kernel_rfl
theorem c14 : clC f14.body = true := by kernel_rfl
theorem c15 : clC f15.body = true := by kernel_rfl
theorem c16 : clC f16.body = true := by kernel_rfl
theorem c17 : clC f17.body = true := by kernel_rfl
theorem c18 : clC f18.body = true := by kernel_rfl
theorem c19 : clC f19.body = true := by kernel_rfl
theorem c20 : clC f20.body = true := by kernel_rfl
theorem c21 : clC f21.body = true := by kernel_rfl
theorem c22 : clC f22.body = true := by kernel_rfl
theorem c23 : clC f23.body = true := by kernel_rfl
theorem c24 : clC f24.body = true := by kernel_rfl
theorem c25 : clC f25.body = true := by kernel_rfl
theorem c26 : clC f26.body = true := by kernel_rfl
theorem c27 : clC f27.body = true := by kernel_rfl
theorem c28 : clC f28.body = true := by kernel_rfl
theorem c29 : clC f29.body = true := by kernel_rfl
theorem c30 : clC f30.body = true := by kernel_rfl
theorem c31 : clC f31.body = true := by kernel_rfl
theorem c32 : clC f32.body = true := by kernel_rfl
theorem c33 : clC f33.body = true := by kernel_rfl
theorem c34 : clC f34.body = true := by kernel_rfl
theorem c35 : clC f35.body = true := by kernel_rfl
theorem c36 : clC f36.body = true := by kernel_rfl
theorem c37 : clC f37.body = true := by kernel_rfl
theorem c38 : clC f38.body = true := by kernel_rfl
theorem c39 : clC f39.body = true := by kernel_rfl
theorem c40 : clC f40.body = true := by kernel_rfl
theorem c41 : clC f41.body = true := by kernel_rfl
theorem c42 : clC f42.body = true := by kernel_rfl
theorem c43 : clC f43.body = true := by kernel_rfl
theorem c44 : clC f44.body = true := by kernel_rfl
theorem c1000704 : clC f1000704.body = true := by kernel_rfl
theorem c45 : clC f45.body = true := by kernel_rfl
theorem c46 : clC f46.body = true := by kernel_rfl
theorem c47 : clC f47.body = true := by kernel_rfl
theorem c48 : clC f48.body = true := by kernel_rfl
theorem c49 : clC f49.body = true := by kernel_rfl
theorem c50 : clC f50.body = true := by kernel_rfl
theorem c51 : clC f51.body = true := by kernel_rfl
theorem c1000816 : clC f1000816.body = true := by kernel_rfl
theorem c52 : clC f52.body = true := by kernel_rfl
theorem c53 : clC f53.body = true := by kernel_rfl
theorem c54 : clC f54.body = true := by kernel_rfl
theorem c55 : clC f55.body = true := by kernel_rfl
theorem c56 : clC f56.body = true := by kernel_rfl
theorem c57 : clC f57.body = true := by kernel_rfl
theorem c58 : clC f58.body = true := by kernel_rfl
theorem c59 : clC f59.body = true := by kernel_rfl
theorem c60 : clC f60.body = true := by kernel_rfl
theorem c61 : clC f61.body = true := by kernel_rfl
theorem c62 : clC f62.body = true := by kernel_rfl
theorem c63 : clC f63.body = true := by kernel_rfl
theorem c64 : clC f64.body = true := by kernel_rfl
theorem c65 : clC f65.body = true := by kernel_rfl
theorem c66 : clC f66.body = true := by kernel_rfl
theorem c67 : clC f67.body = true := by kernel_rfl
theorem c68 : clC f68.body = true := by kernel_rfl
theorem c69 : clC f69.body = true := by kernel_rfl
theorem c70 : clC f70.body = true := by kernel_rfl
theorem c71 : clC f71.body = true := by kernel_rfl
theorem c72 : clC f72.body = true := by kernel_rfl
theorem c73 : clC f73.body = true := by kernel_rfl
theorem c74 : clC f74.body = true := by kernel_rfl
theorem c75 : clC f75.body = true := by kernel_rfl
theorem c76 : clC f76.body = true := by kernel_rfl
theorem c77 : clC f77.body = true := by kernel_rfl
theorem c78 : clC f78.body = true := by kernel_rfl
theorem c79 : clC f79.body = true := by kernel_rfl
theorem c80 : clC f80.body = true := by kernel_rfl
theorem c81 : clC f81.body = true := by kernel_rfl
theorem c82 : clC f82.body = true := by kernel_rfl
theorem c83 : clC f83.body = true := by kernel_rfl
theorem c84 : clC f84.body = true := by kernel_rfl
theorem c85 : clC f85.body = true := by kernel_rfl
theorem c86 : clC f86.body = true := by kernel_rfl
theorem c87 : clC f87.body = true := by kernel_rfl
theorem c88 : clC f88.body = true := by kernel_rfl
theorem c89 : clC f89.body = true := by kernel_rfl
theorem c90 : clC f90.body = true := by kernel_rfl
theorem c91 : clC f91.body = true := by kernel_rfl
theorem c92 : clC f92.body = true := by kernel_rfl
theorem c93 : clC f93.body = true := by kernel_rfl
theorem c94 : clC f94.body = true := by kernel_rfl
theorem c95 : clC f95.body = true := by kernel_rfl
theorem c96 : clC f96.body = true := by kernel_rfl
theorem c97 : clC f97.body = true := by kernel_rfl
theorem c98 : clC f98.body = true := by kernel_rfl
theorem c99 : clC f99.body = true := by kernel_rfl
theorem c100 : clC f100.body = true := by kernel_rfl
theorem tabCl : TabCl tab := by
  intro n fn h
  unfold tab at h
  split at h
  · cases h; exact c3
  · cases h; exact c4
  · cases h; exact c6
  · cases h; exact c8
  · cases h; exact c9
  · cases h; exact c10
  · cases h; exact c11
  · cases h; exact c12
  · cases h; exact c13
  · cases h; exact c14
  · cases h; exact c15
  · cases h; exact c16
  · cases h; exact c17
  · cases h; exact c18
  · cases h; exact c19
  · cases h; exact c20
  · cases h; exact c21
  · cases h; exact c22
  · cases h; exact c23
  · cases h; exact c24
  · cases h; exact c25
  · cases h; exact c26
  · cases h; exact c27
  · cases h; exact c28
  · cases h; exact c29
  · cases h; exact c30
  · cases h; exact c31
  · cases h; exact c32
  · cases h; exact c33
  · cases h; exact c34
  · cases h; exact c35
  · cases h; exact c36
  · cases h; exact c37
  · cases h; exact c38
  · cases h; exact c39
  · cases h; exact c40
  · cases h; exact c41
  · cases h; exact c42
  · cases h; exact c43
  · cases h; exact c44
  · cases h; exact c1000704
  · cases h; exact c45
  · cases h; exact c46
  · cases h; exact c47
  · cases h; exact c48
  · cases h; exact c49
  · cases h; exact c50
  · cases h; exact c51
  · cases h; exact c1000816
  · cases h; exact c52
  · cases h; exact c53
  · cases h; exact c54
  · cases h; exact c55
  · cases h; exact c56
  · cases h; exact c57
  · cases h; exact c58
  · cases h; exact c59
  · cases h; exact c60
  · cases h; exact c61
  · cases h; exact c62
  · cases h; exact c63
  · cases h; exact c64
  · cases h; exact c65
  · cases h; exact c66
  · cases h; exact c67
  · cases h; exact c68
  · cases h; exact c69
  · cases h; exact c70
  · cases h; exact c71
  · cases h; exact c72
  · cases h; exact c73
  · cases h; exact c74
  · cases h; exact c75
  · cases h; exact c76
  · cases h; exact c77
  · cases h; exact c78
  · cases h; exact c79
  · cases h; exact c80
  · cases h; exact c81
  · cases h; exact c82
  · cases h; exact c83
  · cases h; exact c84
  · cases h; exact c85
  · cases h; exact c86
  · cases h; exact c87
  · cases h; exact c88
  · cases h; exact c89
  · cases h; exact c90
  · cases h; exact c91
  · cases h; exact c92
  · cases h; exact c93
  · cases h; exact c94
  · cases h; exact c95
  · cases h; exact c96
  · cases h; exact c97
  · cases h; exact c98
  · cases h; exact c99
  · cases h; exact c100
  · cases h
end Zc27
end
section
set_option linter.unusedSimpArgs false
set_option linter.unusedVariables false
set_option linter.unusedSimpArgs false
namespace Zv
open Go

/-- Types of cells, and of elements. -/
inductive CT where
  | b
  | i (k : IntKind)
  | s
  | l (e : Nat)
  deriving Inhabited
inductive ET where
  | one (c : CT)
  | st (cs : List CT)
  deriving Inhabited

mutual
def ok (E : Nat → ET) : ET → D → Prop
  | .one .b, .bool _ => True
  | .one (.i k), .int k' n => k' = k ∧ (Lit.int k n).wf = true
  | .one .s, .str s => s.size ≤ maxLen
  | .one (.l e), .lst xs => xs.length ≤ maxLen ∧ okEs E (E e) xs
  | .st cs, .agg ys => okCs E cs ys
  | _, _ => False
def okEs (E : Nat → ET) (t : ET) : List D → Prop
  | [] => True
  | x :: r => ok E t x ∧ okEs E t r
def okCs (E : Nat → ET) : List CT → List D → Prop
  | [], [] => True
  | c :: cs, y :: ys => ok E (.one c) y ∧ okCs E cs ys
  | _, _ => False
end

theorem okEs_app {E : Nat → ET} {t : ET} : ∀ {l r : List D}, okEs E t l → okEs E t r → okEs E t (l ++ r)
  | [], _, _, h => h
  | x :: l, r, h, k => by simp only [okEs] at h; exact (show ok E t x ∧ okEs E t (l ++ r) from ⟨h.1, okEs_app h.2 k⟩)

theorem ok_i {E : Nat → ET} {k : IntKind} {x : D} (h : ok E (.one (.i k)) x) : ∃ n, x = .int k n ∧ (Lit.int k n).wf = true := by
  cases x <;> simp [ok] at h
  obtain ⟨rfl, h⟩ := h
  exact ⟨_, rfl, h⟩
theorem ok_s {E : Nat → ET} {x : D} (h : ok E (.one .s) x) : ∃ s, x = .str s ∧ s.size ≤ maxLen := by
  cases x <;> simp [ok] at h
  exact ⟨_, rfl, h⟩
theorem ok_l {E : Nat → ET} {e : Nat} {x : D} (h : ok E (.one (.l e)) x) : ∃ l, x = .lst l ∧ l.length ≤ maxLen ∧ okEs E (E e) l := by
  cases x <;> simp [ok] at h
  exact ⟨_, rfl, h⟩
theorem ok_st {E : Nat → ET} {cs : List CT} {x : D} (h : ok E (.st cs) x) : ∃ l, x = .agg l ∧ okCs E cs l := by
  cases x <;> simp [ok] at h
  exact ⟨_, rfl, h⟩
theorem okCs_nil {E : Nat → ET} {l : List D} (h : okCs E [] l) : l = [] := by
  cases l <;> simp [okCs] at h
  rfl
theorem okCs_cons {E : Nat → ET} {c : CT} {cs : List CT} {l : List D} (h : okCs E (c :: cs) l) : ∃ y r, l = y :: r ∧ ok E (.one c) y ∧ okCs E cs r := by
  cases l <;> simp [okCs] at h
  exact ⟨_, _, rfl, h⟩

def flatF (P : Program) (g : TypeId → Option (List TypeId)) : List Field → Nat → Option (List TypeId)
  | [], _ => some []
  | f :: r, off => if f.offset = off then (match g f.type with
    | some a => if a.length = P.cellsOf f.type then (flatF P g r (off + a.length)).map fun q => a ++ q else none
    | none => none) else none
def flat (P : Program) : Nat → TypeId → Option (List TypeId)
  | 0, _ => none
  | n + 1, t => match P.underlying t with
    | some (.struct fs) => match flatF P (flat P n) fs.toList 0 with
      | some tl => if tl.length = P.cellsOf t then some tl else none
      | none => none
    | some .bool | some (.int _) | some .string | some (.slice _) => some [t]
    | _ => none

def mtCT (P : Program) (tys : List TypeId) (t : TypeId) : CT → Bool
  | .b => match P.underlying t with
    | some .bool => true
    | _ => false
  | .i k => match P.underlying t with
    | some (.int k') => decide (k' = k)
    | _ => false
  | .s => match P.underlying t with
    | some .string => true
    | _ => false
  | .l j => match P.underlying t with
    | some (.slice e) => decide (tys[j]? = some e)
    | _ => false
def mtCTs (P : Program) (tys : List TypeId) : List TypeId → List CT → Bool
  | [], [] => true
  | t :: ts, c :: cs => mtCT P tys t c && mtCTs P tys ts cs
  | _, _ => false
def mtET (P : Program) (tys : List TypeId) (t : TypeId) : ET → Bool
  | .one c => mtCT P tys t c
  | .st cs => (match P.underlying t with
    | some (.struct _) => true
    | _ => false) && (match flat P 12 t with
    | some tl => mtCTs P tys tl cs
    | none => false)
def mtEs (P : Program) (tys : List TypeId) : List TypeId → List ET → Bool
  | [], [] => true
  | t :: ts, e :: es => mtET P tys t e && !(P.cellsOf t == 0) && mtEs P tys ts es
  | _, _ => false

section
variable {H : Type} {enc : TypeId × Value → H} {P : Program} {w : World} {base : Nat} {sp : Nat → Bool} {held : Bool}

theorem trod_leaf {t : TypeId} {n : Nat} {cs : List Value} {x : DataW H × List MemPlace} (ht : P.underlying t = some .bool ∨ (∃ k, P.underlying t = some (.int k)) ∨ P.underlying t = some .string ∨ ∃ e, P.underlying t = some (.slice e))
    (h : DataW.trod enc P w base sp held n t cs = some x) : ∃ v, cs = [v] := by
  rcases ht with ht | ⟨k, ht⟩ | ht | ⟨e, ht⟩
  · obtain ⟨b, h1, _⟩ := DataW.trod_bool ht h; exact ⟨_, h1⟩
  · obtain ⟨b, h1, _⟩ := DataW.trod_int ht h; exact ⟨_, h1⟩
  · obtain ⟨b, h1, _⟩ := DataW.trod_string ht h; exact ⟨_, h1⟩
  · rcases DataW.trod_slice ht h with ⟨h1, _⟩ | ⟨a, len, cap, elems, rest, n, _, h1, _⟩
    · exact ⟨_, h1⟩
    · exact ⟨_, h1⟩

theorem flat_ok : ∀ (n : Nat) {t : TypeId} {tl : List TypeId}, flat P n t = some tl → ∀ (m : Nat) (cs : List Value) (x : DataW H × List MemPlace), DataW.trod enc P w base sp held m t cs = some x →
    cs.length = tl.length ∧ ∀ (i : Nat) (ty : TypeId) (v : Value), tl[i]? = some ty → cs[i]? = some v → ∃ m' x', m' ≤ m ∧ DataW.trod enc P w base sp held m' ty [v] = some x'
  | 0, _, _, h => by cases h
  | n + 1, t, tl, hf => by
    have leafCase : (P.underlying t = some .bool ∨ (∃ k, P.underlying t = some (.int k)) ∨ P.underlying t = some .string ∨ ∃ e, P.underlying t = some (.slice e)) → tl = [t] →
        ∀ (m : Nat) (cs : List Value) (x : DataW H × List MemPlace), DataW.trod enc P w base sp held m t cs = some x →
        cs.length = tl.length ∧ ∀ (i : Nat) (ty : TypeId) (v : Value), tl[i]? = some ty → cs[i]? = some v → ∃ m' x', m' ≤ m ∧ DataW.trod enc P w base sp held m' ty [v] = some x' := by
      rintro hl rfl m cs x h
      obtain ⟨v, rfl⟩ := trod_leaf hl h
      refine ⟨rfl, fun i ty u h1 h2 => ?_⟩
      cases i with
      | zero => simp at h1 h2; subst h1; subst h2; exact ⟨m, x, Nat.le_refl _, h⟩
      | succ i => simp at h1
    unfold flat at hf
    split at hf
    · rename_i fs ht
      split at hf
      · rename_i tl' hff
        split at hf
        · rename_i hlen
          cases hf
          intro m cs x h
          obtain ⟨xs, m', hm, _, hcl, hxl, hx⟩ := DataW.trod_struct ht h
          refine ⟨by rw [hcl, hlen], ?_⟩
          -- the fields from one on
          have go : ∀ (r : List Field) (k off : Nat) (q : List TypeId), fs.toList.drop k = r → flatF P (flat P n) r off = some q → ∀ (i : Nat) (ty : TypeId) (v : Value), q[i]? = some ty → cs[off + i]? = some v → ∃ m' x', m' ≤ m ∧ DataW.trod enc P w base sp held m' ty [v] = some x' := by
            intro r
            induction r with
            | nil => intro k off q _ hq i ty v h1; cases hq; simp at h1
            | cons f r ih =>
              intro k off q hk hq i ty v h1 h2
              have hfk : fs[k]? = some f := by
                have : (fs.toList.drop k)[0]? = some f := by rw [hk]; rfl
                rw [List.getElem?_drop, Nat.add_zero] at this
                rw [← Array.getElem?_toList]; exact this
              have hklt : k < fs.size := (Array.getElem?_eq_some_iff.1 hfk).1
              simp only [flatF] at hq
              split at hq
              · rename_i hoff
                split at hq
                · rename_i a ha
                  split at hq
                  · rename_i hal
                    simp only [Option.map_eq_some_iff] at hq
                    obtain ⟨q', hq', rfl⟩ := hq
                    have hxk := hx k f hfk
                    have hsome : xs[k]? = some (xs[k]'(by omega)) := by simp [show k < xs.length by omega]
                    rw [hsome] at hxk
                    obtain ⟨hl1, hl2⟩ := flat_ok n ha _ _ _ hxk
                    by_cases hia : i < a.length
                    · rw [List.getElem?_append_left hia] at h1
                      obtain ⟨m2, x2, hm2, hx2⟩ := hl2 i ty v h1 (by
                        rw [List.getElem?_take_of_lt (by omega), List.getElem?_drop, hoff]; exact h2)
                      exact ⟨m2, x2, by omega, hx2⟩
                    · rw [List.getElem?_append_right (by omega)] at h1
                      exact ih (k + 1) (off + a.length) q' (by rw [← List.drop_drop, hk]; rfl) hq' (i - a.length) ty v h1 (by rw [show off + a.length + (i - a.length) = off + i by omega]; exact h2)
                  · cases hq
                · cases hq
              · cases hq
          exact fun i ty v h1 h2 => go fs.toList 0 0 tl (by simp) hff i ty v h1 (by rw [Nat.zero_add]; exact h2)
        · cases hf
      · cases hf
    · rename_i ht; cases hf; exact leafCase (.inl ht) rfl
    · rename_i k ht; cases hf; exact leafCase (.inr (.inl ⟨k, ht⟩)) rfl
    · rename_i ht; cases hf; exact leafCase (.inr (.inr (.inl ht))) rfl
    · rename_i e ht; cases hf; exact leafCase (.inr (.inr (.inr ⟨e, ht⟩))) rfl
    · cases hf

theorem cells?_spec {a : Addr} : ∀ {n : Nat} {cs : List Value}, w.cells? base a n = some cs → cs.length = n ∧ ∀ i, i < n → ∃ v, cs[i]? = some v ∧ w.cell? (a.add i) = some v := by
  intro n cs h
  unfold World.cells? at h
  split at h
  · have hl : cs.length = n := by have := mapM_length h; simpa using this
    refine ⟨hl, fun i hi => ?_⟩
    have hget : ∀ (l : List Nat) (r : List Value), l.mapM (fun i => w.cell? (a.add i)) = some r → ∀ (i j : Nat), l[i]? = some j → ∃ v, r[i]? = some v ∧ w.cell? (a.add j) = some v := by
      intro l
      induction l with
      | nil => intro r _ i j hj; simp at hj
      | cons x l ih =>
        intro r hr i j hj
        obtain ⟨b, s, h1, h2, rfl⟩ := mapM_cons hr
        cases i with
        | zero => simp at hj; subst hj; exact ⟨b, rfl, h1⟩
        | succ i => exact ih s h2 i j (by simpa using hj)
    exact hget _ _ h i i (by simp [hi])
  · cases h

theorem mtEs_at {tys : List TypeId} : ∀ {ts : List TypeId} {es : List ET} {j : Nat} {e : TypeId}, mtEs P tys ts es = true → ts[j]? = some e → ∃ et, es[j]? = some et ∧ mtET P tys e et = true ∧ P.cellsOf e ≠ 0
  | [], _, _, _, _, h => by simp at h
  | t :: ts, [], _, _, hm, _ => by cases hm
  | t :: ts, x :: es, j, e, hm, h => by
    simp only [mtEs, Bool.and_eq_true] at hm
    cases j with
    | zero => simp at h; subst h; exact ⟨x, rfl, hm.1.1, by simpa using hm.1.2⟩
    | succ j =>
      obtain ⟨et, h1, h2⟩ := mtEs_at hm.2 (by simpa using h)
      exact ⟨et, by simpa using h1, h2⟩

theorem mtCTs_at {tys : List TypeId} : ∀ {tl : List TypeId} {cs : List CT}, mtCTs P tys tl cs = true → cs.length = tl.length ∧ ∀ (i : Nat) (c : CT), cs[i]? = some c → ∃ ty, tl[i]? = some ty ∧ mtCT P tys ty c = true
  | [], [], _ => ⟨rfl, fun i c h => by simp at h⟩
  | t :: ts, x :: cs, hm => by
    simp only [mtCTs, Bool.and_eq_true] at hm
    obtain ⟨h1, h2⟩ := mtCTs_at hm.2
    refine ⟨by simp [h1], fun i c hc => ?_⟩
    cases i with
    | zero => simp at hc; subst hc; exact ⟨t, rfl, hm.1⟩
    | succ i => obtain ⟨ty, k1, k2⟩ := h2 i c (by simpa using hc); exact ⟨ty, by simpa using k1, k2⟩
  | [], _ :: _, h => by cases h
  | _ :: _, [], h => by cases h

def EE (es : List ET) (j : Nat) : ET := es.getD j (.one .b)

/-- What is read of a cell, and of an element, is pure data. -/
theorem trod_rep {tys : List TypeId} {es : List ET} (hE : mtEs P tys tys es = true) : ∀ (n : Nat),
    (∀ (t : TypeId) (c : CT) (v : Value) (x : DataW H × List MemPlace), mtCT P tys t c = true → DataW.trod enc P w base sp held n t [v] = some x → ∃ d, ok (EE es) (.one c) d ∧ RepD (fun b => w.heap[b]?) d v ∧ leaf v ∧ d.cells = [d]) ∧
    (∀ (t : TypeId) (et : ET) (cs : List Value) (x : DataW H × List MemPlace), mtET P tys t et = true → DataW.trod enc P w base sp held n t cs = some x → ∃ d, ok (EE es) et d ∧ RepDs (fun b => w.heap[b]?) d.cells cs ∧ d.cells.length = cs.length ∧ (∀ c, et = .one c → ∃ v, cs = [v] ∧ RepD (fun b => w.heap[b]?) d v ∧ leaf v)) := by
  intro n
  induction n using Nat.strongRecOn with
  | _ n ih =>
    have hC : ∀ (t : TypeId) (c : CT) (v : Value) (x : DataW H × List MemPlace), mtCT P tys t c = true → DataW.trod enc P w base sp held n t [v] = some x → ∃ d, ok (EE es) (.one c) d ∧ RepD (fun b => w.heap[b]?) d v ∧ leaf v ∧ d.cells = [d] := by
      intro t c v x hm h
      cases c with
      | b =>
        simp only [mtCT] at hm
        split at hm
        · rename_i ht
          obtain ⟨b, h1, _⟩ := DataW.trod_bool ht h
          cases h1
          exact ⟨.bool b, by simp [ok], .bool b, trivial, rfl⟩
        · cases hm
      | i k =>
        simp only [mtCT] at hm
        split at hm
        · rename_i k' ht
          have := of_decide_eq_true hm
          subst this
          obtain ⟨q, h1, _, h2⟩ := DataW.trod_int ht h
          cases h1
          exact ⟨.int k' q, by simp [ok, h2], .int k' q, trivial, rfl⟩
        · cases hm
      | s =>
        simp only [mtCT] at hm
        split at hm
        · rename_i ht
          obtain ⟨s, h1, _, h2⟩ := DataW.trod_string ht h
          cases h1
          exact ⟨.str s, by simpa [ok] using h2, .str s, trivial, rfl⟩
        · cases hm
      | l j =>
        simp only [mtCT] at hm
        split at hm
        · rename_i e ht
          have hj := of_decide_eq_true hm
          obtain ⟨et, he1, he2, he3⟩ := mtEs_at hE hj
          rcases DataW.trod_slice ht h with ⟨h1, _⟩ | ⟨a, len, cap, elems, rest, m, hnm, h1, _, hb, hlc, hcm, hel, hat, _⟩
          · cases h1
            exact ⟨.lst [], by simp [ok, okEs], .lst [] 0 0 none [] (fun x hx => by cases hx) (Nat.le_refl _) .nil (.inl rfl), trivial, rfl⟩
          · cases h1
            -- the first k elements
            have build : ∀ k, k ≤ len → ∃ (xs : List D) (vs : List Value), xs.length = k ∧ vs.length = k * P.cellsOf e ∧ okEs (EE es) et xs ∧ (∀ x, x ∈ xs → x.cells.length = P.cellsOf e) ∧ RepDs (fun b => w.heap[b]?) (xs.flatMap D.cells) vs ∧
                ∀ j v, vs[j]? = some v → w.cell? ⟨a.block, a.off + j, none⟩ = some v ∧ a.spot = none := by
              intro k
              induction k with
              | zero => intro _; exact ⟨[], [], rfl, by simp, by simp [okEs], (fun x hx => by cases hx), .nil, fun j v hj => by simp at hj⟩
              | succ k ihk =>
                intro hk
                obtain ⟨xs, vs, b1, b2, b3, b4, b5, b6⟩ := ihk (by omega)
                have hak := hat k (by omega)
                have hsome : elems[k]? = some (elems[k]'(by omega)) := by simp [show k < elems.length by omega]
                rw [hsome, Option.bind_eq_some_iff] at hak
                obtain ⟨cs, hcs, htr⟩ := hak
                obtain ⟨hcl, hcat⟩ := cells?_spec hcs
                obtain ⟨d, d1, d2, d3, _⟩ := (ih m (by omega)).2 e et cs _ he2 htr
                refine ⟨xs ++ [d], vs ++ cs, by simp [b1], by rw [List.length_append, b2, hcl, Nat.add_mul, Nat.one_mul], okEs_app b3 (by simp [okEs, d1]), fun x hx => ?_, ?_, fun j v hj => ?_⟩
                · rcases List.mem_append.1 hx with hx | hx
                  · exact b4 x hx
                  · simp at hx; subst hx; rw [d3, hcl]
                · rw [List.flatMap_append]
                  refine b5.app ?_
                  simpa using d2
                · by_cases hjl : j < vs.length
                  · rw [List.getElem?_append_left hjl] at hj; exact b6 j v hj
                  · rw [List.getElem?_append_right (by omega)] at hj
                    have hlt : j - vs.length < P.cellsOf e := by have := (List.getElem?_eq_some_iff.1 hj).1; omega
                    obtain ⟨u, u1, u2⟩ := hcat (j - vs.length) hlt
                    rw [hj] at u1; cases u1
                    have hspot : ∀ b : Addr, w.cell? b = some v → b.spot = none := by
                      intro b hb'
                      unfold World.cell? at hb'
                      split at hb'
                      · split at hb'
                        · cases hb'
                        · rename_i hs; cases hq : b.spot with
                          | none => rfl
                          | some q => rw [hq] at hs; simp at hs
                      · cases hb'
                    -- the address
                    have haddr : (a.add (k * P.cellsOf e)).add (j - vs.length) = ⟨a.block, a.off + j, none⟩ := by
                      have hs := hspot _ u2
                      have hkj : k * P.cellsOf e + (j - vs.length) = j := by omega
                      obtain ⟨ab, ao, asp⟩ := a
                      unfold Addr.add at hs ⊢
                      by_cases hk0 : k * P.cellsOf e = 0
                      · simp only [hk0, if_true] at hs ⊢
                        by_cases hj0 : j - vs.length = 0
                        · simp only [hj0, if_true] at hs ⊢
                          subst hs
                          simp only [Addr.mk.injEq, true_and, and_true]; omega
                        · simp only [hj0, if_false]
                          simp only [Addr.mk.injEq, true_and, and_true]; omega
                      · simp only [hk0, if_false] at hs ⊢
                        by_cases hj0 : j - vs.length = 0
                        · simp only [hj0, if_true] at hs ⊢
                          simp only [Addr.mk.injEq, true_and, and_true]; omega
                        · simp only [hj0, if_false]
                          simp only [Addr.mk.injEq, true_and, and_true]; omega
                    rw [haddr] at u2
                    refine ⟨u2, ?_⟩
                    by_cases hk0 : k = 0
                    · subst hk0
                      -- the first cell of all
                      obtain ⟨u', _, u2'⟩ := hcat 0 (by omega)
                      have : (a.add (0 * P.cellsOf e)).add 0 = a := by simp [Addr.add]
                      rw [this] at u2'
                      unfold World.cell? at u2'
                      split at u2'
                      · split at u2'
                        · cases u2'
                        · rename_i hs; cases hq : a.spot with
                          | none => rfl
                          | some q => rw [hq] at hs; simp at hs
                      · cases u2'
                    · have hvl : 0 < vs.length := by rw [b2]; exact Nat.mul_pos (by omega) (by omega)
                      obtain ⟨_, hs⟩ := b6 0 vs[0] (by simp [hvl])
                      exact hs
            obtain ⟨xs, vs, b1, b2, b3, b4, b5, b6⟩ := build len (Nat.le_refl _)
            refine ⟨.lst xs, ?_, ?_, trivial, rfl⟩
            · simp only [ok]
              refine ⟨by omega, ?_⟩
              rw [show EE es j = et from by simp [EE, he1]]
              exact b3
            · subst b1
              refine .lst xs (P.cellsOf e) cap (some a) vs b4 hlc b5 ?_
              by_cases hx : xs = []
              · exact .inl hx
              · right
                have hxl : 0 < xs.length := List.length_pos_iff.2 hx
                have hvl : 0 < vs.length := by rw [b2]; exact Nat.mul_pos hxl (by omega)
                obtain ⟨_, hs⟩ := b6 0 vs[0] (by simp [hvl])
                refine ⟨a.block, a.off, by rw [← hs], fun j v hj => ?_⟩
                obtain ⟨hc, _⟩ := b6 j v hj
                unfold World.cell? at hc
                unfold cellφ
                simp only at hc ⊢
                split at hc
                · rename_i hh; rw [hh]; simpa using hc
                · cases hc
        · cases hm
    refine ⟨hC, fun t et cs x hm h => ?_⟩
    cases et with
    | one c =>
      simp only [mtET] at hm
      have hleaf : P.underlying t = some .bool ∨ (∃ k, P.underlying t = some (.int k)) ∨ P.underlying t = some .string ∨ ∃ e, P.underlying t = some (.slice e) := by
        cases c <;> simp only [mtCT] at hm <;> split at hm <;> first | cases hm | skip
        · exact .inl (by assumption)
        · exact .inr (.inl ⟨_, by assumption⟩)
        · exact .inr (.inr (.inl (by assumption)))
        · exact .inr (.inr (.inr ⟨_, by assumption⟩))
      obtain ⟨v, rfl⟩ := trod_leaf hleaf h
      obtain ⟨d, d1, d2, d3, d4⟩ := hC t c v x hm h
      exact ⟨d, d1, by rw [d4]; exact .cons _ _ _ _ d2 .nil d3, by rw [d4]; rfl, fun c' hc' => ⟨v, rfl, d2, d3⟩⟩
    | st ct =>
      simp only [mtET, Bool.and_eq_true] at hm
      obtain ⟨_, hm⟩ := hm
      split at hm
      · rename_i tl htl
        obtain ⟨hl, hfl⟩ := flat_ok 12 htl _ _ _ h
        obtain ⟨hl2, hct⟩ := mtCTs_at hm
        -- cell by cell
        have each : ∀ (i : Nat) (c : CT) (v : Value), ct[i]? = some c → cs[i]? = some v → ∃ d, ok (EE es) (.one c) d ∧ RepD (fun b => w.heap[b]?) d v ∧ leaf v := by
          intro i c v hc hv
          obtain ⟨ty, k1, k2⟩ := hct i c hc
          obtain ⟨m, x', hm', hx'⟩ := hfl i ty v k1 hv
          rcases Nat.lt_or_ge m n with hlt | hge
          · obtain ⟨d, d1, d2, d3, _⟩ := (ih m hlt).1 ty c v x' k2 hx'
            exact ⟨d, d1, d2, d3⟩
          · have : m = n := by omega
            subst this
            obtain ⟨d, d1, d2, d3, _⟩ := hC ty c v x' k2 hx'
            exact ⟨d, d1, d2, d3⟩
        have all : ∀ (ct : List CT) (cs : List Value), ct.length = cs.length → (∀ (i : Nat) (c : CT) (v : Value), ct[i]? = some c → cs[i]? = some v → ∃ d, ok (EE es) (.one c) d ∧ RepD (fun b => w.heap[b]?) d v ∧ leaf v) →
            ∃ ys, okCs (EE es) ct ys ∧ RepDs (fun b => w.heap[b]?) ys cs ∧ ys.length = cs.length := by
          intro ct
          induction ct with
          | nil => intro cs hl _; cases cs with
            | nil => exact ⟨[], by simp [okCs], .nil, rfl⟩
            | cons _ _ => simp at hl
          | cons c ct ihc =>
            intro cs hl he
            cases cs with
            | nil => simp at hl
            | cons v cs =>
              obtain ⟨d, d1, d2, d3⟩ := he 0 c v rfl rfl
              obtain ⟨ys, y1, y2, y3⟩ := ihc cs (by simpa using hl) (fun i c' v' h1 h2 => he (i + 1) c' v' (by simpa using h1) (by simpa using h2))
              exact ⟨d :: ys, by simp only [okCs]; exact ⟨d1, y1⟩, .cons _ _ _ _ d2 y2 d3, by simp [y3]⟩
        obtain ⟨ys, y1, y2, y3⟩ := all ct cs (by omega) each
        exact ⟨.agg ys, by simp only [ok]; exact y1, y2, y3, fun c hc => by cases hc⟩
      · cases hm

/-- An argument is pure data. -/
theorem arg_rep {tys : List TypeId} {es : List ET} (hE : mtEs P tys tys es = true) {t : TypeId} {et : ET} {v : Value} {d : DataW H} {ps : List MemPlace} {r : Reach} {b0 : Nat} (hm : mtET P tys t et = true) (hv : Value.okWide P w r b0 t v)
    (h : DataW.Trod enc P w base sp held t v d ps) : ∃ x, ok (EE es) et x ∧ RepD (fun b => w.heap[b]?) x v := by
  obtain ⟨n, hn⟩ := h
  obtain ⟨x, x1, x2, x3, x4⟩ := (trod_rep hE n).2 t et _ _ hm hn
  cases et with
  | one c =>
    obtain ⟨u, hu, hr, hl⟩ := x4 c rfl
    refine ⟨x, x1, ?_⟩
    have : v = u := by
      simp only [mtET] at hm
      cases c <;> simp only [mtCT] at hm <;> split at hm <;> first | cases hm | skip
      · rename_i ht; obtain ⟨b, rfl⟩ := WideShapes.okWide_bool ht hv; simpa [Value.cells] using hu
      · rename_i k' ht; obtain ⟨b, rfl⟩ := WideShapes.okWide_int ht hv; simpa [Value.cells] using hu
      · rename_i ht; obtain ⟨b, rfl⟩ := WideShapes.okWide_string ht hv; simpa [Value.cells] using hu
      · rename_i e ht; obtain ⟨a, l, c, rfl⟩ := WideShapes.okWide_slice ht hv; simpa [Value.cells] using hu
    rw [this]; exact hr
  | st ct =>
    simp only [mtET, Bool.and_eq_true] at hm
    have hagg : ∃ cs, v = .agg cs := by
      have h1 := hm.1
      split at h1
      · rename_i fs ht
        simp only [Value.okWide, ht] at hv
        obtain ⟨cs, rfl, _⟩ := hv
        exact ⟨cs, rfl⟩
      · cases h1
    obtain ⟨cs, rfl⟩ := hagg
    cases x with
    | agg ys =>
      refine ⟨.agg ys, x1, ?_⟩
      have := RepD.agg (φ := fun b => w.heap[b]?) ys cs.toList x2
      simpa using this
    | _ => simp [ok] at x1
end

/-! ### A whole call -/

def G.start (W : World) (C : CTy) : G := { φ := fun b => W.heap[b]?, μ := fun _ _ => default, N := 0, B := fun _ => 0, F := fun _ => none, C := C }
theorem Rel.start (W : World) (C : CTy) : Rel (G.start W C) ⟨[], 0⟩ W where
  nx := rfl
  fr := fun _ _ h => h
  nd := List.nodup_nil
  ob := fun _ _ h => (by cases h)
  sep := fun _ _ _ _ h => (by cases h)
  out := fun _ _ h => (by cases h)
  kp := fun _ _ h => (by cases h)
  kpo := fun _ _ h => (by cases h)

theorem run_true {P : Program} {T : Tab} (HT : TabOk P T) {f : Nat} {xs : List D} {vals : List Value} {W : World} {h' : Hp} (H : callW T f (xs.map .d) ⟨[], 0⟩ = some (.d (.bool true), h')) (hr : RepDs (fun b => W.heap[b]?) xs vals ∨ ∀ C, Reps (G.start W C) (xs.map .d) vals) (hy : f ≠ YF := by decide) :
    Calls P f vals.toArray W fun e W' => e = .returned (.bool true) ∧ RowKit.Below W.heap.size W W' := by
  have hr' : Reps (G.start W (LpC P T)) (xs.map .d) vals := by
    rcases hr with h | h
    · exact Reps.of_map_d h
    · exact h _
  refine (callW_ok HT hy H (Rel.start W _) rfl hr').mono ?_
  rintro e W' ⟨v, g', rfl, l1, l2, l3, l4⟩
  have hv : v = .bool true := by
    cases l3 with | d _ _ h => cases h; rfl
  subst hv
  refine ⟨rfl, l4.os, l4.tape, l4.output, l4.size, fun k hk => ?_⟩
  have h1 : W.heap[k]? = some W.heap[k] := by simp [hk]
  rw [h1]
  exact l2.fr k _ (l1.φ k _ h1)

end Zv
end
section
set_option linter.unusedSimpArgs false
set_option linter.unusedVariables false
set_option linter.unusedSimpArgs false
namespace Zv
open Go

section
variable {H : Type} {enc : TypeId × Value → H} {P : Program} {w : World} {base : Nat} {sp : Nat → Bool} {held : Bool}

end
end Zv
end
section
set_option linter.unusedSimpArgs false
set_option linter.unusedVariables false
namespace Zc27
open Go Zv
def tys : List TypeId := [89, 86, 60, 32, 70, 54]
def es : List ET := [.st [.s, .l 1], .st [.s, .l 2], .one (.i .i64), .one (.l 4), .st [.i .i64, .i .i64, .i .i64, .l 4], .st [.i .i64, .i .i64, .l 5]]
theorem typesOk : mtEs Go.Proofs.Try.prog tys tys es = true := by kernel_rfl
def bys : List Nat := [40, 40, 8, 24, 48, 40]
theorem bysOk : tys.map Go.Proofs.Try.prog.bytesOf = bys := by kernel_rfl
end Zc27
end
section
set_option linter.unusedSimpArgs false
set_option linter.unusedVariables false
set_option linter.unusedSimpArgs false
namespace Zs
open Go Zv

theorem ex_reg (T : Tab) (its : List It) (kp : Option (List Nat)) (e : Env) (h : Hp) : ex T (.reg its kp) e h = (itsX (cW T) its e h).map fun r => (.norm, keepE kp r.1, r.2) := rfl
theorem ex_seq (T : Tab) (a b : AC) (e : Env) (h : Hp) : ex T (.seq a b) e h = (ex T a e h).bind (nxt (ex T b)) := rfl
theorem ex_cond (T : Tab) (c : Opd) (a b : AC) (e : Env) (h : Hp) : ex T (.cond c a b) e h = (condB (e.ev c)).bind fun t => if t = true then ex T a e h else ex T b e h := rfl
theorem ex_blk (T : Tab) (id : Nat) (a : AC) (e : Env) (h : Hp) : ex T (.blk id a) e h = (ex T a e h).map fun o => (if o.1 = .exit id then .norm else o.1, o.2) := rfl
theorem ex_loop (T : Tab) (a : AC) (e : Env) (h : Hp) : ex T (.loop a) e h = (ex T a e h).bind (nxt (ex T (.loop a))) := loopW_eq _ e h

/-- What a body's end hands back. -/
def done (fn : AF) (h : Hp) (o : Out) : Option (V × Hp) := match o.1 with
  | .exit _ => none
  | _ => finish fn h o.2.1 o.2.2
theorem callW_fn {T : Tab} {f : Nat} {fn : AF} (hT : T f = some fn) {vs : List V} (hn : vs.length = fn.np) (h : Hp) (hp : isPr fn.body = none) (hf : f < RB := by decide) : callW T f vs h = (ex T fn.body (args 0 vs) h).bind (done fn h) := by
  rw [callW_eq]
  unfold body
  rw [if_neg (by unfold YF; unfold RB at hf; omega), if_pos hf, hT]
  simp only [Option.bind_some]
  rw [if_pos hn, hp]
  rfl
theorem cW_clo (T : Tab) (f : Nat) (caps vs : List V) (h : Hp) : cW T (.clo f caps) vs h = if (f == 1000000000) = true then none else callW T f (vs ++ caps) h := by
  show (if f = YF then none else callW T f (vs ++ caps) h) = _
  unfold YF
  by_cases hf : f = 1000000000
  · rw [if_pos hf, if_pos (by simpa using hf)]
  · rw [if_neg hf, if_neg (by simpa using hf)]
/-- A range over a function. -/
theorem ex_rng {T : Tab} {g : Opd} {b : Nat} {e : Env} {h : Hp} {f : Nat} {caps : List V} {v : V} {h2 : Hp} {o : Out} (hg : e.ev g = .clo f caps) (H : callW T f (.yld h.next :: caps) (h.alloc (.lp b e none)) = some (v, h2)) (hend : rngEnd e h2 h.next = some o) (hf : f < RB := by decide) : ex T (.rng g b) e h = some o := by
  unfold ex exec
  rw [hg, show isClo (V.clo f caps) = true from rfl, if_pos rfl]
  show (Option.bind (if f = YF then none else callW T f ([.yld h.next] ++ caps) (h.alloc (.lp b e none))) fun r => rngEnd e r.2 h.next) = some o
  rw [if_neg (by unfold YF; unfold RB at hf; omega)]
  show (Option.bind (callW T f (.yld h.next :: caps) (h.alloc (.lp b e none))) fun r => rngEnd e r.2 h.next) = some o
  rw [H]
  exact hend
/-- A call of yield: a round. -/
theorem cW_yld {T : Tab} {n b : Nat} {e : Env} {vs : List V} {h : Hp} {fn : AF} {asg bdy : AC} {e1 : Env} {h1 : Hp} {b' : Nat} {e' : List (Nat × V)} {o : Out} (hg : h.get n = some (.lp b e none)) (hT : T (RB + b) = some fn) (hb : fn.body = .seq asg bdy) (hn : vs.length = fn.np)
    (h1' : ex T asg (binds (fn.res.map (·.1)) vs e) h = some (.norm, e1, h1)) (hg1 : h1.get n = some (.lp b' e' none)) (h2 : ex T bdy e1 (h1.set n (.lp b' e' (some .norm))) = some o) : cW T (.yld n) vs h = rndEnd n o := by
  show callW T YF (.yld n :: vs) h = _
  rw [callW_eq]
  unfold body
  rw [if_pos rfl]
  simp only
  unfold rnd
  rw [hg]
  simp only
  rw [hT]
  simp only [Option.bind_some]
  rw [hb]
  simp only
  rw [if_pos hn]
  show (Option.bind (ex T asg (binds (fn.res.map (·.1)) vs e) h) _) = _
  rw [h1']
  simp only [Option.bind_some]
  rw [hg1]
  simp only
  show (Option.bind (ex T bdy e1 (h1.set n (.lp b' e' (some .norm)))) _) = _
  rw [h2]
  rfl

theorem its_nil (cf : Cf) (e : Env) (h : Hp) : itsX cf [] e h = some (e, h) := rfl
theorem its_cons (cf : Cf) (i : It) (r : List It) (e : Env) (h : Hp) : itsX cf (i :: r) e h = (itX cf e h i).bind fun s => itsX cf r s.1 s.2 := rfl
theorem it_o (cf : Cf) (e : Env) (h : Hp) (dst : Option Nat) (op : AOp) : itX cf e h (.o dst op none) = (opX cf e h op).map fun r => (e.putO dst r.1, r.2) := rfl
theorem it_g (cf : Cf) (e : Env) (h : Hp) (dst : Option Nat) (op : AOp) (p : Nat × Bool) : itX cf e h (.o dst op (some p)) = (want e (some p)).bind fun w =>
      if w = true then (opX cf e h op).map fun r => (e.putO dst r.1, r.2) else some (e.putO dst (.tup []), h) := rfl

theorem get_nil (n : Nat) : Env.get [] n = .undef := rfl
theorem get_cons (t : Nat) (v : V) (r : Env) (n : Nat) : Env.get ((t, v) :: r) n = if n = t then v else Env.get r n := rfl
theorem ev_t (e : Env) (n : Nat) : e.ev (.t n) = e.get n := rfl
theorem ev_c (e : Env) (v : V) : e.ev (.c v) = v := rfl
theorem keep_nil (e : Env) : Env.keep e [] = [] := rfl
theorem keep_cons (e : Env) (t : Nat) (l : List Nat) : Env.keep e (t :: l) = (t, e.get t) :: Env.keep e l := rfl
theorem args_nil (i : Nat) : args i [] = [] := rfl
theorem args_cons (i : Nat) (v : V) (r : List V) : args i (v :: r) = (i, v) :: args (i + 1) r := rfl
theorem nxt_n (k : Bf) (e : Env) (h : Hp) : nxt k (.norm, e, h) = k e h := rfl
theorem pv_some (h : Hp) (v : V) : pureV h (some v) = some (v, h) := rfl
theorem condB_b (b : Bool) : condB (.d (.bool b)) = some b := rfl
theorem bin_i (op : BinOp) (k : IntKind) (a b : Int) : bin op (.d (.int k a)) (.d (.int k b)) = intBin op k a b := if_pos rfl

/-! ### The heap's end -/
theorem suf_refl (l : List (Nat × Ob)) : sufOk l l = true := by
  unfold sufOk; rw [Nat.sub_self]; exact objsBeq_refl l
theorem suf_app (n l : List (Nat × Ob)) : sufOk l (n ++ l) = true := by
  unfold sufOk
  rw [List.length_append, Nat.add_sub_cancel, List.drop_left]; exact objsBeq_refl l
theorem suf_one (x : Nat × Ob) (l : List (Nat × Ob)) : sufOk l (x :: l) = true := suf_app [x] l
theorem suf_two (x y : Nat × Ob) (l : List (Nat × Ob)) : sufOk l (x :: y :: l) = true := suf_app [x, y] l
theorem finish_scp {fn : AF} (hs : fn.scp = true) {h0 h : Hp} {e : Env} (H : sufOk h0.objs h.objs = true) : finish fn h0 e h = (resL e h fn.res).bind fun vs => (vs.mapM (back1 h h0.next)).map fun l => (resV l, h0) := by
  unfold finish; simp only [hs, H, if_true]
theorem back_d (h : Hp) (n : Nat) (x : D) : back1 h n (.d x) = some (.d x) := rfl

theorem quiet_refl (h : Hp) (v : V) : quiet h (v, h) = some (v, h) := by
  unfold quiet; rw [if_pos ⟨objsBeq_refl _, rfl⟩]

/-! ### A row that is built up: nil first, then an object of its own -/

def rowV (h : Hp) (es : Nat) (l : List D) : V := if l = [] then .tl [] (some true) else .own h.next es l.length 0 l.length
def rowH (h : Hp) (es : Nat) (l : List D) : Hp := if l = [] then h else h.alloc (.arr es (l.map .d))

theorem toDs_map : ∀ l : List D, toDs (l.map V.d) = some l
  | [] => rfl
  | x :: l => by simp [toDs, toD, toDs_map l]

theorem norm_d (x : D) : norm (.d x) = .d x := rfl

theorem rowD_suf (h : Hp) (es : Nat) (l : List D) : sufOk h.objs (rowH h es l).objs = true := by
  unfold rowH
  split
  · exact suf_refl _
  · exact suf_one _ _

theorem deep_ds (h : Hp) (n0 k : Nat) : ∀ l : List D, (l.map V.d).mapM (deep h n0 (k + 1)) = some l
  | [] => rfl
  | x :: l => by
    rw [List.map_cons, List.mapM_cons, deep_ds h n0 k l]
    rfl

theorem row_get_alloc (h : Hp) (es : Nat) (els : List V) : (h.alloc (.arr es els)).row h.next els.length = some (es, els) := by
  unfold Hp.row
  rw [show (h.alloc (.arr es els)).get h.next = some (.arr es els) from if_pos rfl]
  simp

theorem rowD_back (h : Hp) (es : Nat) (l : List D) : back1 (rowH h es l) h.next (rowV h es l) = some (.d (.lst l)) := by
  unfold rowV rowH back1
  by_cases hl : l = []
  · subst hl; rfl
  · rw [if_neg hl, if_neg hl]
    have hr := row_get_alloc h es (l.map .d)
    rw [List.length_map] at hr
    have : deep (h.alloc (.arr es (l.map .d))) h.next 8 (.own h.next es l.length 0 l.length) = some (.lst l) := by
      unfold deep
      simp only [Nat.le_refl, if_true, hr, Option.bind_some, List.length_map, Nat.zero_add, List.drop_zero]
      rw [List.take_of_length_le (by simp), deep_ds]
      rfl
    rw [this]

theorem rowD_app (h : Hp) {es b : Nat} {l : List D} {x : D} (hx : x.cells.length = es) (hlen : (l.length + 1) * b ≤ roomB) (hl : ∀ y, y ∈ l → y.cells.length = es) :
    app es b (rowH h es l) (rowV h es l) (.tl [.d x] (some false)) = some (rowV h es (l ++ [x]), rowH h es (l ++ [x])) := by
  have hxs : allV es [V.d x] = true := by simp [allV, V.cells, hx]
  unfold app
  simp only [elems, Option.bind_some, List.map_cons, List.map_nil, norm_d, hxs, if_true]
  by_cases h0 : l = []
  · subst h0
    simp [rowV, rowH, allV]
    simpa using hlen
  · simp only [rowV, rowH, h0, if_false]
    have hr := row_get_alloc h es (l.map .d)
    rw [List.length_map] at hr
    simp only [hr, Option.bind_some, List.length_map, Nat.zero_add, Nat.le_refl, and_self, if_true, List.isEmpty_cons, Bool.false_eq_true, if_false, List.length_cons, List.length_nil]
    rw [if_neg (by omega), if_pos hlen, List.take_of_length_le (by simp)]
    have hne : l ++ [x] ≠ [] := by simp
    simp only [hne, if_false, List.length_append, List.length_cons, List.length_nil, List.map_append, List.map_cons, List.map_nil, Nat.zero_add]
    congr 2
    show ({ h.alloc (.arr es (l.map .d)) with objs := upd ((h.next, _) :: h.objs) h.next _ } : Hp) = _
    simp [upd, Hp.alloc]

/-! ### Values that are known -/
theorem ixOf_nat (k : IntKind) (n : Nat) : ixOf (.d (.int k (n : Int))) = some n := by simp [ixOf]
theorem ia_at {es : Nat} {l : List D} {n : Nat} {x : D} (k : IntKind) (h : l[n]? = some x) (hc : x.cells.length = es) : ia es (.d (.lst l)) (.d (.int k (n : Int))) = some (.fp x 0) := by
  simp [ia, ixOf_nat, h, hc]
theorem fa_fp (off : Nat) (x : D) (o : Nat) : fa off (.fp x o) = some (.fp x (o + off)) := rfl
theorem ld_fp (ag : Bool) (sz : Nat) (h : Hp) (x : D) (o : Nat) : ld ag sz h (.fp x o) = (partD ag o sz x.cells).map .d := rfl
theorem ldf_fp (ag : Bool) (sz : Nat) (h : Hp) (x : D) (o : Nat) : ldf ag sz h (.fp x o) = (partD ag o sz x.cells).map .d := rfl
theorem cells_agg (l : List D) : (D.agg l).cells = l := rfl
theorem partD_one (o sz : Nat) (l : List D) : partD false o sz l = l[o]? := rfl
theorem lenL_lst (l : List D) : lenL (.d (.lst l)) = some (.d (.int .i64 l.length)) := rfl
theorem wrap_ok {n : Int} (h1 : -(2 ^ 63) ≤ n) (h2 : n < 2 ^ 63) : IntKind.i64.wrap n = n := by
  simp [IntKind.wrap, IntKind.signed, IntKind.bits, IntKind.min, IntKind.max]
  omega
theorem wrap_succ {n : Nat} (h : n < 2 ^ 62) : IntKind.i64.wrap ((n : Int) + 1) = ((n + 1 : Nat) : Int) := by
  rw [wrap_ok (by omega) (by omega)]; rfl

theorem stor_d (x : D) : stor (.d x) = true := rfl
theorem stor_own (n es tot off len : Nat) : stor (.own n es tot off len) = true := rfl
theorem stor_ptr (n tot i off : Nat) : stor (.ptr n tot i off) = true := rfl
theorem stor_tl (l : List V) (nl : Option Bool) : stor (.tl l nl) = true := rfl
theorem stor_agg (l : List V) : stor (.agg l) = true := rfl
theorem stor_clo (f : Nat) (l : List V) : stor (.clo f l) = true := rfl
theorem stor_map (n : Nat) : stor (.map n) = true := rfl
theorem vcells_d (x : D) : V.cells (.d x) = x.cells.map .d := rfl
theorem vcells_agg (l : List V) : V.cells (.agg l) = l := rfl
theorem vcells_own (n es tot off len : Nat) : V.cells (.own n es tot off len) = [.own n es tot off len] := rfl
theorem vcells_ptr (n tot i off : Nat) : V.cells (.ptr n tot i off) = [.ptr n tot i off] := rfl
theorem vcells_tl (l : List V) (nl : Option Bool) : V.cells (.tl l nl) = [.tl l nl] := rfl
theorem vcells_clo (f : Nat) (l : List V) : V.cells (.clo f l) = [.clo f l] := rfl
theorem vcells_map (n : Nat) : V.cells (.map n) = [.map n] := rfl
theorem cells_int (k : IntKind) (n : Int) : (D.int k n).cells = [.int k n] := rfl
theorem cells_bool (b : Bool) : (D.bool b).cells = [.bool b] := rfl
theorem cells_str (s : ByteArray) : (D.str s).cells = [.str s] := rfl
theorem cells_lst (l : List D) : (D.lst l).cells = [.lst l] := rfl
theorem mkAgg1 (a : D) : mkAgg [.d a] = .d (.agg [a]) := rfl
theorem mkAgg2 (a b : D) : mkAgg [.d a, .d b] = .d (.agg [a, b]) := rfl
theorem mkAgg3 (a b c : D) : mkAgg [.d a, .d b, .d c] = .d (.agg [a, b, c]) := rfl
theorem mkAgg4 (a b c d : D) : mkAgg [.d a, .d b, .d c, .d d] = .d (.agg [a, b, c, d]) := rfl
theorem lay_nil (cs : List V) : lay cs [] = some cs := rfl
theorem lay_cons (cs : List V) (off sz : Nat) (v : V) (r : List (Nat × Nat × V)) : lay cs ((off, sz, v) :: r) = if stor v = true ∧ v.cells.length = sz ∧ off + sz ≤ cs.length then lay (cs.take off ++ v.cells ++ cs.drop (off + sz)) r else none := rfl

theorem rowV_nil (h : Hp) (es : Nat) : rowV h es [] = .tl [] (some true) := rfl
theorem rowH_nil (h : Hp) (es : Nat) : rowH h es [] = h := rfl
theorem finish_row {fn : AF} (hs : fn.scp = true) {t es : Nat} (hr : fn.res = [(t, none)]) {e : Env} {h : Hp} {l : List D} (he : e.get t = rowV h es l) : finish fn h e (rowH h es l) = some (.d (.lst l), h) := by
  rw [finish_scp hs (rowD_suf h es l), hr]
  simp only [resL, Option.map_some, Option.bind_some, he]
  simp only [List.mapM_cons, List.mapM_nil, rowD_back]
  rfl

/-! ### The heap, object by object -/
theorem row_cons (m es : Nat) (els : List V) (r : List (Nat × Ob)) (nx n tot : Nat) : Hp.row ⟨(m, .arr es els) :: r, nx⟩ n tot = if n = m then (if els.length = tot then some (es, els) else none) else Hp.row ⟨r, nx⟩ n tot := by
  unfold Hp.row Hp.get
  show (match (if n = m then some (Ob.arr es els) else look r n) with
    | some (.arr es els) => if els.length = tot then some (es, els) else none
    | _ => none) = _
  by_cases h : n = m
  · rw [if_pos h, if_pos h]
  · rw [if_neg h, if_neg h]; rfl
theorem set_cons (m : Nat) (o : Ob) (r : List (Nat × Ob)) (nx n : Nat) (x : Ob) : Hp.set ⟨(m, o) :: r, nx⟩ n x = if n = m then ⟨(m, x) :: r, nx⟩ else ⟨(m, o) :: (Hp.set ⟨r, nx⟩ n x).objs, nx⟩ := by
  unfold Hp.set
  by_cases h : n = m
  · simp [upd, h]
  · simp [upd, h]
theorem alloc_mk (l : List (Nat × Ob)) (nx : Nat) (o : Ob) : Hp.alloc ⟨l, nx⟩ o = ⟨(nx, o) :: l, nx + 1⟩ := rfl
theorem nilck_ptr (n tot i off : Nat) : nilck (.ptr n tot i off) = some (.ptr n tot i off) := rfl
theorem nilck_fp (x : D) (off : Nat) : nilck (.fp x off) = some (.fp x off) := rfl
theorem fa_ptr (off n tot i o : Nat) : fa off (.ptr n tot i o) = some (.ptr n tot i (o + off)) := rfl
theorem partV_one (o sz : Nat) (l : List V) : partV false o sz l = l[o]? := rfl
theorem lenL_own (n es tot off len : Nat) : lenL (.own n es tot off len) = some (.d (.int .i64 len)) := rfl
theorem lenL_tl (l : List V) (nl : Option Bool) : lenL (.tl l nl) = some (.d (.int .i64 l.length)) := rfl
theorem mkAgg5 (a b c d e : D) : mkAgg [.d a, .d b, .d c, .d d, .d e] = .d (.agg [a, b, c, d, e]) := rfl
theorem mkAgg6 (a b c d e f : D) : mkAgg [.d a, .d b, .d c, .d d, .d e, .d f] = .d (.agg [a, b, c, d, e, f]) := rfl
theorem nilBin_ptr (op : BinOp) (n tot i off : Nat) : nilBin .p op (.ptr n tot i off) = match op with
    | .eql => some (.d (.bool false))
    | .neq => some (.d (.bool true))
    | _ => none := by cases op <;> rfl
theorem nilBin_nil (op : BinOp) : nilBin .p op (.d .nilp) = match op with
    | .eql => some (.d (.bool true))
    | .neq => some (.d (.bool false))
    | _ => none := by cases op <;> rfl
theorem ext_tup (i : Nat) (l : List V) : ext i (.tup l) = l[i]? := rfl
theorem pick_b (c : Bool) (a b : V) : pick (.d (.bool c)) a b = some (if c = true then a else b) := rfl
theorem resV_two (a b : V) : resV [a, b] = .tup [a, b] := rfl
theorem resV_one (a : V) : resV [a] = a := rfl
theorem resV_three (a b c : V) : resV [a, b, c] = .tup [a, b, c] := rfl

theorem mkAgg_own (n es tot off len : Nat) (r : List V) : mkAgg (.own n es tot off len :: r) = .agg (.own n es tot off len :: r) := rfl
theorem mkAgg_ptr (n tot i off : Nat) (r : List V) : mkAgg (.ptr n tot i off :: r) = .agg (.ptr n tot i off :: r) := rfl
theorem mkAgg_tl (l : List V) (nl : Option Bool) (r : List V) : mkAgg (.tl l nl :: r) = .agg (.tl l nl :: r) := rfl
theorem mkAgg_map (n : Nat) (r : List V) : mkAgg (.map n :: r) = .agg (.map n :: r) := rfl
theorem mkAgg_clo (f : Nat) (l : List V) (r : List V) : mkAgg (.clo f l :: r) = .agg (.clo f l :: r) := rfl
theorem mkAgg_d_own (a : D) (n es tot off len : Nat) (r : List V) : mkAgg (.d a :: .own n es tot off len :: r) = .agg (.d a :: .own n es tot off len :: r) := rfl
theorem mkAgg_dd_own (a b : D) (n es tot off len : Nat) (r : List V) : mkAgg (.d a :: .d b :: .own n es tot off len :: r) = .agg (.d a :: .d b :: .own n es tot off len :: r) := rfl
theorem mkAgg_d_tl (a : D) (l : List V) (nl : Option Bool) (r : List V) : mkAgg (.d a :: .tl l nl :: r) = .agg (.d a :: .tl l nl :: r) := rfl
theorem mkAgg_dd_tl (a b : D) (l : List V) (nl : Option Bool) (r : List V) : mkAgg (.d a :: .d b :: .tl l nl :: r) = .agg (.d a :: .d b :: .tl l nl :: r) := rfl

theorem norm_ptr (n tot i off : Nat) : norm (.ptr n tot i off) = .ptr n tot i off := rfl
theorem norm_own (n es tot off len : Nat) : norm (.own n es tot off len) = .own n es tot off len := rfl
theorem norm_map (n : Nat) : norm (.map n) = .map n := rfl
def wantV (v : V) (b : Bool) : Option Bool := match v with
  | .d (.bool c) => some (c == b)
  | .tup [] => some false
  | _ => none
theorem want_some (e : Env) (p : Nat × Bool) : want e (some p) = wantV (e.get p.1) p.2 := rfl
theorem wantV_t (b : Bool) : wantV (.tup []) b = some false := rfl

/-! ### Loops -/
theorem loop_from (T : Tab) (a : AC) (f : Nat → Env) (g : Nat → Hp) (N : Nat) (o : Out) (h : ∀ n, n < N → ex T a (f n) (g n) = some (.norm, f (n + 1), g (n + 1))) (hN : ex T a (f N) (g N) = some o) (ho : o.1 ≠ .norm) :
    ∀ k i, i + k = N → ex T (.loop a) (f i) (g i) = some o := by
  intro k
  induction k with
  | zero =>
    intro i hi
    have : i = N := by omega
    subst this
    rw [ex_loop, hN, Option.bind_some]
    obtain ⟨x, e, h'⟩ := o
    cases x with
    | norm => exact absurd rfl ho
    | exit i => rfl
    | ret => rfl
  | succ k ih =>
    intro i hi
    rw [ex_loop, h i (by omega), Option.bind_some, nxt_n]
    exact ih (i + 1) (by omega)
theorem it_frz (cf : Cf) (e : Env) (h : Hp) (t : Nat) : itX cf e h (.frz t) = (Zv.frz h (e.get t)).map fun r => ((t, r.1) :: e, r.2) := rfl
def killX (t : Nat) (e : Env) (h : Hp) (v : V) : Option (Env × Hp) := match v with
  | .ptr n _ _ _ => some ((t, .undef) :: e, h.kill n)
  | .own n _ _ _ _ => some ((t, .undef) :: e, h.kill n)
  | _ => some ((t, .undef) :: e, h)
theorem it_kill (cf : Cf) (e : Env) (h : Hp) (t : Nat) : itX cf e h (.kill t) = killX t e h (e.get t) := rfl
theorem killX_ptr (t : Nat) (e : Env) (h : Hp) (n tot i off : Nat) : killX t e h (.ptr n tot i off) = some ((t, .undef) :: e, h.kill n) := rfl
theorem killX_own (t : Nat) (e : Env) (h : Hp) (n es tot off len : Nat) : killX t e h (.own n es tot off len) = some ((t, .undef) :: e, h.kill n) := rfl
theorem killX_fp (t : Nat) (e : Env) (h : Hp) (x : D) (o : Nat) : killX t e h (.fp x o) = some ((t, .undef) :: e, h) := rfl
theorem killX_d (t : Nat) (e : Env) (h : Hp) (x : D) : killX t e h (.d x) = some ((t, .undef) :: e, h) := rfl
theorem killX_undef (t : Nat) (e : Env) (h : Hp) : killX t e h .undef = some ((t, .undef) :: e, h) := rfl
theorem killX_tup (t : Nat) (e : Env) (h : Hp) (l : List V) : killX t e h (.tup l) = some ((t, .undef) :: e, h) := rfl
theorem kill_hd (n : Nat) (o : Ob) (l : List (Nat × Ob)) (nx : Nat) : Hp.kill ⟨(n, o) :: l, nx⟩ n = ⟨l, nx⟩ := by
  unfold Hp.kill; simp [del]
/-- A variable that is made, set and frozen in one go. -/
theorem frz_hd (n es nx : Nat) (x : D) (l : List (Nat × Ob)) (off : Nat) : Zv.frz ⟨(n, .arr es [.d x]) :: l, nx⟩ (.ptr n 1 0 off) = some (.fp x off, ⟨l, nx⟩) := by
  simp only [Zv.frz, row_cons, if_true, List.length_cons, List.length_nil, Option.bind_some, List.getElem?_cons_zero, Option.map_some, toD, kill_hd]

theorem norm_clo0 (f : Nat) (l : List V) : norm (.clo f l) = .clo f l := rfl

/-! ### The same, with nothing to look into -/
noncomputable def seqR (T : Tab) (b : AC) : Option Out → Option Out
  | none => none
  | some (.norm, e, h) => ex T b e h
  | some o => some o
noncomputable def conR (T : Tab) (a b : AC) (e : Env) (h : Hp) : Option Bool → Option Out
  | none => none
  | some true => ex T a e h
  | some false => ex T b e h
end Zs
end
