/-
  Code, functions and calls: a run of ZvVal is the machine's.
-/
import Derived.Test.YtfbkbopmenilkaaZwDraw
import Derived.Test.YtfbkbopmenilkaaZwFix
set_option linter.unusedSimpArgs false
namespace Zv
open Go

section
variable {P : Program}

def mtC (P : Program) (T : Tab) (N : Nat) (rg : Bool) : Code → AC → Bool
  | .skip, .skip => true
  | .region _ ops draw, .reg its _ => if draw = true then mtDraw P ops N its else mtIts P ops N 0 its
  | .seq a b, .seq x y => mtC P T N rg a x && mtC P T N rg b y
  | .cond c a b, .cond x p q => mtOpd c x && mtC P T N rg a p && mtC P T N rg b q
  | .seq (.seq z (.cond c a b)) d, .amb y x p q r => mtC P T N rg z y && mtOpd c x && mtC P T N rg a p && mtC P T N rg b q && mtC P T N rg d r
  | .block i a, .blk j x => i == j && mtC P T N rg a x
  | .loop a, .loop x => mtC P T N rg a x
  | .exit i, .exit j => i == j
  | .ret, .ret => true
  | .rangeFunc g ps asg bdy, .rng x b => rg && mtOpd g x && (match T (RB + b) with
    | some fn => (match fn.body with
      | .seq p q => decide (ps.size = fn.np) && decide (ps.toList = fn.res.map (·.1)) && ps.toList.all (fun t => decide (t < N)) && mtC P T N false asg p && mtC P T N false bdy q
      | _ => false)
    | none => false)
  | _, _ => false

/-- The code of a round, by its number. -/
def LpC (P : Program) (T : Tab) : CTy := fun b ps asg bdy N => ∃ fn p q, T (RB + b) = some fn ∧ fn.body = .seq p q ∧ ps.size = fn.np ∧ ps.toList = fn.res.map (·.1) ∧ (∀ t, t ∈ ps.toList → t < N) ∧ mtC P T N false asg p = true ∧ mtC P T N false bdy q = true

def exitOf : Ex → Exit
  | .norm => .normal
  | .exit i => .exit i
  | .ret => .ret

/-! ### More is known later; what is kept may grow -/
structure LeF (g g' : G) : Prop where
  φ : ∀ b o, g.φ b = some o → g'.φ b = some o
  N : g.N ≤ g'.N
  B : ∀ n, n < g.N → g.B n ≤ g'.B n
  μ : ∀ n t, n < g.N → t ≤ g.B n → g'.μ n t = g.μ n t
  F : ∀ b o, g.F b = some o → g'.F b = some o
  C : g'.C = g.C
theorem Le.toF {g g' : G} (h : Le g g') : LeF g g' := ⟨h.φ, h.N, h.B, h.μ, fun b o hb => by rw [h.F]; exact hb, h.C⟩
theorem LeF.refl (g : G) : LeF g g := (Le.refl g).toF
theorem LeF.trans {a b c : G} (h : LeF a b) (k : LeF b c) : LeF a c :=
  ⟨fun _ _ x => k.φ _ _ (h.φ _ _ x), Nat.le_trans h.N k.N, fun n hn => Nat.le_trans (h.B n hn) (k.B n (Nat.lt_of_lt_of_le hn h.N)),
    fun n t hn ht => (k.μ n t (Nat.lt_of_lt_of_le hn h.N) (Nat.le_trans ht (h.B n hn))).trans (h.μ n t hn ht), fun _ _ x => k.F _ _ (h.F _ _ x), k.C.trans h.C⟩
theorem LeF.un {g g' : G} (h : LeF g g') : Le (g.un g'.F) g' := ⟨h.φ, h.N, h.B, h.μ, rfl, h.C⟩
theorem Rep.monoF {g g' : G} (h : LeF g g') {x : V} {v : Value} (hx : Rep g x v) : Rep g' x v := hx.un.mono h.un
theorem EnvRep.monoF {g g' : G} {e : Env} {a : Act} (hle : LeF g g') (he : EnvRep g e a) : EnvRep g' e a := fun t => (he t).monoF hle
/-- The same, with the kept blocks as they were. -/
theorem LeF.back {g g' : G} (h : LeF g g') : Le g (g'.un g.F) := ⟨h.φ, h.N, h.B, h.μ, rfl, h.C⟩

/-- A block that nobody knows. -/
theorem Rel.other {g : G} {h : Hp} {w w' : World} (R : Rel g h w) (d : Nat) (hw : ∀ b, b ≠ d → w'.heap[b]? = w.heap[b]?) (h1 : g.φ d = none) (h2 : g.F d = none) (h3 : ∀ n o, h.get n = some o → blk g n o ≠ d) : Rel g h w' := by
  refine ⟨R.nx, fun b o hb => ?_, R.nd, fun n q hn => ?_, R.sep, R.out, fun b o hb => ?_, R.kpo⟩
  · rw [hw b (fun e => by subst e; rw [h1] at hb; cases hb)]; exact R.fr b o hb
  · obtain ⟨k1, k2, k3⟩ := R.ob n q hn
    exact ⟨k1, k2, k3.mono (Le.refl g) k1 (by omega) (hw _ (h3 n q hn))⟩
  · rw [hw b (fun e => by subst e; rw [h2] at hb; cases hb)]; exact R.kp b o hb
/-- An object is gone; its block may turn. -/
theorem Rel.gone {g : G} {h : Hp} {w w' : World} (R : Rel g h w) {n : Nat} {o : Ob} (hn : h.get n = some o) (hw : ∀ b, b ≠ blk g n o → w'.heap[b]? = w.heap[b]?) : Rel g (h.kill n) w' := by
  have hg : ∀ m q, (h.kill n).get m = some q → m ≠ n ∧ h.get m = some q := by
    intro m q hm
    unfold Hp.get Hp.kill at hm
    rw [look_del m R.nd] at hm
    split at hm
    · cases hm
    · exact ⟨by assumption, hm⟩
  exact (R.kill n).other _ hw (R.out n o hn) (R.kpo n o hn) (fun m q hm => R.sep m n q o (hg m q hm).2 hn (hg m q hm).1)

/-- The marks of the ranges over functions that were entered: their blocks are kept. -/
def markOf (D : Nat) : Deferred := { target := .collected D, args := #[] }
structure Marks (g g' : G) (Ds : List Nat) : Prop where
  nd : Ds.Nodup
  new : ∀ D, D ∈ Ds → g.F D = none
  kept : ∀ D, D ∈ Ds → g'.F D = some (.deferred (some []))
theorem Marks.nil (g g' : G) : Marks g g' [] := ⟨List.nodup_nil, fun _ h => (by cases h), fun _ h => (by cases h)⟩
theorem Marks.app {g g1 g2 : G} {Ds Es : List Nat} (l : LeF g g1) (k : LeF g1 g2) (h1 : Marks g g1 Ds) (h2 : Marks g1 g2 Es) : Marks g g2 (Es ++ Ds) := by
  refine ⟨?_, fun D hD => ?_, fun D hD => ?_⟩
  · rw [List.nodup_append]
    refine ⟨h2.nd, h1.nd, ?_⟩
    rintro a ha b hb rfl
    have := h1.kept a hb
    rw [h2.new a ha] at this; cases this
  · rcases List.mem_append.1 hD with hD | hD
    · cases hq : g.F D with
      | none => rfl
      | some o => have := l.F _ _ hq; rw [h2.new D hD] at this; cases this
    · exact h1.new D hD
  · rcases List.mem_append.1 hD with hD | hD
    · exact h2.kept D hD
    · exact k.F _ _ (h1.kept D hD)

/-- What is handed on behind a piece of code. -/
def Post (N : Nat) (g : G) (w : World) (a : Act) (x : Ex) (e' : Env) (h' : Hp) (Q : Exit → Act → World → Prop) : Prop :=
  ∀ a' w' g' Ds, LeF g g' → Rel g' h' w' → EnvRep g' e' a' → a'.tmps.size = N → a'.defers = Ds.map markOf ++ a.defers → Marks g g' Ds → Fx w w' → Q (exitOf x) a' w'

theorem get_keep (e : Env) : ∀ (l : List Nat) (t : Nat), Env.get (e.keep l) t = .undef ∨ Env.get (e.keep l) t = e.get t
  | [], _ => .inl rfl
  | u :: l, t => by
    show (if t = u then e.get u else Env.get (Env.keep e l) t) = .undef ∨ (if t = u then e.get u else Env.get (Env.keep e l) t) = e.get t
    by_cases h : t = u
    · subst h; rw [if_pos rfl]; exact .inr rfl
    · rw [if_neg h]; exact get_keep e l t
theorem env_keep {g : G} {e : Env} {a : Act} (kp : Option (List Nat)) (he : EnvRep g e a) : EnvRep g (keepE kp e) a := by
  cases kp with
  | none => exact he
  | some l =>
    intro t
    rcases get_keep e l t with h | h
    · show Rep g (Env.get (e.keep l) t) _; rw [h]; exact .undef _
    · show Rep g (Env.get (e.keep l) t) _; rw [h]; exact he t

theorem env_eq {g : G} {e e2 : Env} {a : Act} (h : ∀ t, Env.get e2 t = Env.get e t) (he : EnvRep g e2 a) : EnvRep g e a := fun t => by rw [← h t]; exact he t

theorem Post.next {N : Nat} {g g1 : G} {w w1 : World} {a a1 : Act} {x : Ex} {e' : Env} {h' : Hp} {Q : Exit → Act → World → Prop} (K : Post N g w a x e' h' Q) {Ds : List Nat} (l1 : LeF g g1) (d : a1.defers = Ds.map markOf ++ a.defers) (m : Marks g g1 Ds) (f : Fx w w1) : Post N g1 w1 a1 x e' h' Q :=
  fun a2 w2 g2 Es m1 m2 m3 m4 m5 m6 m7 => K a2 w2 g2 (Es ++ Ds) (l1.trans m1) m2 m3 m4 (by rw [m5, d, List.map_append, List.append_assoc]) (m.app l1 m1 m6) (f.trans m7)

theorem condB_ok {g : G} {x : V} {b : Bool} {v : Value} (h : condB x = some b) (hx : Rep g x v) : v = .bool b := by
  unfold condB at h
  split at h
  · cases h; exact hx.boolI
  · cases h

theorem joinV_ok {g : G} {a b c : V} {v : Value} (h : joinV a b = some c) : (Rep g a v → Rep g c v) ∧ (Rep g b v → Rep g c v) := by
  unfold joinV at h
  split at h
  · rename_i hb; cases h
    have := V.beq_eq hb
    subst this
    exact ⟨id, id⟩
  · split at h
    · cases h
      constructor
      · intro r
        cases r with | tl _ _ es a vs hes hr ha hn hf => exact .tl [] none es a vs hes hr ha (fun q hq => by cases hq) hf
      · intro r
        cases r with | tl _ _ es a vs hes hr ha hn hf => exact .tl [] none es a vs hes hr ha (fun q hq => by cases hq) hf
    · cases h
theorem joinE_ok {g : G} {a : Act} : ∀ {e f j : List (Nat × V)}, joinE e f = some j → ∀ t, (Rep g (Env.get e t) (a.tmps.getD t undef) → Rep g (Env.get j t) (a.tmps.getD t undef)) ∧ (Rep g (Env.get f t) (a.tmps.getD t undef) → Rep g (Env.get j t) (a.tmps.getD t undef))
  | [], [], _, h, t => by cases h; exact ⟨id, id⟩
  | (u, x) :: r, (u', y) :: s, j, h, t => by
    unfold joinE at h
    split at h
    case isFalse => cases h
    rename_i hu
    subst hu
    simp only [Option.bind_eq_some_iff, Option.map_eq_some_iff] at h
    obtain ⟨v, h1, k, h2, rfl⟩ := h
    show (Rep g (if t = u then x else Env.get r t) _ → Rep g (if t = u then v else Env.get k t) _) ∧ (Rep g (if t = u then y else Env.get s t) _ → Rep g (if t = u then v else Env.get k t) _)
    by_cases ht : t = u
    · rw [if_pos ht, if_pos ht, if_pos ht]; exact joinV_ok h1
    · rw [if_neg ht, if_neg ht, if_neg ht]; exact joinE_ok h2 t
  | [], _ :: _, _, h, _ => by cases h
  | _ :: _, [], _, h, _ => by cases h
theorem outJoin_eq {o q r : Out} (h : outJoin o q = some r) : o.1 = r.1 ∧ q.1 = r.1 ∧ o.2.2 = r.2.2 ∧ q.2.2 = r.2.2 ∧ joinE o.2.1 q.2.1 = some r.2.1 := by
  unfold outJoin at h
  split at h
  · rename_i hc
    obtain ⟨h1, h2, h3⟩ := hc
    simp only [Option.map_eq_some_iff] at h
    obtain ⟨e, he, rfl⟩ := h
    refine ⟨rfl, h1.symm, rfl, ?_, he⟩
    obtain ⟨x, e1, ob, nx⟩ := o
    obtain ⟨x', e2, ob', nx'⟩ := q
    cases objsBeq_eq h2; cases h3; rfl
  · cases h

theorem exec_ok {T : Tab} {c : Cs} (HC : CallOk P (LpC P T) c) (k : Nat) {N : Nat} (rg : Bool) {ro : Option Nat} (hro : rg = true → ro = none) : ∀ (code : Code) (ac : AC) {g : G} {h : Hp} {w : World} {e : Env} {a : Act} {x : Ex} {e' : Env} {h' : Hp} {Q : Exit → Act → World → Prop},
    mtC P T N rg code ac = true → exec (fun b => loopN b k) (callee c) ac e h = some (x, e', h') → EnvRep g e a → Rel g h w → g.C = LpC P T → a.tmps.size = N → Post N g w a x e' h' Q → code.wpIn (FR ro) 0 P Q a w := by
  intro code ac
  induction ac generalizing code with
  | skip =>
    intro g h w e a x e' h' Q hm H he R hC hN K
    cases code <;> simp only [mtC, Bool.false_eq_true] at hm
    unfold exec at H
    cases H
    exact wpIn_skip (K a w g [] (LeF.refl g) R he hN rfl (Marks.nil g g) (Fx.refl w))
  | reg its kp =>
    intro g h w e a x e' h' Q hm H he R hC hN K
    cases code <;> simp only [mtC, Bool.false_eq_true] at hm
    rename_i id ops draw
    unfold exec at H
    simp only [Option.map_eq_some_iff] at H
    obtain ⟨⟨e1, h1⟩, hi, hq⟩ := H
    cases hq
    cases draw with
    | true =>
      rw [if_pos rfl] at hm
      exact draw_ok HC hm hi he R hC hN (fun e2 a' w' g' heq l1 l2 l3 l4 l5 l6 => K a' w' g' [] l1.toF l2 (env_keep kp (env_eq heq l3)) l4 l5 (Marks.nil g g') l6)
    | false =>
      rw [if_neg (by simp)] at hm
      refine wpIn_region ?_
      have := its_ok HC (ro := ro) (Q := Q) its 0 hm hi he R hC hN (fun a' w' g' l1 l2 l3 l4 l5 l6 => K a' w' g' [] l1.toF l2 (env_keep kp l3) l4 l5 (Marks.nil g g') l6)
      rw [Nat.sub_zero] at this
      rw [List.range_eq_range']
      exact this
  | seq p q ihp ihq =>
    intro g h w e a x e' h' Q hm H he R hC hN K
    cases code <;> simp only [mtC, Bool.false_eq_true] at hm
    rename_i c1 c2
    simp only [Bool.and_eq_true] at hm
    unfold exec at H
    simp only [Option.bind_eq_some_iff] at H
    obtain ⟨⟨x1, e1, h1⟩, h2, h3⟩ := H
    refine wpIn_seq ?_
    refine ihp c1 hm.1 h2 he R hC hN ?_
    intro a1 w1 g1 Ds l1 l2 l3 l4 l5 l6 l7
    cases x1 with
    | norm =>
      show c2.wpIn (FR ro) 0 P Q a1 w1
      exact ihq c2 hm.2 h3 l3 l2 (l1.C.trans hC) l4 (K.next l1 l5 l6 l7)
    | exit i => cases h3; exact K a1 w1 g1 Ds l1 l2 l3 l4 l5 l6 l7
    | ret => cases h3; exact K a1 w1 g1 Ds l1 l2 l3 l4 l5 l6 l7
  | cond cx p q ihp ihq =>
    intro g h w e a x e' h' Q hm H he R hC hN K
    cases code <;> simp only [mtC, Bool.false_eq_true] at hm
    rename_i cc c1 c2
    simp only [Bool.and_eq_true] at hm
    unfold exec at H
    simp only [Option.bind_eq_some_iff] at H
    obtain ⟨t, ht, H⟩ := H
    have hv := condB_ok ht (opd_ok hm.1.1 he)
    refine wpIn_cond hv ?_
    cases t with
    | true => rw [if_pos rfl] at H; exact ihp c1 hm.1.2 H he R hC hN K
    | false => rw [if_neg (by simp)] at H; exact ihq c2 hm.2 H he R hC hN K
  | amb pz cx p q r' ihz ihp ihq ihr =>
    intro g h w e a x e' h' Q hm H he R hC hN K
    have hshape : ∃ cz cc c1 c2 c3, code = .seq (.seq cz (.cond cc c1 c2)) c3 := by
      cases code with
      | seq c0 c3 =>
        cases c0 with
        | seq cz c0 =>
          cases c0 with
          | cond cc c1 c2 => exact ⟨_, _, _, _, _, rfl⟩
          | _ => simp [mtC] at hm
        | _ => simp [mtC] at hm
      | _ => simp [mtC] at hm
    obtain ⟨cz, cc, c1, c2, c3, rfl⟩ := hshape
    simp only [mtC] at hm
    simp only [Bool.and_eq_true] at hm
    unfold exec at H
    simp only [Option.bind_eq_some_iff] at H
    obtain ⟨⟨x0, e0, h0⟩, hz2, hz3⟩ := H
    refine wpIn_seq (wpIn_seq ?_)
    refine ihz cz hm.1.1.1.1 hz2 he R hC hN ?_
    intro a0 w0 g0 Ds0 l1 l2 l3 l4 l5 l6 l7
    cases x0 with
    | exit i => cases hz3; exact K a0 w0 g0 Ds0 l1 l2 l3 l4 l5 l6 l7
    | ret => cases hz3; exact K a0 w0 g0 Ds0 l1 l2 l3 l4 l5 l6 l7
    | norm =>
    show (Code.cond cc c1 c2).wpIn (FR ro) 0 P (Exit.then (c3.wpIn (FR ro) 0 P Q) Q) a0 w0
    have K0 := K.next l1 l5 l6 l7
    have hz4 : ambB cx (exec (fun b => loopN b k) (callee c) p) (exec (fun b => loopN b k) (callee c) q) (exec (fun b => loopN b k) (callee c) r') e0 h0 = some (x, e', h') := hz3
    have hC0 := l1.C.trans hC
    have sq : ∀ (e' : Env) (cp : Code) (p : AC), (∀ {g : G} {h : Hp} {w : World} {e : Env} {a : Act} {x : Ex} {e' : Env} {h' : Hp} {Q : Exit → Act → World → Prop},
        exec (fun b => loopN b k) (callee c) p e h = some (x, e', h') → EnvRep g e a → Rel g h w → g.C = LpC P T → a.tmps.size = N → Post N g w a x e' h' Q → cp.wpIn (FR ro) 0 P Q a w) →
        (exec (fun b => loopN b k) (callee c) p e0 h0).bind (nxt (exec (fun b => loopN b k) (callee c) r')) = some (x, e', h') → Post N g0 w0 a0 x e' h' Q → cp.wpIn (FR ro) 0 P (Exit.then (c3.wpIn (FR ro) 0 P Q) Q) a0 w0 := by
      intro e' cp p ihp' H K0
      simp only [Option.bind_eq_some_iff] at H
      obtain ⟨⟨x1, e1, h1⟩, h2, h3⟩ := H
      refine ihp' h2 l3 l2 hC0 l4 ?_
      intro a1 w1 g1 Ds m1 m2 m3 m4 m5 m6 m7
      cases x1 with
      | norm =>
        show c3.wpIn (FR ro) 0 P Q a1 w1
        exact ihr c3 hm.2 h3 m3 m2 (m1.C.trans hC0) m4 (K0.next m1 m5 m6 m7)
      | exit i => cases h3; exact K0 a1 w1 g1 Ds m1 m2 m3 m4 m5 m6 m7
      | ret => cases h3; exact K0 a1 w1 g1 Ds m1 m2 m3 m4 m5 m6 m7
    unfold ambB at hz4
    have hop := opd_ok hm.1.1.1.2 l3
    split at hz4
    · rename_i hu
      rw [hu] at hop
      rw [Option.bind_eq_some_iff] at hz4
      obtain ⟨o1, h1, hz4⟩ := hz4
      rw [Option.bind_eq_some_iff] at hz4
      obtain ⟨⟨y2, f2, k2⟩, h2, h3⟩ := hz4
      obtain ⟨y1, f1, k1⟩ := o1
      obtain ⟨q1, q2, q3, q4, q5⟩ := outJoin_eq h3
      simp only at q1 q2 q3 q4 q5
      subst q1 q2 q3 q4
      generalize hfe : a0.eval cc = fv at hop
      cases hop with | ub t =>
      refine wpIn_cond hfe ?_
      cases t with
      | true => exact sq f1 c1 p (fun H he R hC hN K => ihp c1 hm.1.1.2 H he R hC hN K) h1 (fun a w g Ds r1 r2 r3 r4 r5 r6 r7 => K0 a w g Ds r1 r2 (fun t => (joinE_ok q5 t).1 (r3 t)) r4 r5 r6 r7)
      | false => exact sq f2 c2 q (fun H he R hC hN K => ihq c2 hm.1.2 H he R hC hN K) h2 (fun a w g Ds r1 r2 r3 r4 r5 r6 r7 => K0 a w g Ds r1 r2 (fun t => (joinE_ok q5 t).2 (r3 t)) r4 r5 r6 r7)
    · rw [Option.bind_eq_some_iff] at hz4
      obtain ⟨t, ht, H⟩ := hz4
      have hv := condB_ok ht hop
      refine wpIn_cond hv ?_
      cases t with
      | true => rw [if_pos rfl] at H; exact sq e' c1 p (fun H he R hC hN K => ihp c1 hm.1.1.2 H he R hC hN K) H K0
      | false => rw [if_neg (by simp)] at H; exact sq e' c2 q (fun H he R hC hN K => ihq c2 hm.1.2 H he R hC hN K) H K0
  | blk id p ihp =>
    intro g h w e a x e' h' Q hm H he R hC hN K
    cases code <;> simp only [mtC, Bool.false_eq_true] at hm
    rename_i i c1
    simp only [Bool.and_eq_true, beq_iff_eq] at hm
    obtain ⟨rfl, hm⟩ := hm
    unfold exec at H
    simp only [Option.map_eq_some_iff] at H
    obtain ⟨⟨x1, e1, h1⟩, h2, h3⟩ := H
    cases h3
    refine wpIn_block ?_
    refine ihp c1 hm h2 he R hC hN ?_
    intro a1 w1 g1 Ds l1 l2 l3 l4 l5 l6 l7
    have k1 := K a1 w1 g1 Ds l1 l2 l3 l4 l5 l6 l7
    cases x1 with
    | norm => exact k1
    | exit j =>
      show if j = i then Q .normal a1 w1 else Q (.exit j) a1 w1
      by_cases hj : j = i
      · subst hj; rw [if_pos rfl]; simpa [exitOf] using k1
      · rw [if_neg hj]; simpa [exitOf, hj] using k1
    | ret => exact k1
  | loop p ihp =>
    intro g h w e a x e' h' Q hm H he R hC hN K
    cases code <;> simp only [mtC, Bool.false_eq_true] at hm
    rename_i c1
    unfold exec at H
    have key : ∀ n, ∀ (g : G) (h : Hp) (w : World) (e : Env) (a : Act), loopN (exec (fun b => loopN b k) (callee c) p) n e h = some (x, e', h') → EnvRep g e a → Rel g h w → g.C = LpC P T → a.tmps.size = N → Post N g w a x e' h' Q →
        ∀ (b : Frame) (kk : List Item) (cs : List Frame), b.roundOf = (FR ro).round → (FR ro).fn b.fn → (FR ro).room (cs.length + 1 + 0) → ∃ e a' w', Q e a' w' ∧ ArrivesIn (Machine.fenced P (FR ro)) P (lone (b.atR a (.code c1 :: .inLoop c1 :: kk)) cs w) b kk cs e a' w' := by
      intro n
      induction n with
      | zero => intro g h w e a hn; cases hn
      | succ n ih =>
        intro g h w e a hn he R hC hN K b kk cs hb1 hb2 hb3
        unfold loopN at hn
        simp only [Option.bind_eq_some_iff] at hn
        obtain ⟨⟨x1, e1, h1⟩, h2, h3⟩ := hn
        -- one round, with what follows as its post
        let Q1 : Exit → Act → World → Prop := fun ex a1 w1 => match x1 with
          | .norm => ex = .normal ∧ ∀ (b : Frame) (kk : List Item) (cs : List Frame), b.roundOf = (FR ro).round → (FR ro).fn b.fn → (FR ro).room (cs.length + 1 + 0) → ∃ e a' w', Q e a' w' ∧ ArrivesIn (Machine.fenced P (FR ro)) P (lone (b.atR a1 (.code c1 :: .inLoop c1 :: kk)) cs w1) b kk cs e a' w'
          | _ => ex = exitOf x1 ∧ Q ex a1 w1
        have hround : c1.wpIn (FR ro) 0 P Q1 a w := by
          refine ihp c1 hm h2 he R hC hN ?_
          intro a1 w1 g1 Ds l1 l2 l3 l4 l5 l6 l7
          cases x1 with
          | norm => exact ⟨rfl, ih g1 h1 w1 e1 a1 h3 l3 l2 (l1.C.trans hC) l4 (K.next l1 l5 l6 l7)⟩
          | exit i => cases h3; exact ⟨rfl, K a1 w1 g1 Ds l1 l2 l3 l4 l5 l6 l7⟩
          | ret => cases h3; exact ⟨rfl, K a1 w1 g1 Ds l1 l2 l3 l4 l5 l6 l7⟩
        obtain ⟨ex, a1, w1, hq, harr⟩ := hround b (.inLoop c1 :: kk) cs hb1 hb2 hb3
        cases x1 with
        | norm =>
          obtain ⟨rfl, hrest⟩ := hq
          obtain ⟨e2, a2, w2, q2, harr2⟩ := hrest b kk cs hb1 hb2 hb3
          exact ⟨e2, a2, w2, q2, .of_steps (StepsIn.trans harr (.one (fenced_calm hb2 hb3 rfl) stepR_inLoop)) harr2⟩
        | exit i =>
          obtain ⟨rfl, hq⟩ := hq
          exact ⟨_, a1, w1, hq, .pass (x := .inLoop c1) rfl (fun _ _ => .inl (by simp [exitOf])) harr⟩
        | ret =>
          obtain ⟨rfl, hq⟩ := hq
          exact ⟨_, a1, w1, hq, .pass (x := .inLoop c1) rfl (fun _ _ => .inl (by simp [exitOf])) harr⟩
    intro b kk cs hb1 hb2 hb3
    obtain ⟨e2, a2, w2, q2, harr⟩ := key k g h w e a H he R hC hN K b kk cs hb1 hb2 hb3
    exact ⟨e2, a2, w2, q2, .of_steps (.one (fenced_calm hb2 hb3 rfl) stepR_loop) harr⟩
  | exit id =>
    intro g h w e a x e' h' Q hm H he R hC hN K
    cases code <;> simp only [mtC, Bool.false_eq_true] at hm
    simp only [beq_iff_eq] at hm
    subst hm
    unfold exec at H
    cases H
    exact wpIn_exit (K a w g [] (LeF.refl g) R he hN rfl (Marks.nil g g) (Fx.refl w))
  | ret =>
    intro g h w e a x e' h' Q hm H he R hC hN K
    cases code <;> simp only [mtC, Bool.false_eq_true] at hm
    unfold exec at H
    cases H
    exact wpIn_ret (K a w g [] (LeF.refl g) R he hN rfl (Marks.nil g g) (Fx.refl w))
  | rng gx b =>
    intro g h w e a x e' h' Q hm H he R hC hN K
    cases code <;> simp only [mtC, Bool.false_eq_true] at hm
    rename_i gop ps asg bdy
    simp only [Bool.and_eq_true] at hm
    obtain ⟨⟨hrg, hmo⟩, hm⟩ := hm
    obtain rfl := hro hrg
    have hL : LpC P T b ps asg bdy N := by
      split at hm
      · rename_i fn hT
        split at hm
        · rename_i p q hb
          simp only [Bool.and_eq_true, decide_eq_true_eq, List.all_eq_true] at hm
          exact ⟨fn, p, q, hT, hb, hm.1.1.1.1, hm.1.1.1.2, hm.1.1.2, hm.1.2, hm.2⟩
        · cases hm
      · cases hm
    clear hm
    unfold exec at H
    split at H
    case isFalse => cases H
    rename_i hclo
    simp only [Option.bind_eq_some_iff] at H
    obtain ⟨⟨rv, h2⟩, hcall, hend⟩ := H
    have hfr := opd_ok hmo he
    generalize e.ev gx = fv at hcall hfr hclo
    cases fv with
    | clo fid caps =>
      simp only [callee] at hcall
      split at hcall
      · cases hcall
      rename_i hy
      obtain ⟨⟨fn, hfn, hbd, hname⟩, hc⟩ := HC.fn _ _ _ _ _ hy hcall
      generalize hfe : a.eval gop = fval at hfr
      cases hfr with | clo _ _ cv hcr =>
      refine wpIn_rangeFunc (fun fno _ => ?_)
      -- the record
      let rec0 : Loop := { state := .ready, pending := none, fn := fno, tmps := a.tmps, params := ps, assign := asg, body := bdy, defers := w.heap.size }
      let w1 := w.alloc (.deferred (some []))
      let w2 := w1.alloc (.loop rec0)
      obtain ⟨a1, a2, a3⟩ := heap_alloc w (.deferred (some []))
      obtain ⟨b1, b2, b3⟩ := heap_alloc w1 (.loop rec0)
      have hs1 : w1.heap.size = w.heap.size + 1 := World.size_alloc ..
      obtain ⟨o1, o2, o3⟩ := R.old
      let F1 : Nat → Option Obj := fun d => if d = w.heap.size then some (.deferred (some [])) else g.F d
      have R1 : Rel (g.un F1) h w1 := (R.world a2).un (fun d o hd => by
          have hd' : (if d = w.heap.size then some (Obj.deferred (some [])) else g.F d) = some o := hd
          split at hd'
          · rename_i he; subst he; cases hd'; exact ⟨a1, o1⟩
          · exact (R.world a2).kp d o hd') (fun n o hn => by
          show (if blk g n o = w.heap.size then _ else g.F (blk g n o)) = none
          rw [if_neg (o3 n o hn)]; exact (R.world a2).kpo n o hn)
      have hput := R1.put (h' := h.alloc (.lp b e none)) (w' := w2) h.next (.lp b e none) ⟨w1.heap.size, 0, 0, 0⟩ (.inr R.nx) (by show h.next + 1 = max g.N (h.next + 1); have := R.nx; omega) (nodup_alloc R _) (fun m o hm => by
          rw [get_alloc] at hm
          split at hm
          · cases hm; exact .inl ⟨by assumption, rfl⟩
          · exact .inr ⟨by assumption, hm⟩) (.inl rfl) (fun d hd _ => b2 d hd) (by
          refine ⟨rec0, ?_, fun t => ?_, ?_, rfl, rfl⟩
          · show w2.heap[((g.un F1).put h.next 0 ⟨w1.heap.size, 0, 0, 0⟩).μ h.next 0 |>.b]? = _
            have : (((g.un F1).put h.next 0 ⟨w1.heap.size, 0, 0, 0⟩).μ h.next 0).b = w1.heap.size := by simp [G.put]
            rw [this]; exact b1
          · exact ((he t).un (F := F1)).mono (Le.put (g := g.un F1) (.inr R.nx))
          · show g.C b ps asg bdy a.tmps.size
            rw [hC, hN]; exact hL)
      obtain ⟨le1, R2⟩ := hput
      have hμ : (((g.un F1).put h.next (Ob.lp b e none).tot ⟨w1.heap.size, 0, 0, 0⟩).μ h.next 0) = ⟨w1.heap.size, 0, 0, 0⟩ := by simp [G.put, Ob.tot]
      generalize hg1 : (g.un F1).put h.next (Ob.lp b e none).tot ⟨w1.heap.size, 0, 0, 0⟩ = g1 at le1 R2 hμ
      have lF1 : LeF g g1 := ⟨le1.φ, le1.N, le1.B, le1.μ, fun d o hd => by
        rw [le1.F]
        show (if d = w.heap.size then some (Obj.deferred (some [])) else g.F d) = some o
        rw [if_neg (fun e => by subst e; rw [o2] at hd; cases hd)]; exact hd, le1.C⟩
      have hNn : h.next < g1.N := by rw [← hg1]; show h.next < max g.N (h.next + 1); omega
      have hyv : Rep g1 (.yld h.next) (.func (.yield (w.heap.size + 1)) #[] #[]) := by
        have := Rep.yld (g := g1) h.next hNn
        rw [hμ, hs1] at this
        exact this
      have hcc : g1.C = LpC P T := le1.C.trans hC
      refine ⟨w.heap.size + 1, [markOf w.heap.size], w2, ⟨.fn (.func fid) cv.toArray, #[.func (.yield (w.heap.size + 1)) #[] #[]]⟩, w2, fid, (.func (.yield (w.heap.size + 1)) #[] #[] :: cv).toArray, w2, ?_, ?_, fun _ _ => trivial, ?_, fun hd => (by cases hd), ?_⟩
      · exact run_enterLoop_outer ..
      · have hev : ∀ v : Value, a.eval (.const v) = v := fun _ => rfl
        simp only [resolve, rangeCall, hfe, Deferred.ofValue, Sem.run_bind, Sem.run_pure, Result.andThen_ok]
        congr 2
        simp [hev]
      · have hb' : fn.body.isNone = false := by cases hq : fn.body <;> simp_all
        simp only [invoke, callFunc, Sem.run_bind, Sem.run_pure, Result.andThen_ok, run_program, hfn, hname, hb', Bool.false_eq_true, if_false]
        congr 2
        apply Array.ext'
        simp
      · refine callsIn_wide.2 ((hc g1 w2 _ R2 hcc (.cons _ _ _ _ hyv (hcr.un.mono le1))).mono ?_)
        rintro e3 w3 ⟨v, g2, rfl, m1, m2, m3, m4⟩
        unfold rngEnd at hend
        have key : ∀ s, (∃ b' e'', h2.get h.next = some (.lp b' e'' s)) → s ≠ some .norm → (x = (match s with | none => Ex.norm | some y => y)) → e' = e → h' = h2.kill h.next → rangePost (FR none) (0 - 1) P (w.heap.size + 1) Q { a with defers := [markOf w.heap.size] ++ a.defers } (.returned v) w3 := by
          rintro s ⟨b', e'', hget⟩ hs rfl rfl rfl
          obtain ⟨q1, q2, r, q3, q4, q5, q6⟩ := m2.ob _ _ hget
          have hμ2 : (g2.μ h.next 0) = ⟨w1.heap.size, 0, 0, 0⟩ := by rw [m1.μ _ _ hNn (Nat.zero_le _)]; exact hμ
          rw [hμ2] at q3
          simp only at q3
          rw [hs1] at q3
          have hst : r.state ≠ .busy := by
            cases s with
            | none => rw [q6.1]; simp
            | some y => cases y with
              | norm => exact absurd rfl hs
              | exit i => rw [q6.1]; simp
              | ret => rw [q6.1]; simp
          refine ⟨r.pending, _, run_endLoop q3 hst, ?_⟩
          have hblk : blk g2 h.next (.lp b' e'' s) = w.heap.size + 1 := by
            show (g2.μ h.next 0).b = _; rw [hμ2]; exact hs1
          have R4 : Rel g2 (h2.kill h.next) (w3.putObj (w.heap.size + 1) (.loop { r with state := .exhausted })) := m2.gone hget (fun d hd => World.putObj_heap_other (by rw [← hblk]; exact hd))
          have hFx : Fx w (w3.putObj (w.heap.size + 1) (.loop { r with state := .exhausted })) := (a3.trans (b3.trans m4)).trans ⟨rfl, rfl, rfl, by rw [World.putObj_size]; exact Nat.le_refl _⟩
          have hM : Marks g g2 [w.heap.size] := by
            refine ⟨by simp, fun D hD => ?_, fun D hD => ?_⟩
            · simp at hD; subst hD; exact o2
            · simp at hD; subst hD
              rw [m1.F, le1.F]
              show (if w.heap.size = w.heap.size then some (Obj.deferred (some [])) else g.F _) = _
              rw [if_pos rfl]
          have hK := K { a with defers := [markOf w.heap.size] ++ a.defers } _ g2 [w.heap.size] (lF1.trans m1.toF) R4 (he.monoF (lF1.trans m1.toF)) hN rfl hM hFx
          cases s with
          | none => simp only [q6.2] at hK ⊢; exact hK
          | some y => cases y with
            | norm => exact absurd rfl hs
            | exit i => simp only [q6.2] at hK ⊢; exact wpIn_exit hK
            | ret => simp only [q6.2] at hK ⊢; exact wpIn_ret hK
        split at hend
        · rename_i b' e'' hget; cases hend; exact key none ⟨b', e'', hget⟩ (by simp) rfl rfl rfl
        · rename_i b' e'' i hget; cases hend; exact key (some (.exit i)) ⟨b', e'', hget⟩ (by simp) rfl rfl rfl
        · rename_i b' e'' hget; cases hend; exact key (some .ret) ⟨b', e'', hget⟩ (by simp) rfl rfl rfl
        · cases hend
    | _ => cases hclo

end
end Zv
