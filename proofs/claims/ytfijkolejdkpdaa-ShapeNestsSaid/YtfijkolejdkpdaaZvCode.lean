/-
  Code, functions and calls: a run of ZvVal is the machine's.
-/
import Derived.Test.YtfijkolejdkpdaaZvDraw
import Derived.Test.YtfijkolejdkpdaaZvFix
set_option linter.unusedSimpArgs false
namespace Zv
open Go

section
variable {P : Program}

def mtC (P : Program) (N : Nat) : Code → AC → Bool
  | .skip, .skip => true
  | .region _ ops draw, .reg its _ => if draw = true then mtDraw P ops N its else mtIts P ops N 0 its
  | .seq a b, .seq x y => mtC P N a x && mtC P N b y
  | .cond c a b, .cond x p q => mtOpd c x && mtC P N a p && mtC P N b q
  | .block i a, .blk j x => i == j && mtC P N a x
  | .loop a, .loop x => mtC P N a x
  | .exit i, .exit j => i == j
  | .ret, .ret => true
  | _, _ => false

def exitOf : Ex → Exit
  | .norm => .normal
  | .exit i => .exit i
  | .ret => .ret

/-- What is handed on behind a piece of code. -/
def Post (N : Nat) (g : G) (w : World) (a : Act) (x : Ex) (e' : Env) (h' : Hp) (Q : Exit → Act → World → Prop) : Prop :=
  ∀ a' w' g', Le g g' → Rel g' h' w' → EnvRep g' e' a' → a'.tmps.size = N → a'.defers = a.defers → Fx w w' → Q (exitOf x) a' w'

theorem get_keep (e : Env) : ∀ (l : List Nat) (t : Nat), Env.get (e.keep l) t = .undef ∨ Env.get (e.keep l) t = e.get t
  | [], _ => .inl rfl
  | u :: l, t => by
    show (if t = u then e.get u else Env.get (Env.keep e l) t) = .undef ∨ (if t = u then e.get u else Env.get (Env.keep e l) t) = e.get t
    by_cases h : t = u
    · subst h; rw [if_pos rfl]; exact .inr rfl
    · rw [if_neg h]; exact get_keep e l t
theorem env_keep {g : G} {e : Env} {a : Act} (kp : Option (List Nat)) (he : EnvRep g e a) : EnvRep g (keepE kp e) a := by
  cases kp with
  | none => exact he
  | some l =>
    intro t
    rcases get_keep e l t with h | h
    · show Rep g (Env.get (e.keep l) t) _; rw [h]; exact .undef _
    · show Rep g (Env.get (e.keep l) t) _; rw [h]; exact he t

theorem env_eq {g : G} {e e2 : Env} {a : Act} (h : ∀ t, Env.get e2 t = Env.get e t) (he : EnvRep g e2 a) : EnvRep g e a := fun t => by rw [← h t]; exact he t

theorem Post.next {N : Nat} {g g1 : G} {w w1 : World} {a a1 : Act} {x : Ex} {e' : Env} {h' : Hp} {Q : Exit → Act → World → Prop} (K : Post N g w a x e' h' Q) (l1 : Le g g1) (d : a1.defers = a.defers) (f : Fx w w1) : Post N g1 w1 a1 x e' h' Q :=
  fun a2 w2 g2 m1 m2 m3 m4 m5 m6 => K a2 w2 g2 (l1.trans m1) m2 m3 m4 (m5.trans d) (f.trans m6)

theorem condB_ok {g : G} {x : V} {b : Bool} {v : Value} (h : condB x = some b) (hx : Rep g x v) : v = .bool b := by
  unfold condB at h
  split at h
  · cases h; exact hx.boolI
  · cases h

theorem exec_ok {c : Cs} (HC : CallOk P c) (k : Nat) {N : Nat} : ∀ (code : Code) (ac : AC) {g : G} {h : Hp} {w : World} {e : Env} {a : Act} {x : Ex} {e' : Env} {h' : Hp} {Q : Exit → Act → World → Prop},
    mtC P N code ac = true → exec (fun b => loopN b k) (callee c) ac e h = some (x, e', h') → EnvRep g e a → Rel g h w → a.tmps.size = N → Post N g w a x e' h' Q → code.wp P Q a w := by
  intro code ac
  induction ac generalizing code with
  | skip =>
    intro g h w e a x e' h' Q hm H he R hN K
    cases code <;> simp only [mtC, Bool.false_eq_true] at hm
    unfold exec at H
    cases H
    exact wp_skip (K a w g (Le.refl g) R he hN rfl (Fx.refl w))
  | reg its kp =>
    intro g h w e a x e' h' Q hm H he R hN K
    cases code <;> simp only [mtC, Bool.false_eq_true] at hm
    rename_i id ops draw
    unfold exec at H
    simp only [Option.map_eq_some_iff] at H
    obtain ⟨⟨e1, h1⟩, hi, hq⟩ := H
    cases hq
    cases draw with
    | true =>
      rw [if_pos rfl] at hm
      exact draw_ok HC hm hi he R hN (fun e2 a' w' g' heq l1 l2 l3 l4 l5 l6 => K a' w' g' l1 l2 (env_keep kp (env_eq heq l3)) l4 l5 l6)
    | false =>
      rw [if_neg (by simp)] at hm
      refine wp_region ?_
      have := its_ok HC (Q := Q) its 0 hm hi he R hN (fun a' w' g' l1 l2 l3 l4 l5 l6 => K a' w' g' l1 l2 (env_keep kp l3) l4 l5 l6)
      rw [Nat.sub_zero] at this
      rw [List.range_eq_range']
      exact this
  | seq p q ihp ihq =>
    intro g h w e a x e' h' Q hm H he R hN K
    cases code <;> simp only [mtC, Bool.false_eq_true] at hm
    rename_i c1 c2
    simp only [Bool.and_eq_true] at hm
    unfold exec at H
    simp only [Option.bind_eq_some_iff] at H
    obtain ⟨⟨x1, e1, h1⟩, h2, h3⟩ := H
    refine wp_seq ?_
    refine ihp c1 hm.1 h2 he R hN ?_
    intro a1 w1 g1 l1 l2 l3 l4 l5 l6
    cases x1 with
    | norm =>
      show c2.wp P Q a1 w1
      exact ihq c2 hm.2 h3 l3 l2 l4 (K.next l1 l5 l6)
    | exit i => cases h3; exact K a1 w1 g1 l1 l2 l3 l4 l5 l6
    | ret => cases h3; exact K a1 w1 g1 l1 l2 l3 l4 l5 l6
  | cond cx p q ihp ihq =>
    intro g h w e a x e' h' Q hm H he R hN K
    cases code <;> simp only [mtC, Bool.false_eq_true] at hm
    rename_i cc c1 c2
    simp only [Bool.and_eq_true] at hm
    unfold exec at H
    simp only [Option.bind_eq_some_iff] at H
    obtain ⟨t, ht, H⟩ := H
    have hv := condB_ok ht (opd_ok hm.1.1 he)
    refine wp_cond hv ?_
    cases t with
    | true => rw [if_pos rfl] at H; exact ihp c1 hm.1.2 H he R hN K
    | false => rw [if_neg (by simp)] at H; exact ihq c2 hm.2 H he R hN K
  | blk id p ihp =>
    intro g h w e a x e' h' Q hm H he R hN K
    cases code <;> simp only [mtC, Bool.false_eq_true] at hm
    rename_i i c1
    simp only [Bool.and_eq_true, beq_iff_eq] at hm
    obtain ⟨rfl, hm⟩ := hm
    unfold exec at H
    simp only [Option.map_eq_some_iff] at H
    obtain ⟨⟨x1, e1, h1⟩, h2, h3⟩ := H
    cases h3
    refine wp_block ?_
    refine ihp c1 hm h2 he R hN ?_
    intro a1 w1 g1 l1 l2 l3 l4 l5 l6
    have k1 := K a1 w1 g1 l1 l2 l3 l4 l5 l6
    cases x1 with
    | norm => exact k1
    | exit j =>
      show if j = i then Q .normal a1 w1 else Q (.exit j) a1 w1
      by_cases hj : j = i
      · subst hj; rw [if_pos rfl]; simpa [exitOf] using k1
      · rw [if_neg hj]; simpa [exitOf, hj] using k1
    | ret => exact k1
  | loop p ihp =>
    intro g h w e a x e' h' Q hm H he R hN K
    cases code <;> simp only [mtC, Bool.false_eq_true] at hm
    rename_i c1
    unfold exec at H
    have key : ∀ n, ∀ (g : G) (h : Hp) (w : World) (e : Env) (a : Act), loopN (exec (fun b => loopN b k) (callee c) p) n e h = some (x, e', h') → EnvRep g e a → Rel g h w → a.tmps.size = N → Post N g w a x e' h' Q →
        ∀ (b : Frame) (kk : List Item) (cs : List Frame), ∃ e a' w', Q e a' w' ∧ Arrives P (lone (b.at a (.code c1 :: .inLoop c1 :: kk)) cs w) b kk cs e a' w' := by
      intro n
      induction n with
      | zero => intro g h w e a hn; cases hn
      | succ n ih =>
        intro g h w e a hn he R hN K b kk cs
        unfold loopN at hn
        simp only [Option.bind_eq_some_iff] at hn
        obtain ⟨⟨x1, e1, h1⟩, h2, h3⟩ := hn
        -- one round, with what follows as its post
        let Q1 : Exit → Act → World → Prop := fun ex a1 w1 => match x1 with
          | .norm => ex = .normal ∧ ∀ (b : Frame) (kk : List Item) (cs : List Frame), ∃ e a' w', Q e a' w' ∧ Arrives P (lone (b.at a1 (.code c1 :: .inLoop c1 :: kk)) cs w1) b kk cs e a' w'
          | _ => ex = exitOf x1 ∧ Q ex a1 w1
        have hround : c1.wp P Q1 a w := by
          refine ihp c1 hm h2 he R hN ?_
          intro a1 w1 g1 l1 l2 l3 l4 l5 l6
          cases x1 with
          | norm => exact ⟨rfl, ih g1 h1 w1 e1 a1 h3 l3 l2 l4 (K.next l1 l5 l6)⟩
          | exit i => cases h3; exact ⟨rfl, K a1 w1 g1 l1 l2 l3 l4 l5 l6⟩
          | ret => cases h3; exact ⟨rfl, K a1 w1 g1 l1 l2 l3 l4 l5 l6⟩
        obtain ⟨ex, a1, w1, hq, harr⟩ := hround b (.inLoop c1 :: kk) cs
        cases x1 with
        | norm =>
          obtain ⟨rfl, hrest⟩ := hq
          obtain ⟨e2, a2, w2, q2, harr2⟩ := hrest b kk cs
          exact ⟨e2, a2, w2, q2, .of_steps (Steps.trans harr (.one step_inLoop)) harr2⟩
        | exit i =>
          obtain ⟨rfl, hq⟩ := hq
          exact ⟨_, a1, w1, hq, .pass (x := .inLoop c1) rfl (fun _ _ => .inl (by simp [exitOf])) harr⟩
        | ret =>
          obtain ⟨rfl, hq⟩ := hq
          exact ⟨_, a1, w1, hq, .pass (x := .inLoop c1) rfl (fun _ _ => .inl (by simp [exitOf])) harr⟩
    intro b kk cs
    obtain ⟨e2, a2, w2, q2, harr⟩ := key k g h w e a H he R hN K b kk cs
    exact ⟨e2, a2, w2, q2, .of_steps (.one step_loop) harr⟩
  | exit id =>
    intro g h w e a x e' h' Q hm H he R hN K
    cases code <;> simp only [mtC, Bool.false_eq_true] at hm
    simp only [beq_iff_eq] at hm
    subst hm
    unfold exec at H
    cases H
    exact wp_exit (K a w g (Le.refl g) R he hN rfl (Fx.refl w))
  | ret =>
    intro g h w e a x e' h' Q hm H he R hN K
    cases code <;> simp only [mtC, Bool.false_eq_true] at hm
    unfold exec at H
    cases H
    exact wp_ret (K a w g (Le.refl g) R he hN rfl (Fx.refl w))

end
end Zv
