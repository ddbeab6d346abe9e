/-
  Regions in the order of the text.
-/
import Derived.Test.YtfbkbopmenilkaaZwRegB
import Derived.OrdersIn
import Derived.RangeFuncRecord
set_option linter.unusedSimpArgs false
namespace Zv
open Go

section
variable {P : Program} {g : G} {h : Hp} {w : World}

abbrev Cs := Nat → List V → Hp → Option (V × Hp)

/-- Everything is let in; the loop's record whose round it is. -/
abbrev FR (r : Option Nat) : Fence := { Fence.wide with round := r }
abbrev CTy := Nat → Array Tmp → Code → Code → Nat → Prop

/-- What a call comes to: the function called or the round. -/
def Doing (P : Program) (nx : Next) (w : World) (R : Value → World → Prop) : Prop := match nx with
  | .enter f args => CallsIn (FR none) 0 P f args w (fun e w' => ∃ v, e = .returned v ∧ R v w')
  | .round l f tmps asg bdy => RoundIn (FR none) 0 P l f tmps asg bdy w (fun e w' => ∃ v, e = .returned v ∧ R v w')
  | _ => False

/-- The calls of c are the machine's. -/
structure CallOk (P : Program) (CC : CTy) (c : Cs) : Prop where
  fn : ∀ f vs h r h', f ≠ YF → c f vs h = some (r, h') →
    (∃ fn, P.funcs[f]? = some fn ∧ fn.body.isSome = true ∧ (fn.name == "runtime.NumGoroutine") = false) ∧
    ∀ (g : G) (w : World) (vals : List Value), Rel g h w → g.C = CC → Reps g vs vals →
      Calls P f vals.toArray w fun e w' => ∃ v g', e = .returned v ∧ Le g g' ∧ Rel g' h' w' ∧ Rep g' r v ∧ Fx w w'
  yl : ∀ n vs h r h', c YF (.yld n :: vs) h = some (r, h') →
    ∀ (g : G) (w : World) (vals : List Value), Rel g h w → g.C = CC → n < g.N → Reps g vs vals →
      ∃ f tmps asg bdy, (Instr.yield (g.μ n 0).b vals.toArray).run P w = .ok (.round (g.μ n 0).b f tmps asg bdy) w ∧
        RoundIn (FR none) 0 P (g.μ n 0).b f tmps asg bdy w fun e w' => ∃ v, e = .returned v ∧ ∃ g', Le g g' ∧ Rel g' h' w' ∧ Rep g' r v ∧ Fx w w'

def mtG (ops : Array Oper) : Option (Nat × Bool) → Option (Nat × Bool) → Bool
  | none, none => true
  | some (j, b), some (t, b') => b == b' && (match (ops[j]?).bind (·.dst) with
    | some u => u == t
    | none => false)
  | _, _ => false

theorem want_ok {ops : Array Oper} {o : Oper} {gd : Option (Nat × Bool)} {e : Env} {a : Act} {b : Bool} (hm : mtG ops o.guard gd = true) (he : EnvRep g e a) (H : want e gd = some b) :
    Region.wanted o (yielded ops a.tmps) = b := by
  unfold Region.wanted
  cases hgo : o.guard with
  | none =>
    cases gd with
    | none => cases H; rfl
    | some q => rw [hgo] at hm; cases hm
  | some p =>
  cases gd with
  | none => rw [hgo] at hm; cases hm
  | some p' =>
    obtain ⟨j, q⟩ := p
    obtain ⟨t, q'⟩ := p'
    rw [hgo] at hm
    simp only [mtG]at hm
    simp only [Bool.and_eq_true, beq_iff_eq] at hm
    obtain ⟨rfl, h3⟩ := hm
    split at h3
    · rename_i u hu
      simp only [beq_iff_eq] at h3
      subst h3
      have hr := he u
      simp only [want] at H
      split at H
      · rename_i c hc
        rw [hc] at hr
        have hv := hr.boolI
        cases H
        have hg : a.tmps[u]? = some (.bool c) := by
          rw [Array.getD_eq_getD_getElem?] at hv
          cases ht : a.tmps[u]? with
          | none => rw [ht] at hv; cases hv
          | some z => rw [ht] at hv; simp at hv; rw [hv]
        simp [yielded, hu, hg]
      · rename_i hc
        rw [hc] at hr
        cases H
        have hv : a.tmps.getD u undef = .tuple #[] := by
          generalize a.tmps.getD u undef = z at hr
          cases hr with | tup _ vs hs => cases hs; rfl
        have hg : a.tmps[u]? = none ∨ a.tmps[u]? = some (.tuple #[]) := by
          rw [Array.getD_eq_getD_getElem?] at hv
          cases ht : a.tmps[u]? with
          | none => exact .inl rfl
          | some z => rw [ht] at hv; simp at hv; rw [hv]; exact .inr rfl
        rcases hg with hg | hg <;> simp [yielded, hu, hg]
      · cases H
    · cases h3

theorem env_put {e : Env} {a : Act} {x : V} {v : Value} (dst : Option Nat) (hd : ∀ d, dst = some d → d < a.tmps.size) (he : EnvRep g e a) (hx : Rep g x v) : EnvRep g (e.putO dst x) (a.put dst v) := by
  intro t
  cases dst with
  | none => exact he t
  | some d =>
    show Rep g (if t = d then x else e.get t) ((a.tmps.setIfInBounds d v).getD t undef)
    have hlt := hd d rfl
    rw [Array.getD_eq_getD_getElem?, Array.getElem?_setIfInBounds]
    by_cases h : t = d
    · subst h; rw [if_pos rfl, if_pos rfl, if_pos hlt]; exact hx
    · rw [if_neg h, if_neg (fun e => h e.symm), ← Array.getD_eq_getD_getElem?]; exact he t

theorem EnvRep.mono {g' : G} {e : Env} {a : Act} (hle : Le g g') (he : EnvRep g e a) : EnvRep g' e a := fun t => (he t).mono hle

theorem put_size (a : Act) (dst : Option Nat) (v : Value) : (a.put dst v).tmps.size = a.tmps.size ∧ (a.put dst v).defers = a.defers := by
  cases dst <;> simp [Act.put]

theorem put_other {a : Act} {dst : Option Nat} {v : Value} {t : Nat} (h : dst ≠ some t) : (a.put dst v).tmps.getD t undef = a.tmps.getD t undef := by
  cases dst with
  | none => rfl
  | some d =>
    have hne : d ≠ t := fun e => h (by rw [e])
    simp [Act.put, Array.getElem?_setIfInBounds_ne hne]

theorem norm_args : ∀ {bs : List Bool} {vs : List V} {vals : List Value}, bs.length = vs.length → Reps g vs vals → Reps g (normArgs bs vs) vals
  | [], [], _, _, h => h
  | b :: bs, x :: l, _, hl, h => by
    cases h with | cons _ _ v vs hx hs =>
    refine .cons _ _ v vs ?_ (norm_args (by simpa using hl) hs)
    split
    · exact hx.norm
    · exact hx
  | [], _ :: _, _, hl, _ => by cases hl
  | _ :: _, [], _, hl, _ => by cases hl

/-- A call of a function, in a region. -/
theorem call_ok {CC : CTy} {c : Cs} (HC : CallOk P CC c) {o : Oper} {f : Opd} {nm : List Bool} {xs : List Opd} {e : Env} {a : Act} {x : V} {h' : Hp} {f' : Operand} {args : Array Operand} {ts : Array TypeId}
    (ho : o.op = .call ⟨.value f', args, ts⟩) (hf : mtOpd f' f = true) (hx : mtOpds args.toList xs = true) (hn : nm.length = xs.length) (he : EnvRep g e a) (R : Rel g h w) (hCC : g.C = CC)
    (H : callee c (e.ev f) (normArgs nm (xs.map e.ev)) h = some (x, h')) :
    ∃ nx, (execOp a.eval o).run P w = .ok nx w ∧ Doing P nx w fun v w' => ∃ g', Le g g' ∧ Rel g' h' w' ∧ Rep g' x v ∧ Fx w w' := by
  have hfr := opd_ok hf he
  generalize e.ev f = fv at H hfr
  cases fv with
  | clo fid caps =>
    simp only [callee] at H
    by_cases hy : fid = YF
    · rw [if_pos hy] at H; cases H
    rw [if_neg hy] at H
    obtain ⟨⟨fn, hfn, hb, hname⟩, hcall⟩ := HC.fn _ _ _ _ _ hy H
    generalize hfe : a.eval f' = fval at hfr
    cases hfr with | clo _ _ cv hcr =>
    have hxr := norm_args (by rw [hn, List.length_map]) (opds_ok he hx)
    refine ⟨.enter fid (args.toList.map a.eval ++ cv).toArray, ?_, ?_⟩
    · have hb' : fn.body.isNone = false := by cases hq : fn.body <;> simp_all
      simp only [execOp, ho, resolve, hfe, Deferred.ofValue, invoke, callFunc, Sem.run_bind, Sem.run_pure, Result.andThen_ok, run_program, hfn, hname, hb', Bool.false_eq_true, if_false]
      congr 2
      apply Array.ext'
      simp
    · refine callsIn_wide.2 ((hcall g w _ R hCC (hxr.app hcr)).mono ?_)
      rintro e2 w2 ⟨v, g', rfl, l1, l2, l3, l4⟩
      exact ⟨v, rfl, g', l1, l2, l3, l4⟩
  | yld n =>
    simp only [callee] at H
    generalize hfe : a.eval f' = fval at hfr
    cases hfr with | yld _ hN =>
    have hxr := norm_args (by rw [hn, List.length_map]) (opds_ok he hx)
    obtain ⟨fr, tmps, asg, bdy, r1, r2⟩ := HC.yl n _ _ _ _ H g w _ R hCC hN hxr
    refine ⟨.round (g.μ n 0).b fr tmps asg bdy, ?_, r2⟩
    have e1 : (args.toList.map a.eval).toArray = args.map a.eval := by apply Array.ext'; simp
    rw [e1] at r1
    simp only [execOp, ho, resolve, hfe, Deferred.ofValue, invoke, callFunc, Sem.run_bind, Sem.run_pure, Result.andThen_ok, Array.append_empty, Array.empty_append]
    exact r1
  | _ => cases H

theorem mtOp_nd {o : Oper} {op : AOp} (h : mtOp P o op = true) : ∀ c, o.op ≠ .defer c := by
  intro c hc
  cases op <;> simp [mtOp, hc] at h

theorem CallsIn.inRound' {ro : Option Nat} {f : FuncId} {args : Array Value} {w : World} {R : Ending → World → Prop} (h : CallsIn (FR none) 0 P f args w R) : CallsIn (FR ro) (0 - 1) P f args w R := h
theorem RoundIn.inRound' {ro : Option Nat} {l : Nat} {f : FuncId} {tmps : Array Value} {asg bdy : Code} {w : World} {R : Ending → World → Prop} (h : RoundIn (FR none) 0 P l f tmps asg bdy w R) : RoundIn (FR ro) (0 - 1) P l f tmps asg bdy w R := h

theorem step_ok {CC : CTy} {c : Cs} (HC : CallOk P CC c) {ro : Option Nat} {ops : Array Oper} {Q : Exit → Act → World → Prop} {i N : Nat} {o : Oper} {dst : Option Nat} {op : AOp} {gd : Option (Nat × Bool)} {e e' : Env} {a : Act} {h' : Hp} {Kn : Act → World → Prop}
    (ho : ops[i]? = some o) (hd : o.dst = dst) (hdn : ∀ d, dst = some d → d < N) (hg : mtG ops o.guard gd = true) (hm : mtOp P o op = true) (he : EnvRep g e a) (R : Rel g h w) (hCC : g.C = CC) (hN : a.tmps.size = N)
    (H : itX (callee c) e h (.o dst op gd) = some (e', h'))
    (K : ∀ a' w' g', Le g g' → Rel g' h' w' → EnvRep g' e' a' → a'.tmps.size = N → a'.defers = a.defers → Fx w w' → (∀ t, dst ≠ some t → a'.tmps.getD t undef = a.tmps.getD t undef) → Kn a' w') : wpOpIn (FR ro) 0 P ops Q i Kn a w := by
  simp only [itX, Option.bind_eq_some_iff] at H
  obtain ⟨b, hb, H⟩ := H
  have hw := want_ok hg he hb
  simp only [wpOpIn, ho, hw]
  subst hd
  have hdn' : ∀ d, o.dst = some d → d < a.tmps.size := fun d hd => by rw [hN]; exact hdn d hd
  split at H
  · rename_i hbt
    subst hbt
    simp only [if_true, Oper.wpIn]
    simp only [Option.map_eq_some_iff] at H
    obtain ⟨⟨x, h1⟩, hop, hq⟩ := H
    cases hq
    have fin : ∀ v w' g', Le g g' → Rel g' h1 w' → Rep g' x v → Fx w w' → Kn (a.put o.dst v) w' := by
      intro v w' g' l1 l2 l3 l4
      exact K _ w' g' l1 l2 (env_put o.dst hdn' (he.mono l1) l3) (by rw [(put_size a o.dst v).1]; exact hN) (put_size a o.dst v).2 l4 (fun t ht => put_other ht)
    by_cases hc : ∃ f nm xs, op = .call f nm xs ∨ op = .calln f nm xs
    · obtain ⟨f, nm, xs, hc⟩ := hc
      have hcall : ∃ f' args ts, o.op = .call ⟨.value f', args, ts⟩ ∧ mtOpd f' f = true ∧ mtOpds args.toList xs = true ∧ nm.length = xs.length ∧ callee c (e.ev f) (normArgs nm (xs.map e.ev)) h = some (x, h1) := by
        rcases hc with rfl | rfl
        · simp only [mtOp] at hm
          split at hm
          · rename_i f' args ts hop'
            simp only [Bool.and_eq_true, beq_iff_eq] at hm
            exact ⟨f', args, ts, hop', hm.1.1, hm.1.2, hm.2, hop⟩
          · cases hm
        · simp only [mtOp] at hm
          split at hm
          · rename_i f' args ts hop'
            simp only [Bool.and_eq_true, beq_iff_eq] at hm
            simp only [opX, Option.bind_eq_some_iff] at hop
            obtain ⟨r, hr, hq⟩ := hop
            obtain ⟨q1, q2⟩ := quiet_eq hq
            exact ⟨f', args, ts, hop', hm.1.1, hm.1.2, hm.2, by rw [hr, ← q1]⟩
          · cases hm
      obtain ⟨f', args, ts, c1, c2, c3, c4, c5⟩ := hcall
      obtain ⟨nx, r1, r2⟩ := call_ok HC c1 c2 c3 c4 he R hCC c5
      refine ⟨fun _ _ => trivial, ?_⟩
      rw [Oper.semAt_eq _ _ _ (mtOp_nd hm), r1]
      cases nx with
      | enter f args =>
        refine ⟨fun hd => (by cases hd), CallsIn.mono (F := FR ro) (CallsIn.inRound' r2) ?_⟩
        rintro e2 w2 ⟨v, rfl, g', l1, l2, l3, l4⟩
        exact fin v w2 g' l1 l2 l3 l4
      | round l f tmps asg bdy =>
        refine ⟨fun hd => (by cases hd), RoundIn.mono (F := FR ro) (RoundIn.inRound' r2) ?_⟩
        rintro e2 w2 ⟨v, rfl, g', l1, l2, l3, l4⟩
        exact fin v w2 g' l1 l2 l3 l4
      | _ => exact r2.elim
    · have hnc : ∀ f nm xs, op ≠ .call f nm xs ∧ op ≠ .calln f nm xs := fun f nm xs => ⟨fun e => hc ⟨f, nm, xs, .inl e⟩, fun e => hc ⟨f, nm, xs, .inr e⟩⟩
      obtain ⟨nx, v, w', g', r1, r2, l1, l2, l3, l4⟩ := op_ok hm he R hop hnc
      refine ⟨fun _ _ => trivial, ?_⟩
      rw [Oper.semAt_eq _ _ _ (mtOp_nd hm), r1]
      rcases r2 with rfl | ⟨rfl, rfl⟩
      · exact fin v w' g' l1 l2 l3 l4
      · exact fin _ w' g' l1 l2 l3 l4
  · rename_i hbt
    have : b = false := by cases b <;> simp_all
    subst this
    simp only [Bool.false_eq_true, if_false]
    cases H
    refine ⟨fun _ _ => trivial, ?_⟩
    exact K _ w g (Le.refl g) R (env_put o.dst hdn' he (.tup [] [] .nil)) (by rw [(put_size a o.dst undef).1]; exact hN) (put_size a o.dst undef).2 (Fx.refl w) (fun t ht => put_other ht)

/-! ### Words without a counterpart -/

def dstOk (N : Nat) : Option Nat → Bool
  | none => true
  | some d => decide (d < N)

def mtIts (P : Program) (ops : Array Oper) (N : Nat) : Nat → List It → Bool
  | i, [] => i == ops.size
  | i, .o dst op gd :: r => (match ops[i]? with
    | some o => decide (o.dst = dst) && dstOk N dst && mtG ops o.guard gd && mtOp P o op
    | none => false) && mtIts P ops N (i + 1) r
  | i, .frz _ :: r => mtIts P ops N i r
  | i, .kill _ :: r => mtIts P ops N i r

theorem env_put_same {e : Env} {a : Act} {x : V} (t : Nat) (he : EnvRep g e a) (hx : Rep g x (a.tmps.getD t undef)) : EnvRep g (e.put t x) a := by
  intro u
  show Rep g (if u = t then x else e.get u) _
  split
  · rename_i h; subst h; exact hx
  · exact he u

theorem its_ok {CC : CTy} {c : Cs} (HC : CallOk P CC c) {ro : Option Nat} {ops : Array Oper} {Q : Exit → Act → World → Prop} {N : Nat} : ∀ (its : List It) (i : Nat) {g : G} {h : Hp} {w : World} {e e' : Env} {a : Act} {h' : Hp},
    mtIts P ops N i its = true → itsX (callee c) its e h = some (e', h') → EnvRep g e a → Rel g h w → g.C = CC → a.tmps.size = N →
    (∀ a' w' g', Le g g' → Rel g' h' w' → EnvRep g' e' a' → a'.tmps.size = N → a'.defers = a.defers → Fx w w' → Q .normal a' w') → wpOpsIn (FR ro) 0 P ops Q (List.range' i (ops.size - i)) a w
  | [], i, g, h, w, e, e', a, h', hm, H, he, R, hCC, hN, K => by
    simp only [mtIts, beq_iff_eq] at hm
    subst hm
    cases H
    rw [Nat.sub_self]
    exact K a w g (Le.refl g) R he hN rfl (Fx.refl w)
  | .o dst op gd :: r, i, g, h, w, e, e', a, h', hm, H, he, R, hCC, hN, K => by
    simp only [mtIts, Bool.and_eq_true] at hm
    obtain ⟨h1, h2⟩ := hm
    split at h1
    · rename_i o ho
      simp only [Bool.and_eq_true, decide_eq_true_eq] at h1
      obtain ⟨⟨⟨hd, hdn⟩, hg⟩, hm'⟩ := h1
      simp only [itsX, Option.bind_eq_some_iff] at H
      obtain ⟨⟨e1, h1'⟩, hi, hr⟩ := H
      have hlt : i < ops.size := (Array.getElem?_eq_some_iff.1 ho).1
      rw [show ops.size - i = (ops.size - (i + 1)) + 1 from by omega, List.range'_succ, wpOpsIn_cons]
      refine step_ok HC ho hd (fun d hd' => by subst hd'; simpa [dstOk] using hdn) hg hm' he R hCC hN hi (fun a' w' g' l1 l2 l3 l4 l5 l6 _ => ?_)
      exact its_ok HC r (i + 1) h2 hr l3 l2 (l1.C.trans hCC) l4 (fun a2 w2 g2 m1 m2 m3 m4 m5 m6 => K a2 w2 g2 (l1.trans m1) m2 m3 m4 (m5.trans l5) (l6.trans m6))
    · cases h1
  | .frz t :: r, i, g, h, w, e, e', a, h', hm, H, he, R, hCC, hN, K => by
    simp only [itsX, itX, Option.bind_eq_some_iff, Option.map_eq_some_iff] at H
    obtain ⟨⟨e1, h1'⟩, ⟨⟨y, h2⟩, hf, heq⟩, hr⟩ := H
    cases heq
    obtain ⟨g', l1, l2, l3⟩ := frz_ok R hf (he t)
    exact its_ok HC r i hm hr (env_put_same t (he.mono l1) l3) l2 (l1.C.trans hCC) hN (fun a2 w2 g2 m1 m2 m3 m4 m5 m6 => K a2 w2 g2 (l1.trans m1) m2 m3 m4 m5 m6)
  | .kill t :: r, i, g, h, w, e, e', a, h', hm, H, he, R, hCC, hN, K => by
    simp only [itsX, Option.bind_eq_some_iff] at H
    obtain ⟨⟨e1, h1'⟩, hk, hr⟩ := H
    have : e1 = e.put t .undef ∧ (h1' = h ∨ ∃ n, h1' = h.kill n) := by
      simp only [itX] at hk
      split at hk <;> cases hk
      · exact ⟨rfl, .inr ⟨_, rfl⟩⟩
      · exact ⟨rfl, .inr ⟨_, rfl⟩⟩
      · exact ⟨rfl, .inl rfl⟩
    obtain ⟨rfl, hh⟩ := this
    have R' : Rel g h1' w := by
      rcases hh with rfl | ⟨n, rfl⟩
      · exact R
      · exact R.kill n
    exact its_ok HC r i hm hr (env_put_same t he (.undef _)) R' hCC hN K

end
end Zv
