/-
  One operation of a region: where ZvVal's gives a value, the machine gives what stands for it.
-/
import Derived.Test.YtfbkbopmenilkaaZwReg
set_option linter.unusedSimpArgs false
namespace Zv
open Go

section
variable {P : Program} {g : G} {h : Hp} {w : World}

/-- What an operation of a region gives (no call of a function). -/
def GivesN (P : Program) (g : G) (w : World) (s : Sem Next) (x : V) (h' : Hp) : Prop :=
  ∃ nx v w' g', s.run P w = .ok nx w' ∧ (nx = .value v ∨ (nx = .skip ∧ v = undef)) ∧ Le g g' ∧ Rel g' h' w' ∧ Rep g' x v ∧ Fx w w'

theorem GivesN.value {s : Sem Value} {x : V} {h' : Hp} (hg : GivesH P g w s x h') : GivesN P g w (do pure (.value (← s))) x h' := by
  obtain ⟨v, w', g', h1, h2, h3, h4, h5⟩ := hg
  exact ⟨.value v, v, w', g', by simp [h1], .inl rfl, h2, h3, h4, h5⟩
theorem GivesN.unit {s : Sem Unit} {h' : Hp} (hg : GivesU P g w s h') : GivesN P g w (do s; pure .skip) (.tup []) h' := by
  obtain ⟨w', g', h1, h2, h3, h5⟩ := hg
  exact ⟨.skip, undef, w', g', by simp [h1], .inr ⟨rfl, rfl⟩, h2, h3, .tup [] [] .nil, h5⟩
theorem GivesN.pureV {s : Sem Value} {x : V} (R : Rel g h w) (hg : Gives P g w s x) : GivesN P g w (do pure (.value (← s))) x h := GivesN.value (hg.h R)

theorem pureV_some {h h' : Hp} {o : Option V} {x : V} (H : pureV h o = some (x, h')) : o = some x ∧ h' = h := by
  unfold Zv.pureV at H
  simp only [Option.map_eq_some_iff] at H
  obtain ⟨v, hv, e⟩ := H
  cases e
  exact ⟨hv, rfl⟩

theorem eqGuard_ok {op : BinOp} {t : TypeId} {ox oy : Operand} {x : V} {a b : Value} (ha : Rep g x a) (hx : ∀ l, x ≠ .d (.agg l)) (hx2 : ∀ l, x ≠ .agg l) (hx3 : x ≠ .undef) :
    (eqGuard op t ox oy a b).run P w = .ok () w := by
  have : ∀ (q : Value), (∀ cs, q ≠ .agg cs) → q ≠ .nilIface → (eqGuard op t ox oy q b).run P w = .ok () w := by
    intro q h1 h2
    cases op <;> cases q <;> first | rfl | (exact absurd rfl (h1 _)) | (exact absurd rfl h2)
  refine this a (fun cs e => ?_) (fun e => ?_)
  · subst e
    cases ha with
    | d _ _ h => cases h with | agg l vs hr => exact hx l rfl
    | agg l vs hr hf => exact hx2 l rfl
    | undef => exact hx3 rfl
  · subst e
    cases ha with
    | d _ _ h => cases h
    | undef => exact hx3 rfl

theorem bin_shape {op : BinOp} {x y z : V} (H : bin op x y = some z) : (∃ k n, x = .d (.int k n)) ∨ ∃ s, x = .d (.str s) := by
  unfold bin at H
  split at H
  · exact .inl ⟨_, _, rfl⟩
  · exact .inr ⟨_, rfl⟩
  · cases H
theorem binB_shape {op : BinOp} {x y z : V} (H : binB op x y = some z) : ∃ b, x = .d (.bool b) := by
  unfold binB at H
  split at H
  · exact ⟨_, rfl⟩
  · cases H
theorem isNil_shape {k : NK} {x : V} {b : Bool} (H : isNil k x = some b) : (∀ l, x ≠ .d (.agg l)) ∧ (∀ l, x ≠ .agg l) ∧ x ≠ .undef := by
  refine ⟨fun l e => ?_, fun l e => ?_, fun e => ?_⟩
  · subst e; cases k <;> simp [isNil] at H
  · subst e; cases k <;> simp [isNil] at H
  · subst e; cases k <;> simp [isNil] at H

theorem nilBin_shape {k : NK} {op : BinOp} {x z : V} (H : nilBin k op x = some z) : (∀ l, x ≠ .d (.agg l)) ∧ (∀ l, x ≠ .agg l) ∧ x ≠ .undef := by
  have ub : ubOf k x = some z → (∀ l, x ≠ .d (.agg l)) ∧ (∀ l, x ≠ .agg l) ∧ x ≠ .undef := by
    intro h
    refine ⟨fun l e => ?_, fun l e => ?_, fun e => ?_⟩
    · subst e; cases k <;> simp [ubOf] at h
    · subst e; cases k <;> simp [ubOf] at h
    · subst e; cases k <;> simp [ubOf] at h
  unfold nilBin at H
  split at H
  · exact isNil_shape (by assumption)
  · exact isNil_shape (by assumption)
  · exact ub H
  · exact ub H
  · cases H
theorem ix_unique {x : V} {n : Nat} {a b : Value} (H : ixOf x = some n) (ha : Rep g x a) (hb : Rep g x b) : a = b := by
  unfold ixOf at H
  split at H
  · rw [ha.intI, hb.intI]
  · cases H

theorem parts_ok {fs : Array Field} {e : Env} {a : Act} (he : EnvRep g e a) : ∀ {l : List (Nat × Operand)} {m : List (Nat × Nat × Opd)}, mtParts P fs l m = true →
    RepParts g (fun j => (fs[j]?).map fun f => (f.offset, P.cellsOf f.type)) (m.map fun p => (p.1, p.2.1, e.ev p.2.2)) (l.map fun p => (p.1, a.eval p.2))
  | [], [], _ => .nil
  | (i, x) :: l, (off, sz, y) :: m, H => by
    simp only [mtParts, Bool.and_eq_true] at H
    obtain ⟨⟨h1, h2⟩, h3⟩ := H
    split at h1
    · rename_i f hf
      simp only [Bool.and_eq_true, beq_iff_eq] at h1
      exact .cons off sz i _ _ _ _ (by simp [hf, h1.1, h1.2]) (opd_ok h2 he) (parts_ok he h3)
    · cases h1
  | [], _ :: _, H => by cases H
  | _ :: _, [], H => by cases H

theorem seq_reps {e : Env} {a : Act} (he : EnvRep g e a) : ∀ {l : List (Nat × Operand)} {m : List Opd} {k : Nat}, mtSeq k l m = true →
    Reps g (m.map e.ev) (l.map fun p => a.eval p.2) ∧ l.map (fun p => (p.1, a.eval p.2)) = ((l.map fun p => a.eval p.2).zipIdx k).map (fun p => (p.2, p.1)) ∧ l.length = m.length
  | [], [], _, _ => ⟨.nil, rfl, rfl⟩
  | (i, x) :: l, y :: m, k, H => by
    simp only [mtSeq, Bool.and_eq_true, beq_iff_eq] at H
    obtain ⟨⟨rfl, h2⟩, h3⟩ := H
    obtain ⟨i1, i2, i3⟩ := seq_reps he h3
    refine ⟨.cons _ _ _ _ (opd_ok h2 he) i1, ?_, by simp [i3]⟩
    simp only [List.map_cons, List.zipIdx_cons, i2]
  | [], _ :: _, _, H => by cases H
  | _ :: _, [], _, H => by cases H

theorem all_stor {es : Nat} {l : List V} (H : l.all (fun v => stor v && v.cells.length == es) = true) : ∀ x, x ∈ l → stor x = true ∧ x.cells.length = es := by
  intro x hx
  have := List.all_eq_true.1 H x hx
  simpa using this

theorem Rel.frz {n es : Nat} {els : List V} (R : Rel g h w) (hn : h.get n = some (.arr es els)) : ∃ o, w.heap[blk g n (.arr es els)]? = some o ∧ Le g (g.fix (blk g n (.arr es els)) o) ∧ Rel (g.fix (blk g n (.arr es els)) o) (h.kill n) w := by
  obtain ⟨hnN, hnB, c, ty, vs, h1, h2, h3, h4, h5, h6, h7⟩ := R.ob n _ hn
  refine ⟨.cells c ty (0, 0), h1, ?_⟩
  have hnone := R.out n _ hn
  have hle : Le g (g.fix (blk g n (.arr es els)) (.cells c ty (0, 0))) := by
    refine ⟨fun b q hq => ?_, Nat.le_refl _, fun _ _ => Nat.le_refl _, fun _ _ _ _ => rfl, rfl, rfl⟩
    show (if b = blk g n (.arr es els) then some (.cells c ty (0, 0)) else g.φ b) = some q
    rw [if_neg (fun e => by rw [e, hnone] at hq; cases hq)]
    exact hq
  have hkillget : ∀ m o, (h.kill n).get m = some o → m ≠ n ∧ h.get m = some o := by
    intro m o hm
    unfold Hp.get Hp.kill at hm
    rw [look_del m R.nd] at hm
    split at hm
    · cases hm
    · exact ⟨by assumption, hm⟩
  have R' := R.kill n
  refine ⟨hle, ⟨R'.nx, fun b q hq => ?_, R'.nd, fun m o hm => ?_, R'.sep, fun m o hm => ?_, fun b q hq => ?_, R'.kpo⟩⟩
  · have hq' : (if b = blk g n (.arr es els) then some (Obj.cells c ty (0, 0)) else g.φ b) = some q := hq
    split at hq'
    · rename_i e; subst e; cases hq'; exact h1
    · exact R.fr b q hq'
  · obtain ⟨k1, k2, k3⟩ := R'.ob m o hm
    exact ⟨k1, k2, k3.mono hle k1 (by omega) rfl⟩
  · obtain ⟨hne, hm'⟩ := hkillget m o hm
    show (if blk g m o = blk g n (.arr es els) then some (Obj.cells c ty (0, 0)) else g.φ (blk g m o)) = none
    rw [if_neg (R.sep m n o _ hm' hn hne)]
    exact R.out m o hm'
  · refine ⟨(R.kp b q hq).1, ?_⟩
    show (if b = blk g n (.arr es els) then some (Obj.cells c ty (0, 0)) else g.φ b) = none
    rw [if_neg (fun e => by rw [e, show (g.fix (blk g n (.arr es els)) (.cells c ty (0, 0))).F = g.F from rfl, R.kpo n _ hn] at hq; cases hq)]
    exact (R.kp b q hq).2

theorem frz_ok {x : V} {v : Value} {y : V} {h' : Hp} (R : Rel g h w) (H : frz h x = some (y, h')) (hx : Rep g x v) : ∃ g', Le g g' ∧ Rel g' h' w ∧ Rep g' y v := by
  unfold frz at H
  split at H
  · rename_i n e tot off len
    simp only [Option.bind_eq_some_iff] at H
    obtain ⟨⟨es, els⟩, hrow, H⟩ := H
    obtain ⟨hn, rfl⟩ := row_get hrow
    simp only at H
    split at H
    · rename_i hle
      simp only [Option.map_eq_some_iff] at H
      obtain ⟨ds, hds, heq⟩ := H
      cases heq
      obtain ⟨o, ho, hle', R'⟩ := R.frz hn
      obtain ⟨hnN, hnB, c, ty, vs, h1, h2, h3, h4, h5, h6, h7⟩ := R.ob n _ hn
      have ho' : o = .cells c ty (0, 0) := by
        have : w.heap[(g.μ n els.length).b]? = some o := ho
        rw [h1] at this; cases this; rfl
      subst ho'
      refine ⟨_, hle', R', ?_⟩
      cases hx with | own _ _ _ _ _ cap q hes hN hB hz0 hl hto hc hsz =>
      have hl2 : ((els.drop off).take len).length = len := by rw [List.length_take, List.length_drop]; omega
      have hdl : ds.length = len := by rw [← toDs_length hds, hl2]
      rw [← hdl]
      refine .d _ _ (.lst ds es cap (some q) ((vs.drop (off * es)).take (len * es)) (toDs_es hds (fun y hy => h4 y (List.mem_of_mem_drop (List.mem_of_mem_take hy)))) (by omega) ?_ ?_)
      · have hr : Reps g (((els.drop off).take len).flatMap V.cells) ((vs.drop (off * es)).take (len * es)) := by
          rw [← flat_take len (fun x hx => h4 x (List.mem_of_mem_drop hx)), ← flat_drop off h4]
          exact (h5.drop _).take _
        exact ((hr.mono hle').toDs (toDs_flat hds) (fun u hu => h6 u (List.mem_of_mem_drop (List.mem_of_mem_take hu))))
      · rcases Nat.eq_zero_or_pos len with h0 | h0
        · left; exact List.eq_nil_of_length_eq_zero (by omega)
        · right
          rcases hz0 with hz0 | hz0
          · omega
          · refine ⟨_, _, congrArg some hz0, fun j v hj => ?_⟩
            rw [List.getElem?_take] at hj
            split at hj
            · rw [List.getElem?_drop] at hj
              have := h7 _ _ hj
              show cellφ (fun b => if b = blk g n (.arr es els) then some _ else g.φ b) (g.μ n els.length).b _ = some v
              simp only [cellφ, blk, Ob.tot, if_true]
              rw [h3.1, Nat.add_assoc]
              exact this
            · cases hj
    · cases H
  · rename_i n tot i off
    simp only [Option.bind_eq_some_iff, Option.map_eq_some_iff] at H
    obtain ⟨⟨es, els⟩, hrow, e, he, H⟩ := H
    split at H
    case h_2 => cases H; exact ⟨g, Le.refl g, R, hx⟩
    rename_i x hx'
    cases H
    obtain ⟨hn, rfl⟩ := row_get hrow
    obtain ⟨o, ho, hle', R'⟩ := R.frz hn
    obtain ⟨seg, hc1, hc2, hc3, hc4, hc5⟩ := elem_seg R hn he
    obtain ⟨hnN, hnB, c, ty, vs, h1, h2, h3, h4, h5, h6, h7⟩ := R.ob n _ hn
    have ho' : o = .cells c ty (0, 0) := by
      have : w.heap[(g.μ n els.length).b]? = some o := ho
      rw [h1] at this; cases this; rfl
    subst ho'
    refine ⟨_, hle', R', ?_⟩
    cases hx with | ptr _ _ _ _ hN hB =>
    refine Rep.fp (g := g.fix (blk g n (.arr es els)) (.cells c ty (0, 0))) x off _ _ seg ?_ ?_
    · exact (hc1.mono hle').toDs (toD_cells hx') hc2
    · intro j v hj
      have hcell := hc4 j v hj
      unfold World.cell? at hcell
      simp only [h1] at hcell
      show cellφ (fun b => if b = blk g n (.arr es els) then some _ else g.φ b) (g.μ n els.length).b _ = some v
      simp only [cellφ, blk, Ob.tot, if_true]
      rw [hc5]; simpa using hcell
  · simp only [Option.map_eq_some_iff] at H
    obtain ⟨d, hd, heq⟩ := H
    cases heq
    exact ⟨g, Le.refl g, R, .d _ _ (hx.toD hd)⟩

/-! ### A region in the order of its text -/

theorem GivesN.frz {s : Sem Next} {x y : V} {h1 h' : Hp} (H : frz h1 x = some (y, h')) (hg : GivesN P g w s x h1) : GivesN P g w s y h' := by
  obtain ⟨nx, v, w', g', k1, k2, k3, k4, k5, k6⟩ := hg
  obtain ⟨g2, l1, l2, l3⟩ := frz_ok k4 H k5
  exact ⟨nx, v, w', g2, k1, k2, k3.trans l1, l2, l3, k6⟩
theorem op_ok {cf : Cf} {o : Oper} {op : AOp} {e : Env} {a : Act} {x : V} {h' : Hp} (hm : mtOp P o op = true) (he : EnvRep g e a) (R : Rel g h w) (H : opX cf e h op = some (x, h'))
    (hnc : ∀ f nm xs, op ≠ .call f nm xs ∧ op ≠ .calln f nm xs) : GivesN P g w (execOp a.eval o) x h' := by
  cases op with
  | mv y =>
    simp only [opX] at H
    cases H
    simp only [mtOp] at hm
    split at hm
    · rename_i z hz
      exact ⟨.value (a.eval z), _, w, g, by simp [execOp, hz], .inl rfl, Le.refl g, R, opd_ok hm he, Fx.refl w⟩
    · rename_i z hz
      exact ⟨.value (a.eval z), _, w, g, by simp [execOp, hz], .inl rfl, Le.refl g, R, opd_ok hm he, Fx.refl w⟩
    · cases hm
  | pick c y z =>
    simp only [opX] at H
    obtain ⟨H1, hh1⟩ := pureV_some H
    clear H
    subst hh1
    have H := H1
    clear H1
    simp only [mtOp] at hm
    split at hm
    · rename_i c' y' z' hz
      simp only [Bool.and_eq_true] at hm
      simp only [execOp, hz]
      have := pick_ok (P := P) (w := w) H (opd_ok hm.1.1 he) (opd_ok hm.1.2 he) (opd_ok hm.2 he)
      obtain ⟨v, h1, h2⟩ := this
      refine ⟨.value v, v, w, g, ?_, .inl rfl, Le.refl g, R, h2, Fx.refl w⟩
      simp only [Sem.run_bind, Sem.run_pure] at h1 ⊢
      cases hb : (asBool (a.eval c')).run P w with
      | ok q w1 => rw [hb] at h1; simp only [Result.andThen_ok] at h1 ⊢; cases h1; rfl
      | halt q w1 => rw [hb] at h1; cases h1
    · cases hm
  | alloc es z =>
    simp only [opX] at H
    cases H
    simp only [mtOp] at hm
    split at hm
    · rename_i t hz
      split at hm
      · rename_i zv hzv
        simp only [Bool.and_eq_true, beq_iff_eq] at hm
        obtain ⟨i, hi, hzz⟩ := zeroT_ok hzv
        simp only [execOp, hz]
        exact GivesN.value (alloc_ok R hi hzz (rc_ok hm.1.1) hm.1.2 hm.2 _)
      · cases hm
    · cases hm
  | box es y =>
    simp only [opX] at H
    split at H
    · rename_i hc
      cases H
      simp only [mtOp] at hm
      split at hm
      · rename_i t z hz
        simp only [execOp, hz]
        exact GivesN.value (box_ok R (opd_ok hm he) hc.1 hc.2)
      · cases hm
    · cases H
  | build z ps =>
    simp only [opX] at H
    obtain ⟨H1, hh1⟩ := pureV_some H
    clear H
    subst hh1
    have H := H1
    clear H1
    simp only [mtOp] at hm
    split at hm
    · rename_i t qs hz
      split at hm
      · rename_i fs hfs
        simp only [Bool.and_eq_true] at hm
        obtain ⟨⟨m1, m2⟩, m3⟩ := hm
        split at m1
        · rename_i zv hzv
          obtain ⟨i, hi, hzz⟩ := zeroT_ok hzv
          obtain ⟨r1, r2⟩ := rcLs_ok (g := g) m1
          simp only [execOp, hz]
          refine GivesN.pureV R (build_ok hfs hi hzz r1 r2 (fun f hf => List.all_eq_true.1 m2 f hf) ?_ H)
          have := parts_ok (P := P) he m3
          simpa using this
        · cases m1
      · cases hm
    · cases hm
  | bsl es xs =>
    simp only [opX] at H
    split at H
    · rename_i hc
      cases H
      simp only [mtOp] at hm
      split at hm
      · rename_i t n qs hz
        simp only [Bool.and_eq_true, beq_iff_eq, decide_eq_true_eq] at hm
        obtain ⟨⟨⟨m1, m2⟩, m3⟩, m4⟩ := hm
        split at m1
        · rename_i e1 i1 z1 hel
          obtain ⟨e1', e2', e3'⟩ := elT_ok hel
          obtain ⟨s1, s2, s3⟩ := seq_reps he m4
          have hlen : (qs.toList.map fun p => a.eval p.2).length = n := by rw [List.length_map, s3, m2]
          have hb := bsl_ok R e1' e2' e3' (by simpa using m1) (by rw [hlen]; exact m3) s1 (all_stor hc)
          rw [hlen, ← s2] at hb
          simp only [execOp, hz]
          have hq : (qs.map fun x => (x.1, a.eval x.2)) = (qs.toList.map fun p => (p.1, a.eval p.2)).toArray := by
            apply Array.ext'; simp
          rw [show (qs.map fun (x : Nat × Operand) => match x with | (i, x) => (i, a.eval x)) = (qs.map fun x => (x.1, a.eval x.2)) from rfl, hq]
          rw [List.map_map] at hb
          exact GivesN.value hb
        · cases m1
      · cases hm
    · cases H
  | bslO es xs =>
    simp only [opX] at H
    split at H
    · rename_i hc
      cases H
      simp only [mtOp] at hm
      split at hm
      · rename_i t n qs hz
        simp only [Bool.and_eq_true, beq_iff_eq, decide_eq_true_eq] at hm
        obtain ⟨⟨⟨m1, m2⟩, m3⟩, m4⟩ := hm
        split at m1
        · rename_i e1 i1 z1 hel
          obtain ⟨e1', e2', e3'⟩ := elT_ok hel
          obtain ⟨s1, s2, s3⟩ := seq_reps he m4
          have hlen : (qs.toList.map fun p => a.eval p.2).length = n := by rw [List.length_map, s3, m2]
          have hb := bslO_ok R e1' e2' e3' (by simpa using m1) (by rw [hlen]; exact m3) s1 (all_stor hc)
          rw [hlen, ← s2, List.length_map] at hb
          simp only [execOp, hz]
          have hq : (qs.map fun x => (x.1, a.eval x.2)) = (qs.toList.map fun p => (p.1, a.eval p.2)).toArray := by
            apply Array.ext'; simp
          rw [show (qs.map fun (x : Nat × Operand) => match x with | (i, x) => (i, a.eval x)) = (qs.map fun x => (x.1, a.eval x.2)) from rfl, hq]
          rw [List.map_map] at hb
          exact GivesN.value hb
        · cases m1
      · cases hm
    · cases H
  | ld ag sz y =>
    simp only [opX] at H
    obtain ⟨H1, hh1⟩ := pureV_some H
    clear H
    subst hh1
    have H := H1
    clear H1
    simp only [mtOp] at hm
    split at hm
    · rename_i t z hz
      simp only [Bool.and_eq_true, beq_iff_eq] at hm
      obtain ⟨⟨⟨⟨m1, m2⟩, m3⟩, m4⟩, m5⟩ := hm
      simp only [execOp, hz]
      exact GivesN.pureV R (ld_ok m1 m2 m3 m4 R H (opd_ok m5 he))
    · cases hm
  | ldf ag sz y =>
    simp only [opX] at H
    obtain ⟨H1, hh1⟩ := pureV_some H
    clear H
    subst hh1
    have H := H1
    clear H1
    simp only [mtOp] at hm
    split at hm
    · rename_i t z hz
      simp only [Bool.and_eq_true, beq_iff_eq] at hm
      obtain ⟨⟨⟨⟨m1, m2⟩, m3⟩, m4⟩, m5⟩ := hm
      simp only [execOp, hz]
      have H' : ld ag sz h' (e.ev y) = some x := by
        unfold ldf at H
        split at H
        · exact H
        · cases H
      exact GivesN.pureV R (ld_ok m1 m2 m3 m4 R H' (opd_ok m5 he))
    · cases hm
  | st sz y z =>
    simp only [opX, Option.map_eq_some_iff] at H
    obtain ⟨h1, hst, heq⟩ := H
    cases heq
    simp only [mtOp] at hm
    split at hm
    · rename_i t b c hz
      simp only [Bool.and_eq_true, beq_iff_eq] at hm
      obtain ⟨⟨⟨m1, m2⟩, m3⟩, m4⟩ := hm
      simp only [execOp, hz]
      exact GivesN.unit (st_ok m1 m2 R hst (opd_ok m3 he) (opd_ok m4 he))
    · cases hm
  | nilck y =>
    simp only [opX] at H
    obtain ⟨H1, hh1⟩ := pureV_some H
    clear H
    subst hh1
    have H := H1
    clear H1
    simp only [mtOp] at hm
    split at hm
    · rename_i z hz
      have hy := opd_ok hm he
      have hrun : (execOp a.eval o).run P w = .ok (.value (a.eval z)) w := by
        simp only [execOp, hz]
        unfold nilck at H
        split at H <;> first | cases H | skip
        · rename_i hev; rw [hev] at hy; generalize a.eval z = q at hy ⊢; cases hy; rfl
        · rename_i hev; rw [hev] at hy; generalize a.eval z = q at hy ⊢; cases hy; rfl
        · rename_i hev; rw [hev] at hy; generalize a.eval z = q at hy ⊢; cases hy; rfl
      have hx : x = e.ev y := by
        unfold nilck at H
        split at H <;> first | (cases H; (rename_i hev; rw [hev])) | cases H
      exact ⟨_, _, w, g, hrun, .inl rfl, Le.refl g, R, by rw [hx]; exact hy, Fx.refl w⟩
    · cases hm
  | bin op y z =>
    simp only [opX] at H
    obtain ⟨H1, hh1⟩ := pureV_some H
    clear H
    subst hh1
    have H := H1
    clear H1
    simp only [mtOp] at hm
    split at hm
    · rename_i op' t y' z' t' hz
      simp only [Bool.and_eq_true, decide_eq_true_eq] at hm
      obtain ⟨⟨rfl, m2⟩, m3⟩ := hm
      simp only [execOp, hz]
      have hy := opd_ok m2 he
      obtain ⟨v, h1, h2⟩ := bin_ok (P := P) (w := w) t H hy (opd_ok m3 he)
      have hgd : (eqGuard op t y' z' (a.eval y') (a.eval z')).run P w = .ok () w := by
        rcases bin_shape H with ⟨k, n, hs⟩ | ⟨s, hs⟩
        · exact eqGuard_ok hy (by rw [hs]; simp) (by rw [hs]; simp) (by rw [hs]; simp)
        · exact eqGuard_ok hy (by rw [hs]; simp) (by rw [hs]; simp) (by rw [hs]; simp)
      exact ⟨.value v, v, w, g, by simp only [Sem.run_bind, hgd, Result.andThen_ok, h1, Sem.run_pure], .inl rfl, Le.refl g, R, h2, Fx.refl w⟩
    · cases hm
  | binB op y z =>
    simp only [opX] at H
    obtain ⟨H1, hh1⟩ := pureV_some H
    clear H
    subst hh1
    have H := H1
    clear H1
    simp only [mtOp] at hm
    split at hm
    · rename_i op' t y' z' t' hz
      simp only [Bool.and_eq_true, decide_eq_true_eq] at hm
      obtain ⟨⟨⟨rfl, m1⟩, m2⟩, m3⟩ := hm
      simp only [execOp, hz]
      have hy := opd_ok m2 he
      have ht : P.underlying t = some .bool := by
        split at m1
        · assumption
        · cases m1
      obtain ⟨v, h1, h2⟩ := binB_ok (P := P) (w := w) ht H hy (opd_ok m3 he)
      have hgd : (eqGuard op t y' z' (a.eval y') (a.eval z')).run P w = .ok () w := by
        obtain ⟨b, hs⟩ := binB_shape H
        exact eqGuard_ok hy (by rw [hs]; simp) (by rw [hs]; simp) (by rw [hs]; simp)
      exact ⟨.value v, v, w, g, by simp only [Sem.run_bind, hgd, Result.andThen_ok, h1, Sem.run_pure], .inl rfl, Le.refl g, R, h2, Fx.refl w⟩
    · cases hm
  | nilBin k op y =>
    simp only [opX] at H
    obtain ⟨H1, hh1⟩ := pureV_some H
    clear H
    subst hh1
    have H := H1
    clear H1
    simp only [mtOp] at hm
    split at hm
    · rename_i op' t y' z' t' hz
      simp only [Bool.and_eq_true, decide_eq_true_eq, Bool.or_eq_true] at hm
      obtain ⟨⟨rfl, m1⟩, m2⟩ := hm
      simp only [execOp, hz]
      obtain ⟨q1, q2, q3⟩ := nilBin_shape H
      have hnilguard : ∀ (q : Value) (ox oy : Operand), (eqGuard op t ox oy (nilOf k) q).run P w = .ok () w := by
        intro q ox oy
        cases op <;> cases k <;> cases q <;> rfl
      rcases m2 with ⟨n1, n2⟩ | ⟨n1, n2⟩
      · have hy := opd_ok n2 he
        rw [isNilC_ok n1 a]
        obtain ⟨v, h1, h2⟩ := (nilBin_ok (P := P) (w := w) m1 H hy).1
        have hgd : (eqGuard op t y' z' (a.eval y') (nilOf k)).run P w = .ok () w := eqGuard_ok hy q1 q2 q3
        exact ⟨.value v, v, w, g, by simp only [Sem.run_bind, hgd, Result.andThen_ok, h1, Sem.run_pure], .inl rfl, Le.refl g, R, h2, Fx.refl w⟩
      · have hy := opd_ok n2 he
        rw [isNilC_ok n1 a]
        obtain ⟨v, h1, h2⟩ := (nilBin_ok (P := P) (w := w) m1 H hy).2
        exact ⟨.value v, v, w, g, by simp only [Sem.run_bind, hnilguard, Result.andThen_ok, h1, Sem.run_pure], .inl rfl, Le.refl g, R, h2, Fx.refl w⟩
    · cases hm
  | aggBin ks op y z =>
    simp only [opX] at H
    obtain ⟨H1, hh1⟩ := pureV_some H
    clear H
    subst hh1
    have H := H1
    clear H1
    simp only [mtOp] at hm
    split at hm
    · rename_i op' t y' z' t' hz
      simp only [Bool.and_eq_true, decide_eq_true_eq] at hm
      obtain ⟨⟨⟨rfl, m1⟩, m2⟩, m3⟩ := hm
      simp only [execOp, hz]
      exact GivesN.pureV R (aggBin_ok m1 H (opd_ok m2 he) (opd_ok m3 he) y' z')
    · cases hm
  | un op y =>
    simp only [opX] at H
    obtain ⟨H1, hh1⟩ := pureV_some H
    clear H
    subst hh1
    have H := H1
    clear H1
    simp only [mtOp] at hm
    split at hm
    · rename_i op' t y' hz
      simp only [Bool.and_eq_true, decide_eq_true_eq] at hm
      obtain ⟨rfl, m2⟩ := hm
      simp only [execOp, hz]
      exact GivesN.pureV R (un_ok H (opd_ok m2 he))
    · cases hm
  | conv k y =>
    simp only [opX] at H
    obtain ⟨H1, hh1⟩ := pureV_some H
    clear H
    subst hh1
    have H := H1
    clear H1
    simp only [mtOp] at hm
    split at hm
    · rename_i s d y' hz
      simp only [Bool.and_eq_true] at hm
      obtain ⟨⟨m1, m2⟩, m3⟩ := hm
      split at m2
      · rename_i q hq
        have := of_decide_eq_true m2
        subst this
        simp only [execOp, hz]
        exact GivesN.pureV R (conv_ok m1 hq H (opd_ok m3 he))
      · cases m2
    · cases hm
  | mkf f caps =>
    simp only [opX] at H
    cases H
    simp only [mtOp] at hm
    split at hm
    · rename_i f' first cs hz
      simp only [Bool.and_eq_true, beq_iff_eq] at hm
      obtain ⟨⟨rfl, m2⟩, m3⟩ := hm
      have hfirst : first = #[] := by simpa using m2
      subst hfirst
      have hr := Rep.clo (g := g) f _ _ (opds_ok he m3)
      have e9 : execOp a.eval o = (do pure (.value (← (pure (.func (.func f) #[] (cs.toList.map a.eval).toArray) : Sem Value)))) := by
        simp only [execOp, hz, Instr.makeFunc]
        congr 3
        · simp
        · apply Array.ext'; simp
      rw [e9]
      exact GivesN.pureV R ⟨_, rfl, hr⟩
    · cases hm
  | mkmap =>
    simp only [opX] at H
    cases H
    simp only [mtOp] at hm
    split at hm
    · rename_i t hz
      simp only [execOp, hz]
      exact GivesN.value (mkmap_ok R)
    · rename_i t k n hz
      split at hm
      · rename_i k' e' ht
        simp only [execOp, hz]
        exact GivesN.value (mkmapR_ok R ht)
      · cases hm
    · cases hm
  | mksl z es b y =>
    simp only [opX] at H
    simp only [mtOp] at hm
    split at hm
    · rename_i t l c hz
      simp only [Bool.and_eq_true] at hm
      obtain ⟨⟨m1, m2⟩, m3⟩ := hm
      split at m1
      · rename_i e1 i1 z1 hel
        simp only [Bool.and_eq_true, beq_iff_eq] at m1
        obtain ⟨e1', e2', e3'⟩ := elT_ok hel
        obtain ⟨⟨⟨⟨n1, n2⟩, n3⟩, n4⟩, n5⟩ := m1
        simp only [execOp, hz]
        have hl := opd_ok m2 he
        have heq : a.eval c = a.eval l := by
          have H' := H
          unfold mkslO at H'
          simp only [Option.bind_eq_some_iff] at H'
          obtain ⟨k, hk, _⟩ := H'
          exact ix_unique hk (opd_ok m3 he) hl
        rw [heq]
        exact GivesN.value (mkslO_ok R e1' e2' e3' n1 n2 (rc_ok n3) n4 n5 H hl)
      · cases m1
    · cases hm
  | mkslT z b y =>
    simp only [opX] at H
    obtain ⟨H1, hh1⟩ := pureV_some H
    clear H
    subst hh1
    have H := H1
    clear H1
    simp only [mtOp] at hm
    split at hm
    · rename_i t l c hz
      simp only [Bool.and_eq_true] at hm
      obtain ⟨⟨m1, m2⟩, m3⟩ := hm
      split at m1
      · rename_i e1 i1 z1 hel
        simp only [Bool.and_eq_true, beq_iff_eq] at m1
        obtain ⟨e1', e2', e3'⟩ := elT_ok hel
        obtain ⟨⟨⟨n2, n3⟩, n4⟩, n5⟩ := m1
        simp only [execOp, hz]
        have hl := opd_ok m2 he
        have heq : a.eval c = a.eval l := by
          have H' := H
          unfold mkslT at H'
          simp only [Option.bind_eq_some_iff] at H'
          obtain ⟨k, hk, _⟩ := H'
          exact ix_unique hk (opd_ok m3 he) hl
        rw [heq]
        exact GivesN.value (mkslT_ok R e1' e2' e3' rfl n2 (rc_ok n3) n4 n5 H hl)
      · cases m1
    · cases hm
  | slcS y lo hi =>
    simp only [opX] at H
    obtain ⟨H1, hh1⟩ := pureV_some H
    clear H
    subst hh1
    have H := H1
    clear H1
    simp only [mtOp] at hm
    split at hm
    · rename_i t y' lo' hi' hz
      simp only [Bool.and_eq_true] at hm
      obtain ⟨⟨⟨m1, m2⟩, m3⟩, m4⟩ := hm
      split at m1
      · rename_i ht
        simp only [execOp, hz]
        exact GivesN.pureV R (slcS_ok ht H (opd_ok m2 he) (opdO_ok m3 he) (opdO_ok m4 he))
      · cases m1
    · cases hm
  | slc es y lo hi =>
    simp only [opX] at H
    obtain ⟨H1, hh1⟩ := pureV_some H
    clear H
    subst hh1
    have H := H1
    clear H1
    simp only [mtOp] at hm
    split at hm
    · rename_i t y' lo' hi' hz
      simp only [Bool.and_eq_true] at hm
      obtain ⟨⟨⟨m1, m2⟩, m3⟩, m4⟩ := hm
      split at m1
      · rename_i e1 ht
        simp only [Bool.and_eq_true, beq_iff_eq] at m1
        simp only [execOp, hz]
        exact GivesN.pureV R (slc_ok ht m1.1 m1.2 H (opd_ok m2 he) (opdO_ok m3 he) (opdO_ok m4 he))
      · cases m1
    · cases hm
  | slc3 es y lo hi mx =>
    simp only [opX] at H
    obtain ⟨H1, hh1⟩ := pureV_some H
    clear H
    subst hh1
    have H := H1
    clear H1
    simp only [mtOp] at hm
    split at hm
    · rename_i t y' lo' hi' mx' hz
      simp only [Bool.and_eq_true] at hm
      obtain ⟨⟨⟨⟨⟨⟨m1, m2⟩, m3⟩, m4⟩, m5⟩, m6⟩, m7⟩ := hm
      split at m1
      · rename_i e1 ht
        simp only [Bool.and_eq_true, beq_iff_eq] at m1
        simp only [execOp, hz]
        exact GivesN.pureV R (slc3_ok ht m1.1 m1.2 (by simpa using m6) (by simpa using m7) H (opd_ok m2 he) (opdO_ok m3 he) (opdO_ok m4 he) (opdO_ok m5 he))
      · cases m1
    · cases hm
  | fa off y =>
    simp only [opX] at H
    obtain ⟨H1, hh1⟩ := pureV_some H
    clear H
    subst hh1
    have H := H1
    clear H1
    simp only [mtOp] at hm
    split at hm
    · rename_i t y' i hz
      simp only [Bool.and_eq_true] at hm
      obtain ⟨m1, m2⟩ := hm
      split at m1
      · rename_i f hf
        simp only [Bool.and_eq_true, beq_iff_eq, Bool.not_eq_true', beq_eq_false_iff_ne] at m1
        obtain ⟨fs, hfs, hfi⟩ := fieldT_ok hf
        simp only [execOp, hz]
        exact GivesN.pureV R (fa_ok hfs hfi m1.1.1 m1.1.2 m1.2 H (opd_ok m2 he))
      · cases m1
    · cases hm
  | fld ag off sz y =>
    simp only [opX] at H
    obtain ⟨H1, hh1⟩ := pureV_some H
    clear H
    subst hh1
    have H := H1
    clear H1
    simp only [mtOp] at hm
    split at hm
    · rename_i t y' i hz
      simp only [Bool.and_eq_true] at hm
      obtain ⟨m1, m2⟩ := hm
      split at m1
      · rename_i f hf
        simp only [Bool.and_eq_true, beq_iff_eq] at m1
        obtain ⟨fs, hfs, hfi⟩ := fieldT_ok hf
        simp only [execOp, hz]
        exact GivesN.pureV R (fld_ok hfs hfi m1.1.1.1.1 m1.1.1.1.2 m1.1.1.2 m1.1.2 m1.2 H (opd_ok m2 he))
      · cases m1
    · cases hm
  | ia es y i =>
    simp only [opX] at H
    obtain ⟨H1, hh1⟩ := pureV_some H
    clear H
    subst hh1
    have H := H1
    clear H1
    simp only [mtOp] at hm
    split at hm
    · rename_i t y' i' hz
      simp only [Bool.and_eq_true] at hm
      obtain ⟨⟨m1, m2⟩, m3⟩ := hm
      split at m1
      · rename_i e1 ht
        simp only [Bool.and_eq_true, beq_iff_eq] at m1
        simp only [execOp, hz]
        exact GivesN.pureV R (ia_ok ht m1.1 m1.2 H (opd_ok m2 he) (opd_ok m3 he))
      · cases m1
    · cases hm
  | ixS y i =>
    simp only [opX] at H
    obtain ⟨H1, hh1⟩ := pureV_some H
    clear H
    subst hh1
    have H := H1
    clear H1
    simp only [mtOp] at hm
    split at hm
    · rename_i t y' i' hz
      simp only [Bool.and_eq_true] at hm
      obtain ⟨⟨m1, m2⟩, m3⟩ := hm
      split at m1
      · rename_i ht
        simp only [execOp, hz]
        exact GivesN.pureV R (ixS_ok ht H (opd_ok m2 he) (opd_ok m3 he))
      · cases m1
    · cases hm
  | lk kk z ok m k =>
    simp only [opX] at H
    obtain ⟨H1, hh1⟩ := pureV_some H
    clear H
    subst hh1
    have H := H1
    clear H1
    simp only [mtOp] at hm
    split at hm
    · rename_i t m' k' ok' hz
      simp only [Bool.and_eq_true, beq_iff_eq] at hm
      obtain ⟨⟨⟨m1, rfl⟩, m3⟩, m4⟩ := hm
      split at m1
      · rename_i q e1 ht
        simp only [Bool.and_eq_true] at m1
        obtain ⟨n1, n2⟩ := m1
        split at n2
        · rename_i zv hzv
          obtain ⟨i, hi, hzz⟩ := zeroT_ok hzv
          simp only [execOp, hz]
          exact GivesN.pureV R (lk_ok R ht n1 hi hzz (rc_ok n2) H (opd_ok m3 he) (opd_ok m4 he))
        · cases n2
      · cases m1
    · cases hm
  | mu kk m k y =>
    simp only [opX, Option.map_eq_some_iff] at H
    obtain ⟨h1, hst, heq⟩ := H
    cases heq
    simp only [mtOp] at hm
    split at hm
    · rename_i t m' k' y' hz
      simp only [Bool.and_eq_true] at hm
      obtain ⟨⟨⟨m1, m2⟩, m3⟩, m4⟩ := hm
      split at m1
      · rename_i q e1 ht
        simp only [execOp, hz]
        exact GivesN.unit (mu_ok R ht m1 hst (opd_ok m2 he) (opd_ok m3 he) (opd_ok m4 he))
      · cases m1
    · rename_i t m' k' y' hz
      simp only [Bool.and_eq_true] at hm
      obtain ⟨⟨⟨m1, m2⟩, m3⟩, m4⟩ := hm
      split at m1
      · rename_i q e1 ht
        simp only [execOp, hz]
        exact GivesN.unit (mu_ok R ht m1 hst (opd_ok m2 he) (opd_ok m3 he) (opd_ok m4 he))
      · cases m1
    · cases hm
  | lenS y =>
    simp only [opX] at H
    obtain ⟨H1, hh1⟩ := pureV_some H
    clear H
    subst hh1
    have H := H1
    clear H1
    simp only [mtOp] at hm
    split at hm
    · rename_i y' t hz
      simp only [Bool.and_eq_true] at hm
      obtain ⟨m1, m2⟩ := hm
      split at m1
      · rename_i ht
        have e1 : execOp a.eval o = (do pure (.value (← Builtin.len_ #[t] o.type #[a.eval y']))) := by simp [execOp, hz, resolve, invoke, builtin]
        rw [e1]
        exact GivesN.pureV R (lenS_ok (ty := o.type) ht H (opd_ok m2 he))
      · cases m1
    · cases hm
  | lenL y =>
    simp only [opX] at H
    obtain ⟨H1, hh1⟩ := pureV_some H
    clear H
    subst hh1
    have H := H1
    clear H1
    simp only [mtOp] at hm
    split at hm
    · rename_i y' t hz
      simp only [Bool.and_eq_true] at hm
      obtain ⟨m1, m2⟩ := hm
      split at m1
      · rename_i e1 ht
        have e1 : execOp a.eval o = (do pure (.value (← Builtin.len_ #[t] o.type #[a.eval y']))) := by simp [execOp, hz, resolve, invoke, builtin]
        rw [e1]
        exact GivesN.pureV R (lenL_ok (ty := o.type) ht H (opd_ok m2 he))
      · cases m1
    · cases hm
  | lenM y =>
    simp only [opX] at H
    obtain ⟨H1, hh1⟩ := pureV_some H
    clear H
    subst hh1
    have H := H1
    clear H1
    simp only [mtOp] at hm
    split at hm
    · rename_i y' t hz
      simp only [Bool.and_eq_true] at hm
      obtain ⟨m1, m2⟩ := hm
      split at m1
      · rename_i k1 e1 ht
        have e1 : execOp a.eval o = (do pure (.value (← Builtin.len_ #[t] o.type #[a.eval y']))) := by simp [execOp, hz, resolve, invoke, builtin]
        rw [e1]
        exact GivesN.pureV R (lenM_ok (ty := o.type) R ht H (opd_ok m2 he))
      · cases m1
    · cases hm
  | app es b s y =>
    simp only [opX] at H
    simp only [mtOp] at hm
    split at hm
    · rename_i s' y' t t2 hz
      simp only [Bool.and_eq_true] at hm
      obtain ⟨⟨⟨m1, m2⟩, m3⟩, m4⟩ := hm
      split at m1
      · rename_i e1 i1 z1 hel
        simp only [Bool.and_eq_true, beq_iff_eq, decide_eq_true_eq] at m1
        obtain ⟨e1', e2', e3'⟩ := elT_ok hel
        split at m2
        · rename_i e2 ht2
          have e9 : execOp a.eval o = (do pure (.value (← Builtin.append_ #[t, t2] o.type #[a.eval s', a.eval y']))) := by simp [execOp, hz, resolve, invoke, builtin]
          rw [e9]
          exact GivesN.value (app_ok (ty := o.type) R e1' ht2 e2' e3' m1.1.1.1 m1.2 m1.1.1.2 m1.1.2 H (opd_ok m3 he) (opd_ok m4 he))
        · cases m2
      · cases m1
    · cases hm
  | appn es b s y =>
    simp only [opX] at H
    have H' : app es b h (e.ev s) (e.ev y) = some (x, h') := by
      unfold appn at H
      split at H
      · exact H
      · cases H
    simp only [mtOp] at hm
    split at hm
    · rename_i s' y' t t2 hz
      simp only [Bool.and_eq_true] at hm
      obtain ⟨⟨⟨m1, m2⟩, m3⟩, m4⟩ := hm
      split at m1
      · rename_i e1 i1 z1 hel
        simp only [Bool.and_eq_true, beq_iff_eq, decide_eq_true_eq] at m1
        obtain ⟨e1', e2', e3'⟩ := elT_ok hel
        split at m2
        · rename_i e2 ht2
          have e9 : execOp a.eval o = (do pure (.value (← Builtin.append_ #[t, t2] o.type #[a.eval s', a.eval y']))) := by simp [execOp, hz, resolve, invoke, builtin]
          rw [e9]
          exact GivesN.value (app_ok (ty := o.type) R e1' ht2 e2' e3' m1.1.1.1 m1.2 m1.1.1.2 m1.1.2 H' (opd_ok m3 he) (opd_ok m4 he))
        · cases m2
      · cases m1
    · cases hm
  | appf es b s y =>
    simp only [opX] at H
    simp only [Option.bind_eq_some_iff] at H
    obtain ⟨⟨x1, h1⟩, H', Hf⟩ := H
    simp only [mtOp] at hm
    split at hm
    · rename_i s' y' t t2 hz
      simp only [Bool.and_eq_true] at hm
      obtain ⟨⟨⟨m1, m2⟩, m3⟩, m4⟩ := hm
      split at m1
      · rename_i e1 i1 z1 hel
        simp only [Bool.and_eq_true, beq_iff_eq, decide_eq_true_eq] at m1
        obtain ⟨e1', e2', e3'⟩ := elT_ok hel
        split at m2
        · rename_i e2 ht2
          have e9 : execOp a.eval o = (do pure (.value (← Builtin.append_ #[t, t2] o.type #[a.eval s', a.eval y']))) := by simp [execOp, hz, resolve, invoke, builtin]
          rw [e9]
          exact GivesN.frz Hf (GivesN.value (app_ok (ty := o.type) R e1' ht2 e2' e3' m1.1.1.1 m1.2 m1.1.1.2 m1.1.2 H' (opd_ok m3 he) (opd_ok m4 he)))
        · cases m2
      · cases m1
    · cases hm
  | appd es b s y =>
    simp only [opX] at H
    obtain ⟨H1, hh1⟩ := pureV_some H; subst hh1
    simp only [mtOp] at hm
    split at hm
    · rename_i s' y' t t2 hz
      simp only [Bool.and_eq_true] at hm
      obtain ⟨⟨⟨m1, m2⟩, m3⟩, m4⟩ := hm
      split at m1
      · rename_i e1 i1 z1 hel
        simp only [Bool.and_eq_true, beq_iff_eq, decide_eq_true_eq] at m1
        obtain ⟨e1', e2', e3'⟩ := elT_ok hel
        split at m2
        · rename_i e2 ht2
          have e9 : execOp a.eval o = (do pure (.value (← Builtin.append_ #[t, t2] o.type #[a.eval s', a.eval y']))) := by simp [execOp, hz, resolve, invoke, builtin]
          rw [e9]
          exact GivesN.value (appd_ok (ty := o.type) R e1' ht2 e2' e3' m1.1.1.1 m1.2 m1.1.1.2 m1.1.2 H1 (opd_ok m3 he) (opd_ok m4 he))
        · cases m2
      · cases m1
    · cases hm
  | cpy es s y =>
    simp only [opX] at H
    simp only [mtOp] at hm
    split at hm
    · rename_i s' y' t t2 hz
      simp only [Bool.and_eq_true] at hm
      obtain ⟨⟨m1, m2⟩, m3⟩ := hm
      split at m1
      · rename_i e1 i1 z1 hel
        obtain ⟨e1', e2', e3'⟩ := elT_ok hel
        have e9 : execOp a.eval o = (do pure (.value (← Builtin.copy_ #[t, t2] o.type #[a.eval s', a.eval y']))) := by simp [execOp, hz, resolve, invoke, builtin]
        rw [e9]
        exact GivesN.value (cpy_ok (ty := o.type) R e1' (by rw [e2']; rfl) (by simpa using m1) H (opd_ok m2 he) (opd_ok m3 he))
      · cases m1
    · cases hm
  | ext i y =>
    simp only [opX] at H
    obtain ⟨H1, hh1⟩ := pureV_some H
    clear H
    subst hh1
    have H := H1
    clear H1
    simp only [mtOp] at hm
    split at hm
    · rename_i y' j hz
      simp only [Bool.and_eq_true, beq_iff_eq] at hm
      obtain ⟨rfl, m2⟩ := hm
      simp only [execOp, hz]
      exact GivesN.pureV R (ext_ok H (opd_ok m2 he))
    · cases hm
  | call f nm xs => exact absurd rfl (hnc f nm xs).1
  | calln f nm xs => exact absurd rfl (hnc f nm xs).2

end
end Zv
