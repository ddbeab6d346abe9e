/-
  Fitting, of the reference; Check of both.
-/
import Derived.Test.YtfbkbopmenilkaaZc27S4
set_option linter.unusedSimpArgs false
set_option maxHeartbeats 4000000
namespace Zc27
open Go Zv Zs

theorem rfits_ok {d : List Dt} (B : Bd d) (T : typedS d = true) : ∀ (p : Pt) (t : Int), isT d t = true → cntP p < 2 ^ 60 → ∀ h, callW tab 42 [.d (eDs d), .d (eI t), .d (ePt p)] h = some (.d (.bool (fitsP d t p)), h)
  | .mk kd c m qs, t, hT, hc, h => by
    have hlen := cntL_len qs
    rw [cntP] at hc
    rw [fitsP, ePt_mk]
    refine call_wp (fn := f42) rfl rfl ?_
    by_cases k0 : kd = 0
    · subst k0
      rw [if_pos rfl]
      by_cases c0 : c = 0 <;> by_cases m0 : m = 0 <;> by_cases q0 : qs.length = 0 <;> (have q0' : ((qs.length : Int) == 0) = decide (qs.length = 0) := by simp [ibeq]) <;> (simp only [e42, ibeq, c0, m0, q0, q0', ws, wsl, opX, int, Zv.bool, intBin, reduceIte, ↓reduceIte, Nat.reduceEqDiff, Nat.reduceAdd, Nat.reduceSub, Nat.reduceLeDiff, Int.reduceLT, Int.reduceLE, Int.reduceEq, Int.reduceBEq, Int.reduceNe, Int.reduceBNe, reduceCtorEq, Nat.reduceBEq] <;> repeat' (first | refine wpG_s ?_ ?_ | refine wpC_s ?_ ?_) <;> intro hgo <;> (try simp only [decide_eq_true_eq, decide_eq_false_iff_not, Bool.not_eq_true', Bool.not_eq_false'] at hgo) <;> simp only [hgo, e42, ibeq, c0, m0, q0, q0', ws, wsl, opX, int, Zv.bool, intBin, reduceIte, ↓reduceIte, Nat.reduceEqDiff, Nat.reduceAdd, Nat.reduceSub, Nat.reduceLeDiff, Int.reduceLT, Int.reduceLE, Int.reduceEq, Int.reduceBEq, Int.reduceNe, Int.reduceBNe, reduceCtorEq, Nat.reduceBEq])
    · rw [if_neg k0]
      by_cases k2 : kd = 2
      · subst k2
        rw [if_pos rfl]
        by_cases c0 : c = 0 <;> by_cases t0 : t = 0 <;> by_cases q0 : qs.length = 0 <;> (have q0' : ((qs.length : Int) == 0) = decide (qs.length = 0) := by simp [ibeq]) <;> (simp only [e42, ibeq, c0, t0, q0, q0', ws, wsl, opX, int, Zv.bool, intBin, reduceIte, ↓reduceIte, Nat.reduceEqDiff, Nat.reduceAdd, Nat.reduceSub, Nat.reduceLeDiff, Int.reduceLT, Int.reduceLE, Int.reduceEq, Int.reduceBEq, Int.reduceNe, Int.reduceBNe, reduceCtorEq, Nat.reduceBEq] <;> repeat' (first | refine wpG_s ?_ ?_ | refine wpC_s ?_ ?_) <;> intro hgo <;> (try simp only [decide_eq_true_eq, decide_eq_false_iff_not, Bool.not_eq_true', Bool.not_eq_false'] at hgo) <;> simp only [hgo, e42, ibeq, c0, t0, q0, q0', ws, wsl, opX, int, Zv.bool, intBin, reduceIte, ↓reduceIte, Nat.reduceEqDiff, Nat.reduceAdd, Nat.reduceSub, Nat.reduceLeDiff, Int.reduceLT, Int.reduceLE, Int.reduceEq, Int.reduceBEq, Int.reduceNe, Int.reduceBNe, reduceCtorEq, Nat.reduceBEq])
      · rw [if_neg k2]
        by_cases k1 : kd = 1
        · subst k1
          rw [if_pos rfl]
          by_cases t0 : t = 0
          · (simp only [e42, ibeq, t0, ws, wsl, opX, int, Zv.bool, intBin, reduceIte, ↓reduceIte, Nat.reduceEqDiff, Nat.reduceAdd, Nat.reduceSub, Nat.reduceLeDiff, Int.reduceLT, Int.reduceLE, Int.reduceEq, Int.reduceBEq, Int.reduceNe, Int.reduceBNe, reduceCtorEq, Nat.reduceBEq] <;> repeat' (first | refine wpG_s ?_ ?_ | refine wpC_s ?_ ?_) <;> intro hgo <;> (try simp only [decide_eq_true_eq, decide_eq_false_iff_not, Bool.not_eq_true', Bool.not_eq_false'] at hgo) <;> simp only [hgo, e42, ibeq, t0, ws, wsl, opX, int, Zv.bool, intBin, reduceIte, ↓reduceIte, Nat.reduceEqDiff, Nat.reduceAdd, Nat.reduceSub, Nat.reduceLeDiff, Int.reduceLT, Int.reduceLE, Int.reduceEq, Int.reduceBEq, Int.reduceNe, Int.reduceBNe, reduceCtorEq, Nat.reduceBEq])
            simp
          · by_cases m0 : m = 0
            · by_cases cn : c < 0
              · (simp only [e42, ibeq, ibne, t0, m0, cn, ws, wsl, opX, int, Zv.bool, intBin, reduceIte, ↓reduceIte, Nat.reduceEqDiff, Nat.reduceAdd, Nat.reduceSub, Nat.reduceLeDiff, Int.reduceLT, Int.reduceLE, Int.reduceEq, Int.reduceBEq, Int.reduceNe, Int.reduceBNe, reduceCtorEq, Nat.reduceBEq] <;> repeat' (first | refine wpG_s ?_ ?_ | refine wpC_s ?_ ?_) <;> intro hgo <;> (try simp only [decide_eq_true_eq, decide_eq_false_iff_not, Bool.not_eq_true', Bool.not_eq_false'] at hgo) <;> simp only [hgo, e42, ibeq, ibne, t0, m0, cn, ws, wsl, opX, int, Zv.bool, intBin, reduceIte, ↓reduceIte, Nat.reduceEqDiff, Nat.reduceAdd, Nat.reduceSub, Nat.reduceLeDiff, Int.reduceLT, Int.reduceLE, Int.reduceEq, Int.reduceBEq, Int.reduceNe, Int.reduceBNe, reduceCtorEq, Nat.reduceBEq])
                simp
              · rcases tcase d t with h0 | h0 | ⟨j, y, rfl, hy⟩
                · exfalso; simp only [isT, Bool.and_eq_true, decide_eq_true_eq] at hT; omega
                · exfalso; simp only [isT, Bool.and_eq_true, decide_eq_true_eq] at hT; omega
                · have b := B.at hy
                  have hw := wrap_sub1 (n := j) (by omega)
                  rw [consOf_at hy]
                  by_cases hge : (y.cons.length : Int) ≤ c
                  · (simp only [e42, ibeq, ibne, t0, m0, cn, hw, iaD hy, hge, ws, wsl, opX, int, Zv.bool, intBin, reduceIte, ↓reduceIte, Nat.reduceEqDiff, Nat.reduceAdd, Nat.reduceSub, Nat.reduceLeDiff, Int.reduceLT, Int.reduceLE, Int.reduceEq, Int.reduceBEq, Int.reduceNe, Int.reduceBNe, reduceCtorEq, Nat.reduceBEq] <;> repeat' (first | refine wpG_s ?_ ?_ | refine wpC_s ?_ ?_) <;> intro hgo <;> (try simp only [decide_eq_true_eq, decide_eq_false_iff_not, Bool.not_eq_true', Bool.not_eq_false'] at hgo) <;> simp only [hgo, e42, ibeq, ibne, t0, m0, cn, hw, iaD hy, hge, ws, wsl, opX, int, Zv.bool, intBin, reduceIte, ↓reduceIte, Nat.reduceEqDiff, Nat.reduceAdd, Nat.reduceSub, Nat.reduceLeDiff, Int.reduceLT, Int.reduceLE, Int.reduceEq, Int.reduceBEq, Int.reduceNe, Int.reduceBNe, reduceCtorEq, Nat.reduceBEq])
                    simp
                  · obtain ⟨i, rfl⟩ : ∃ i : Nat, c = (i : Int) := ⟨c.toNat, by omega⟩
                    obtain ⟨z, hz⟩ := get_of_lt (l := y.cons) (n := i) (by omega)
                    rw [Int.toNat_natCast, hz]
                    simp only
                    have hge' : ¬ y.cons.length ≤ i := by omega
                    have bc := B.cat hy hz
                    have e0 : (decide (((j : Int) + 1) = 0) || !decide (m = 0) || decide ((i : Int) < 0) || decide ((y.cons.length : Int) ≤ (i : Int))) = false := by
                      have a1 : ¬ ((j : Int) + 1 = 0) := by omega
                      have a2 : ¬ ((i : Int) < 0) := by omega
                      have a3 : ¬ ((y.cons.length : Int) ≤ (i : Int)) := hge
                      simp [a1, a2, a3, m0]
                    rw [e0, Bool.not_false, Bool.true_and]
                    obtain rfl := m0
                    have m0 : (0 : Int) = 0 := rfl
                    by_cases hl : z.flds.length = qs.length
                    · rw [decide_eq_true hl, Bool.true_and, fitsL_any]
                      have hl' : ((z.flds.length : Int) != (qs.length : Int)) = false := by simp [hl]
                      have hzl : (z.flds.zip qs).length = qs.length := by rw [List.length_zip]; omega
                      have hzf : (z.flds.zip qs).length = z.flds.length := by rw [List.length_zip]; omega
                      have hfe : (z.flds.length : Int) = (qs.length : Int) := by omega
                      have hloop := loop_any (T := tab) (a := f42l0) (l := z.flds.zip qs) (p := badF d) (f := fun n => [(0, .d (eDs d)), (5, .fp (.agg [.int .i64 1, .int .i64 (i : Int), .int .i64 0, .lst (qs.map ePt)]) 0), (7, .d (eIs z.flds)), (8, int n)]) (h := ⟨h.objs, h.next + 1⟩)
                          (by intro n x hx hlt hp; (have hxz := zip_at hx); (have hcp := cntL_mem (List.mem_of_getElem? hxz.2)); (have hfT := fld_isT27 T (t := (j : Int) + 1) (by rw [consOf_at hy]; exact List.mem_of_getElem? hz) (List.mem_of_getElem? hxz.1)); (have hr := fun h => rfits_ok B T x.2 x.1 hfT (by omega) h); (have hlt' : n < qs.length := by omega); (have hpb : fitsP d x.1 x.2 = !(badF d x) := by simp [badF]); rw [hp] at hpb; all_goals (apply wq_ex.1; (simp only [hlt, hp, e42, hfe, iaP hxz.2, iaI hxz.1, pts, hr, hlt', hpb, wrap_succ (show n < 2 ^ 62 by omega), ws, wsl, opX, int, Zv.bool, intBin, reduceIte, ↓reduceIte, Nat.reduceEqDiff, Nat.reduceAdd, Nat.reduceSub, Nat.reduceLeDiff, Int.reduceLT, Int.reduceLE, Int.reduceEq, Int.reduceBEq, Int.reduceNe, Int.reduceBNe, reduceCtorEq, Nat.reduceBEq] <;> repeat' (first | refine wpG_s ?_ ?_ | refine wpC_s ?_ ?_) <;> intro hgo <;> (try simp only [decide_eq_true_eq, decide_eq_false_iff_not, Bool.not_eq_true', Bool.not_eq_false'] at hgo) <;> simp only [hgo, hlt, hp, e42, hfe, iaP hxz.2, iaI hxz.1, pts, hr, hlt', hpb, wrap_succ (show n < 2 ^ 62 by omega), ws, wsl, opX, int, Zv.bool, intBin, reduceIte, ↓reduceIte, Nat.reduceEqDiff, Nat.reduceAdd, Nat.reduceSub, Nat.reduceLeDiff, Int.reduceLT, Int.reduceLE, Int.reduceEq, Int.reduceBEq, Int.reduceNe, Int.reduceBNe, reduceCtorEq, Nat.reduceBEq])))
                          (by intro n x hx hlt hp; (have hxz := zip_at hx); (have hcp := cntL_mem (List.mem_of_getElem? hxz.2)); (have hfT := fld_isT27 T (t := (j : Int) + 1) (by rw [consOf_at hy]; exact List.mem_of_getElem? hz) (List.mem_of_getElem? hxz.1)); (have hr := fun h => rfits_ok B T x.2 x.1 hfT (by omega) h); (have hlt' : n < qs.length := by omega); (have hpb : fitsP d x.1 x.2 = !(badF d x) := by simp [badF]); rw [hp] at hpb; all_goals (apply wq_ex.1; (simp only [hlt, hp, e42, hfe, iaP hxz.2, iaI hxz.1, pts, hr, hlt', hpb, wrap_succ (show n < 2 ^ 62 by omega), ws, wsl, opX, int, Zv.bool, intBin, reduceIte, ↓reduceIte, Nat.reduceEqDiff, Nat.reduceAdd, Nat.reduceSub, Nat.reduceLeDiff, Int.reduceLT, Int.reduceLE, Int.reduceEq, Int.reduceBEq, Int.reduceNe, Int.reduceBNe, reduceCtorEq, Nat.reduceBEq] <;> repeat' (first | refine wpG_s ?_ ?_ | refine wpC_s ?_ ?_) <;> intro hgo <;> (try simp only [decide_eq_true_eq, decide_eq_false_iff_not, Bool.not_eq_true', Bool.not_eq_false'] at hgo) <;> simp only [hgo, hlt, hp, e42, hfe, iaP hxz.2, iaI hxz.1, pts, hr, hlt', hpb, wrap_succ (show n < 2 ^ 62 by omega), ws, wsl, opX, int, Zv.bool, intBin, reduceIte, ↓reduceIte, Nat.reduceEqDiff, Nat.reduceAdd, Nat.reduceSub, Nat.reduceLeDiff, Int.reduceLT, Int.reduceLE, Int.reduceEq, Int.reduceBEq, Int.reduceNe, Int.reduceBNe, reduceCtorEq, Nat.reduceBEq]) <;> rfl))
                          (by apply wq_ex.1; (simp only [e42, hzl, hfe, ws, wsl, opX, int, Zv.bool, intBin, reduceIte, ↓reduceIte, Nat.reduceEqDiff, Nat.reduceAdd, Nat.reduceSub, Nat.reduceLeDiff, Int.reduceLT, Int.reduceLE, Int.reduceEq, Int.reduceBEq, Int.reduceNe, Int.reduceBNe, reduceCtorEq, Nat.reduceBEq] <;> repeat' (first | refine wpG_s ?_ ?_ | refine wpC_s ?_ ?_) <;> intro hgo <;> (try simp only [decide_eq_true_eq, decide_eq_false_iff_not, Bool.not_eq_true', Bool.not_eq_false'] at hgo) <;> simp only [hgo, e42, hzl, hfe, ws, wsl, opX, int, Zv.bool, intBin, reduceIte, ↓reduceIte, Nat.reduceEqDiff, Nat.reduceAdd, Nat.reduceSub, Nat.reduceLeDiff, Int.reduceLT, Int.reduceLE, Int.reduceEq, Int.reduceBEq, Int.reduceNe, Int.reduceBNe, reduceCtorEq, Nat.reduceBEq]) <;> rfl)
                          (by simp) (by simp)
                      simp only [int, Zv.bool, Int.cast_ofNat_Int] at hloop
                      (simp only [e42, ibeq, ibne, t0, m0, cn, hw, iaD hy, iaC hz, hge', hl', wq_of hloop, ws, wsl, opX, int, Zv.bool, intBin, reduceIte, ↓reduceIte, Nat.reduceEqDiff, Nat.reduceAdd, Nat.reduceSub, Nat.reduceLeDiff, Int.reduceLT, Int.reduceLE, Int.reduceEq, Int.reduceBEq, Int.reduceNe, Int.reduceBNe, reduceCtorEq, Nat.reduceBEq] <;> repeat' (first | refine wpG_s ?_ ?_ | refine wpC_s ?_ ?_) <;> intro hgo <;> (try simp only [decide_eq_true_eq, decide_eq_false_iff_not, Bool.not_eq_true', Bool.not_eq_false'] at hgo) <;> simp only [hgo, e42, ibeq, ibne, t0, m0, cn, hw, iaD hy, iaC hz, hge', hl', wq_of hloop, ws, wsl, opX, int, Zv.bool, intBin, reduceIte, ↓reduceIte, Nat.reduceEqDiff, Nat.reduceAdd, Nat.reduceSub, Nat.reduceLeDiff, Int.reduceLT, Int.reduceLE, Int.reduceEq, Int.reduceBEq, Int.reduceNe, Int.reduceBNe, reduceCtorEq, Nat.reduceBEq])
                      cases (z.flds.zip qs).any (badF d) <;> (simp only [e42, ws, wsl, opX, int, Zv.bool, intBin, reduceIte, ↓reduceIte, Nat.reduceEqDiff, Nat.reduceAdd, Nat.reduceSub, Nat.reduceLeDiff, Int.reduceLT, Int.reduceLE, Int.reduceEq, Int.reduceBEq, Int.reduceNe, Int.reduceBNe, reduceCtorEq, Nat.reduceBEq] <;> repeat' (first | refine wpG_s ?_ ?_ | refine wpC_s ?_ ?_) <;> intro hgo <;> (try simp only [decide_eq_true_eq, decide_eq_false_iff_not, Bool.not_eq_true', Bool.not_eq_false'] at hgo) <;> simp only [hgo, e42, ws, wsl, opX, int, Zv.bool, intBin, reduceIte, ↓reduceIte, Nat.reduceEqDiff, Nat.reduceAdd, Nat.reduceSub, Nat.reduceLeDiff, Int.reduceLT, Int.reduceLE, Int.reduceEq, Int.reduceBEq, Int.reduceNe, Int.reduceBNe, reduceCtorEq, Nat.reduceBEq])
                    · rw [decide_eq_false hl, Bool.false_and]
                      have hl' : ((z.flds.length : Int) != (qs.length : Int)) = true := by simp; omega
                      (simp only [e42, ibeq, ibne, t0, m0, cn, hw, iaD hy, iaC hz, hge', hl', ws, wsl, opX, int, Zv.bool, intBin, reduceIte, ↓reduceIte, Nat.reduceEqDiff, Nat.reduceAdd, Nat.reduceSub, Nat.reduceLeDiff, Int.reduceLT, Int.reduceLE, Int.reduceEq, Int.reduceBEq, Int.reduceNe, Int.reduceBNe, reduceCtorEq, Nat.reduceBEq] <;> repeat' (first | refine wpG_s ?_ ?_ | refine wpC_s ?_ ?_) <;> intro hgo <;> (try simp only [decide_eq_true_eq, decide_eq_false_iff_not, Bool.not_eq_true', Bool.not_eq_false'] at hgo) <;> simp only [hgo, e42, ibeq, ibne, t0, m0, cn, hw, iaD hy, iaC hz, hge', hl', ws, wsl, opX, int, Zv.bool, intBin, reduceIte, ↓reduceIte, Nat.reduceEqDiff, Nat.reduceAdd, Nat.reduceSub, Nat.reduceLeDiff, Int.reduceLT, Int.reduceLE, Int.reduceEq, Int.reduceBEq, Int.reduceNe, Int.reduceBNe, reduceCtorEq, Nat.reduceBEq])
            · (simp only [e42, ibeq, ibne, t0, m0, ws, wsl, opX, int, Zv.bool, intBin, reduceIte, ↓reduceIte, Nat.reduceEqDiff, Nat.reduceAdd, Nat.reduceSub, Nat.reduceLeDiff, Int.reduceLT, Int.reduceLE, Int.reduceEq, Int.reduceBEq, Int.reduceNe, Int.reduceBNe, reduceCtorEq, Nat.reduceBEq] <;> repeat' (first | refine wpG_s ?_ ?_ | refine wpC_s ?_ ?_) <;> intro hgo <;> (try simp only [decide_eq_true_eq, decide_eq_false_iff_not, Bool.not_eq_true', Bool.not_eq_false'] at hgo) <;> simp only [hgo, e42, ibeq, ibne, t0, m0, ws, wsl, opX, int, Zv.bool, intBin, reduceIte, ↓reduceIte, Nat.reduceEqDiff, Nat.reduceAdd, Nat.reduceSub, Nat.reduceLeDiff, Int.reduceLT, Int.reduceLE, Int.reduceEq, Int.reduceBEq, Int.reduceNe, Int.reduceBNe, reduceCtorEq, Nat.reduceBEq])
              simp [m0]
        · rw [if_neg k1]
          (simp only [e42, ibeq, k0, k1, k2, ws, wsl, opX, int, Zv.bool, intBin, reduceIte, ↓reduceIte, Nat.reduceEqDiff, Nat.reduceAdd, Nat.reduceSub, Nat.reduceLeDiff, Int.reduceLT, Int.reduceLE, Int.reduceEq, Int.reduceBEq, Int.reduceNe, Int.reduceBNe, reduceCtorEq, Nat.reduceBEq] <;> repeat' (first | refine wpG_s ?_ ?_ | refine wpC_s ?_ ?_) <;> intro hgo <;> (try simp only [decide_eq_true_eq, decide_eq_false_iff_not, Bool.not_eq_true', Bool.not_eq_false'] at hgo) <;> simp only [hgo, e42, ibeq, k0, k1, k2, ws, wsl, opX, int, Zv.bool, intBin, reduceIte, ↓reduceIte, Nat.reduceEqDiff, Nat.reduceAdd, Nat.reduceSub, Nat.reduceLeDiff, Int.reduceLT, Int.reduceLE, Int.reduceEq, Int.reduceBEq, Int.reduceNe, Int.reduceBNe, reduceCtorEq, Nat.reduceBEq])
termination_by p => cntP p
decreasing_by
  all_goals
    have := cntL_mem (List.mem_of_getElem? (zip_at hx).2)
    rw [cntP]
    omega

/-! ### Check -/
theorem check_typed {d : List Dt} (h : checkS d = 0) : typedS d = true := by
  unfold checkS at h
  by_cases h1 : manyS d = true
  · rw [if_pos h1] at h; exact absurd h (by decide)
  rw [if_neg h1] at h
  by_cases h2 : formedS d = false
  · rw [if_pos h2] at h; exact absurd h (by decide)
  rw [if_neg h2] at h
  by_cases h3 : twiceS d = true
  · rw [if_pos h3] at h; exact absurd h (by decide)
  rw [if_neg h3] at h
  by_cases h4 : typedS d = false
  · rw [if_pos h4] at h; exact absurd h (by decide)
  simpa using h4
def badT (d : List Dt) (t : Int) : Bool := !isT d t
def deepR (r : List Pt) : Bool := r.any fun p => deepP p 0
/-- A row that does not fit the types. -/
def badR (d : List Dt) (ts : List Int) (r : List Pt) : Bool := !(decide (r.length = ts.length) && !(ts.zip r).any (badF d))
def chk27 (d : List Dt) (ts : List Int) (l : List (List Pt)) : Int :=
  if checkS d ≠ 0 then 3 else if 8 < ts.length ∨ 64 < l.length then 6 else if ts.any (badT d) = true then 2 else if l.any deepR = true then 7 else if l.any (badR d ts) = true then 10 else 0
structure Rng (d : List Dt) (ts : List Int) (l : List (List Pt)) : Prop where
  bd : Bd d
  nm : Nm d
  ts : ts.length < 2 ^ 60
  rows : l.length < 2 ^ 60
  cnt : ∀ r, r ∈ l → cntL r < 2 ^ 60
theorem tests (d : List Dt) (t : Int) : badT d t = (decide (t < 0) || decide ((d.length : Int) < t)) := by
  unfold badT isT
  by_cases h1 : t < 0 <;> by_cases h2 : (d.length : Int) < t <;> simp [h1, h2] <;> omega
theorem chk_ok {d : List Dt} {ts : List Int} {l : List (List Pt)} (R : Rng d ts l) (h : Hp) : callW tab 11 [.d (eDs d), .d (eIs ts), .d (eRs l)] h = some (.d (eI (chk27 d ts l)), h) := by
  refine call_wp (fn := f11) rfl rfl ?_
  have B := R.bd
  have hts := R.ts
  have hll := R.rows
  have hbl := B.len
  have hch := fun hh => pcheck_ok B R.nm hh
  unfold chk27
  by_cases hC : checkS d = 0
  · rw [if_neg (by simp [hC])]
    have T := check_typed hC
    by_cases h8 : 8 < ts.length
    · rw [if_pos (.inl h8)]
      have h8' : (8 : Int) < (ts.length : Int) := by omega
      (simp only [e11, hch, hC, h8', ws, wsl, opX, int, Zv.bool, intBin, reduceIte, ↓reduceIte, Nat.reduceEqDiff, Nat.reduceAdd, Nat.reduceSub, Nat.reduceLeDiff, Int.reduceLT, Int.reduceLE, Int.reduceEq, Int.reduceBEq, Int.reduceNe, Int.reduceBNe, reduceCtorEq, Nat.reduceBEq] <;> repeat' (first | refine wpG_s ?_ ?_ | refine wpC_s ?_ ?_) <;> intro hgo <;> (try simp only [decide_eq_true_eq, decide_eq_false_iff_not, Bool.not_eq_true', Bool.not_eq_false'] at hgo) <;> simp only [hgo, e11, hch, hC, h8', ws, wsl, opX, int, Zv.bool, intBin, reduceIte, ↓reduceIte, Nat.reduceEqDiff, Nat.reduceAdd, Nat.reduceSub, Nat.reduceLeDiff, Int.reduceLT, Int.reduceLE, Int.reduceEq, Int.reduceBEq, Int.reduceNe, Int.reduceBNe, reduceCtorEq, Nat.reduceBEq])
    · have h8' : ¬ (8 : Int) < (ts.length : Int) := by omega
      by_cases h64 : 64 < l.length
      · rw [if_pos (.inr h64)]
        have h64' : (64 : Int) < (l.length : Int) := by omega
        (simp only [e11, hch, hC, h8', h64', ws, wsl, opX, int, Zv.bool, intBin, reduceIte, ↓reduceIte, Nat.reduceEqDiff, Nat.reduceAdd, Nat.reduceSub, Nat.reduceLeDiff, Int.reduceLT, Int.reduceLE, Int.reduceEq, Int.reduceBEq, Int.reduceNe, Int.reduceBNe, reduceCtorEq, Nat.reduceBEq] <;> repeat' (first | refine wpG_s ?_ ?_ | refine wpC_s ?_ ?_) <;> intro hgo <;> (try simp only [decide_eq_true_eq, decide_eq_false_iff_not, Bool.not_eq_true', Bool.not_eq_false'] at hgo) <;> simp only [hgo, e11, hch, hC, h8', h64', ws, wsl, opX, int, Zv.bool, intBin, reduceIte, ↓reduceIte, Nat.reduceEqDiff, Nat.reduceAdd, Nat.reduceSub, Nat.reduceLeDiff, Int.reduceLT, Int.reduceLE, Int.reduceEq, Int.reduceBEq, Int.reduceNe, Int.reduceBNe, reduceCtorEq, Nat.reduceBEq])
      · rw [if_neg (by simp [h8, h64])]
        have h64' : ¬ (64 : Int) < (l.length : Int) := by omega
        have hcT := conFT ts (.clo 35 [.ptr h.next 1 0 0]) (badT d) ⟨(h.next, .arr 1 [.d (eDs d)]) :: h.objs, h.next + 1⟩ (by omega) rfl (by
          intro t ht
          rw [cW_clo]
          simp only [Nat.reduceBEq, Bool.false_eq_true, if_false]
          refine call_wp (fn := f35) rfl rfl ?_
          rw [tests]
          by_cases t1 : t < 0
          · (simp only [e35, t1, Bool.true_or, ws, wsl, opX, int, Zv.bool, intBin, reduceIte, ↓reduceIte, Nat.reduceEqDiff, Nat.reduceAdd, Nat.reduceSub, Nat.reduceLeDiff, Int.reduceLT, Int.reduceLE, Int.reduceEq, Int.reduceBEq, Int.reduceNe, Int.reduceBNe, reduceCtorEq, Nat.reduceBEq] <;> repeat' (first | refine wpG_s ?_ ?_ | refine wpC_s ?_ ?_) <;> intro hgo <;> (try simp only [decide_eq_true_eq, decide_eq_false_iff_not, Bool.not_eq_true', Bool.not_eq_false'] at hgo) <;> simp only [hgo, e35, t1, Bool.true_or, ws, wsl, opX, int, Zv.bool, intBin, reduceIte, ↓reduceIte, Nat.reduceEqDiff, Nat.reduceAdd, Nat.reduceSub, Nat.reduceLeDiff, Int.reduceLT, Int.reduceLE, Int.reduceEq, Int.reduceBEq, Int.reduceNe, Int.reduceBNe, reduceCtorEq, Nat.reduceBEq])
          · by_cases t2 : (d.length : Int) < t <;> (simp only [e35, t1, t2, Bool.false_or, ws, wsl, opX, int, Zv.bool, intBin, reduceIte, ↓reduceIte, Nat.reduceEqDiff, Nat.reduceAdd, Nat.reduceSub, Nat.reduceLeDiff, Int.reduceLT, Int.reduceLE, Int.reduceEq, Int.reduceBEq, Int.reduceNe, Int.reduceBNe, reduceCtorEq, Nat.reduceBEq] <;> repeat' (first | refine wpG_s ?_ ?_ | refine wpC_s ?_ ?_) <;> intro hgo <;> (try simp only [decide_eq_true_eq, decide_eq_false_iff_not, Bool.not_eq_true', Bool.not_eq_false'] at hgo) <;> simp only [hgo, e35, t1, t2, Bool.false_or, ws, wsl, opX, int, Zv.bool, intBin, reduceIte, ↓reduceIte, Nat.reduceEqDiff, Nat.reduceAdd, Nat.reduceSub, Nat.reduceLeDiff, Int.reduceLT, Int.reduceLE, Int.reduceEq, Int.reduceBEq, Int.reduceNe, Int.reduceBNe, reduceCtorEq, Nat.reduceBEq]))
        cases hbt : ts.any (badT d) with
        | true =>
          rw [if_pos rfl]
          (simp only [e11, hch, hC, h8', h64', hcT, hbt, ws, wsl, opX, int, Zv.bool, intBin, reduceIte, ↓reduceIte, Nat.reduceEqDiff, Nat.reduceAdd, Nat.reduceSub, Nat.reduceLeDiff, Int.reduceLT, Int.reduceLE, Int.reduceEq, Int.reduceBEq, Int.reduceNe, Int.reduceBNe, reduceCtorEq, Nat.reduceBEq] <;> repeat' (first | refine wpG_s ?_ ?_ | refine wpC_s ?_ ?_) <;> intro hgo <;> (try simp only [decide_eq_true_eq, decide_eq_false_iff_not, Bool.not_eq_true', Bool.not_eq_false'] at hgo) <;> simp only [hgo, e11, hch, hC, h8', h64', hcT, hbt, ws, wsl, opX, int, Zv.bool, intBin, reduceIte, ↓reduceIte, Nat.reduceEqDiff, Nat.reduceAdd, Nat.reduceSub, Nat.reduceLeDiff, Int.reduceLT, Int.reduceLE, Int.reduceEq, Int.reduceBEq, Int.reduceNe, Int.reduceBNe, reduceCtorEq, Nat.reduceBEq])
        | false =>
          rw [if_neg (by simp)]
          have hdp : ∀ r, r ∈ l → ∀ h, callW tab 36 [.d (ePs r), .clo 37 []] h = some (.d (.bool (deepR r)), h) := by
            intro r hr h
            have hcr := R.cnt r hr
            have hlr := cntL_len r
            refine conFP r (.clo 37 []) (fun p => deepP p 0) h (by omega) rfl (fun p hp => ?_)
            have hcp := cntL_mem hp
            have hd := fun h => deep_ok p 0 (by omega) (by omega) h
            rw [cW_clo]
            simp only [Nat.reduceBEq, Bool.false_eq_true, if_false]
            refine call_wp (fn := f37) rfl rfl ?_
            simp only [Int.cast_ofNat_Int] at hd
            (simp only [e37, pts, hd, ws, wsl, opX, int, Zv.bool, intBin, reduceIte, ↓reduceIte, Nat.reduceEqDiff, Nat.reduceAdd, Nat.reduceSub, Nat.reduceLeDiff, Int.reduceLT, Int.reduceLE, Int.reduceEq, Int.reduceBEq, Int.reduceNe, Int.reduceBNe, reduceCtorEq, Nat.reduceBEq] <;> repeat' (first | refine wpG_s ?_ ?_ | refine wpC_s ?_ ?_) <;> intro hgo <;> (try simp only [decide_eq_true_eq, decide_eq_false_iff_not, Bool.not_eq_true', Bool.not_eq_false'] at hgo) <;> simp only [hgo, e37, pts, hd, ws, wsl, opX, int, Zv.bool, intBin, reduceIte, ↓reduceIte, Nat.reduceEqDiff, Nat.reduceAdd, Nat.reduceSub, Nat.reduceLeDiff, Int.reduceLT, Int.reduceLE, Int.reduceEq, Int.reduceBEq, Int.reduceNe, Int.reduceBNe, reduceCtorEq, Nat.reduceBEq])
          have hA := loop_any (T := tab) (a := f11l0) (l := l) (p := deepR) (f := fun n => [(1, .d (eIs ts)), (2, .d (eRs l)), (3, .ptr h.next 1 0 0), (27, .d (eRs l)), (28, .d (.int .i64 l.length)), (29, int n)]) (h := ⟨(h.next, .arr 1 [.d (eDs d)]) :: h.objs, h.next + 1⟩)
              (by intro n x hx hlt hp; (have hr := hdp x (List.mem_of_getElem? hx)); all_goals (apply wq_ex.1; (simp only [hlt, hp, e11, iaR hx, hr, wrap_succ (show n < 2 ^ 62 by omega), ws, wsl, opX, int, Zv.bool, intBin, reduceIte, ↓reduceIte, Nat.reduceEqDiff, Nat.reduceAdd, Nat.reduceSub, Nat.reduceLeDiff, Int.reduceLT, Int.reduceLE, Int.reduceEq, Int.reduceBEq, Int.reduceNe, Int.reduceBNe, reduceCtorEq, Nat.reduceBEq] <;> repeat' (first | refine wpG_s ?_ ?_ | refine wpC_s ?_ ?_) <;> intro hgo <;> (try simp only [decide_eq_true_eq, decide_eq_false_iff_not, Bool.not_eq_true', Bool.not_eq_false'] at hgo) <;> simp only [hgo, hlt, hp, e11, iaR hx, hr, wrap_succ (show n < 2 ^ 62 by omega), ws, wsl, opX, int, Zv.bool, intBin, reduceIte, ↓reduceIte, Nat.reduceEqDiff, Nat.reduceAdd, Nat.reduceSub, Nat.reduceLeDiff, Int.reduceLT, Int.reduceLE, Int.reduceEq, Int.reduceBEq, Int.reduceNe, Int.reduceBNe, reduceCtorEq, Nat.reduceBEq])))
              (by intro n x hx hlt hp; (have hr := hdp x (List.mem_of_getElem? hx)); all_goals (apply wq_ex.1; (simp only [hlt, hp, e11, iaR hx, hr, wrap_succ (show n < 2 ^ 62 by omega), ws, wsl, opX, int, Zv.bool, intBin, reduceIte, ↓reduceIte, Nat.reduceEqDiff, Nat.reduceAdd, Nat.reduceSub, Nat.reduceLeDiff, Int.reduceLT, Int.reduceLE, Int.reduceEq, Int.reduceBEq, Int.reduceNe, Int.reduceBNe, reduceCtorEq, Nat.reduceBEq] <;> repeat' (first | refine wpG_s ?_ ?_ | refine wpC_s ?_ ?_) <;> intro hgo <;> (try simp only [decide_eq_true_eq, decide_eq_false_iff_not, Bool.not_eq_true', Bool.not_eq_false'] at hgo) <;> simp only [hgo, hlt, hp, e11, iaR hx, hr, wrap_succ (show n < 2 ^ 62 by omega), ws, wsl, opX, int, Zv.bool, intBin, reduceIte, ↓reduceIte, Nat.reduceEqDiff, Nat.reduceAdd, Nat.reduceSub, Nat.reduceLeDiff, Int.reduceLT, Int.reduceLE, Int.reduceEq, Int.reduceBEq, Int.reduceNe, Int.reduceBNe, reduceCtorEq, Nat.reduceBEq]) <;> rfl))
              (by apply wq_ex.1; (simp only [e11, ws, wsl, opX, int, Zv.bool, intBin, reduceIte, ↓reduceIte, Nat.reduceEqDiff, Nat.reduceAdd, Nat.reduceSub, Nat.reduceLeDiff, Int.reduceLT, Int.reduceLE, Int.reduceEq, Int.reduceBEq, Int.reduceNe, Int.reduceBNe, reduceCtorEq, Nat.reduceBEq] <;> repeat' (first | refine wpG_s ?_ ?_ | refine wpC_s ?_ ?_) <;> intro hgo <;> (try simp only [decide_eq_true_eq, decide_eq_false_iff_not, Bool.not_eq_true', Bool.not_eq_false'] at hgo) <;> simp only [hgo, e11, ws, wsl, opX, int, Zv.bool, intBin, reduceIte, ↓reduceIte, Nat.reduceEqDiff, Nat.reduceAdd, Nat.reduceSub, Nat.reduceLeDiff, Int.reduceLT, Int.reduceLE, Int.reduceEq, Int.reduceBEq, Int.reduceNe, Int.reduceBNe, reduceCtorEq, Nat.reduceBEq]) <;> rfl)
              (by simp) (by simp)
          simp only [int, Zv.bool, Int.cast_ofNat_Int] at hA
          cases hdr : l.any deepR with
          | true =>
            rw [hdr] at hA
            rw [if_pos rfl]
            (simp only [e11, hch, hC, h8', h64', hcT, hbt, wq_of hA, ws, wsl, opX, int, Zv.bool, intBin, reduceIte, ↓reduceIte, Nat.reduceEqDiff, Nat.reduceAdd, Nat.reduceSub, Nat.reduceLeDiff, Int.reduceLT, Int.reduceLE, Int.reduceEq, Int.reduceBEq, Int.reduceNe, Int.reduceBNe, reduceCtorEq, Nat.reduceBEq] <;> repeat' (first | refine wpG_s ?_ ?_ | refine wpC_s ?_ ?_) <;> intro hgo <;> (try simp only [decide_eq_true_eq, decide_eq_false_iff_not, Bool.not_eq_true', Bool.not_eq_false'] at hgo) <;> simp only [hgo, e11, hch, hC, h8', h64', hcT, hbt, wq_of hA, ws, wsl, opX, int, Zv.bool, intBin, reduceIte, ↓reduceIte, Nat.reduceEqDiff, Nat.reduceAdd, Nat.reduceSub, Nat.reduceLeDiff, Int.reduceLT, Int.reduceLE, Int.reduceEq, Int.reduceBEq, Int.reduceNe, Int.reduceBNe, reduceCtorEq, Nat.reduceBEq])
          | false =>
            rw [hdr] at hA
            rw [if_neg (by simp)]
            have tyT : ∀ t, t ∈ ts → isT d t = true := by
              intro t ht
              have := List.any_eq_false.1 hbt t ht
              simpa [badT] using this
            have inner : ∀ (j : Nat) (r : List Pt) (q : Nat), r ∈ l → r.length = ts.length → ∃ q', ex tab (.loop f11l1) [(1, .d (eIs ts)), (3, .ptr h.next 1 0 0), (36, .d (eRs l)), (37, .d (.int .i64 l.length)), (38, .d (.int .i64 (j : Int))), (47, .d (ePs r)), (48, .d (.int .i64 r.length)), (49, .d (.int .i64 0))] ⟨(h.next, .arr 1 [.d (eDs d)]) :: h.objs, q⟩ =
                some (if (ts.zip r).any (badF d) = true then (.ret, [(6, .d (.int .i64 10))], ⟨(h.next, .arr 1 [.d (eDs d)]) :: h.objs, q'⟩) else (.exit 4, [(1, .d (eIs ts)), (3, .ptr h.next 1 0 0), (36, .d (eRs l)), (37, .d (.int .i64 l.length)), (38, .d (.int .i64 (j : Int))), (47, .d (ePs r)), (48, .d (.int .i64 r.length)), (49, .d (.int .i64 r.length)), (50, .d (.bool false))], ⟨(h.next, .arr 1 [.d (eDs d)]) :: h.objs, q'⟩)) := by
              intro j r q hr hrl
              have hcr := R.cnt r hr
              have hzl : (ts.zip r).length = r.length := by rw [List.length_zip]; omega
              obtain ⟨hloopq, hloop⟩ := loop_anyq (T := tab) (a := f11l1) (l := ts.zip r) (p := badF d) (f := fun n => [(1, .d (eIs ts)), (3, .ptr h.next 1 0 0), (36, .d (eRs l)), (37, .d (.int .i64 l.length)), (38, .d (.int .i64 (j : Int))), (47, .d (ePs r)), (48, .d (.int .i64 r.length)), (49, int n)]) (h := ⟨(h.next, .arr 1 [.d (eDs d)]) :: h.objs, q⟩)
                  (by intro q n x hx hlt hp; (have hxz := zip_at hx); (have hcp := cntL_mem (List.mem_of_getElem? hxz.2)); (have hf := fun h => fits_ok B T x.2 x.1 (tyT _ (List.mem_of_getElem? hxz.1)) (by omega) h); (have hlt' : n < r.length := by omega); (have hpb : fitsP d x.1 x.2 = !(badF d x) := by simp [badF]); rw [hp] at hpb; all_goals ((simp only [hlt, hp, e11, iaP hxz.2, iaI hxz.1, pts, hf, hlt', hpb, wrap_succ (show n < 2 ^ 62 by omega), ws, wsl, opX, int, Zv.bool, intBin, reduceIte, ↓reduceIte, Nat.reduceEqDiff, Nat.reduceAdd, Nat.reduceSub, Nat.reduceLeDiff, Int.reduceLT, Int.reduceLE, Int.reduceEq, Int.reduceBEq, Int.reduceNe, Int.reduceBNe, reduceCtorEq, Nat.reduceBEq] <;> repeat' (first | refine wpG_s ?_ ?_ | refine wpC_s ?_ ?_) <;> intro hgo <;> (try simp only [decide_eq_true_eq, decide_eq_false_iff_not, Bool.not_eq_true', Bool.not_eq_false'] at hgo) <;> simp only [hgo, hlt, hp, e11, iaP hxz.2, iaI hxz.1, pts, hf, hlt', hpb, wrap_succ (show n < 2 ^ 62 by omega), ws, wsl, opX, int, Zv.bool, intBin, reduceIte, ↓reduceIte, Nat.reduceEqDiff, Nat.reduceAdd, Nat.reduceSub, Nat.reduceLeDiff, Int.reduceLT, Int.reduceLE, Int.reduceEq, Int.reduceBEq, Int.reduceNe, Int.reduceBNe, reduceCtorEq, Nat.reduceBEq]) <;> (first | exact ⟨_, rfl⟩ | exact ⟨_, rfl, rfl⟩ | exact ⟨_, rfl, rfl, rfl⟩)))
                  (by intro q n x hx hlt hp; (have hxz := zip_at hx); (have hcp := cntL_mem (List.mem_of_getElem? hxz.2)); (have hf := fun h => fits_ok B T x.2 x.1 (tyT _ (List.mem_of_getElem? hxz.1)) (by omega) h); (have hlt' : n < r.length := by omega); (have hpb : fitsP d x.1 x.2 = !(badF d x) := by simp [badF]); rw [hp] at hpb; all_goals ((simp only [hlt, hp, e11, iaP hxz.2, iaI hxz.1, pts, hf, hlt', hpb, wrap_succ (show n < 2 ^ 62 by omega), ws, wsl, opX, int, Zv.bool, intBin, reduceIte, ↓reduceIte, Nat.reduceEqDiff, Nat.reduceAdd, Nat.reduceSub, Nat.reduceLeDiff, Int.reduceLT, Int.reduceLE, Int.reduceEq, Int.reduceBEq, Int.reduceNe, Int.reduceBNe, reduceCtorEq, Nat.reduceBEq] <;> repeat' (first | refine wpG_s ?_ ?_ | refine wpC_s ?_ ?_) <;> intro hgo <;> (try simp only [decide_eq_true_eq, decide_eq_false_iff_not, Bool.not_eq_true', Bool.not_eq_false'] at hgo) <;> simp only [hgo, hlt, hp, e11, iaP hxz.2, iaI hxz.1, pts, hf, hlt', hpb, wrap_succ (show n < 2 ^ 62 by omega), ws, wsl, opX, int, Zv.bool, intBin, reduceIte, ↓reduceIte, Nat.reduceEqDiff, Nat.reduceAdd, Nat.reduceSub, Nat.reduceLeDiff, Int.reduceLT, Int.reduceLE, Int.reduceEq, Int.reduceBEq, Int.reduceNe, Int.reduceBNe, reduceCtorEq, Nat.reduceBEq]) <;> (first | exact ⟨_, rfl⟩ | exact ⟨_, rfl, rfl⟩ | exact ⟨_, rfl, rfl, rfl⟩)))
                  (by intro q; (simp only [e11, hzl, ws, wsl, opX, int, Zv.bool, intBin, reduceIte, ↓reduceIte, Nat.reduceEqDiff, Nat.reduceAdd, Nat.reduceSub, Nat.reduceLeDiff, Int.reduceLT, Int.reduceLE, Int.reduceEq, Int.reduceBEq, Int.reduceNe, Int.reduceBNe, reduceCtorEq, Nat.reduceBEq] <;> repeat' (first | refine wpG_s ?_ ?_ | refine wpC_s ?_ ?_) <;> intro hgo <;> (try simp only [decide_eq_true_eq, decide_eq_false_iff_not, Bool.not_eq_true', Bool.not_eq_false'] at hgo) <;> simp only [hgo, e11, hzl, ws, wsl, opX, int, Zv.bool, intBin, reduceIte, ↓reduceIte, Nat.reduceEqDiff, Nat.reduceAdd, Nat.reduceSub, Nat.reduceLeDiff, Int.reduceLT, Int.reduceLE, Int.reduceEq, Int.reduceBEq, Int.reduceNe, Int.reduceBNe, reduceCtorEq, Nat.reduceBEq]) <;> (first | exact ⟨_, rfl⟩ | exact ⟨_, rfl, rfl⟩ | exact ⟨_, rfl, rfl, rfl⟩))
                  (by simp) (by simp)
              simp only [int, Zv.bool, Int.cast_ofNat_Int] at hloop
              exact ⟨hloopq, hloop⟩
            obtain ⟨q', hB⟩ := loop_anyq (T := tab) (a := f11l2) (l := l) (p := badR d ts) (f := fun n => [(1, .d (eIs ts)), (3, .ptr h.next 1 0 0), (36, .d (eRs l)), (37, .d (.int .i64 l.length)), (38, int n)]) (h := ⟨(h.next, .arr 1 [.d (eDs d)]) :: h.objs, h.next + 1⟩)
              (x1 := .ret) (e1 := [(6, .d (.int .i64 10))]) (x2 := .exit 2) (e2 := [(1, .d (eIs ts)), (3, .ptr h.next 1 0 0), (36, .d (eRs l)), (37, .d (.int .i64 l.length)), (38, .d (.int .i64 l.length)), (39, .d (.bool false))])
              (by
                intro q n x hx hlt hp
                have hmem := List.mem_of_getElem? hx
                unfold badR at hp
                simp only [Bool.not_eq_false', Bool.and_eq_true, decide_eq_true_eq, Bool.not_eq_true'] at hp
                obtain ⟨hrl, hany⟩ := hp
                have hne : ((x.length : Int) != (ts.length : Int)) = false := by simp [hrl]
                obtain ⟨q', hin⟩ := inner n x q hmem hrl
                rw [hany, if_neg (by simp)] at hin
                (simp only [e11, hlt, iaR hx, hne, wq_of hin, wrap_succ (show n < 2 ^ 62 by omega), ws, wsl, opX, int, Zv.bool, intBin, reduceIte, ↓reduceIte, Nat.reduceEqDiff, Nat.reduceAdd, Nat.reduceSub, Nat.reduceLeDiff, Int.reduceLT, Int.reduceLE, Int.reduceEq, Int.reduceBEq, Int.reduceNe, Int.reduceBNe, reduceCtorEq, Nat.reduceBEq] <;> repeat' (first | refine wpG_s ?_ ?_ | refine wpC_s ?_ ?_) <;> intro hgo <;> (try simp only [decide_eq_true_eq, decide_eq_false_iff_not, Bool.not_eq_true', Bool.not_eq_false'] at hgo) <;> simp only [hgo, e11, hlt, iaR hx, hne, wq_of hin, wrap_succ (show n < 2 ^ 62 by omega), ws, wsl, opX, int, Zv.bool, intBin, reduceIte, ↓reduceIte, Nat.reduceEqDiff, Nat.reduceAdd, Nat.reduceSub, Nat.reduceLeDiff, Int.reduceLT, Int.reduceLE, Int.reduceEq, Int.reduceBEq, Int.reduceNe, Int.reduceBNe, reduceCtorEq, Nat.reduceBEq])
                exact ⟨_, rfl⟩)
              (by
                intro q n x hx hlt hp
                have hmem := List.mem_of_getElem? hx
                by_cases hrl : x.length = ts.length
                · unfold badR at hp
                  rw [decide_eq_true hrl, Bool.true_and, Bool.not_not] at hp
                  have hne : ((x.length : Int) != (ts.length : Int)) = false := by simp [hrl]
                  obtain ⟨q', hin⟩ := inner n x q hmem hrl
                  rw [hp, if_pos rfl] at hin
                  (simp only [e11, hlt, iaR hx, hne, wq_of hin, ws, wsl, opX, int, Zv.bool, intBin, reduceIte, ↓reduceIte, Nat.reduceEqDiff, Nat.reduceAdd, Nat.reduceSub, Nat.reduceLeDiff, Int.reduceLT, Int.reduceLE, Int.reduceEq, Int.reduceBEq, Int.reduceNe, Int.reduceBNe, reduceCtorEq, Nat.reduceBEq] <;> repeat' (first | refine wpG_s ?_ ?_ | refine wpC_s ?_ ?_) <;> intro hgo <;> (try simp only [decide_eq_true_eq, decide_eq_false_iff_not, Bool.not_eq_true', Bool.not_eq_false'] at hgo) <;> simp only [hgo, e11, hlt, iaR hx, hne, wq_of hin, ws, wsl, opX, int, Zv.bool, intBin, reduceIte, ↓reduceIte, Nat.reduceEqDiff, Nat.reduceAdd, Nat.reduceSub, Nat.reduceLeDiff, Int.reduceLT, Int.reduceLE, Int.reduceEq, Int.reduceBEq, Int.reduceNe, Int.reduceBNe, reduceCtorEq, Nat.reduceBEq])
                  exact ⟨_, rfl⟩
                · have hne : ((x.length : Int) != (ts.length : Int)) = true := by simp; omega
                  (simp only [e11, hlt, iaR hx, hne, ws, wsl, opX, int, Zv.bool, intBin, reduceIte, ↓reduceIte, Nat.reduceEqDiff, Nat.reduceAdd, Nat.reduceSub, Nat.reduceLeDiff, Int.reduceLT, Int.reduceLE, Int.reduceEq, Int.reduceBEq, Int.reduceNe, Int.reduceBNe, reduceCtorEq, Nat.reduceBEq] <;> repeat' (first | refine wpG_s ?_ ?_ | refine wpC_s ?_ ?_) <;> intro hgo <;> (try simp only [decide_eq_true_eq, decide_eq_false_iff_not, Bool.not_eq_true', Bool.not_eq_false'] at hgo) <;> simp only [hgo, e11, hlt, iaR hx, hne, ws, wsl, opX, int, Zv.bool, intBin, reduceIte, ↓reduceIte, Nat.reduceEqDiff, Nat.reduceAdd, Nat.reduceSub, Nat.reduceLeDiff, Int.reduceLT, Int.reduceLE, Int.reduceEq, Int.reduceBEq, Int.reduceNe, Int.reduceBNe, reduceCtorEq, Nat.reduceBEq])
                  exact ⟨_, rfl⟩)
              (by intro q; (simp only [e11, ws, wsl, opX, int, Zv.bool, intBin, reduceIte, ↓reduceIte, Nat.reduceEqDiff, Nat.reduceAdd, Nat.reduceSub, Nat.reduceLeDiff, Int.reduceLT, Int.reduceLE, Int.reduceEq, Int.reduceBEq, Int.reduceNe, Int.reduceBNe, reduceCtorEq, Nat.reduceBEq] <;> repeat' (first | refine wpG_s ?_ ?_ | refine wpC_s ?_ ?_) <;> intro hgo <;> (try simp only [decide_eq_true_eq, decide_eq_false_iff_not, Bool.not_eq_true', Bool.not_eq_false'] at hgo) <;> simp only [hgo, e11, ws, wsl, opX, int, Zv.bool, intBin, reduceIte, ↓reduceIte, Nat.reduceEqDiff, Nat.reduceAdd, Nat.reduceSub, Nat.reduceLeDiff, Int.reduceLT, Int.reduceLE, Int.reduceEq, Int.reduceBEq, Int.reduceNe, Int.reduceBNe, reduceCtorEq, Nat.reduceBEq]); exact ⟨_, rfl⟩) (by simp) (by simp)
            simp only [int, Int.cast_ofNat_Int] at hB
            cases hbr : l.any (badR d ts) with
            | true =>
              rw [hbr, if_pos rfl] at hB
              rw [if_pos rfl]
              (simp only [e11, hch, hC, h8', h64', hcT, hbt, wq_of hA, wq_of hB, ws, wsl, opX, int, Zv.bool, intBin, reduceIte, ↓reduceIte, Nat.reduceEqDiff, Nat.reduceAdd, Nat.reduceSub, Nat.reduceLeDiff, Int.reduceLT, Int.reduceLE, Int.reduceEq, Int.reduceBEq, Int.reduceNe, Int.reduceBNe, reduceCtorEq, Nat.reduceBEq] <;> repeat' (first | refine wpG_s ?_ ?_ | refine wpC_s ?_ ?_) <;> intro hgo <;> (try simp only [decide_eq_true_eq, decide_eq_false_iff_not, Bool.not_eq_true', Bool.not_eq_false'] at hgo) <;> simp only [hgo, e11, hch, hC, h8', h64', hcT, hbt, wq_of hA, wq_of hB, ws, wsl, opX, int, Zv.bool, intBin, reduceIte, ↓reduceIte, Nat.reduceEqDiff, Nat.reduceAdd, Nat.reduceSub, Nat.reduceLeDiff, Int.reduceLT, Int.reduceLE, Int.reduceEq, Int.reduceBEq, Int.reduceNe, Int.reduceBNe, reduceCtorEq, Nat.reduceBEq])
            | false =>
              rw [hbr, if_neg (by simp)] at hB
              rw [if_neg (by simp)]
              (simp only [e11, hch, hC, h8', h64', hcT, hbt, wq_of hA, wq_of hB, ws, wsl, opX, int, Zv.bool, intBin, reduceIte, ↓reduceIte, Nat.reduceEqDiff, Nat.reduceAdd, Nat.reduceSub, Nat.reduceLeDiff, Int.reduceLT, Int.reduceLE, Int.reduceEq, Int.reduceBEq, Int.reduceNe, Int.reduceBNe, reduceCtorEq, Nat.reduceBEq] <;> repeat' (first | refine wpG_s ?_ ?_ | refine wpC_s ?_ ?_) <;> intro hgo <;> (try simp only [decide_eq_true_eq, decide_eq_false_iff_not, Bool.not_eq_true', Bool.not_eq_false'] at hgo) <;> simp only [hgo, e11, hch, hC, h8', h64', hcT, hbt, wq_of hA, wq_of hB, ws, wsl, opX, int, Zv.bool, intBin, reduceIte, ↓reduceIte, Nat.reduceEqDiff, Nat.reduceAdd, Nat.reduceSub, Nat.reduceLeDiff, Int.reduceLT, Int.reduceLE, Int.reduceEq, Int.reduceBEq, Int.reduceNe, Int.reduceBNe, reduceCtorEq, Nat.reduceBEq])
  · rw [if_pos hC]
    have e : (checkS d != 0) = true := by simp [hC]
    (simp only [e11, hch, e, ws, wsl, opX, int, Zv.bool, intBin, reduceIte, ↓reduceIte, Nat.reduceEqDiff, Nat.reduceAdd, Nat.reduceSub, Nat.reduceLeDiff, Int.reduceLT, Int.reduceLE, Int.reduceEq, Int.reduceBEq, Int.reduceNe, Int.reduceBNe, reduceCtorEq, Nat.reduceBEq] <;> repeat' (first | refine wpG_s ?_ ?_ | refine wpC_s ?_ ?_) <;> intro hgo <;> (try simp only [decide_eq_true_eq, decide_eq_false_iff_not, Bool.not_eq_true', Bool.not_eq_false'] at hgo) <;> simp only [hgo, e11, hch, e, ws, wsl, opX, int, Zv.bool, intBin, reduceIte, ↓reduceIte, Nat.reduceEqDiff, Nat.reduceAdd, Nat.reduceSub, Nat.reduceLeDiff, Int.reduceLT, Int.reduceLE, Int.reduceEq, Int.reduceBEq, Int.reduceNe, Int.reduceBNe, reduceCtorEq, Nat.reduceBEq])
-- ws, wsl, opX, int, Zv.bool, intBin, reduceIte, ↓reduceIte, Nat.reduceEqDiff, Nat.reduceAdd, Nat.reduceSub, Nat.reduceLeDiff, Int.reduceLT, Int.reduceLE, Int.reduceEq, Int.reduceBEq, Int.reduceNe, Int.reduceBNe, reduceCtorEq, Nat.reduceBEq
end Zc27
