/-
  The law of what a type reaches, in ZvVal's machine.
-/
import Derived.Test.YtimjofcjjgppbaaZc17R16
set_option linter.unusedSimpArgs false
set_option maxHeartbeats 4000000
namespace Zc17
open Go Zv Zs
theorem datasCloses : ∀ x0 x1 : D, ok (EE Zc17.es) (.one (.l 0)) x0 → ok (EE Zc17.es) (.one (.i .i64)) x1 → ∃ h', callW Zc17.tab 6 [.d x0, .d x1] ⟨[], 0⟩ = some (.d (.bool true), h') := by
  intro x0 x1 h0 h1
  obtain ⟨d, rfl⟩ := okDs h0
  obtain ⟨t, rfl⟩ := okI h1
  refine ⟨⟨[], 0⟩, ?_⟩
  apply call_wp (fn := f6) rfl rfl
  obtain ⟨r, hf, b, rfl, hb⟩ := few_ok' d ⟨[], 0⟩
  cases b with
  | false => (simp only [e6, awake, hf, ws, wsl, opX, int, Zv.bool, intBin, reduceIte, ↓reduceIte, Nat.reduceEqDiff, Nat.reduceAdd, Nat.reduceSub, Nat.reduceLeDiff, Int.reduceLT, Int.reduceLE, Int.reduceEq, Int.reduceBEq, Int.reduceNe, Int.reduceBNe, reduceCtorEq, Nat.reduceBEq] <;> repeat' (first | refine wpG_s ?_ ?_ | refine wpC_s ?_ ?_) <;> intro hgo <;> (try simp only [decide_eq_true_eq, decide_eq_false_iff_not, Bool.not_eq_true', Bool.not_eq_false'] at hgo) <;> simp only [hgo, e6, awake, hf, ws, wsl, opX, int, Zv.bool, intBin, reduceIte, ↓reduceIte, Nat.reduceEqDiff, Nat.reduceAdd, Nat.reduceSub, Nat.reduceLeDiff, Int.reduceLT, Int.reduceLE, Int.reduceEq, Int.reduceBEq, Int.reduceNe, Int.reduceBNe, reduceCtorEq, Nat.reduceBEq])
  | true =>
    have B := (hb rfl).1.2
    have hc := pcheck_ok B (hb rfl).2 ⟨[], 0⟩
    by_cases hv : checkS d = 0
    · have V := check_valid hv
      have hbl := B.len
      have I := reach_inv d t
      have hrl := I.len
      rw [hv] at hc
      cases hT : isT d t with
      | false =>
        have hR := reach_none hT
        have hPR := PReach_ok B t ⟨[], 0⟩
        rw [hR] at hPR
        have hT' : t < 0 ∨ (d.length : Int) < t := by
          simp only [isT, Bool.and_eq_false_iff, decide_eq_false_iff_not] at hT; omega
        by_cases h0 : t < 0
        · (simp only [e6, awake, hf, hc, hPR, h0, ws, wsl, opX, int, Zv.bool, intBin, reduceIte, ↓reduceIte, Nat.reduceEqDiff, Nat.reduceAdd, Nat.reduceSub, Nat.reduceLeDiff, Int.reduceLT, Int.reduceLE, Int.reduceEq, Int.reduceBEq, Int.reduceNe, Int.reduceBNe, reduceCtorEq, Nat.reduceBEq] <;> repeat' (first | refine wpG_s ?_ ?_ | refine wpC_s ?_ ?_) <;> intro hgo <;> (try simp only [decide_eq_true_eq, decide_eq_false_iff_not, Bool.not_eq_true', Bool.not_eq_false'] at hgo) <;> simp only [hgo, e6, awake, hf, hc, hPR, h0, ws, wsl, opX, int, Zv.bool, intBin, reduceIte, ↓reduceIte, Nat.reduceEqDiff, Nat.reduceAdd, Nat.reduceSub, Nat.reduceLeDiff, Int.reduceLT, Int.reduceLE, Int.reduceEq, Int.reduceBEq, Int.reduceNe, Int.reduceBNe, reduceCtorEq, Nat.reduceBEq])
        · have h1 : (d.length : Int) < t := by omega
          (simp only [e6, awake, hf, hc, hPR, h0, h1, ws, wsl, opX, int, Zv.bool, intBin, reduceIte, ↓reduceIte, Nat.reduceEqDiff, Nat.reduceAdd, Nat.reduceSub, Nat.reduceLeDiff, Int.reduceLT, Int.reduceLE, Int.reduceEq, Int.reduceBEq, Int.reduceNe, Int.reduceBNe, reduceCtorEq, Nat.reduceBEq] <;> repeat' (first | refine wpG_s ?_ ?_ | refine wpC_s ?_ ?_) <;> intro hgo <;> (try simp only [decide_eq_true_eq, decide_eq_false_iff_not, Bool.not_eq_true', Bool.not_eq_false'] at hgo) <;> simp only [hgo, e6, awake, hf, hc, hPR, h0, h1, ws, wsl, opX, int, Zv.bool, intBin, reduceIte, ↓reduceIte, Nat.reduceEqDiff, Nat.reduceAdd, Nat.reduceSub, Nat.reduceLeDiff, Int.reduceLT, Int.reduceLE, Int.reduceEq, Int.reduceBEq, Int.reduceNe, Int.reduceBNe, reduceCtorEq, Nat.reduceBEq])
      | true =>
        have hPR := PReach_ok B t ⟨[], 0⟩
        have hhd := reach_hd hT
        have hcl := fun x => reach_closed V.typed hT (x := x)
        generalize reach d t = l at *
        have hT' := hT
        simp only [isT, Bool.and_eq_true, decide_eq_true_eq] at hT'
        have h0 : ¬ t < 0 := by omega
        have h1 : ¬ (d.length : Int) < t := by omega
        have hlen := lt_of_get hhd
        have e0 : ((l.length : Int) == 0) = false := by simp; intro e; rw [e] at hlen; simp at hlen
        have i0 : ia 1 (.d (eIs l)) (.d (.int .i64 0)) = some (.fp (eI t) 0) := iaI hhd
        have l0 : ∀ (i k : Nat) (cs : List Cn) (c : Cn), cs[k]? = some c → (∀ f, f ∈ c.flds → f ∈ l) → c.flds.length ≤ 20 → ex tab (.loop f6l0) [(0, .d (eDs d)), (5, .d (eIs l)), (6, .d (.int .i64 i)), (7, .d (eCs cs)), (8, .d (.int .i64 k)), (9, .d (.int .i64 0))] ⟨[], 0⟩ =
            some (.exit 4, [(0, .d (eDs d)), (5, .d (eIs l)), (6, .d (.int .i64 i)), (7, .d (eCs cs)), (8, .d (.int .i64 k)), (9, .d (.int .i64 c.flds.length)), (101, .d (.bool false))], ⟨[], 0⟩) := by
          intro i k cs c hc hfl hl20
          have hloop := loop_all (T := tab) (a := f6l0) (l := c.flds) (f := fun n => [(0, .d (eDs d)), (5, .d (eIs l)), (6, .d (.int .i64 i)), (7, .d (eCs cs)), (8, .d (.int .i64 k)), (9, int n)]) (h := ⟨[], 0⟩)
              (by intro n x hx hlt; have hm := hfl x (List.mem_of_getElem? hx); have hh := lhas_sl (Sl.data ⟨[], 0⟩ l) (by omega) x; rw [any_mem, decide_eq_true hm] at hh; all_goals (apply wq_ex.1; (simp only [hlt, e6, iaC hc, iaI hx, hh, wrap_succ (show n < 2 ^ 62 by omega), ws, wsl, opX, int, Zv.bool, intBin, reduceIte, ↓reduceIte, Nat.reduceEqDiff, Nat.reduceAdd, Nat.reduceSub, Nat.reduceLeDiff, Int.reduceLT, Int.reduceLE, Int.reduceEq, Int.reduceBEq, Int.reduceNe, Int.reduceBNe, reduceCtorEq, Nat.reduceBEq] <;> repeat' (first | refine wpG_s ?_ ?_ | refine wpC_s ?_ ?_) <;> intro hgo <;> (try simp only [decide_eq_true_eq, decide_eq_false_iff_not, Bool.not_eq_true', Bool.not_eq_false'] at hgo) <;> simp only [hgo, hlt, e6, iaC hc, iaI hx, hh, wrap_succ (show n < 2 ^ 62 by omega), ws, wsl, opX, int, Zv.bool, intBin, reduceIte, ↓reduceIte, Nat.reduceEqDiff, Nat.reduceAdd, Nat.reduceSub, Nat.reduceLeDiff, Int.reduceLT, Int.reduceLE, Int.reduceEq, Int.reduceBEq, Int.reduceNe, Int.reduceBNe, reduceCtorEq, Nat.reduceBEq])))
              (by apply wq_ex.1; (simp only [e6, iaC hc, ws, wsl, opX, int, Zv.bool, intBin, reduceIte, ↓reduceIte, Nat.reduceEqDiff, Nat.reduceAdd, Nat.reduceSub, Nat.reduceLeDiff, Int.reduceLT, Int.reduceLE, Int.reduceEq, Int.reduceBEq, Int.reduceNe, Int.reduceBNe, reduceCtorEq, Nat.reduceBEq] <;> repeat' (first | refine wpG_s ?_ ?_ | refine wpC_s ?_ ?_) <;> intro hgo <;> (try simp only [decide_eq_true_eq, decide_eq_false_iff_not, Bool.not_eq_true', Bool.not_eq_false'] at hgo) <;> simp only [hgo, e6, iaC hc, ws, wsl, opX, int, Zv.bool, intBin, reduceIte, ↓reduceIte, Nat.reduceEqDiff, Nat.reduceAdd, Nat.reduceSub, Nat.reduceLeDiff, Int.reduceLT, Int.reduceLE, Int.reduceEq, Int.reduceBEq, Int.reduceNe, Int.reduceBNe, reduceCtorEq, Nat.reduceBEq]) <;> rfl)
              (by simp)
          simp only [int, Zv.bool, Int.cast_ofNat_Int] at hloop
          exact hloop
        have l1 : ∀ (i m : Nat) (y : Dt), d[m]? = some y → (∀ c, c ∈ y.cons → ∀ f, f ∈ c.flds → f ∈ l) → ex tab (.loop f6l1) [(0, .d (eDs d)), (5, .d (eIs l)), (6, .d (.int .i64 i)), (7, .d (eCs y.cons)), (8, .d (.int .i64 0))] ⟨[], 0⟩ =
            some (.exit 2, [(0, .d (eDs d)), (5, .d (eIs l)), (6, .d (.int .i64 i)), (7, .d (eCs y.cons)), (8, .d (.int .i64 y.cons.length)), (91, .d (.bool false))], ⟨[], 0⟩) := by
          intro i m y hy hcs
          have b := B.at hy
          have hloop := loop_all (T := tab) (a := f6l1) (l := y.cons) (f := fun n => [(0, .d (eDs d)), (5, .d (eIs l)), (6, .d (.int .i64 i)), (7, .d (eCs y.cons)), (8, int n)]) (h := ⟨[], 0⟩)
              (by intro n x hx hlt; have bc := B.cat hy hx; have hin := l0 i n y.cons x hx (hcs x (List.mem_of_getElem? hx)) bc.2; all_goals (apply wq_ex.1; (simp only [hlt, e6, iaC hx, wq_of hin, wrap_succ (show n < 2 ^ 62 by omega), ws, wsl, opX, int, Zv.bool, intBin, reduceIte, ↓reduceIte, Nat.reduceEqDiff, Nat.reduceAdd, Nat.reduceSub, Nat.reduceLeDiff, Int.reduceLT, Int.reduceLE, Int.reduceEq, Int.reduceBEq, Int.reduceNe, Int.reduceBNe, reduceCtorEq, Nat.reduceBEq] <;> repeat' (first | refine wpG_s ?_ ?_ | refine wpC_s ?_ ?_) <;> intro hgo <;> (try simp only [decide_eq_true_eq, decide_eq_false_iff_not, Bool.not_eq_true', Bool.not_eq_false'] at hgo) <;> simp only [hgo, hlt, e6, iaC hx, wq_of hin, wrap_succ (show n < 2 ^ 62 by omega), ws, wsl, opX, int, Zv.bool, intBin, reduceIte, ↓reduceIte, Nat.reduceEqDiff, Nat.reduceAdd, Nat.reduceSub, Nat.reduceLeDiff, Int.reduceLT, Int.reduceLE, Int.reduceEq, Int.reduceBEq, Int.reduceNe, Int.reduceBNe, reduceCtorEq, Nat.reduceBEq])))
              (by apply wq_ex.1; (simp only [e6, ws, wsl, opX, int, Zv.bool, intBin, reduceIte, ↓reduceIte, Nat.reduceEqDiff, Nat.reduceAdd, Nat.reduceSub, Nat.reduceLeDiff, Int.reduceLT, Int.reduceLE, Int.reduceEq, Int.reduceBEq, Int.reduceNe, Int.reduceBNe, reduceCtorEq, Nat.reduceBEq] <;> repeat' (first | refine wpG_s ?_ ?_ | refine wpC_s ?_ ?_) <;> intro hgo <;> (try simp only [decide_eq_true_eq, decide_eq_false_iff_not, Bool.not_eq_true', Bool.not_eq_false'] at hgo) <;> simp only [hgo, e6, ws, wsl, opX, int, Zv.bool, intBin, reduceIte, ↓reduceIte, Nat.reduceEqDiff, Nat.reduceAdd, Nat.reduceSub, Nat.reduceLeDiff, Int.reduceLT, Int.reduceLE, Int.reduceEq, Int.reduceBEq, Int.reduceNe, Int.reduceBNe, reduceCtorEq, Nat.reduceBEq]) <;> rfl)
              (by simp)
          simp only [int, Zv.bool, Int.cast_ofNat_Int] at hloop
          exact hloop
        have hloop := loop_all (T := tab) (a := f6l2) (l := l) (f := fun n => [(0, .d (eDs d)), (5, .d (eIs l)), (6, int n)]) (h := ⟨[], 0⟩)
          (by
            intro n x hx hlt
            have hxm := List.mem_of_getElem? hx
            have hxT := I.ty x hxm
            have hxT' := hxT
            simp only [isT, Bool.and_eq_true, decide_eq_true_eq] at hxT'
            have k0 : ¬ x < 0 := by omega
            have k1 : ¬ (d.length : Int) < x := by omega
            have hsl : slc 1 (.d (eIs l)) none (some (.d (.int .i64 (n : Int)))) = some (.d (eIs (l.take n))) := slc_take l n (by omega)
            have hnm : x ∉ l.take n := nodup_take I.nd hx
            have hh := lhas_sl (Sl.data ⟨[], 0⟩ (l.take n)) (by rw [List.length_take]; omega) x
            rw [any_mem, decide_eq_false hnm] at hh
            have hcx := hcl x hxm
            have hw1 := wrap_succ (show n < 2 ^ 62 by omega)
            apply wq_ex.1
            rcases tcase4 d x with h3 | rfl | h3 | ⟨m, y, rfl, hy⟩
            · exact absurd h3 k0
            · (simp only [e6, hlt, iaI hx, hsl, hh, k0, k1, hw1, Option.map_some, Option.map_none, ws, wsl, opX, int, Zv.bool, intBin, reduceIte, ↓reduceIte, Nat.reduceEqDiff, Nat.reduceAdd, Nat.reduceSub, Nat.reduceLeDiff, Int.reduceLT, Int.reduceLE, Int.reduceEq, Int.reduceBEq, Int.reduceNe, Int.reduceBNe, reduceCtorEq, Nat.reduceBEq] <;> repeat' (first | refine wpG_s ?_ ?_ | refine wpC_s ?_ ?_) <;> intro hgo <;> (try simp only [decide_eq_true_eq, decide_eq_false_iff_not, Bool.not_eq_true', Bool.not_eq_false'] at hgo) <;> simp only [hgo, e6, hlt, iaI hx, hsl, hh, k0, k1, hw1, Option.map_some, Option.map_none, ws, wsl, opX, int, Zv.bool, intBin, reduceIte, ↓reduceIte, Nat.reduceEqDiff, Nat.reduceAdd, Nat.reduceSub, Nat.reduceLeDiff, Int.reduceLT, Int.reduceLE, Int.reduceEq, Int.reduceBEq, Int.reduceNe, Int.reduceBNe, reduceCtorEq, Nat.reduceBEq])
            · exact absurd h3 k1
            · have by' := B.at hy
              have hin := l1 n m y hy (fun c hc f hf => hcx c (by rw [consOf_at hy]; exact hc) f hf)
              have hw := wrap_sub1 (n := m) (by omega)
              (simp only [e6, hlt, iaI hx, iaD hy, hsl, hh, k0, k1, hw, hw1, wq_of hin, Option.map_some, Option.map_none, ws, wsl, opX, int, Zv.bool, intBin, reduceIte, ↓reduceIte, Nat.reduceEqDiff, Nat.reduceAdd, Nat.reduceSub, Nat.reduceLeDiff, Int.reduceLT, Int.reduceLE, Int.reduceEq, Int.reduceBEq, Int.reduceNe, Int.reduceBNe, reduceCtorEq, Nat.reduceBEq] <;> repeat' (first | refine wpG_s ?_ ?_ | refine wpC_s ?_ ?_) <;> intro hgo <;> (try simp only [decide_eq_true_eq, decide_eq_false_iff_not, Bool.not_eq_true', Bool.not_eq_false'] at hgo) <;> simp only [hgo, e6, hlt, iaI hx, iaD hy, hsl, hh, k0, k1, hw, hw1, wq_of hin, Option.map_some, Option.map_none, ws, wsl, opX, int, Zv.bool, intBin, reduceIte, ↓reduceIte, Nat.reduceEqDiff, Nat.reduceAdd, Nat.reduceSub, Nat.reduceLeDiff, Int.reduceLT, Int.reduceLE, Int.reduceEq, Int.reduceBEq, Int.reduceNe, Int.reduceBNe, reduceCtorEq, Nat.reduceBEq]))
          (by apply wq_ex.1; (simp only [e6, ws, wsl, opX, int, Zv.bool, intBin, reduceIte, ↓reduceIte, Nat.reduceEqDiff, Nat.reduceAdd, Nat.reduceSub, Nat.reduceLeDiff, Int.reduceLT, Int.reduceLE, Int.reduceEq, Int.reduceBEq, Int.reduceNe, Int.reduceBNe, reduceCtorEq, Nat.reduceBEq] <;> repeat' (first | refine wpG_s ?_ ?_ | refine wpC_s ?_ ?_) <;> intro hgo <;> (try simp only [decide_eq_true_eq, decide_eq_false_iff_not, Bool.not_eq_true', Bool.not_eq_false'] at hgo) <;> simp only [hgo, e6, ws, wsl, opX, int, Zv.bool, intBin, reduceIte, ↓reduceIte, Nat.reduceEqDiff, Nat.reduceAdd, Nat.reduceSub, Nat.reduceLeDiff, Int.reduceLT, Int.reduceLE, Int.reduceEq, Int.reduceBEq, Int.reduceNe, Int.reduceBNe, reduceCtorEq, Nat.reduceBEq]) <;> rfl)
          (by simp)
        simp only [int, Int.cast_ofNat_Int] at hloop
        (simp only [e6, awake, hf, hc, hPR, h0, h1, e0, i0, wq_of hloop, ws, wsl, opX, int, Zv.bool, intBin, reduceIte, ↓reduceIte, Nat.reduceEqDiff, Nat.reduceAdd, Nat.reduceSub, Nat.reduceLeDiff, Int.reduceLT, Int.reduceLE, Int.reduceEq, Int.reduceBEq, Int.reduceNe, Int.reduceBNe, reduceCtorEq, Nat.reduceBEq] <;> repeat' (first | refine wpG_s ?_ ?_ | refine wpC_s ?_ ?_) <;> intro hgo <;> (try simp only [decide_eq_true_eq, decide_eq_false_iff_not, Bool.not_eq_true', Bool.not_eq_false'] at hgo) <;> simp only [hgo, e6, awake, hf, hc, hPR, h0, h1, e0, i0, wq_of hloop, ws, wsl, opX, int, Zv.bool, intBin, reduceIte, ↓reduceIte, Nat.reduceEqDiff, Nat.reduceAdd, Nat.reduceSub, Nat.reduceLeDiff, Int.reduceLT, Int.reduceLE, Int.reduceEq, Int.reduceBEq, Int.reduceNe, Int.reduceBNe, reduceCtorEq, Nat.reduceBEq])
    · have hv' : (checkS d != 0) = true := by simpa using hv
      (simp only [e6, awake, hf, hc, hv', ws, wsl, opX, int, Zv.bool, intBin, reduceIte, ↓reduceIte, Nat.reduceEqDiff, Nat.reduceAdd, Nat.reduceSub, Nat.reduceLeDiff, Int.reduceLT, Int.reduceLE, Int.reduceEq, Int.reduceBEq, Int.reduceNe, Int.reduceBNe, reduceCtorEq, Nat.reduceBEq] <;> repeat' (first | refine wpG_s ?_ ?_ | refine wpC_s ?_ ?_) <;> intro hgo <;> (try simp only [decide_eq_true_eq, decide_eq_false_iff_not, Bool.not_eq_true', Bool.not_eq_false'] at hgo) <;> simp only [hgo, e6, awake, hf, hc, hv', ws, wsl, opX, int, Zv.bool, intBin, reduceIte, ↓reduceIte, Nat.reduceEqDiff, Nat.reduceAdd, Nat.reduceSub, Nat.reduceLeDiff, Int.reduceLT, Int.reduceLE, Int.reduceEq, Int.reduceBEq, Int.reduceNe, Int.reduceBNe, reduceCtorEq, Nat.reduceBEq])
-- ws, wsl, opX, int, Zv.bool, intBin, reduceIte, ↓reduceIte, Nat.reduceEqDiff, Nat.reduceAdd, Nat.reduceSub, Nat.reduceLeDiff, Int.reduceLT, Int.reduceLE, Int.reduceEq, Int.reduceBEq, Int.reduceNe, Int.reduceBNe, reduceCtorEq, Nat.reduceBEq
end Zc17
