/-
  The law of names, in ZvVal's machine.
-/
import Derived.Test.YtimjofcjjgppbaaZc17R16
set_option linter.unusedSimpArgs false
set_option maxHeartbeats 4000000
namespace Zc17
open Go Zv Zs
theorem datasNames : ∀ x0 : D, ok (EE Zc17.es) (.one (.l 0)) x0 → ∃ h', callW Zc17.tab 9 [.d x0] ⟨[], 0⟩ = some (.d (.bool true), h') := by
  intro x0 h0
  obtain ⟨d, rfl⟩ := okDs h0
  refine ⟨⟨[], 0⟩, ?_⟩
  apply call_wp (fn := f9) rfl rfl
  obtain ⟨r, hf, b, rfl, hb⟩ := few_ok' d ⟨[], 0⟩
  cases b with
  | false => (simp only [e9, awake, hf, ws, wsl, opX, int, Zv.bool, intBin, reduceIte, ↓reduceIte, Nat.reduceEqDiff, Nat.reduceAdd, Nat.reduceSub, Nat.reduceLeDiff, Int.reduceLT, Int.reduceLE, Int.reduceEq, Int.reduceBEq, Int.reduceNe, Int.reduceBNe, reduceCtorEq, Nat.reduceBEq] <;> repeat' (first | refine wpG_s ?_ ?_ | refine wpC_s ?_ ?_) <;> intro hgo <;> (try simp only [decide_eq_true_eq, decide_eq_false_iff_not, Bool.not_eq_true', Bool.not_eq_false'] at hgo) <;> simp only [hgo, e9, awake, hf, ws, wsl, opX, int, Zv.bool, intBin, reduceIte, ↓reduceIte, Nat.reduceEqDiff, Nat.reduceAdd, Nat.reduceSub, Nat.reduceLeDiff, Int.reduceLT, Int.reduceLE, Int.reduceEq, Int.reduceBEq, Int.reduceNe, Int.reduceBNe, reduceCtorEq, Nat.reduceBEq])
  | true =>
    have B := (hb rfl).1.2
    have hc := pcheck_ok B (hb rfl).2 ⟨[], 0⟩
    by_cases hv : checkS d = 0
    · have V := check_valid hv
      have hbl := B.len
      rw [hv] at hc
      have l0 : ∀ (m : Nat) (y : Dt), d[m]? = some y → ex tab (.loop f9l0) [(0, .d (eDs d)), (3, .d (.int .i64 m)), (4, .d (.int .i64 ((m : Int) + 1))), (6, .d (.int .i64 0))] ⟨[], 0⟩ =
          some (.exit 2, [(0, .d (eDs d)), (3, .d (.int .i64 m)), (4, .d (.int .i64 ((m : Int) + 1))), (6, .d (.int .i64 y.cons.length)), (62, .d (.bool false))], ⟨[], 0⟩) := by
        intro m y hy
        have b := B.at hy
        have hloop := loop_all (T := tab) (a := f9l0) (l := y.cons) (f := fun n => [(0, .d (eDs d)), (3, .d (.int .i64 m)), (4, .d (.int .i64 ((m : Int) + 1))), (6, int n)]) (h := ⟨[], 0⟩)
            (by intro n x hx hlt; have hcn := con_ok B x.name ⟨[], 0⟩; rw [con_of_name V hy hx] at hcn; all_goals (apply wq_ex.1; (simp only [hlt, e9, iaD hy, iaC hx, hcn, wrap_succ (show n < 2 ^ 62 by omega), ws, wsl, opX, int, Zv.bool, intBin, reduceIte, ↓reduceIte, Nat.reduceEqDiff, Nat.reduceAdd, Nat.reduceSub, Nat.reduceLeDiff, Int.reduceLT, Int.reduceLE, Int.reduceEq, Int.reduceBEq, Int.reduceNe, Int.reduceBNe, reduceCtorEq, Nat.reduceBEq] <;> repeat' (first | refine wpG_s ?_ ?_ | refine wpC_s ?_ ?_) <;> intro hgo <;> (try simp only [decide_eq_true_eq, decide_eq_false_iff_not, Bool.not_eq_true', Bool.not_eq_false'] at hgo) <;> simp only [hgo, hlt, e9, iaD hy, iaC hx, hcn, wrap_succ (show n < 2 ^ 62 by omega), ws, wsl, opX, int, Zv.bool, intBin, reduceIte, ↓reduceIte, Nat.reduceEqDiff, Nat.reduceAdd, Nat.reduceSub, Nat.reduceLeDiff, Int.reduceLT, Int.reduceLE, Int.reduceEq, Int.reduceBEq, Int.reduceNe, Int.reduceBNe, reduceCtorEq, Nat.reduceBEq])))
            (by apply wq_ex.1; (simp only [e9, iaD hy, ws, wsl, opX, int, Zv.bool, intBin, reduceIte, ↓reduceIte, Nat.reduceEqDiff, Nat.reduceAdd, Nat.reduceSub, Nat.reduceLeDiff, Int.reduceLT, Int.reduceLE, Int.reduceEq, Int.reduceBEq, Int.reduceNe, Int.reduceBNe, reduceCtorEq, Nat.reduceBEq] <;> repeat' (first | refine wpG_s ?_ ?_ | refine wpC_s ?_ ?_) <;> intro hgo <;> (try simp only [decide_eq_true_eq, decide_eq_false_iff_not, Bool.not_eq_true', Bool.not_eq_false'] at hgo) <;> simp only [hgo, e9, iaD hy, ws, wsl, opX, int, Zv.bool, intBin, reduceIte, ↓reduceIte, Nat.reduceEqDiff, Nat.reduceAdd, Nat.reduceSub, Nat.reduceLeDiff, Int.reduceLT, Int.reduceLE, Int.reduceEq, Int.reduceBEq, Int.reduceNe, Int.reduceBNe, reduceCtorEq, Nat.reduceBEq]) <;> rfl)
            (by simp)
        simp only [int, Zv.bool, Int.cast_ofNat_Int] at hloop
        exact hloop
      have hloop := loop_all (T := tab) (a := f9l1) (l := d) (f := fun n => [(0, .d (eDs d)), (3, int n)]) (h := ⟨[], 0⟩)
          (by intro n x hx hlt; have b := B.at hx; have hty := type_ok B x.name ⟨[], 0⟩; rw [type_of_name V hx] at hty; have hnm := name_ok B ((n : Int) + 1) ⟨[], 0⟩; rw [tnameS_at hx] at hnm; have hin := l0 n x hx; have hw := wrap_succ (show n < 2 ^ 62 by omega); have hw2 : ((n + 1 : Nat) : Int) = (n : Int) + 1 := rfl; all_goals (apply wq_ex.1; (simp only [hlt, e9, iaD hx, hty, hnm, hw, hw2, wq_of hin, ws, wsl, opX, int, Zv.bool, intBin, reduceIte, ↓reduceIte, Nat.reduceEqDiff, Nat.reduceAdd, Nat.reduceSub, Nat.reduceLeDiff, Int.reduceLT, Int.reduceLE, Int.reduceEq, Int.reduceBEq, Int.reduceNe, Int.reduceBNe, reduceCtorEq, Nat.reduceBEq] <;> repeat' (first | refine wpG_s ?_ ?_ | refine wpC_s ?_ ?_) <;> intro hgo <;> (try simp only [decide_eq_true_eq, decide_eq_false_iff_not, Bool.not_eq_true', Bool.not_eq_false'] at hgo) <;> simp only [hgo, hlt, e9, iaD hx, hty, hnm, hw, hw2, wq_of hin, ws, wsl, opX, int, Zv.bool, intBin, reduceIte, ↓reduceIte, Nat.reduceEqDiff, Nat.reduceAdd, Nat.reduceSub, Nat.reduceLeDiff, Int.reduceLT, Int.reduceLE, Int.reduceEq, Int.reduceBEq, Int.reduceNe, Int.reduceBNe, reduceCtorEq, Nat.reduceBEq])))
          (by apply wq_ex.1; (simp only [e9, ws, wsl, opX, int, Zv.bool, intBin, reduceIte, ↓reduceIte, Nat.reduceEqDiff, Nat.reduceAdd, Nat.reduceSub, Nat.reduceLeDiff, Int.reduceLT, Int.reduceLE, Int.reduceEq, Int.reduceBEq, Int.reduceNe, Int.reduceBNe, reduceCtorEq, Nat.reduceBEq] <;> repeat' (first | refine wpG_s ?_ ?_ | refine wpC_s ?_ ?_) <;> intro hgo <;> (try simp only [decide_eq_true_eq, decide_eq_false_iff_not, Bool.not_eq_true', Bool.not_eq_false'] at hgo) <;> simp only [hgo, e9, ws, wsl, opX, int, Zv.bool, intBin, reduceIte, ↓reduceIte, Nat.reduceEqDiff, Nat.reduceAdd, Nat.reduceSub, Nat.reduceLeDiff, Int.reduceLT, Int.reduceLE, Int.reduceEq, Int.reduceBEq, Int.reduceNe, Int.reduceBNe, reduceCtorEq, Nat.reduceBEq]) <;> rfl)
          (by simp)
      simp only [int, Zv.bool, Int.cast_ofNat_Int] at hloop
      (simp only [e9, awake, hf, hc, wq_of hloop, ws, wsl, opX, int, Zv.bool, intBin, reduceIte, ↓reduceIte, Nat.reduceEqDiff, Nat.reduceAdd, Nat.reduceSub, Nat.reduceLeDiff, Int.reduceLT, Int.reduceLE, Int.reduceEq, Int.reduceBEq, Int.reduceNe, Int.reduceBNe, reduceCtorEq, Nat.reduceBEq] <;> repeat' (first | refine wpG_s ?_ ?_ | refine wpC_s ?_ ?_) <;> intro hgo <;> (try simp only [decide_eq_true_eq, decide_eq_false_iff_not, Bool.not_eq_true', Bool.not_eq_false'] at hgo) <;> simp only [hgo, e9, awake, hf, hc, wq_of hloop, ws, wsl, opX, int, Zv.bool, intBin, reduceIte, ↓reduceIte, Nat.reduceEqDiff, Nat.reduceAdd, Nat.reduceSub, Nat.reduceLeDiff, Int.reduceLT, Int.reduceLE, Int.reduceEq, Int.reduceBEq, Int.reduceNe, Int.reduceBNe, reduceCtorEq, Nat.reduceBEq])
    · have hv' : (checkS d != 0) = true := by simpa using hv
      (simp only [e9, awake, hf, hc, hv', ws, wsl, opX, int, Zv.bool, intBin, reduceIte, ↓reduceIte, Nat.reduceEqDiff, Nat.reduceAdd, Nat.reduceSub, Nat.reduceLeDiff, Int.reduceLT, Int.reduceLE, Int.reduceEq, Int.reduceBEq, Int.reduceNe, Int.reduceBNe, reduceCtorEq, Nat.reduceBEq] <;> repeat' (first | refine wpG_s ?_ ?_ | refine wpC_s ?_ ?_) <;> intro hgo <;> (try simp only [decide_eq_true_eq, decide_eq_false_iff_not, Bool.not_eq_true', Bool.not_eq_false'] at hgo) <;> simp only [hgo, e9, awake, hf, hc, hv', ws, wsl, opX, int, Zv.bool, intBin, reduceIte, ↓reduceIte, Nat.reduceEqDiff, Nat.reduceAdd, Nat.reduceSub, Nat.reduceLeDiff, Int.reduceLT, Int.reduceLE, Int.reduceEq, Int.reduceBEq, Int.reduceNe, Int.reduceBNe, reduceCtorEq, Nat.reduceBEq])
-- ws, wsl, opX, int, Zv.bool, intBin, reduceIte, ↓reduceIte, Nat.reduceEqDiff, Nat.reduceAdd, Nat.reduceSub, Nat.reduceLeDiff, Int.reduceLT, Int.reduceLE, Int.reduceEq, Int.reduceBEq, Int.reduceNe, Int.reduceBNe, reduceCtorEq, Nat.reduceBEq
end Zc17
