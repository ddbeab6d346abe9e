/-
  The law of Reach and Recursive, in ZvVal's machine.
-/
import Derived.Test.YtimjofcjjgppbaaZc17R7
set_option linter.unusedSimpArgs false
set_option maxHeartbeats 4000000
namespace Zc17
open Go Zv Zs
theorem datasReaches : ∀ x0 x1 : D, ok (EE Zc17.es) (.one (.l 0)) x0 → ok (EE Zc17.es) (.one (.i .i64)) x1 → ∃ h', callW Zc17.tab 5 [.d x0, .d x1] ⟨[], 0⟩ = some (.d (.bool true), h') := by
  intro x0 x1 h0 h1
  obtain ⟨d, rfl⟩ := okDs h0
  obtain ⟨t, rfl⟩ := okI h1
  refine ⟨⟨[], 0⟩, ?_⟩
  apply call_wp (fn := f5) rfl rfl
  obtain ⟨r, hf, b, rfl, hb⟩ := few_ok d ⟨[], 0⟩
  cases b with
  | false => (simp only [e5, awake, hf, ws, wsl, opX, int, Zv.bool, intBin, reduceIte, ↓reduceIte, Nat.reduceEqDiff, Nat.reduceAdd, Nat.reduceSub, Nat.reduceLeDiff, Int.reduceLT, Int.reduceLE, Int.reduceEq, Int.reduceBEq, Int.reduceNe, Int.reduceBNe, reduceCtorEq, Nat.reduceBEq] <;> repeat' (first | refine wpG_s ?_ ?_ | refine wpC_s ?_ ?_) <;> intro hgo <;> (try simp only [decide_eq_true_eq, decide_eq_false_iff_not, Bool.not_eq_true', Bool.not_eq_false'] at hgo) <;> simp only [hgo, e5, awake, hf, ws, wsl, opX, int, Zv.bool, intBin, reduceIte, ↓reduceIte, Nat.reduceEqDiff, Nat.reduceAdd, Nat.reduceSub, Nat.reduceLeDiff, Int.reduceLT, Int.reduceLE, Int.reduceEq, Int.reduceBEq, Int.reduceNe, Int.reduceBNe, reduceCtorEq, Nat.reduceBEq])
  | true =>
    have B := hb rfl
    have hl := (reach_inv d t).len
    have hbl := B.len
    have hs := same_ok (reach d t) (reach d t) ⟨[], 0⟩ (by omega)
    (simp only [e5, awake, hf, PReach_ok B, Reach_ok B, PRecursive_ok B, Recursive_ok B, hs, eq_self, ws, wsl, opX, int, Zv.bool, intBin, reduceIte, ↓reduceIte, Nat.reduceEqDiff, Nat.reduceAdd, Nat.reduceSub, Nat.reduceLeDiff, Int.reduceLT, Int.reduceLE, Int.reduceEq, Int.reduceBEq, Int.reduceNe, Int.reduceBNe, reduceCtorEq, Nat.reduceBEq] <;> repeat' (first | refine wpG_s ?_ ?_ | refine wpC_s ?_ ?_) <;> intro hgo <;> (try simp only [decide_eq_true_eq, decide_eq_false_iff_not, Bool.not_eq_true', Bool.not_eq_false'] at hgo) <;> simp only [hgo, e5, awake, hf, PReach_ok B, Reach_ok B, PRecursive_ok B, Recursive_ok B, hs, eq_self, ws, wsl, opX, int, Zv.bool, intBin, reduceIte, ↓reduceIte, Nat.reduceEqDiff, Nat.reduceAdd, Nat.reduceSub, Nat.reduceLeDiff, Int.reduceLT, Int.reduceLE, Int.reduceEq, Int.reduceBEq, Int.reduceNe, Int.reduceBNe, reduceCtorEq, Nat.reduceBEq])
-- ws, wsl, opX, int, Zv.bool, intBin, reduceIte, ↓reduceIte, Nat.reduceEqDiff, Nat.reduceAdd, Nat.reduceSub, Nat.reduceLeDiff, Int.reduceLT, Int.reduceLE, Int.reduceEq, Int.reduceBEq, Int.reduceNe, Int.reduceBNe, reduceCtorEq, Nat.reduceBEq
end Zc17
