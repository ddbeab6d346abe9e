/-
  Runs of a chain of cells.
-/
import Derived.Test.YtlncinhieeopmaaZc55C0
namespace Zc55
open Go Zv Zs
theorem b9r (x : V) : runK tab 200 partB [(1, x), (5, .d (.int .i64 9))] ⟨[], 0⟩ = some (.norm, eB x 9, hB 9) := by kernel_rfl
theorem d9r0 : runsD 9 0 = true := by kernel_rfl
theorem d9r1 : runsD 9 1 = true := by kernel_rfl
theorem d9r2 : runsD 9 2 = true := by kernel_rfl
theorem d9r3 : runsD 9 3 = true := by kernel_rfl
theorem d9r4 : runsD 9 4 = true := by kernel_rfl
theorem d9r5 : runsD 9 5 = true := by kernel_rfl
theorem d9r6 : runsD 9 6 = true := by kernel_rfl
theorem d9r7 : runsD 9 7 = true := by kernel_rfl
-- ws, wsl, opX, int, Zv.bool, intBin, reduceIte, ↓reduceIte, Nat.reduceEqDiff, Nat.reduceAdd, Nat.reduceSub, Nat.reduceLeDiff, Int.reduceLT, Int.reduceLE, Int.reduceEq, Int.reduceBEq, Int.reduceNe, Int.reduceBNe, reduceCtorEq, Nat.reduceBEq
end Zc55
