/-
  Runs of a chain of cells.
-/
import Derived.Test.YtlncinhieeopmaaZc55C0
namespace Zc55
open Go Zv Zs
theorem b7r (x : V) : runK tab 200 partB [(1, x), (5, .d (.int .i64 7))] ⟨[], 0⟩ = some (.norm, eB x 7, hB 7) := by kernel_rfl
theorem d7r0 : runsD 7 0 = true := by kernel_rfl
theorem d7r1 : runsD 7 1 = true := by kernel_rfl
theorem d7r2 : runsD 7 2 = true := by kernel_rfl
theorem d7r3 : runsD 7 3 = true := by kernel_rfl
theorem d7r4 : runsD 7 4 = true := by kernel_rfl
theorem d7r5 : runsD 7 5 = true := by kernel_rfl
theorem b8r (x : V) : runK tab 200 partB [(1, x), (5, .d (.int .i64 8))] ⟨[], 0⟩ = some (.norm, eB x 8, hB 8) := by kernel_rfl
theorem d8r0 : runsD 8 0 = true := by kernel_rfl
theorem d8r1 : runsD 8 1 = true := by kernel_rfl
theorem d8r2 : runsD 8 2 = true := by kernel_rfl
theorem d8r3 : runsD 8 3 = true := by kernel_rfl
theorem d8r4 : runsD 8 4 = true := by kernel_rfl
theorem d8r5 : runsD 8 5 = true := by kernel_rfl
theorem d8r6 : runsD 8 6 = true := by kernel_rfl
-- ws, wsl, opX, int, Zv.bool, intBin, reduceIte, ↓reduceIte, Nat.reduceEqDiff, Nat.reduceAdd, Nat.reduceSub, Nat.reduceLeDiff, Int.reduceLT, Int.reduceLE, Int.reduceEq, Int.reduceBEq, Int.reduceNe, Int.reduceBNe, reduceCtorEq, Nat.reduceBEq
end Zc55
