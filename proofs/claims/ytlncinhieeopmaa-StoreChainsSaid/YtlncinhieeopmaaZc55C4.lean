/-
  Runs of a chain of cells.
-/
import Derived.Test.YtlncinhieeopmaaZc55C0
namespace Zc55
open Go Zv Zs
theorem b10r (x : V) : runK tab 200 partB [(1, x), (5, .d (.int .i64 10))] ⟨[], 0⟩ = some (.norm, eB x 10, hB 10) := by kernel_rfl
theorem d10r0 : runsD 10 0 = true := by kernel_rfl
theorem d10r1 : runsD 10 1 = true := by kernel_rfl
theorem d10r2 : runsD 10 2 = true := by kernel_rfl
theorem d10r3 : runsD 10 3 = true := by kernel_rfl
theorem d10r4 : runsD 10 4 = true := by kernel_rfl
theorem d10r5 : runsD 10 5 = true := by kernel_rfl
theorem d10r6 : runsD 10 6 = true := by kernel_rfl
theorem d10r7 : runsD 10 7 = true := by kernel_rfl
theorem d10r8 : runsD 10 8 = true := by kernel_rfl
-- ws, wsl, opX, int, Zv.bool, intBin, reduceIte, ↓reduceIte, Nat.reduceEqDiff, Nat.reduceAdd, Nat.reduceSub, Nat.reduceLeDiff, Int.reduceLT, Int.reduceLE, Int.reduceEq, Int.reduceBEq, Int.reduceNe, Int.reduceBNe, reduceCtorEq, Nat.reduceBEq
end Zc55
