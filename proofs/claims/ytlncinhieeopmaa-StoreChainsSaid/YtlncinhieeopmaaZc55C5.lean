/-
  Runs of a chain of cells.
-/
import Derived.Test.YtlncinhieeopmaaZc55C0
namespace Zc55
open Go Zv Zs
theorem b11r (x : V) : runK tab 200 partB [(1, x), (5, .d (.int .i64 11))] ⟨[], 0⟩ = some (.norm, eB x 11, hB 11) := by kernel_rfl
theorem d11r0 : runsD 11 0 = true := by kernel_rfl
theorem d11r1 : runsD 11 1 = true := by kernel_rfl
theorem d11r2 : runsD 11 2 = true := by kernel_rfl
theorem d11r3 : runsD 11 3 = true := by kernel_rfl
theorem d11r4 : runsD 11 4 = true := by kernel_rfl
theorem d11r5 : runsD 11 5 = true := by kernel_rfl
theorem d11r6 : runsD 11 6 = true := by kernel_rfl
theorem d11r7 : runsD 11 7 = true := by kernel_rfl
theorem d11r8 : runsD 11 8 = true := by kernel_rfl
theorem d11r9 : runsD 11 9 = true := by kernel_rfl
-- ws, wsl, opX, int, Zv.bool, intBin, reduceIte, ↓reduceIte, Nat.reduceEqDiff, Nat.reduceAdd, Nat.reduceSub, Nat.reduceLeDiff, Int.reduceLT, Int.reduceLE, Int.reduceEq, Int.reduceBEq, Int.reduceNe, Int.reduceBNe, reduceCtorEq, Nat.reduceBEq
end Zc55
