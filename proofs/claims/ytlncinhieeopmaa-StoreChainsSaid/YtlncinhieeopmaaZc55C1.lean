/-
  Runs of a chain of cells.
-/
import Derived.Test.YtlncinhieeopmaaZc55C0
namespace Zc55
open Go Zv Zs
theorem b2r (x : V) : runK tab 200 partB [(1, x), (5, .d (.int .i64 2))] ⟨[], 0⟩ = some (.norm, eB x 2, hB 2) := by kernel_rfl
theorem d2r0 : runsD 2 0 = true := by kernel_rfl
theorem b3r (x : V) : runK tab 200 partB [(1, x), (5, .d (.int .i64 3))] ⟨[], 0⟩ = some (.norm, eB x 3, hB 3) := by kernel_rfl
theorem d3r0 : runsD 3 0 = true := by kernel_rfl
theorem d3r1 : runsD 3 1 = true := by kernel_rfl
theorem b4r (x : V) : runK tab 200 partB [(1, x), (5, .d (.int .i64 4))] ⟨[], 0⟩ = some (.norm, eB x 4, hB 4) := by kernel_rfl
theorem d4r0 : runsD 4 0 = true := by kernel_rfl
theorem d4r1 : runsD 4 1 = true := by kernel_rfl
theorem d4r2 : runsD 4 2 = true := by kernel_rfl
theorem b5r (x : V) : runK tab 200 partB [(1, x), (5, .d (.int .i64 5))] ⟨[], 0⟩ = some (.norm, eB x 5, hB 5) := by kernel_rfl
theorem d5r0 : runsD 5 0 = true := by kernel_rfl
theorem d5r1 : runsD 5 1 = true := by kernel_rfl
theorem d5r2 : runsD 5 2 = true := by kernel_rfl
theorem d5r3 : runsD 5 3 = true := by kernel_rfl
theorem b6r (x : V) : runK tab 200 partB [(1, x), (5, .d (.int .i64 6))] ⟨[], 0⟩ = some (.norm, eB x 6, hB 6) := by kernel_rfl
theorem d6r0 : runsD 6 0 = true := by kernel_rfl
theorem d6r1 : runsD 6 1 = true := by kernel_rfl
theorem d6r2 : runsD 6 2 = true := by kernel_rfl
theorem d6r3 : runsD 6 3 = true := by kernel_rfl
theorem d6r4 : runsD 6 4 = true := by kernel_rfl
-- ws, wsl, opX, int, Zv.bool, intBin, reduceIte, ↓reduceIte, Nat.reduceEqDiff, Nat.reduceAdd, Nat.reduceSub, Nat.reduceLeDiff, Int.reduceLT, Int.reduceLE, Int.reduceEq, Int.reduceBEq, Int.reduceNe, Int.reduceBNe, reduceCtorEq, Nat.reduceBEq
end Zc55
