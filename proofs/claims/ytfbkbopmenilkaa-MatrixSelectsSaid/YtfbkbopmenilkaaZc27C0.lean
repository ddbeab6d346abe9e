/-
  The run of awake.
-/
import Derived.Test.YtfbkbopmenilkaaZc27R3
set_option maxHeartbeats 4000000
namespace Zc27
open Go Zv Zs
theorem awake : callW tab 10 [] ⟨[], 0⟩ = some (.d (.bool true), ⟨[], 0⟩) := callW_of tab 200 (by kernel_rfl)
theorem awake_any {b : Hp} (L : Low b) : callW tab 10 [] b = some (.d (.bool true), b) := callW_any tabCl (xs := []) awake L
-- ws, wsl, opX, int, Zv.bool, intBin, reduceIte, ↓reduceIte, Nat.reduceEqDiff, Nat.reduceAdd, Nat.reduceSub, Nat.reduceLeDiff, Int.reduceLT, Int.reduceLE, Int.reduceEq, Int.reduceBEq, Int.reduceNe, Int.reduceBNe, reduceCtorEq, Nat.reduceBEq
end Zc27
