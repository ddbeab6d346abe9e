/-
  The law of Check, in ZvVal's machine.
-/
import Derived.Test.YtfbkbopmenilkaaZc27S7
set_option linter.unusedSimpArgs false
set_option maxHeartbeats 4000000
namespace Zc27
open Go Zv Zs
theorem matrixChecks : ∀ x0 x1 x2 : D, ok (EE Zc27.es) (.one (.l 0)) x0 → ok (EE Zc27.es) (.one (.l 2)) x1 → ok (EE Zc27.es) (.one (.l 3)) x2 → ∃ h', callW Zc27.tab 3 [.d x0, .d x1, .d x2] ⟨[], 0⟩ = some (.d (.bool true), h') := by
  intro x0 x1 x2 h0 h1 h2
  obtain ⟨d, rfl, hd⟩ := okDs' h0
  obtain ⟨ts, rfl, ht⟩ := okIs h1
  obtain ⟨l, rfl, hl⟩ := okRs h2
  refine ⟨⟨[], 0⟩, ?_⟩
  refine call_wp (fn := f3) rfl rfl ?_
  have aw := awake
  obtain ⟨b, hf, hb⟩ := few_ok d ts l ⟨[], 0⟩
  cases b with
  | false => (simp only [e3, aw, hf, ws, wsl, opX, int, Zv.bool, intBin, reduceIte, ↓reduceIte, Nat.reduceEqDiff, Nat.reduceAdd, Nat.reduceSub, Nat.reduceLeDiff, Int.reduceLT, Int.reduceLE, Int.reduceEq, Int.reduceBEq, Int.reduceNe, Int.reduceBNe, reduceCtorEq, Nat.reduceBEq] <;> repeat' (first | refine wpG_s ?_ ?_ | refine wpC_s ?_ ?_) <;> intro hgo <;> (try simp only [decide_eq_true_eq, decide_eq_false_iff_not, Bool.not_eq_true', Bool.not_eq_false'] at hgo) <;> simp only [hgo, e3, aw, hf, ws, wsl, opX, int, Zv.bool, intBin, reduceIte, ↓reduceIte, Nat.reduceEqDiff, Nat.reduceAdd, Nat.reduceSub, Nat.reduceLeDiff, Int.reduceLT, Int.reduceLE, Int.reduceEq, Int.reduceBEq, Int.reduceNe, Int.reduceBNe, reduceCtorEq, Nat.reduceBEq])
  | true =>
    have F := hb rfl
    have r1 := fun h => F.rows_ok h
    have c1 := fun h => chk_ok F.rng h
    have c2 := fun h => rchk_ok F.rng h
    (simp only [e3, aw, hf, r1, c1, c2, ws, wsl, opX, int, Zv.bool, intBin, reduceIte, ↓reduceIte, Nat.reduceEqDiff, Nat.reduceAdd, Nat.reduceSub, Nat.reduceLeDiff, Int.reduceLT, Int.reduceLE, Int.reduceEq, Int.reduceBEq, Int.reduceNe, Int.reduceBNe, reduceCtorEq, Nat.reduceBEq] <;> repeat' (first | refine wpG_s ?_ ?_ | refine wpC_s ?_ ?_) <;> intro hgo <;> (try simp only [decide_eq_true_eq, decide_eq_false_iff_not, Bool.not_eq_true', Bool.not_eq_false'] at hgo) <;> simp only [hgo, e3, aw, hf, r1, c1, c2, ws, wsl, opX, int, Zv.bool, intBin, reduceIte, ↓reduceIte, Nat.reduceEqDiff, Nat.reduceAdd, Nat.reduceSub, Nat.reduceLeDiff, Int.reduceLT, Int.reduceLE, Int.reduceEq, Int.reduceBEq, Int.reduceNe, Int.reduceBNe, reduceCtorEq, Nat.reduceBEq])
-- ws, wsl, opX, int, Zv.bool, intBin, reduceIte, ↓reduceIte, Nat.reduceEqDiff, Nat.reduceAdd, Nat.reduceSub, Nat.reduceLeDiff, Int.reduceLT, Int.reduceLE, Int.reduceEq, Int.reduceBEq, Int.reduceNe, Int.reduceBNe, reduceCtorEq, Nat.reduceBEq
end Zc27
