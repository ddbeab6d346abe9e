/-
  The law of Index, in ZvVal's machine.
-/
import Derived.Test.YtfijkolejdkpdaaZc18S9
import Derived.Test.YtfijkolejdkpdaaZc18PShapeLists
set_option linter.unusedSimpArgs false
set_option maxHeartbeats 4000000
namespace Zc18
open Go Zv Zs
theorem okW {x : D} (h : ok (EE es) (.st [.i .i64, .i .i64]) x) : ∃ a, x = eW a := by
  obtain ⟨l, rfl, h1⟩ := ok_st h
  obtain ⟨y, r, rfl, ha, h1⟩ := okCs_cons h1
  obtain ⟨z, r, rfl, hb, h1⟩ := okCs_cons h1
  obtain rfl := okCs_nil h1
  obtain ⟨a, rfl⟩ := okI ha
  obtain ⟨b, rfl⟩ := okI hb
  exact ⟨(a, b), rfl⟩
theorem shapeIndexes : ∀ x0 x1 x2 : D, ok (EE Zc18.es) (.one (.l 0)) x0 → ok (EE Zc18.es) (.one (.i .i64)) x1 → ok (EE Zc18.es) (.st [.i .i64, .i .i64]) x2 → ∃ h', callW Zc18.tab 6 [.d x0, .d x1, .d x2] ⟨[], 0⟩ = some (.d (.bool true), h') := by
  intro x0 x1 x2 h0 h1 h2
  obtain ⟨d, rfl, hd⟩ := okDs' h0
  obtain ⟨t, rfl⟩ := okI h1
  obtain ⟨w, rfl⟩ := okW h2
  refine ⟨⟨[], 0⟩, ?_⟩
  apply call_wp (fn := f6) rfl rfl
  have aw := awake_any (b := ⟨[], 1⟩) (fun _ _ => rfl)
  obtain ⟨r, hf, b, rfl, hb⟩ := few_ok d hd ⟨[], 1⟩
  cases b with
  | false => (simp only [e6, aw, hf, ws, wsl, opX, int, Zv.bool, intBin, reduceIte, ↓reduceIte, Nat.reduceEqDiff, Nat.reduceAdd, Nat.reduceSub, Nat.reduceLeDiff, Int.reduceLT, Int.reduceLE, Int.reduceEq, Int.reduceBEq, Int.reduceNe, Int.reduceBNe, reduceCtorEq, Nat.reduceBEq] <;> repeat' (first | refine wpG_s ?_ ?_ | refine wpC_s ?_ ?_) <;> intro hgo <;> (try simp only [decide_eq_true_eq, decide_eq_false_iff_not, Bool.not_eq_true', Bool.not_eq_false'] at hgo) <;> simp only [hgo, e6, aw, hf, ws, wsl, opX, int, Zv.bool, intBin, reduceIte, ↓reduceIte, Nat.reduceEqDiff, Nat.reduceAdd, Nat.reduceSub, Nat.reduceLeDiff, Int.reduceLT, Int.reduceLE, Int.reduceEq, Int.reduceBEq, Int.reduceNe, Int.reduceBNe, reduceCtorEq, Nat.reduceBEq])
  | true =>
    have S := hb rfl
    have i1 := fun h => pindex_ok S.bd S.nm t w h
    have i2 := fun h => rindex_ok S.bd S.nm t w h
    (simp only [e6, aw, hf, i1, i2, ws, wsl, opX, int, Zv.bool, intBin, reduceIte, ↓reduceIte, Nat.reduceEqDiff, Nat.reduceAdd, Nat.reduceSub, Nat.reduceLeDiff, Int.reduceLT, Int.reduceLE, Int.reduceEq, Int.reduceBEq, Int.reduceNe, Int.reduceBNe, reduceCtorEq, Nat.reduceBEq] <;> repeat' (first | refine wpG_s ?_ ?_ | refine wpC_s ?_ ?_) <;> intro hgo <;> (try simp only [decide_eq_true_eq, decide_eq_false_iff_not, Bool.not_eq_true', Bool.not_eq_false'] at hgo) <;> simp only [hgo, e6, aw, hf, i1, i2, ws, wsl, opX, int, Zv.bool, intBin, reduceIte, ↓reduceIte, Nat.reduceEqDiff, Nat.reduceAdd, Nat.reduceSub, Nat.reduceLeDiff, Int.reduceLT, Int.reduceLE, Int.reduceEq, Int.reduceBEq, Int.reduceNe, Int.reduceBNe, reduceCtorEq, Nat.reduceBEq])
-- ws, wsl, opX, int, Zv.bool, intBin, reduceIte, ↓reduceIte, Nat.reduceEqDiff, Nat.reduceAdd, Nat.reduceSub, Nat.reduceLeDiff, Int.reduceLT, Int.reduceLE, Int.reduceEq, Int.reduceBEq, Int.reduceNe, Int.reduceBNe, reduceCtorEq, Nat.reduceBEq
end Zc18
