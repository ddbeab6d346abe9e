/-
  The law of Inside, in ZvVal's machine.
-/
import Derived.Test.YtfijkolejdkpdaaZc18T2
import Derived.Test.YtfijkolejdkpdaaZc18PShapeIndexes
set_option linter.unusedSimpArgs false
set_option maxHeartbeats 4000000
namespace Zc18
open Go Zv Zs
theorem insS_len {d : List Dt} (B : Bd d) (t f : Int) : (insS d t f).1.length ≤ 3030 := by
  unfold insS
  split
  · simp
  · split
    · simp
    · split
      · simp
      · rw [insL_len]; exact ofS_len B f
theorem shapeInsides : ∀ x0 x1 x2 : D, ok (EE Zc18.es) (.one (.l 0)) x0 → ok (EE Zc18.es) (.one (.i .i64)) x1 → ok (EE Zc18.es) (.one (.i .i64)) x2 → ∃ h', callW Zc18.tab 4 [.d x0, .d x1, .d x2] ⟨[], 0⟩ = some (.d (.bool true), h') := by
  intro x0 x1 x2 h0 h1 h2
  obtain ⟨d, rfl, hd⟩ := okDs' h0
  obtain ⟨t, rfl⟩ := okI h1
  obtain ⟨f, rfl⟩ := okI h2
  refine ⟨⟨[], 0⟩, ?_⟩
  apply call_wp (fn := f4) rfl rfl
  have aw := awake_any (b := ⟨[], 0⟩) (fun _ _ => rfl)
  obtain ⟨r, hf, b, rfl, hb⟩ := few_ok d hd ⟨[], 0⟩
  cases b with
  | false => (simp only [e4, aw, hf, ws, wsl, opX, int, Zv.bool, intBin, reduceIte, ↓reduceIte, Nat.reduceEqDiff, Nat.reduceAdd, Nat.reduceSub, Nat.reduceLeDiff, Int.reduceLT, Int.reduceLE, Int.reduceEq, Int.reduceBEq, Int.reduceNe, Int.reduceBNe, reduceCtorEq, Nat.reduceBEq] <;> repeat' (first | refine wpG_s ?_ ?_ | refine wpC_s ?_ ?_) <;> intro hgo <;> (try simp only [decide_eq_true_eq, decide_eq_false_iff_not, Bool.not_eq_true', Bool.not_eq_false'] at hgo) <;> simp only [hgo, e4, aw, hf, ws, wsl, opX, int, Zv.bool, intBin, reduceIte, ↓reduceIte, Nat.reduceEqDiff, Nat.reduceAdd, Nat.reduceSub, Nat.reduceLeDiff, Int.reduceLT, Int.reduceLE, Int.reduceEq, Int.reduceBEq, Int.reduceNe, Int.reduceBNe, reduceCtorEq, Nat.reduceBEq])
  | true =>
    have S := hb rfl
    have i1 := fun h => pins_ok S.bd S.nm t f h
    have i2 := fun h => rins_ok S.bd S.nm t f h
    have l1 := insS_len S.bd t f
    have i3 := fun h => same_refl (insS d t f).1 h (by omega)
    (simp only [e4, aw, hf, i1, i2, i3, ws, wsl, opX, int, Zv.bool, intBin, reduceIte, ↓reduceIte, Nat.reduceEqDiff, Nat.reduceAdd, Nat.reduceSub, Nat.reduceLeDiff, Int.reduceLT, Int.reduceLE, Int.reduceEq, Int.reduceBEq, Int.reduceNe, Int.reduceBNe, reduceCtorEq, Nat.reduceBEq] <;> repeat' (first | refine wpG_s ?_ ?_ | refine wpC_s ?_ ?_) <;> intro hgo <;> (try simp only [decide_eq_true_eq, decide_eq_false_iff_not, Bool.not_eq_true', Bool.not_eq_false'] at hgo) <;> simp only [hgo, e4, aw, hf, i1, i2, i3, ws, wsl, opX, int, Zv.bool, intBin, reduceIte, ↓reduceIte, Nat.reduceEqDiff, Nat.reduceAdd, Nat.reduceSub, Nat.reduceLeDiff, Int.reduceLT, Int.reduceLE, Int.reduceEq, Int.reduceBEq, Int.reduceNe, Int.reduceBNe, reduceCtorEq, Nat.reduceBEq])
-- ws, wsl, opX, int, Zv.bool, intBin, reduceIte, ↓reduceIte, Nat.reduceEqDiff, Nat.reduceAdd, Nat.reduceSub, Nat.reduceLeDiff, Int.reduceLT, Int.reduceLE, Int.reduceEq, Int.reduceBEq, Int.reduceNe, Int.reduceBNe, reduceCtorEq, Nat.reduceBEq
end Zc18
