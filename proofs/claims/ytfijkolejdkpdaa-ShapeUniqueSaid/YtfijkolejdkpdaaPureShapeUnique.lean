/-
  The law of unique places, in ZvVal's machine.
-/
import Derived.Test.YtfijkolejdkpdaaZc18PShapeInsides
set_option linter.unusedSimpArgs false
set_option maxHeartbeats 4000000
namespace Zc18
open Go Zv Zs
theorem shapeUnique : ∀ x0 x1 : D, ok (EE Zc18.es) (.one (.l 0)) x0 → ok (EE Zc18.es) (.one (.i .i64)) x1 → ∃ h', callW Zc18.tab 7 [.d x0, .d x1] ⟨[], 0⟩ = some (.d (.bool true), h') := by
  intro x0 x1 h0 h1
  obtain ⟨d, rfl, hd⟩ := okDs' h0
  obtain ⟨t, rfl⟩ := okI h1
  refine ⟨⟨[], 0⟩, ?_⟩
  apply call_wp (fn := f7) rfl rfl
  have aw := awake_any (b := ⟨[], 0⟩) (fun _ _ => rfl)
  obtain ⟨r, hf, b, rfl, hb⟩ := few_ok d hd ⟨[], 0⟩
  cases b with
  | false => (simp only [e7, aw, hf, ws, wsl, opX, int, Zv.bool, intBin, reduceIte, ↓reduceIte, Nat.reduceEqDiff, Nat.reduceAdd, Nat.reduceSub, Nat.reduceLeDiff, Int.reduceLT, Int.reduceLE, Int.reduceEq, Int.reduceBEq, Int.reduceNe, Int.reduceBNe, reduceCtorEq, Nat.reduceBEq] <;> repeat' (first | refine wpG_s ?_ ?_ | refine wpC_s ?_ ?_) <;> intro hgo <;> (try simp only [decide_eq_true_eq, decide_eq_false_iff_not, Bool.not_eq_true', Bool.not_eq_false'] at hgo) <;> simp only [hgo, e7, aw, hf, ws, wsl, opX, int, Zv.bool, intBin, reduceIte, ↓reduceIte, Nat.reduceEqDiff, Nat.reduceAdd, Nat.reduceSub, Nat.reduceLeDiff, Int.reduceLT, Int.reduceLE, Int.reduceEq, Int.reduceBEq, Int.reduceNe, Int.reduceBNe, reduceCtorEq, Nat.reduceBEq])
  | true =>
    have S := hb rfl
    have B := S.bd
    have hof := fun h => pof_ok B S.nm t h
    have hix := fun w h => pindex_ok B S.nm t w h
    have hch := fun h => pcheck_ok B S.nm h
    have hfl := fun h => flat_ok B t h
    have hlen := ofS_len B t
    have hN := ofS_nodup d t
    have hloop := loop_all (T := tab) (a := f7l0) (l := ofS d t) (f := fun n => [(0, .d (eDs d)), (1, .d (eI t)), (5, .d (eWs (ofS d t))), (6, .d (.int .i64 n))]) (h := ⟨[], 0⟩)
        (by intro n x hx hlt; (have hidx : idxS d t x = (n : Int) := idx_nodup hN hx); all_goals (apply wq_ex.1; (simp only [hlt, e7, iaW hx, hix, hidx, wrap_succ (show n < 2 ^ 62 by omega), ws, wsl, opX, int, Zv.bool, intBin, reduceIte, ↓reduceIte, Nat.reduceEqDiff, Nat.reduceAdd, Nat.reduceSub, Nat.reduceLeDiff, Int.reduceLT, Int.reduceLE, Int.reduceEq, Int.reduceBEq, Int.reduceNe, Int.reduceBNe, reduceCtorEq, Nat.reduceBEq] <;> repeat' (first | refine wpG_s ?_ ?_ | refine wpC_s ?_ ?_) <;> intro hgo <;> (try simp only [decide_eq_true_eq, decide_eq_false_iff_not, Bool.not_eq_true', Bool.not_eq_false'] at hgo) <;> simp only [hgo, hlt, e7, iaW hx, hix, hidx, wrap_succ (show n < 2 ^ 62 by omega), ws, wsl, opX, int, Zv.bool, intBin, reduceIte, ↓reduceIte, Nat.reduceEqDiff, Nat.reduceAdd, Nat.reduceSub, Nat.reduceLeDiff, Int.reduceLT, Int.reduceLE, Int.reduceEq, Int.reduceBEq, Int.reduceNe, Int.reduceBNe, reduceCtorEq, Nat.reduceBEq])))
        (by apply wq_ex.1; (simp only [e7, ws, wsl, opX, int, Zv.bool, intBin, reduceIte, ↓reduceIte, Nat.reduceEqDiff, Nat.reduceAdd, Nat.reduceSub, Nat.reduceLeDiff, Int.reduceLT, Int.reduceLE, Int.reduceEq, Int.reduceBEq, Int.reduceNe, Int.reduceBNe, reduceCtorEq, Nat.reduceBEq] <;> repeat' (first | refine wpG_s ?_ ?_ | refine wpC_s ?_ ?_) <;> intro hgo <;> (try simp only [decide_eq_true_eq, decide_eq_false_iff_not, Bool.not_eq_true', Bool.not_eq_false'] at hgo) <;> simp only [hgo, e7, ws, wsl, opX, int, Zv.bool, intBin, reduceIte, ↓reduceIte, Nat.reduceEqDiff, Nat.reduceAdd, Nat.reduceSub, Nat.reduceLeDiff, Int.reduceLT, Int.reduceLE, Int.reduceEq, Int.reduceBEq, Int.reduceNe, Int.reduceBNe, reduceCtorEq, Nat.reduceBEq]) <;> rfl)
        (by simp)
    simp only [int, Zv.bool, Int.cast_ofNat_Int] at hloop
    by_cases hC : checkS d = 0
    · by_cases hT : isT d t = true
      · have hT2 : ¬ t < 0 ∧ ¬ (d.length : Int) < t := by
          simp only [isT, Bool.and_eq_true, decide_eq_true_eq] at hT; omega
        by_cases hF : flatS d t = true
        · have he := ofS_flat hF
          rw [he] at hof hloop
          (simp only [e7, aw, hf, hof, wq_of hloop, hch, hC, hT2.1, hT2.2, hfl, hF, ws, wsl, opX, int, Zv.bool, intBin, reduceIte, ↓reduceIte, Nat.reduceEqDiff, Nat.reduceAdd, Nat.reduceSub, Nat.reduceLeDiff, Int.reduceLT, Int.reduceLE, Int.reduceEq, Int.reduceBEq, Int.reduceNe, Int.reduceBNe, reduceCtorEq, Nat.reduceBEq] <;> repeat' (first | refine wpG_s ?_ ?_ | refine wpC_s ?_ ?_) <;> intro hgo <;> (try simp only [decide_eq_true_eq, decide_eq_false_iff_not, Bool.not_eq_true', Bool.not_eq_false'] at hgo) <;> simp only [hgo, e7, aw, hf, hof, wq_of hloop, hch, hC, hT2.1, hT2.2, hfl, hF, ws, wsl, opX, int, Zv.bool, intBin, reduceIte, ↓reduceIte, Nat.reduceEqDiff, Nat.reduceAdd, Nat.reduceSub, Nat.reduceLeDiff, Int.reduceLT, Int.reduceLE, Int.reduceEq, Int.reduceBEq, Int.reduceNe, Int.reduceBNe, reduceCtorEq, Nat.reduceBEq])
        · have hF' : flatS d t = false := by simpa using hF
          obtain ⟨r, hr⟩ := ofS_head hC hT hF'
          have h0 : ia 2 (.d (eWs (ofS d t))) (.d (.int .i64 0)) = some (.fp (eW (t, 0)) 0) := iaW (n := 0) (by rw [hr]; rfl)
          have hp : (0 : Int) < ((ofS d t).length : Int) := by rw [hr, List.length_cons]; omega
          have hagg : aggBin [.i, .i] .eql (.d (eW (t, 0))) (.d (.agg [.int .i64 t, .int .i64 0])) = some (.d (.bool true)) := by
            have := aggE (t, 0) (t, 0); simpa using this
          (simp only [e7, aw, hf, hof, wq_of hloop, hch, hC, hT2.1, hT2.2, hfl, hF', h0, hp, hagg, ws, wsl, opX, int, Zv.bool, intBin, reduceIte, ↓reduceIte, Nat.reduceEqDiff, Nat.reduceAdd, Nat.reduceSub, Nat.reduceLeDiff, Int.reduceLT, Int.reduceLE, Int.reduceEq, Int.reduceBEq, Int.reduceNe, Int.reduceBNe, reduceCtorEq, Nat.reduceBEq] <;> repeat' (first | refine wpG_s ?_ ?_ | refine wpC_s ?_ ?_) <;> intro hgo <;> (try simp only [decide_eq_true_eq, decide_eq_false_iff_not, Bool.not_eq_true', Bool.not_eq_false'] at hgo) <;> simp only [hgo, e7, aw, hf, hof, wq_of hloop, hch, hC, hT2.1, hT2.2, hfl, hF', h0, hp, hagg, ws, wsl, opX, int, Zv.bool, intBin, reduceIte, ↓reduceIte, Nat.reduceEqDiff, Nat.reduceAdd, Nat.reduceSub, Nat.reduceLeDiff, Int.reduceLT, Int.reduceLE, Int.reduceEq, Int.reduceBEq, Int.reduceNe, Int.reduceBNe, reduceCtorEq, Nat.reduceBEq])
      · have he : ofS d t = [] := ofS_bad (by simp [hT])
        rw [he] at hof hloop
        by_cases hn : t < 0
        · (simp only [e7, aw, hf, hof, wq_of hloop, hch, hC, hn, ws, wsl, opX, int, Zv.bool, intBin, reduceIte, ↓reduceIte, Nat.reduceEqDiff, Nat.reduceAdd, Nat.reduceSub, Nat.reduceLeDiff, Int.reduceLT, Int.reduceLE, Int.reduceEq, Int.reduceBEq, Int.reduceNe, Int.reduceBNe, reduceCtorEq, Nat.reduceBEq] <;> repeat' (first | refine wpG_s ?_ ?_ | refine wpC_s ?_ ?_) <;> intro hgo <;> (try simp only [decide_eq_true_eq, decide_eq_false_iff_not, Bool.not_eq_true', Bool.not_eq_false'] at hgo) <;> simp only [hgo, e7, aw, hf, hof, wq_of hloop, hch, hC, hn, ws, wsl, opX, int, Zv.bool, intBin, reduceIte, ↓reduceIte, Nat.reduceEqDiff, Nat.reduceAdd, Nat.reduceSub, Nat.reduceLeDiff, Int.reduceLT, Int.reduceLE, Int.reduceEq, Int.reduceBEq, Int.reduceNe, Int.reduceBNe, reduceCtorEq, Nat.reduceBEq])
        · have hg : (d.length : Int) < t := by
            simp only [isT, Bool.and_eq_true, decide_eq_true_eq] at hT; omega
          (simp only [e7, aw, hf, hof, wq_of hloop, hch, hC, hn, hg, ws, wsl, opX, int, Zv.bool, intBin, reduceIte, ↓reduceIte, Nat.reduceEqDiff, Nat.reduceAdd, Nat.reduceSub, Nat.reduceLeDiff, Int.reduceLT, Int.reduceLE, Int.reduceEq, Int.reduceBEq, Int.reduceNe, Int.reduceBNe, reduceCtorEq, Nat.reduceBEq] <;> repeat' (first | refine wpG_s ?_ ?_ | refine wpC_s ?_ ?_) <;> intro hgo <;> (try simp only [decide_eq_true_eq, decide_eq_false_iff_not, Bool.not_eq_true', Bool.not_eq_false'] at hgo) <;> simp only [hgo, e7, aw, hf, hof, wq_of hloop, hch, hC, hn, hg, ws, wsl, opX, int, Zv.bool, intBin, reduceIte, ↓reduceIte, Nat.reduceEqDiff, Nat.reduceAdd, Nat.reduceSub, Nat.reduceLeDiff, Int.reduceLT, Int.reduceLE, Int.reduceEq, Int.reduceBEq, Int.reduceNe, Int.reduceBNe, reduceCtorEq, Nat.reduceBEq])
    · have he : ofS d t = [] := ofS_bad (by simp [hC])
      have e : (checkS d != 0) = true := by simp [hC]
      rw [he] at hof hloop
      (simp only [e7, aw, hf, hof, wq_of hloop, hch, e, ws, wsl, opX, int, Zv.bool, intBin, reduceIte, ↓reduceIte, Nat.reduceEqDiff, Nat.reduceAdd, Nat.reduceSub, Nat.reduceLeDiff, Int.reduceLT, Int.reduceLE, Int.reduceEq, Int.reduceBEq, Int.reduceNe, Int.reduceBNe, reduceCtorEq, Nat.reduceBEq] <;> repeat' (first | refine wpG_s ?_ ?_ | refine wpC_s ?_ ?_) <;> intro hgo <;> (try simp only [decide_eq_true_eq, decide_eq_false_iff_not, Bool.not_eq_true', Bool.not_eq_false'] at hgo) <;> simp only [hgo, e7, aw, hf, hof, wq_of hloop, hch, e, ws, wsl, opX, int, Zv.bool, intBin, reduceIte, ↓reduceIte, Nat.reduceEqDiff, Nat.reduceAdd, Nat.reduceSub, Nat.reduceLeDiff, Int.reduceLT, Int.reduceLE, Int.reduceEq, Int.reduceBEq, Int.reduceNe, Int.reduceBNe, reduceCtorEq, Nat.reduceBEq])
-- ws, wsl, opX, int, Zv.bool, intBin, reduceIte, ↓reduceIte, Nat.reduceEqDiff, Nat.reduceAdd, Nat.reduceSub, Nat.reduceLeDiff, Int.reduceLT, Int.reduceLE, Int.reduceEq, Int.reduceBEq, Int.reduceNe, Int.reduceBNe, reduceCtorEq, Nat.reduceBEq
end Zc18
