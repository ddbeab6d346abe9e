/-
  The law of nested shapes, in ZvVal's machine.
-/
import Derived.Test.YtfijkolejdkpdaaZc18T2
import Derived.Test.YtfijkolejdkpdaaZc18C0
set_option linter.unusedSimpArgs false
set_option maxHeartbeats 4000000
namespace Zc18
open Go Zv Zs
theorem okDs' {x : D} (h : ok (EE es) (.one (.l 0)) x) : ∃ a, x = eDs a ∧ a.length ≤ 9223372036854775807 := by
  obtain ⟨l, rfl, hl, h2⟩ := ok_l h
  obtain ⟨xs, rfl⟩ := okEs_map (fun _ => okD) h2
  refine ⟨xs, rfl, ?_⟩
  rw [List.length_map] at hl
  exact hl
theorem insL_at {d : List Dt} {t f : Int} {n : Nat} {z : Int} (h : (insL d t f)[n]? = some z) : ∃ w, (ofS d f)[n]? = some w ∧ z = idxS d t w := by
  unfold insL at h
  rw [List.getElem?_map, Option.map_eq_some_iff] at h
  obtain ⟨w, hw, rfl⟩ := h
  exact ⟨w, hw, rfl⟩
theorem shapeNests : ∀ x0 : D, ok (EE Zc18.es) (.st [.l 0, .i .i64, .i .i64, .i .i64]) x0 → ∃ h', callW Zc18.tab 5 [.d x0] ⟨[], 0⟩ = some (.d (.bool true), h') := by
  intro x0 h0
  obtain ⟨l, rfl, h0⟩ := ok_st h0
  obtain ⟨xd, r, rfl, hxd, h0⟩ := okCs_cons h0
  obtain ⟨xt, r, rfl, hxt, h0⟩ := okCs_cons h0
  obtain ⟨xu, r, rfl, hxu, h0⟩ := okCs_cons h0
  obtain ⟨xv, r, rfl, hxv, h0⟩ := okCs_cons h0
  obtain rfl := okCs_nil h0
  obtain ⟨d, rfl, hd⟩ := okDs' hxd
  obtain ⟨t, rfl⟩ := okI hxt
  obtain ⟨u, rfl⟩ := okI hxu
  obtain ⟨v, rfl⟩ := okI hxv
  refine ⟨⟨[], 0⟩, ?_⟩
  apply call_wp (fn := f5) rfl rfl
  have aw := awake_any (b := ⟨[], 1⟩) (fun _ _ => rfl)
  obtain ⟨r, hf, b, rfl, hb⟩ := few_ok d hd ⟨[], 1⟩
  cases b with
  | false => (simp only [e5, aw, hf, ws, wsl, opX, int, Zv.bool, intBin, reduceIte, ↓reduceIte, Nat.reduceEqDiff, Nat.reduceAdd, Nat.reduceSub, Nat.reduceLeDiff, Int.reduceLT, Int.reduceLE, Int.reduceEq, Int.reduceBEq, Int.reduceNe, Int.reduceBNe, reduceCtorEq, Nat.reduceBEq] <;> repeat' (first | refine wpG_s ?_ ?_ | refine wpC_s ?_ ?_) <;> intro hgo <;> (try simp only [decide_eq_true_eq, decide_eq_false_iff_not, Bool.not_eq_true', Bool.not_eq_false'] at hgo) <;> simp only [hgo, e5, aw, hf, ws, wsl, opX, int, Zv.bool, intBin, reduceIte, ↓reduceIte, Nat.reduceEqDiff, Nat.reduceAdd, Nat.reduceSub, Nat.reduceLeDiff, Int.reduceLT, Int.reduceLE, Int.reduceEq, Int.reduceBEq, Int.reduceNe, Int.reduceBNe, reduceCtorEq, Nat.reduceBEq])
  | true =>
    have S := hb rfl
    have B := S.bd
    have i1 := fun h => pins_ok B S.nm t u h
    have i2 := fun h => pins_ok B S.nm u v h
    have i3 := fun h => pins_ok B S.nm t v h
    have i4 := fun h => pins_ok B S.nm t t h
    by_cases h1 : (insS d t u).2 = 0
    · by_cases h2 : (insS d u v).2 = 0
      · obtain ⟨k1, k2, k3, k4⟩ := insS_ok.1 h1
        obtain ⟨_, _, k6, k7⟩ := insS_ok.1 h2
        have h3 : (insS d t v).2 = 0 := insS_ok.2 ⟨k1, k2, k6, fun w hw => k4 w (k7 w hw)⟩
        have h4 : (insS d t t).2 = 0 := insS_ok.2 ⟨k1, k2, k2, fun w hw => hw⟩
        have e1 := insS_at h1
        have e2 := insS_at h2
        have e3 := insS_at h3
        have e4 := insS_at h4
        rw [e1] at i1
        rw [e2] at i2
        rw [e3] at i3
        rw [e4] at i4
        have l1 := insL_len d t u
        have l2 := insL_len d u v
        have l3 := insL_len d t v
        have l4 := insL_len d t t
        have m1 := ofS_len B u
        have m2 := ofS_len B v
        have m3 := ofS_len B t
        have hl23 : (insL d t v).length = (insL d u v).length := by omega
        have hA := loop_all (T := tab) (a := f5l0) (l := insL d t v) (f := fun n => [(1, .fp (.agg [eDs d, eI t, eI u, eI v]) 0), (3, .d (eIs (insL d t u))), (5, .d (eIs (insL d u v))), (7, .d (eIs (insL d t v))), (9, int n)]) (h := ⟨[], 1⟩)
            (by intro n x hx hlt; obtain ⟨w, hw, rfl⟩ := insL_at hx; (have hu : w ∈ ofS d u := k7 w (List.mem_of_getElem? hw)); obtain ⟨q, hq, hqw⟩ := idx_in hu; (have hq' : idxS d u w = (q : Int) := hq); (have hb : (insL d u v)[n]? = some (q : Int) := by rw [← hq']; unfold insL; rw [List.getElem?_map, hw]; rfl); (have ha : (insL d t u)[q]? = some (idxS d t w) := by unfold insL; rw [List.getElem?_map, hqw]; rfl); (have hlt1 := lt_of_get ha); (have hn1 : ¬ (insL d t u).length ≤ q := by omega); all_goals (apply wq_ex.1; (simp only [hlt, e5, iaI hx, iaI hb, iaI ha, hn1, wrap_succ (show n < 2 ^ 62 by omega), ws, wsl, opX, int, Zv.bool, intBin, reduceIte, ↓reduceIte, Nat.reduceEqDiff, Nat.reduceAdd, Nat.reduceSub, Nat.reduceLeDiff, Int.reduceLT, Int.reduceLE, Int.reduceEq, Int.reduceBEq, Int.reduceNe, Int.reduceBNe, reduceCtorEq, Nat.reduceBEq] <;> repeat' (first | refine wpG_s ?_ ?_ | refine wpC_s ?_ ?_) <;> intro hgo <;> (try simp only [decide_eq_true_eq, decide_eq_false_iff_not, Bool.not_eq_true', Bool.not_eq_false'] at hgo) <;> simp only [hgo, hlt, e5, iaI hx, iaI hb, iaI ha, hn1, wrap_succ (show n < 2 ^ 62 by omega), ws, wsl, opX, int, Zv.bool, intBin, reduceIte, ↓reduceIte, Nat.reduceEqDiff, Nat.reduceAdd, Nat.reduceSub, Nat.reduceLeDiff, Int.reduceLT, Int.reduceLE, Int.reduceEq, Int.reduceBEq, Int.reduceNe, Int.reduceBNe, reduceCtorEq, Nat.reduceBEq])))
            (by apply wq_ex.1; (simp only [e5, ws, wsl, opX, int, Zv.bool, intBin, reduceIte, ↓reduceIte, Nat.reduceEqDiff, Nat.reduceAdd, Nat.reduceSub, Nat.reduceLeDiff, Int.reduceLT, Int.reduceLE, Int.reduceEq, Int.reduceBEq, Int.reduceNe, Int.reduceBNe, reduceCtorEq, Nat.reduceBEq] <;> repeat' (first | refine wpG_s ?_ ?_ | refine wpC_s ?_ ?_) <;> intro hgo <;> (try simp only [decide_eq_true_eq, decide_eq_false_iff_not, Bool.not_eq_true', Bool.not_eq_false'] at hgo) <;> simp only [hgo, e5, ws, wsl, opX, int, Zv.bool, intBin, reduceIte, ↓reduceIte, Nat.reduceEqDiff, Nat.reduceAdd, Nat.reduceSub, Nat.reduceLeDiff, Int.reduceLT, Int.reduceLE, Int.reduceEq, Int.reduceBEq, Int.reduceNe, Int.reduceBNe, reduceCtorEq, Nat.reduceBEq]) <;> rfl)
            (by simp)
        simp only [int, Zv.bool, Int.cast_ofNat_Int] at hA
        have hB := loop_all (T := tab) (a := f5l1) (l := insL d t t) (f := fun n => [(10, .d (eIs (insL d t t))), (11, .d (.int .i64 0)), (12, int n)]) (h := ⟨[], 1⟩)
            (by intro n x hx hlt; obtain ⟨w, hw, rfl⟩ := insL_at hx; (have hq : idxS d t w = (n : Int) := idx_nodup (ofS_nodup d t) hw); all_goals (apply wq_ex.1; (simp only [hlt, e5, iaI hx, hq, wrap_succ (show n < 2 ^ 62 by omega), ws, wsl, opX, int, Zv.bool, intBin, reduceIte, ↓reduceIte, Nat.reduceEqDiff, Nat.reduceAdd, Nat.reduceSub, Nat.reduceLeDiff, Int.reduceLT, Int.reduceLE, Int.reduceEq, Int.reduceBEq, Int.reduceNe, Int.reduceBNe, reduceCtorEq, Nat.reduceBEq] <;> repeat' (first | refine wpG_s ?_ ?_ | refine wpC_s ?_ ?_) <;> intro hgo <;> (try simp only [decide_eq_true_eq, decide_eq_false_iff_not, Bool.not_eq_true', Bool.not_eq_false'] at hgo) <;> simp only [hgo, hlt, e5, iaI hx, hq, wrap_succ (show n < 2 ^ 62 by omega), ws, wsl, opX, int, Zv.bool, intBin, reduceIte, ↓reduceIte, Nat.reduceEqDiff, Nat.reduceAdd, Nat.reduceSub, Nat.reduceLeDiff, Int.reduceLT, Int.reduceLE, Int.reduceEq, Int.reduceBEq, Int.reduceNe, Int.reduceBNe, reduceCtorEq, Nat.reduceBEq])))
            (by apply wq_ex.1; (simp only [e5, ws, wsl, opX, int, Zv.bool, intBin, reduceIte, ↓reduceIte, Nat.reduceEqDiff, Nat.reduceAdd, Nat.reduceSub, Nat.reduceLeDiff, Int.reduceLT, Int.reduceLE, Int.reduceEq, Int.reduceBEq, Int.reduceNe, Int.reduceBNe, reduceCtorEq, Nat.reduceBEq] <;> repeat' (first | refine wpG_s ?_ ?_ | refine wpC_s ?_ ?_) <;> intro hgo <;> (try simp only [decide_eq_true_eq, decide_eq_false_iff_not, Bool.not_eq_true', Bool.not_eq_false'] at hgo) <;> simp only [hgo, e5, ws, wsl, opX, int, Zv.bool, intBin, reduceIte, ↓reduceIte, Nat.reduceEqDiff, Nat.reduceAdd, Nat.reduceSub, Nat.reduceLeDiff, Int.reduceLT, Int.reduceLE, Int.reduceEq, Int.reduceBEq, Int.reduceNe, Int.reduceBNe, reduceCtorEq, Nat.reduceBEq]) <;> rfl)
            (by simp)
        simp only [int, Zv.bool, Int.cast_ofNat_Int] at hB
        (simp only [e5, aw, hf, i1, i2, i3, i4, hl23, wq_of hA, wq_of hB, ws, wsl, opX, int, Zv.bool, intBin, reduceIte, ↓reduceIte, Nat.reduceEqDiff, Nat.reduceAdd, Nat.reduceSub, Nat.reduceLeDiff, Int.reduceLT, Int.reduceLE, Int.reduceEq, Int.reduceBEq, Int.reduceNe, Int.reduceBNe, reduceCtorEq, Nat.reduceBEq] <;> repeat' (first | refine wpG_s ?_ ?_ | refine wpC_s ?_ ?_) <;> intro hgo <;> (try simp only [decide_eq_true_eq, decide_eq_false_iff_not, Bool.not_eq_true', Bool.not_eq_false'] at hgo) <;> simp only [hgo, e5, aw, hf, i1, i2, i3, i4, hl23, wq_of hA, wq_of hB, ws, wsl, opX, int, Zv.bool, intBin, reduceIte, ↓reduceIte, Nat.reduceEqDiff, Nat.reduceAdd, Nat.reduceSub, Nat.reduceLeDiff, Int.reduceLT, Int.reduceLE, Int.reduceEq, Int.reduceBEq, Int.reduceNe, Int.reduceBNe, reduceCtorEq, Nat.reduceBEq])
      · have e2 : ((insS d u v).2 != 0) = true := by simp [h2]
        (simp only [e5, aw, hf, i1, i2, h1, e2, ws, wsl, opX, int, Zv.bool, intBin, reduceIte, ↓reduceIte, Nat.reduceEqDiff, Nat.reduceAdd, Nat.reduceSub, Nat.reduceLeDiff, Int.reduceLT, Int.reduceLE, Int.reduceEq, Int.reduceBEq, Int.reduceNe, Int.reduceBNe, reduceCtorEq, Nat.reduceBEq] <;> repeat' (first | refine wpG_s ?_ ?_ | refine wpC_s ?_ ?_) <;> intro hgo <;> (try simp only [decide_eq_true_eq, decide_eq_false_iff_not, Bool.not_eq_true', Bool.not_eq_false'] at hgo) <;> simp only [hgo, e5, aw, hf, i1, i2, h1, e2, ws, wsl, opX, int, Zv.bool, intBin, reduceIte, ↓reduceIte, Nat.reduceEqDiff, Nat.reduceAdd, Nat.reduceSub, Nat.reduceLeDiff, Int.reduceLT, Int.reduceLE, Int.reduceEq, Int.reduceBEq, Int.reduceNe, Int.reduceBNe, reduceCtorEq, Nat.reduceBEq])
    · have e1 : ((insS d t u).2 != 0) = true := by simp [h1]
      (simp only [e5, aw, hf, i1, i2, e1, ws, wsl, opX, int, Zv.bool, intBin, reduceIte, ↓reduceIte, Nat.reduceEqDiff, Nat.reduceAdd, Nat.reduceSub, Nat.reduceLeDiff, Int.reduceLT, Int.reduceLE, Int.reduceEq, Int.reduceBEq, Int.reduceNe, Int.reduceBNe, reduceCtorEq, Nat.reduceBEq] <;> repeat' (first | refine wpG_s ?_ ?_ | refine wpC_s ?_ ?_) <;> intro hgo <;> (try simp only [decide_eq_true_eq, decide_eq_false_iff_not, Bool.not_eq_true', Bool.not_eq_false'] at hgo) <;> simp only [hgo, e5, aw, hf, i1, i2, e1, ws, wsl, opX, int, Zv.bool, intBin, reduceIte, ↓reduceIte, Nat.reduceEqDiff, Nat.reduceAdd, Nat.reduceSub, Nat.reduceLeDiff, Int.reduceLT, Int.reduceLE, Int.reduceEq, Int.reduceBEq, Int.reduceNe, Int.reduceBNe, reduceCtorEq, Nat.reduceBEq])
-- ws, wsl, opX, int, Zv.bool, intBin, reduceIte, ↓reduceIte, Nat.reduceEqDiff, Nat.reduceAdd, Nat.reduceSub, Nat.reduceLeDiff, Int.reduceLT, Int.reduceLE, Int.reduceEq, Int.reduceBEq, Int.reduceNe, Int.reduceBNe, reduceCtorEq, Nat.reduceBEq
end Zc18
