/-
  The law of closed shapes, in ZvVal's machine.
-/
import Derived.Test.YtfijkolejdkpdaaZc18T2
import Derived.Test.YtfijkolejdkpdaaZc18C0
set_option linter.unusedSimpArgs false
set_option maxHeartbeats 4000000
namespace Zc18
open Go Zv Zs
theorem okDs' {x : D} (h : ok (EE es) (.one (.l 0)) x) : ∃ a, x = eDs a ∧ a.length ≤ 9223372036854775807 := by
  obtain ⟨l, rfl, hl, h2⟩ := ok_l h
  obtain ⟨xs, rfl⟩ := okEs_map (fun _ => okD) h2
  refine ⟨xs, rfl, ?_⟩
  rw [List.length_map] at hl
  exact hl
theorem shapeCloses : ∀ x0 x1 : D, ok (EE Zc18.es) (.one (.l 0)) x0 → ok (EE Zc18.es) (.one (.i .i64)) x1 → ∃ h', callW Zc18.tab 8 [.d x0, .d x1] ⟨[], 0⟩ = some (.d (.bool true), h') := by
  intro x0 x1 h0 h1
  obtain ⟨d, rfl, hd⟩ := okDs' h0
  obtain ⟨t, rfl⟩ := okI h1
  refine ⟨⟨[], 0⟩, ?_⟩
  apply call_wp (fn := f8) rfl rfl
  have aw := awake_any (b := ⟨[], 0⟩) (fun _ _ => rfl)
  obtain ⟨r, hf, b, rfl, hb⟩ := few_ok d hd ⟨[], 0⟩
  cases b with
  | false => (simp only [e8, aw, hf, ws, wsl, opX, int, Zv.bool, intBin, reduceIte, ↓reduceIte, Nat.reduceEqDiff, Nat.reduceAdd, Nat.reduceSub, Nat.reduceLeDiff, Int.reduceLT, Int.reduceLE, Int.reduceEq, Int.reduceBEq, Int.reduceNe, Int.reduceBNe, reduceCtorEq, Nat.reduceBEq] <;> repeat' (first | refine wpG_s ?_ ?_ | refine wpC_s ?_ ?_) <;> intro hgo <;> (try simp only [decide_eq_true_eq, decide_eq_false_iff_not, Bool.not_eq_true', Bool.not_eq_false'] at hgo) <;> simp only [hgo, e8, aw, hf, ws, wsl, opX, int, Zv.bool, intBin, reduceIte, ↓reduceIte, Nat.reduceEqDiff, Nat.reduceAdd, Nat.reduceSub, Nat.reduceLeDiff, Int.reduceLT, Int.reduceLE, Int.reduceEq, Int.reduceBEq, Int.reduceNe, Int.reduceBNe, reduceCtorEq, Nat.reduceBEq])
  | true =>
    have S := hb rfl
    have B := S.bd
    have hof := fun h => pof_ok B S.nm t h
    have hof2 := fun f h => pof_ok B S.nm f h
    have hix := fun w h => pindex_ok B S.nm t w h
    have hins := fun f h => pins_ok B S.nm t f h
    have hch := fun h => pcheck_ok B S.nm h
    have hlen := ofS_len B t
    by_cases hC : checkS d = 0
    · by_cases hT : isT d t = true
      · have hT2 : ¬ t < 0 ∧ ¬ (d.length : Int) < t := by
          simp only [isT, Bool.and_eq_true, decide_eq_true_eq] at hT; omega
        have hbl := B.len
        have T := check_typed hC
        have outer := loop_all (T := tab) (a := f8l2) (l := ofS d t) (f := fun n => [(0, .d (eDs d)), (1, .d (eI t)), (5, .d (eWs (ofS d t))), (6, int n)]) (h := ⟨[], 0⟩)
          (oN := (.exit 0, [(0, .d (eDs d)), (1, .d (eI t)), (5, .d (eWs (ofS d t))), (6, int (ofS d t).length), (39, .d (.bool false))], ⟨[], 0⟩))
          (by
            intro j w hw hlt
            have hmem := List.mem_of_getElem? hw
            obtain ⟨m, k, y, c, rfl, hy, hc⟩ := ofS_at hmem
            have b' := B.at hy
            have hwr := wrap_sub1 (n := m) (by omega)
            obtain ⟨_, _, hu, _⟩ := ofS_mem.1 hmem
            have hco := consOf_at hy
            have hA := loop_all (T := tab) (a := f8l0) (l := y.cons) (f := fun n => [(0, .d (eDs d)), (1, .d (eI t)), (5, .d (eWs (ofS d t))), (6, .d (.int .i64 j)), (7, .d (eCs y.cons)), (8, int n)]) (h := ⟨[], 0⟩)
                (by intro n x hx hlt; (have hin : ((m : Int) + 1, (n : Int)) ∈ ofS d t := ofS_mem.2 ⟨hC, hT, hu, plT_mem.2 ⟨n, rfl, by rw [hco]; exact hlt⟩⟩); (have hnn := idxS_nn.2 hin); (have hneg : ¬ idxS d t ((m : Int) + 1, (n : Int)) < 0 := by omega); (have hip : ∀ h, callW tab 18 [.d (eDs d), .d (eI t), .d (.agg [.int .i64 ((m : Int) + 1), .int .i64 (n : Int)])] h = some (.d (eI (idxS d t ((m : Int) + 1, (n : Int)))), h) := fun h => hix ((m : Int) + 1, (n : Int)) h); all_goals (apply wq_ex.1; (simp only [hlt, e8, iaW hw, hip, hneg, wrap_succ (show n < 2 ^ 62 by omega), ws, wsl, opX, int, Zv.bool, intBin, reduceIte, ↓reduceIte, Nat.reduceEqDiff, Nat.reduceAdd, Nat.reduceSub, Nat.reduceLeDiff, Int.reduceLT, Int.reduceLE, Int.reduceEq, Int.reduceBEq, Int.reduceNe, Int.reduceBNe, reduceCtorEq, Nat.reduceBEq] <;> repeat' (first | refine wpG_s ?_ ?_ | refine wpC_s ?_ ?_) <;> intro hgo <;> (try simp only [decide_eq_true_eq, decide_eq_false_iff_not, Bool.not_eq_true', Bool.not_eq_false'] at hgo) <;> simp only [hgo, hlt, e8, iaW hw, hip, hneg, wrap_succ (show n < 2 ^ 62 by omega), ws, wsl, opX, int, Zv.bool, intBin, reduceIte, ↓reduceIte, Nat.reduceEqDiff, Nat.reduceAdd, Nat.reduceSub, Nat.reduceLeDiff, Int.reduceLT, Int.reduceLE, Int.reduceEq, Int.reduceBEq, Int.reduceNe, Int.reduceBNe, reduceCtorEq, Nat.reduceBEq])))
                (by apply wq_ex.1; (simp only [e8, ws, wsl, opX, int, Zv.bool, intBin, reduceIte, ↓reduceIte, Nat.reduceEqDiff, Nat.reduceAdd, Nat.reduceSub, Nat.reduceLeDiff, Int.reduceLT, Int.reduceLE, Int.reduceEq, Int.reduceBEq, Int.reduceNe, Int.reduceBNe, reduceCtorEq, Nat.reduceBEq] <;> repeat' (first | refine wpG_s ?_ ?_ | refine wpC_s ?_ ?_) <;> intro hgo <;> (try simp only [decide_eq_true_eq, decide_eq_false_iff_not, Bool.not_eq_true', Bool.not_eq_false'] at hgo) <;> simp only [hgo, e8, ws, wsl, opX, int, Zv.bool, intBin, reduceIte, ↓reduceIte, Nat.reduceEqDiff, Nat.reduceAdd, Nat.reduceSub, Nat.reduceLeDiff, Int.reduceLT, Int.reduceLE, Int.reduceEq, Int.reduceBEq, Int.reduceNe, Int.reduceBNe, reduceCtorEq, Nat.reduceBEq]) <;> rfl)
                (by simp)
            simp only [int, Zv.bool, Int.cast_ofNat_Int] at hA
            have hfl := B.flds y (List.mem_of_getElem? hy) c (List.mem_of_getElem? hc)
            have hB := loop_all (T := tab) (a := f8l1) (l := c.flds) (f := fun n => [(0, .d (eDs d)), (1, .d (eI t)), (5, .d (eWs (ofS d t))), (6, .d (.int .i64 j)), (9, .d (eIs c.flds)), (10, int n)]) (h := ⟨[], 0⟩)
                (by intro n x hx hlt; (have hsub := cont_fld T hT hu (by rw [hco]; exact List.mem_of_getElem? hc) (List.mem_of_getElem? hx)); (have hfT := fld_isT T (t := (m : Int) + 1) (by rw [hco]; exact List.mem_of_getElem? hc) (List.mem_of_getElem? hx)); (have hok : (insS d t x).2 = 0 := insS_ok.2 ⟨hC, hT, hfT, fun w hw => by have := ofS_mem.1 hw; exact ofS_mem.2 ⟨hC, hT, hsub _ this.2.2.1, this.2.2.2⟩⟩); (have hat := insS_at hok); (have hll := insL_len d t x); (have hin := fun h => hins x h); rw [hat] at hin; all_goals (apply wq_ex.1; (simp only [hlt, e8, iaI hx, hin, hof2, hll, wrap_succ (show n < 2 ^ 62 by omega), ws, wsl, opX, int, Zv.bool, intBin, reduceIte, ↓reduceIte, Nat.reduceEqDiff, Nat.reduceAdd, Nat.reduceSub, Nat.reduceLeDiff, Int.reduceLT, Int.reduceLE, Int.reduceEq, Int.reduceBEq, Int.reduceNe, Int.reduceBNe, reduceCtorEq, Nat.reduceBEq] <;> repeat' (first | refine wpG_s ?_ ?_ | refine wpC_s ?_ ?_) <;> intro hgo <;> (try simp only [decide_eq_true_eq, decide_eq_false_iff_not, Bool.not_eq_true', Bool.not_eq_false'] at hgo) <;> simp only [hgo, hlt, e8, iaI hx, hin, hof2, hll, wrap_succ (show n < 2 ^ 62 by omega), ws, wsl, opX, int, Zv.bool, intBin, reduceIte, ↓reduceIte, Nat.reduceEqDiff, Nat.reduceAdd, Nat.reduceSub, Nat.reduceLeDiff, Int.reduceLT, Int.reduceLE, Int.reduceEq, Int.reduceBEq, Int.reduceNe, Int.reduceBNe, reduceCtorEq, Nat.reduceBEq])))
                (by apply wq_ex.1; (simp only [e8, ws, wsl, opX, int, Zv.bool, intBin, reduceIte, ↓reduceIte, Nat.reduceEqDiff, Nat.reduceAdd, Nat.reduceSub, Nat.reduceLeDiff, Int.reduceLT, Int.reduceLE, Int.reduceEq, Int.reduceBEq, Int.reduceNe, Int.reduceBNe, reduceCtorEq, Nat.reduceBEq] <;> repeat' (first | refine wpG_s ?_ ?_ | refine wpC_s ?_ ?_) <;> intro hgo <;> (try simp only [decide_eq_true_eq, decide_eq_false_iff_not, Bool.not_eq_true', Bool.not_eq_false'] at hgo) <;> simp only [hgo, e8, ws, wsl, opX, int, Zv.bool, intBin, reduceIte, ↓reduceIte, Nat.reduceEqDiff, Nat.reduceAdd, Nat.reduceSub, Nat.reduceLeDiff, Int.reduceLT, Int.reduceLE, Int.reduceEq, Int.reduceBEq, Int.reduceNe, Int.reduceBNe, reduceCtorEq, Nat.reduceBEq]) <;> rfl)
                (by simp)
            simp only [int, Zv.bool, Int.cast_ofNat_Int] at hB
            apply wq_ex.1
            (simp only [e8, hlt, iaW hw, hwr, iaD hy, iaC hc, wq_of hA, wq_of hB, wrap_succ (show j < 2 ^ 62 by omega), ws, wsl, opX, int, Zv.bool, intBin, reduceIte, ↓reduceIte, Nat.reduceEqDiff, Nat.reduceAdd, Nat.reduceSub, Nat.reduceLeDiff, Int.reduceLT, Int.reduceLE, Int.reduceEq, Int.reduceBEq, Int.reduceNe, Int.reduceBNe, reduceCtorEq, Nat.reduceBEq] <;> repeat' (first | refine wpG_s ?_ ?_ | refine wpC_s ?_ ?_) <;> intro hgo <;> (try simp only [decide_eq_true_eq, decide_eq_false_iff_not, Bool.not_eq_true', Bool.not_eq_false'] at hgo) <;> simp only [hgo, e8, hlt, iaW hw, hwr, iaD hy, iaC hc, wq_of hA, wq_of hB, wrap_succ (show j < 2 ^ 62 by omega), ws, wsl, opX, int, Zv.bool, intBin, reduceIte, ↓reduceIte, Nat.reduceEqDiff, Nat.reduceAdd, Nat.reduceSub, Nat.reduceLeDiff, Int.reduceLT, Int.reduceLE, Int.reduceEq, Int.reduceBEq, Int.reduceNe, Int.reduceBNe, reduceCtorEq, Nat.reduceBEq]))
          (by apply wq_ex.1; (simp only [e8, ws, wsl, opX, int, Zv.bool, intBin, reduceIte, ↓reduceIte, Nat.reduceEqDiff, Nat.reduceAdd, Nat.reduceSub, Nat.reduceLeDiff, Int.reduceLT, Int.reduceLE, Int.reduceEq, Int.reduceBEq, Int.reduceNe, Int.reduceBNe, reduceCtorEq, Nat.reduceBEq] <;> repeat' (first | refine wpG_s ?_ ?_ | refine wpC_s ?_ ?_) <;> intro hgo <;> (try simp only [decide_eq_true_eq, decide_eq_false_iff_not, Bool.not_eq_true', Bool.not_eq_false'] at hgo) <;> simp only [hgo, e8, ws, wsl, opX, int, Zv.bool, intBin, reduceIte, ↓reduceIte, Nat.reduceEqDiff, Nat.reduceAdd, Nat.reduceSub, Nat.reduceLeDiff, Int.reduceLT, Int.reduceLE, Int.reduceEq, Int.reduceBEq, Int.reduceNe, Int.reduceBNe, reduceCtorEq, Nat.reduceBEq]) <;> rfl) (by simp)
        simp only [int, Int.cast_ofNat_Int] at outer
        (simp only [e8, aw, hf, hch, hC, hT2.1, hT2.2, hof, wq_of outer, ws, wsl, opX, int, Zv.bool, intBin, reduceIte, ↓reduceIte, Nat.reduceEqDiff, Nat.reduceAdd, Nat.reduceSub, Nat.reduceLeDiff, Int.reduceLT, Int.reduceLE, Int.reduceEq, Int.reduceBEq, Int.reduceNe, Int.reduceBNe, reduceCtorEq, Nat.reduceBEq] <;> repeat' (first | refine wpG_s ?_ ?_ | refine wpC_s ?_ ?_) <;> intro hgo <;> (try simp only [decide_eq_true_eq, decide_eq_false_iff_not, Bool.not_eq_true', Bool.not_eq_false'] at hgo) <;> simp only [hgo, e8, aw, hf, hch, hC, hT2.1, hT2.2, hof, wq_of outer, ws, wsl, opX, int, Zv.bool, intBin, reduceIte, ↓reduceIte, Nat.reduceEqDiff, Nat.reduceAdd, Nat.reduceSub, Nat.reduceLeDiff, Int.reduceLT, Int.reduceLE, Int.reduceEq, Int.reduceBEq, Int.reduceNe, Int.reduceBNe, reduceCtorEq, Nat.reduceBEq])
      · by_cases hn : t < 0
        · (simp only [e8, aw, hf, hch, hC, hn, ws, wsl, opX, int, Zv.bool, intBin, reduceIte, ↓reduceIte, Nat.reduceEqDiff, Nat.reduceAdd, Nat.reduceSub, Nat.reduceLeDiff, Int.reduceLT, Int.reduceLE, Int.reduceEq, Int.reduceBEq, Int.reduceNe, Int.reduceBNe, reduceCtorEq, Nat.reduceBEq] <;> repeat' (first | refine wpG_s ?_ ?_ | refine wpC_s ?_ ?_) <;> intro hgo <;> (try simp only [decide_eq_true_eq, decide_eq_false_iff_not, Bool.not_eq_true', Bool.not_eq_false'] at hgo) <;> simp only [hgo, e8, aw, hf, hch, hC, hn, ws, wsl, opX, int, Zv.bool, intBin, reduceIte, ↓reduceIte, Nat.reduceEqDiff, Nat.reduceAdd, Nat.reduceSub, Nat.reduceLeDiff, Int.reduceLT, Int.reduceLE, Int.reduceEq, Int.reduceBEq, Int.reduceNe, Int.reduceBNe, reduceCtorEq, Nat.reduceBEq])
        · have hg : (d.length : Int) < t := by
            simp only [isT, Bool.and_eq_true, decide_eq_true_eq] at hT; omega
          (simp only [e8, aw, hf, hch, hC, hn, hg, ws, wsl, opX, int, Zv.bool, intBin, reduceIte, ↓reduceIte, Nat.reduceEqDiff, Nat.reduceAdd, Nat.reduceSub, Nat.reduceLeDiff, Int.reduceLT, Int.reduceLE, Int.reduceEq, Int.reduceBEq, Int.reduceNe, Int.reduceBNe, reduceCtorEq, Nat.reduceBEq] <;> repeat' (first | refine wpG_s ?_ ?_ | refine wpC_s ?_ ?_) <;> intro hgo <;> (try simp only [decide_eq_true_eq, decide_eq_false_iff_not, Bool.not_eq_true', Bool.not_eq_false'] at hgo) <;> simp only [hgo, e8, aw, hf, hch, hC, hn, hg, ws, wsl, opX, int, Zv.bool, intBin, reduceIte, ↓reduceIte, Nat.reduceEqDiff, Nat.reduceAdd, Nat.reduceSub, Nat.reduceLeDiff, Int.reduceLT, Int.reduceLE, Int.reduceEq, Int.reduceBEq, Int.reduceNe, Int.reduceBNe, reduceCtorEq, Nat.reduceBEq])
    · have e : (checkS d != 0) = true := by simp [hC]
      (simp only [e8, aw, hf, hch, e, ws, wsl, opX, int, Zv.bool, intBin, reduceIte, ↓reduceIte, Nat.reduceEqDiff, Nat.reduceAdd, Nat.reduceSub, Nat.reduceLeDiff, Int.reduceLT, Int.reduceLE, Int.reduceEq, Int.reduceBEq, Int.reduceNe, Int.reduceBNe, reduceCtorEq, Nat.reduceBEq] <;> repeat' (first | refine wpG_s ?_ ?_ | refine wpC_s ?_ ?_) <;> intro hgo <;> (try simp only [decide_eq_true_eq, decide_eq_false_iff_not, Bool.not_eq_true', Bool.not_eq_false'] at hgo) <;> simp only [hgo, e8, aw, hf, hch, e, ws, wsl, opX, int, Zv.bool, intBin, reduceIte, ↓reduceIte, Nat.reduceEqDiff, Nat.reduceAdd, Nat.reduceSub, Nat.reduceLeDiff, Int.reduceLT, Int.reduceLE, Int.reduceEq, Int.reduceBEq, Int.reduceNe, Int.reduceBNe, reduceCtorEq, Nat.reduceBEq])
-- ws, wsl, opX, int, Zv.bool, intBin, reduceIte, ↓reduceIte, Nat.reduceEqDiff, Nat.reduceAdd, Nat.reduceSub, Nat.reduceLeDiff, Int.reduceLT, Int.reduceLE, Int.reduceEq, Int.reduceBEq, Int.reduceNe, Int.reduceBNe, reduceCtorEq, Nat.reduceBEq
end Zc18
