/-
  The reference's Of.
-/
import Derived.Test.YtfijkolejdkpdaaZc18S5
set_option linter.unusedSimpArgs false
set_option maxHeartbeats 4000000
namespace Zc18
open Go Zv Zs

theorem rof_ok {d : List Dt} (B : Bd d) (N : Nm d) (t : Int) (h : Hp) : callW tab 12 [.d (eDs d), .d (eI t)] h = some (.d (eWs (ofS d t)), h) := by
  apply call_wp (fn := f12) rfl rfl
  unfold ofS
  have hch := fun hh => rcheck_ok B N hh
  by_cases hC : checkS d = 0
  · by_cases hT : isT d t = true
    · rw [if_pos ⟨hC, hT⟩]
      have T := check_typed hC
      have hpc := fun hh => rcont_ok B T hT hh
      have I := cont_inv T hT
      have hll := I.len
      have hbl := B.len
      have inner : ∀ (j m : Nat) (y : Dt) (s : List Wd), (cont d t)[j]? = some ((m : Int) + 1) → d[m]? = some y → s.length ≤ 30 * j → j < 102 →
          ex tab (.loop f12l0) [(0, .d (eDs d)), (5, .d (eIs (cont d t))), (6, rowV h 2 (s.map eW)), (7, .d (.int .i64 j)), (8, .d (.int .i64 0))] (rowH h 2 (s.map eW)) =
            some (.exit 2, [(0, .d (eDs d)), (5, .d (eIs (cont d t))), (6, rowV h 2 ((s ++ plT d ((m : Int) + 1)).map eW)), (7, .d (.int .i64 j)), (8, .d (.int .i64 y.cons.length)), (38, .d (.bool false))], rowH h 2 ((s ++ plT d ((m : Int) + 1)).map eW)) := by
        intro j m y s hu hy hs hj
        have b := B.at hy
        have hw := wrap_sub1 (n := m) (by omega)
        have hjl := lt_of_get hu
        have := loop_fold (T := tab) (a := f12l0) (l := List.range y.cons.length) (fun k s => [(0, .d (eDs d)), (5, .d (eIs (cont d t))), (6, rowV h 2 (s.map eW)), (7, .d (.int .i64 j)), (8, int k)]) (fun _ s => rowH h 2 (s.map eW)) (fun k s => s.length ≤ 30 * j + k)
          (fun s (k : Nat) => s ++ [((m : Int) + 1, (k : Int))]) (fun s => (.exit 2, [(0, .d (eDs d)), (5, .d (eIs (cont d t))), (6, rowV h 2 (s.map eW)), (7, .d (.int .i64 j)), (8, .d (.int .i64 y.cons.length)), (38, .d (.bool false))], rowH h 2 (s.map eW)))
          (by
            intro k s x hx hlt hk
            obtain ⟨rfl, hkn⟩ := rng hx
            refine ⟨?_, by rw [List.length_append, List.length_singleton]; omega⟩
            apply wq_ex.1
            (simp only [e12, hkn, iaI hu, hw, iaD hy, rowW_app h s ((m : Int) + 1, (x : Int)) (by omega), wrap_succ (show x < 2 ^ 62 by omega), ws, wsl, opX, int, Zv.bool, intBin, reduceIte, ↓reduceIte, Nat.reduceEqDiff, Nat.reduceAdd, Nat.reduceSub, Nat.reduceLeDiff, Int.reduceLT, Int.reduceLE, Int.reduceEq, Int.reduceBEq, Int.reduceNe, Int.reduceBNe, reduceCtorEq, Nat.reduceBEq] <;> repeat' (first | refine wpG_s ?_ ?_ | refine wpC_s ?_ ?_) <;> intro hgo <;> (try simp only [decide_eq_true_eq, decide_eq_false_iff_not, Bool.not_eq_true', Bool.not_eq_false'] at hgo) <;> simp only [hgo, e12, hkn, iaI hu, hw, iaD hy, rowW_app h s ((m : Int) + 1, (x : Int)) (by omega), wrap_succ (show x < 2 ^ 62 by omega), ws, wsl, opX, int, Zv.bool, intBin, reduceIte, ↓reduceIte, Nat.reduceEqDiff, Nat.reduceAdd, Nat.reduceSub, Nat.reduceLeDiff, Int.reduceLT, Int.reduceLE, Int.reduceEq, Int.reduceBEq, Int.reduceNe, Int.reduceBNe, reduceCtorEq, Nat.reduceBEq]))
          (by
            intro s _
            apply wq_ex.1
            (simp only [e12, List.length_range, iaI hu, hw, iaD hy, ws, wsl, opX, int, Zv.bool, intBin, reduceIte, ↓reduceIte, Nat.reduceEqDiff, Nat.reduceAdd, Nat.reduceSub, Nat.reduceLeDiff, Int.reduceLT, Int.reduceLE, Int.reduceEq, Int.reduceBEq, Int.reduceNe, Int.reduceBNe, reduceCtorEq, Nat.reduceBEq] <;> repeat' (first | refine wpG_s ?_ ?_ | refine wpC_s ?_ ?_) <;> intro hgo <;> (try simp only [decide_eq_true_eq, decide_eq_false_iff_not, Bool.not_eq_true', Bool.not_eq_false'] at hgo) <;> simp only [hgo, e12, List.length_range, iaI hu, hw, iaD hy, ws, wsl, opX, int, Zv.bool, intBin, reduceIte, ↓reduceIte, Nat.reduceEqDiff, Nat.reduceAdd, Nat.reduceSub, Nat.reduceLeDiff, Int.reduceLT, Int.reduceLE, Int.reduceEq, Int.reduceBEq, Int.reduceNe, Int.reduceBNe, reduceCtorEq, Nat.reduceBEq]))
          (by intro s; simp) s (by omega)
        rw [plT_fold] at this
        simp only [int, Int.cast_ofNat_Int] at this
        unfold plT
        rw [consOf_at hy]
        exact this
      have outer := loop_fold (T := tab) (a := f12l1) (l := cont d t) (fun j s => [(0, .d (eDs d)), (5, .d (eIs (cont d t))), (6, rowV h 2 (s.map eW)), (7, int j)]) (fun _ s => rowH h 2 (s.map eW)) (fun j s => s.length ≤ 30 * j)
          (fun s u => s ++ plT d u) (fun s => (.exit 0, [(0, .d (eDs d)), (5, .d (eIs (cont d t))), (6, rowV h 2 (s.map eW)), (7, .d (.int .i64 (cont d t).length)), (24, .d (.bool false))], rowH h 2 (s.map eW)))
          (by
            intro j s u hu hlt hs
            obtain ⟨m, y, rfl, hy⟩ := cont_at T hT (List.mem_of_getElem? hu)
            have b := B.at hy
            have hin := inner j m y s hu hy hs (by omega)
            refine ⟨?_, by rw [List.length_append]; unfold plT; rw [List.length_map, List.length_range, consOf_at hy]; omega⟩
            apply wq_ex.1
            (simp only [e12, hlt, wq_of hin, wrap_succ (show j < 2 ^ 62 by omega), ws, wsl, opX, int, Zv.bool, intBin, reduceIte, ↓reduceIte, Nat.reduceEqDiff, Nat.reduceAdd, Nat.reduceSub, Nat.reduceLeDiff, Int.reduceLT, Int.reduceLE, Int.reduceEq, Int.reduceBEq, Int.reduceNe, Int.reduceBNe, reduceCtorEq, Nat.reduceBEq] <;> repeat' (first | refine wpG_s ?_ ?_ | refine wpC_s ?_ ?_) <;> intro hgo <;> (try simp only [decide_eq_true_eq, decide_eq_false_iff_not, Bool.not_eq_true', Bool.not_eq_false'] at hgo) <;> simp only [hgo, e12, hlt, wq_of hin, wrap_succ (show j < 2 ^ 62 by omega), ws, wsl, opX, int, Zv.bool, intBin, reduceIte, ↓reduceIte, Nat.reduceEqDiff, Nat.reduceAdd, Nat.reduceSub, Nat.reduceLeDiff, Int.reduceLT, Int.reduceLE, Int.reduceEq, Int.reduceBEq, Int.reduceNe, Int.reduceBNe, reduceCtorEq, Nat.reduceBEq]))
          (by
            intro s _
            apply wq_ex.1
            (simp only [e12, ws, wsl, opX, int, Zv.bool, intBin, reduceIte, ↓reduceIte, Nat.reduceEqDiff, Nat.reduceAdd, Nat.reduceSub, Nat.reduceLeDiff, Int.reduceLT, Int.reduceLE, Int.reduceEq, Int.reduceBEq, Int.reduceNe, Int.reduceBNe, reduceCtorEq, Nat.reduceBEq] <;> repeat' (first | refine wpG_s ?_ ?_ | refine wpC_s ?_ ?_) <;> intro hgo <;> (try simp only [decide_eq_true_eq, decide_eq_false_iff_not, Bool.not_eq_true', Bool.not_eq_false'] at hgo) <;> simp only [hgo, e12, ws, wsl, opX, int, Zv.bool, intBin, reduceIte, ↓reduceIte, Nat.reduceEqDiff, Nat.reduceAdd, Nat.reduceSub, Nat.reduceLeDiff, Int.reduceLT, Int.reduceLE, Int.reduceEq, Int.reduceBEq, Int.reduceNe, Int.reduceBNe, reduceCtorEq, Nat.reduceBEq]))
          (by intro s; simp) [] (by simp)
      rw [of_fold, List.nil_append] at outer
      simp only [int, Int.cast_ofNat_Int, List.map_nil, rowV_nil, rowH_nil] at outer
      (simp only [e12, hch, hC, sisT_ok, hT, hpc, wq_of outer, finS_row, ws, wsl, opX, int, Zv.bool, intBin, reduceIte, ↓reduceIte, Nat.reduceEqDiff, Nat.reduceAdd, Nat.reduceSub, Nat.reduceLeDiff, Int.reduceLT, Int.reduceLE, Int.reduceEq, Int.reduceBEq, Int.reduceNe, Int.reduceBNe, reduceCtorEq, Nat.reduceBEq] <;> repeat' (first | refine wpG_s ?_ ?_ | refine wpC_s ?_ ?_) <;> intro hgo <;> (try simp only [decide_eq_true_eq, decide_eq_false_iff_not, Bool.not_eq_true', Bool.not_eq_false'] at hgo) <;> simp only [hgo, e12, hch, hC, sisT_ok, hT, hpc, wq_of outer, finS_row, ws, wsl, opX, int, Zv.bool, intBin, reduceIte, ↓reduceIte, Nat.reduceEqDiff, Nat.reduceAdd, Nat.reduceSub, Nat.reduceLeDiff, Int.reduceLT, Int.reduceLE, Int.reduceEq, Int.reduceBEq, Int.reduceNe, Int.reduceBNe, reduceCtorEq, Nat.reduceBEq])
    · rw [if_neg (by simp [hT])]
      have hT' : isT d t = false := by simpa using hT
      (simp only [e12, hch, hC, sisT_ok, hT', List.map_nil, ws, wsl, opX, int, Zv.bool, intBin, reduceIte, ↓reduceIte, Nat.reduceEqDiff, Nat.reduceAdd, Nat.reduceSub, Nat.reduceLeDiff, Int.reduceLT, Int.reduceLE, Int.reduceEq, Int.reduceBEq, Int.reduceNe, Int.reduceBNe, reduceCtorEq, Nat.reduceBEq] <;> repeat' (first | refine wpG_s ?_ ?_ | refine wpC_s ?_ ?_) <;> intro hgo <;> (try simp only [decide_eq_true_eq, decide_eq_false_iff_not, Bool.not_eq_true', Bool.not_eq_false'] at hgo) <;> simp only [hgo, e12, hch, hC, sisT_ok, hT', List.map_nil, ws, wsl, opX, int, Zv.bool, intBin, reduceIte, ↓reduceIte, Nat.reduceEqDiff, Nat.reduceAdd, Nat.reduceSub, Nat.reduceLeDiff, Int.reduceLT, Int.reduceLE, Int.reduceEq, Int.reduceBEq, Int.reduceNe, Int.reduceBNe, reduceCtorEq, Nat.reduceBEq])
  · rw [if_neg (by simp [hC])]
    have e : (checkS d != 0) = true := by simp [hC]
    (simp only [e12, hch, e, List.map_nil, ws, wsl, opX, int, Zv.bool, intBin, reduceIte, ↓reduceIte, Nat.reduceEqDiff, Nat.reduceAdd, Nat.reduceSub, Nat.reduceLeDiff, Int.reduceLT, Int.reduceLE, Int.reduceEq, Int.reduceBEq, Int.reduceNe, Int.reduceBNe, reduceCtorEq, Nat.reduceBEq] <;> repeat' (first | refine wpG_s ?_ ?_ | refine wpC_s ?_ ?_) <;> intro hgo <;> (try simp only [decide_eq_true_eq, decide_eq_false_iff_not, Bool.not_eq_true', Bool.not_eq_false'] at hgo) <;> simp only [hgo, e12, hch, e, List.map_nil, ws, wsl, opX, int, Zv.bool, intBin, reduceIte, ↓reduceIte, Nat.reduceEqDiff, Nat.reduceAdd, Nat.reduceSub, Nat.reduceLeDiff, Int.reduceLT, Int.reduceLE, Int.reduceEq, Int.reduceBEq, Int.reduceNe, Int.reduceBNe, reduceCtorEq, Nat.reduceBEq])
theorem ofS_len {d : List Dt} (B : Bd d) (t : Int) : (ofS d t).length ≤ 3030 := by
  unfold ofS
  split
  · rename_i hc
    have I := cont_inv (check_typed hc.1) hc.2
    have hll := I.len
    have hbl := B.len
    have : ∀ l : List Int, (l.flatMap (plT d)).length ≤ 30 * l.length := by
      intro l
      induction l with
      | nil => simp
      | cons u l ih =>
        rw [List.flatMap_cons, List.length_append, List.length_cons]
        have hu : (plT d u).length ≤ 30 := by unfold plT; rw [List.length_map, List.length_range]; exact consOf_len B u
        omega
    have := this (cont d t)
    omega
  · simp
/-- A place is one of the table. -/
theorem ofS_at {d : List Dt} {t : Int} {w : Wd} (hw : w ∈ ofS d t) : ∃ (m k : Nat) (y : Dt) (c : Cn), w = ((m : Int) + 1, (k : Int)) ∧ d[m]? = some y ∧ y.cons[k]? = some c := by
  unfold ofS at hw
  split at hw
  · rename_i hc
    obtain ⟨u, hu, hw⟩ := List.mem_flatMap.1 hw
    obtain ⟨m, y, rfl, hy⟩ := cont_at (check_typed hc.1) hc.2 hu
    unfold plT at hw
    rw [consOf_at hy] at hw
    obtain ⟨k, hk, rfl⟩ := List.mem_map.1 hw
    obtain ⟨c, hc⟩ := get_of_lt (List.mem_range.1 hk)
    exact ⟨m, k, y, c, rfl, hy, hc⟩
  · cases hw
-- ws, wsl, opX, int, Zv.bool, intBin, reduceIte, ↓reduceIte, Nat.reduceEqDiff, Nat.reduceAdd, Nat.reduceSub, Nat.reduceLeDiff, Int.reduceLT, Int.reduceLE, Int.reduceEq, Int.reduceBEq, Int.reduceNe, Int.reduceBNe, reduceCtorEq, Nat.reduceBEq
end Zc18
