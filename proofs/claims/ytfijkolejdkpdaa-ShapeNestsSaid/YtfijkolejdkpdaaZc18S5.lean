/-
  The places of a shape: Of.
-/
import Derived.Test.YtfijkolejdkpdaaZc18S4
set_option linter.unusedSimpArgs false
set_option maxHeartbeats 4000000
namespace Zc18
open Go Zv Zs

abbrev Wd := Int × Int
abbrev eW (w : Wd) : D := .agg [.int .i64 w.1, .int .i64 w.2]
abbrev eWs (l : List Wd) : D := .lst (l.map eW)
theorem iaW {l : List Wd} {n : Nat} {x : Wd} (hx : l[n]? = some x) : ia 2 (.d (.lst (l.map eW))) (.d (.int .i64 (n : Int))) = some (.fp (eW x) 0) := ia_map (f := eW) .i64 hx rfl
theorem rowW_app (h : Hp) (s : List Wd) (w : Wd) (hl : s.length < 2 ^ 20) : app 2 16 (rowH h 2 (s.map eW)) (rowV h 2 (s.map eW)) (.tl [.d (eW w)] (some false)) = some (rowV h 2 ((s ++ [w]).map eW), rowH h 2 ((s ++ [w]).map eW)) := by
  have := rowD_app h (es := 2) (b := 16) (l := s.map eW) (x := eW w) rfl (by simp only [List.length_map, roomB]; omega) (fun y hy => by obtain ⟨w, _, rfl⟩ := List.mem_map.1 hy; rfl)
  rw [this, List.map_append]; rfl
theorem finS_row (h : Hp) (l : List D) : finS h (rowH h 2 l) [rowV h 2 l] = some (.d (.lst l), h) := by
  have := finish_row (fn := ⟨0, [0], true, .skip⟩) (h := h) (l := l) (es := 2) (t := 0) (e := [(0, rowV h 2 l)]) rfl rfl rfl
  exact this
theorem contS_nf (d : List Dt) : ∀ (k : Nat) (t : Int) (l : List Int), (∀ x, x ∈ l → flatS d x = false) → ∀ x, x ∈ contS d k t l → flatS d x = false
  | 0, _, _, I => I
  | k + 1, t, l, I => by
    unfold contS
    split
    · exact I
    · rename_i hc
      have hF : flatS d t = false := by cases h : flatS d t with
        | true => exact absurd (.inl h) hc
        | false => rfl
      refine fold_keep (P := fun s => ∀ x, x ∈ s → flatS d x = false) (fun s c _ hs => ?_) ?_
      · exact fold_keep (P := fun s => ∀ x, x ∈ s → flatS d x = false) (fun s f _ hs => contS_nf d k f s hs) hs
      · intro x hx
        rcases List.mem_append.1 hx with hx | hx
        · exact I x hx
        · simp at hx; subst hx; exact hF
theorem cont_at {d : List Dt} (T : typedS d = true) {t : Int} (hT : isT d t = true) {u : Int} (hu : u ∈ cont d t) : ∃ (m : Nat) (y : Dt), u = (m : Int) + 1 ∧ d[m]? = some y := by
  have h1 := (cont_inv T hT).ty u hu
  have h2 := contS_nf d _ t [] (fun x hx => by cases hx) u hu
  rcases tcase d u with h0 | h0 | ⟨m, y, rfl, hy⟩
  · unfold flatS at h2; rw [h1, consOf_lo h0] at h2; simp at h2
  · unfold flatS at h2; rw [h1, consOf_hi h0] at h2; simp at h2
  · exact ⟨m, y, rfl, hy⟩
/-- The places of one type. -/
def plT (d : List Dt) (u : Int) : List Wd := (List.range (consOf d u).length).map fun k : Nat => (u, (k : Int))
/-- The places of a shape. -/
def ofS (d : List Dt) (t : Int) : List Wd := if checkS d = 0 ∧ isT d t = true then (cont d t).flatMap (plT d) else []
theorem plT_fold (u : Int) : ∀ (n : Nat) (s : List Wd), (List.range n).foldl (fun s (k : Nat) => s ++ [(u, (k : Int))]) s = s ++ (List.range n).map fun k : Nat => (u, (k : Int))
  | 0, s => by simp
  | n + 1, s => by rw [List.range_succ, List.foldl_append, plT_fold u n]; simp
theorem of_fold (d : List Dt) : ∀ (l : List Int) (s : List Wd), l.foldl (fun s u => s ++ plT d u) s = s ++ l.flatMap (plT d)
  | [], s => by simp
  | u :: l, s => by rw [List.foldl_cons, of_fold d l]; simp
theorem rng {n k : Nat} {x : Nat} (h : (List.range n)[k]? = some x) : x = k ∧ k < n := by
  have h1 := lt_of_get h
  rw [List.length_range] at h1
  rw [List.getElem?_range h1] at h
  cases h; exact ⟨rfl, h1⟩
theorem pof_ok {d : List Dt} (B : Bd d) (N : Nm d) (t : Int) (h : Hp) : callW tab 11 [.d (eDs d), .d (eI t)] h = some (.d (eWs (ofS d t)), h) := by
  apply call_wp (fn := f11) rfl rfl
  unfold ofS
  have hch := fun hh => pcheck_ok B N hh
  by_cases hC : checkS d = 0
  · by_cases hT : isT d t = true
    · rw [if_pos ⟨hC, hT⟩]
      have T := check_typed hC
      have hpc := fun hh => pcont_ok B T hT hh
      have I := cont_inv T hT
      have hll := I.len
      have hbl := B.len
      have inner : ∀ (j m : Nat) (y : Dt) (s : List Wd), d[m]? = some y → s.length ≤ 30 * j → j < 102 →
          ex tab (.loop f11l0) [(0, .d (eDs d)), (5, rowV h 2 (s.map eW)), (7, .d (.int .i64 ((m : Int) + 1))), (20, .d (eIs (cont d t))), (21, .d (.int .i64 (cont d t).length)), (22, .d (.int .i64 j)), (32, .d (.int .i64 y.cons.length)), (33, .d (.int .i64 0))] (rowH h 2 (s.map eW)) =
            some (.exit 2, [(0, .d (eDs d)), (5, rowV h 2 ((s ++ plT d ((m : Int) + 1)).map eW)), (7, .d (.int .i64 ((m : Int) + 1))), (20, .d (eIs (cont d t))), (21, .d (.int .i64 (cont d t).length)), (22, .d (.int .i64 j)), (32, .d (.int .i64 y.cons.length)), (33, .d (.int .i64 y.cons.length)), (34, .d (.bool false))], rowH h 2 ((s ++ plT d ((m : Int) + 1)).map eW)) := by
        intro j m y s hy hs hj
        have b := B.at hy
        have := loop_fold (T := tab) (a := f11l0) (l := List.range y.cons.length) (fun k s => [(0, .d (eDs d)), (5, rowV h 2 (s.map eW)), (7, .d (.int .i64 ((m : Int) + 1))), (20, .d (eIs (cont d t))), (21, .d (.int .i64 (cont d t).length)), (22, .d (.int .i64 j)), (32, .d (.int .i64 y.cons.length)), (33, int k)]) (fun _ s => rowH h 2 (s.map eW)) (fun k s => s.length ≤ 30 * j + k)
          (fun s (k : Nat) => s ++ [((m : Int) + 1, (k : Int))]) (fun s => (.exit 2, [(0, .d (eDs d)), (5, rowV h 2 (s.map eW)), (7, .d (.int .i64 ((m : Int) + 1))), (20, .d (eIs (cont d t))), (21, .d (.int .i64 (cont d t).length)), (22, .d (.int .i64 j)), (32, .d (.int .i64 y.cons.length)), (33, .d (.int .i64 y.cons.length)), (34, .d (.bool false))], rowH h 2 (s.map eW)))
          (by
            intro k s x hx hlt hk
            obtain ⟨rfl, hkn⟩ := rng hx
            refine ⟨?_, by rw [List.length_append, List.length_singleton]; omega⟩
            apply wq_ex.1
            (simp only [e11, hkn, rowW_app h s ((m : Int) + 1, (x : Int)) (by omega), wrap_succ (show x < 2 ^ 62 by omega), ws, wsl, opX, int, Zv.bool, intBin, reduceIte, ↓reduceIte, Nat.reduceEqDiff, Nat.reduceAdd, Nat.reduceSub, Nat.reduceLeDiff, Int.reduceLT, Int.reduceLE, Int.reduceEq, Int.reduceBEq, Int.reduceNe, Int.reduceBNe, reduceCtorEq, Nat.reduceBEq] <;> repeat' (first | refine wpG_s ?_ ?_ | refine wpC_s ?_ ?_) <;> intro hgo <;> (try simp only [decide_eq_true_eq, decide_eq_false_iff_not, Bool.not_eq_true', Bool.not_eq_false'] at hgo) <;> simp only [hgo, e11, hkn, rowW_app h s ((m : Int) + 1, (x : Int)) (by omega), wrap_succ (show x < 2 ^ 62 by omega), ws, wsl, opX, int, Zv.bool, intBin, reduceIte, ↓reduceIte, Nat.reduceEqDiff, Nat.reduceAdd, Nat.reduceSub, Nat.reduceLeDiff, Int.reduceLT, Int.reduceLE, Int.reduceEq, Int.reduceBEq, Int.reduceNe, Int.reduceBNe, reduceCtorEq, Nat.reduceBEq]))
          (by
            intro s _
            apply wq_ex.1
            (simp only [e11, List.length_range, ws, wsl, opX, int, Zv.bool, intBin, reduceIte, ↓reduceIte, Nat.reduceEqDiff, Nat.reduceAdd, Nat.reduceSub, Nat.reduceLeDiff, Int.reduceLT, Int.reduceLE, Int.reduceEq, Int.reduceBEq, Int.reduceNe, Int.reduceBNe, reduceCtorEq, Nat.reduceBEq] <;> repeat' (first | refine wpG_s ?_ ?_ | refine wpC_s ?_ ?_) <;> intro hgo <;> (try simp only [decide_eq_true_eq, decide_eq_false_iff_not, Bool.not_eq_true', Bool.not_eq_false'] at hgo) <;> simp only [hgo, e11, List.length_range, ws, wsl, opX, int, Zv.bool, intBin, reduceIte, ↓reduceIte, Nat.reduceEqDiff, Nat.reduceAdd, Nat.reduceSub, Nat.reduceLeDiff, Int.reduceLT, Int.reduceLE, Int.reduceEq, Int.reduceBEq, Int.reduceNe, Int.reduceBNe, reduceCtorEq, Nat.reduceBEq]))
          (by intro s; simp) s (by omega)
        rw [plT_fold] at this
        simp only [int, Int.cast_ofNat_Int] at this
        unfold plT
        rw [consOf_at hy]
        exact this
      have outer := loop_fold (T := tab) (a := f11l1) (l := cont d t) (fun j s => [(0, .d (eDs d)), (5, rowV h 2 (s.map eW)), (20, .d (eIs (cont d t))), (21, .d (.int .i64 (cont d t).length)), (22, int j)]) (fun _ s => rowH h 2 (s.map eW)) (fun j s => s.length ≤ 30 * j)
          (fun s u => s ++ plT d u) (fun s => (.exit 0, [(0, .d (eDs d)), (5, rowV h 2 (s.map eW)), (20, .d (eIs (cont d t))), (21, .d (.int .i64 (cont d t).length)), (22, .d (.int .i64 (cont d t).length)), (23, .d (.bool false))], rowH h 2 (s.map eW)))
          (by
            intro j s u hu hlt hs
            obtain ⟨m, y, rfl, hy⟩ := cont_at T hT (List.mem_of_getElem? hu)
            have b := B.at hy
            have hw := wrap_sub1 (n := m) (by omega)
            have hin := inner j m y s hy hs (by omega)
            refine ⟨?_, by rw [List.length_append]; unfold plT; rw [List.length_map, List.length_range, consOf_at hy]; omega⟩
            apply wq_ex.1
            (simp only [e11, hlt, iaI hu, hw, iaD hy, wq_of hin, wrap_succ (show j < 2 ^ 62 by omega), ws, wsl, opX, int, Zv.bool, intBin, reduceIte, ↓reduceIte, Nat.reduceEqDiff, Nat.reduceAdd, Nat.reduceSub, Nat.reduceLeDiff, Int.reduceLT, Int.reduceLE, Int.reduceEq, Int.reduceBEq, Int.reduceNe, Int.reduceBNe, reduceCtorEq, Nat.reduceBEq] <;> repeat' (first | refine wpG_s ?_ ?_ | refine wpC_s ?_ ?_) <;> intro hgo <;> (try simp only [decide_eq_true_eq, decide_eq_false_iff_not, Bool.not_eq_true', Bool.not_eq_false'] at hgo) <;> simp only [hgo, e11, hlt, iaI hu, hw, iaD hy, wq_of hin, wrap_succ (show j < 2 ^ 62 by omega), ws, wsl, opX, int, Zv.bool, intBin, reduceIte, ↓reduceIte, Nat.reduceEqDiff, Nat.reduceAdd, Nat.reduceSub, Nat.reduceLeDiff, Int.reduceLT, Int.reduceLE, Int.reduceEq, Int.reduceBEq, Int.reduceNe, Int.reduceBNe, reduceCtorEq, Nat.reduceBEq]))
          (by
            intro s _
            apply wq_ex.1
            (simp only [e11, ws, wsl, opX, int, Zv.bool, intBin, reduceIte, ↓reduceIte, Nat.reduceEqDiff, Nat.reduceAdd, Nat.reduceSub, Nat.reduceLeDiff, Int.reduceLT, Int.reduceLE, Int.reduceEq, Int.reduceBEq, Int.reduceNe, Int.reduceBNe, reduceCtorEq, Nat.reduceBEq] <;> repeat' (first | refine wpG_s ?_ ?_ | refine wpC_s ?_ ?_) <;> intro hgo <;> (try simp only [decide_eq_true_eq, decide_eq_false_iff_not, Bool.not_eq_true', Bool.not_eq_false'] at hgo) <;> simp only [hgo, e11, ws, wsl, opX, int, Zv.bool, intBin, reduceIte, ↓reduceIte, Nat.reduceEqDiff, Nat.reduceAdd, Nat.reduceSub, Nat.reduceLeDiff, Int.reduceLT, Int.reduceLE, Int.reduceEq, Int.reduceBEq, Int.reduceNe, Int.reduceBNe, reduceCtorEq, Nat.reduceBEq]))
          (by intro s; simp) [] (by simp)
      rw [of_fold, List.nil_append] at outer
      simp only [int, Int.cast_ofNat_Int, List.map_nil, rowV_nil, rowH_nil] at outer
      (simp only [e11, hch, hC, sexists_ok, hT, hpc, wq_of outer, finS_row, ws, wsl, opX, int, Zv.bool, intBin, reduceIte, ↓reduceIte, Nat.reduceEqDiff, Nat.reduceAdd, Nat.reduceSub, Nat.reduceLeDiff, Int.reduceLT, Int.reduceLE, Int.reduceEq, Int.reduceBEq, Int.reduceNe, Int.reduceBNe, reduceCtorEq, Nat.reduceBEq] <;> repeat' (first | refine wpG_s ?_ ?_ | refine wpC_s ?_ ?_) <;> intro hgo <;> (try simp only [decide_eq_true_eq, decide_eq_false_iff_not, Bool.not_eq_true', Bool.not_eq_false'] at hgo) <;> simp only [hgo, e11, hch, hC, sexists_ok, hT, hpc, wq_of outer, finS_row, ws, wsl, opX, int, Zv.bool, intBin, reduceIte, ↓reduceIte, Nat.reduceEqDiff, Nat.reduceAdd, Nat.reduceSub, Nat.reduceLeDiff, Int.reduceLT, Int.reduceLE, Int.reduceEq, Int.reduceBEq, Int.reduceNe, Int.reduceBNe, reduceCtorEq, Nat.reduceBEq])
    · rw [if_neg (by simp [hT])]
      have hT' : isT d t = false := by simpa using hT
      (simp only [e11, hch, hC, sexists_ok, hT', List.map_nil, ws, wsl, opX, int, Zv.bool, intBin, reduceIte, ↓reduceIte, Nat.reduceEqDiff, Nat.reduceAdd, Nat.reduceSub, Nat.reduceLeDiff, Int.reduceLT, Int.reduceLE, Int.reduceEq, Int.reduceBEq, Int.reduceNe, Int.reduceBNe, reduceCtorEq, Nat.reduceBEq] <;> repeat' (first | refine wpG_s ?_ ?_ | refine wpC_s ?_ ?_) <;> intro hgo <;> (try simp only [decide_eq_true_eq, decide_eq_false_iff_not, Bool.not_eq_true', Bool.not_eq_false'] at hgo) <;> simp only [hgo, e11, hch, hC, sexists_ok, hT', List.map_nil, ws, wsl, opX, int, Zv.bool, intBin, reduceIte, ↓reduceIte, Nat.reduceEqDiff, Nat.reduceAdd, Nat.reduceSub, Nat.reduceLeDiff, Int.reduceLT, Int.reduceLE, Int.reduceEq, Int.reduceBEq, Int.reduceNe, Int.reduceBNe, reduceCtorEq, Nat.reduceBEq])
  · rw [if_neg (by simp [hC])]
    have e : (checkS d != 0) = true := by simp [hC]
    (simp only [e11, hch, e, List.map_nil, ws, wsl, opX, int, Zv.bool, intBin, reduceIte, ↓reduceIte, Nat.reduceEqDiff, Nat.reduceAdd, Nat.reduceSub, Nat.reduceLeDiff, Int.reduceLT, Int.reduceLE, Int.reduceEq, Int.reduceBEq, Int.reduceNe, Int.reduceBNe, reduceCtorEq, Nat.reduceBEq] <;> repeat' (first | refine wpG_s ?_ ?_ | refine wpC_s ?_ ?_) <;> intro hgo <;> (try simp only [decide_eq_true_eq, decide_eq_false_iff_not, Bool.not_eq_true', Bool.not_eq_false'] at hgo) <;> simp only [hgo, e11, hch, e, List.map_nil, ws, wsl, opX, int, Zv.bool, intBin, reduceIte, ↓reduceIte, Nat.reduceEqDiff, Nat.reduceAdd, Nat.reduceSub, Nat.reduceLeDiff, Int.reduceLT, Int.reduceLE, Int.reduceEq, Int.reduceBEq, Int.reduceNe, Int.reduceBNe, reduceCtorEq, Nat.reduceBEq])
-- ws, wsl, opX, int, Zv.bool, intBin, reduceIte, ↓reduceIte, Nat.reduceEqDiff, Nat.reduceAdd, Nat.reduceSub, Nat.reduceLeDiff, Int.reduceLT, Int.reduceLE, Int.reduceEq, Int.reduceBEq, Int.reduceNe, Int.reduceBNe, reduceCtorEq, Nat.reduceBEq
end Zc18
