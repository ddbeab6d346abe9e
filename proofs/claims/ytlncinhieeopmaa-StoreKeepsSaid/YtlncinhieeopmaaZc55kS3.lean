/-
  Cells that are given back, and a new store.
-/
import Derived.Test.YtlncinhieeopmaaZc55kS2
set_option linter.unusedSimpArgs false
set_option maxHeartbeats 4000000
namespace Zc55k
open Go Zv Zs

def giveS (S : St) (n : Int) : Int × St := if sErrA S.cells n ≠ 0 then (sErrA S.cells n, S) else (0, ⟨S.cells.set n.toNat (false, 0, []), n.toNat :: S.free⟩)
theorem sErrA_ok {A : List ACl} {n : Int} (h : sErrA A n = 0) : ∃ (i : Nat) (c : ACl), n = i ∧ A[i]? = some c ∧ c.1 = true := by
  unfold sErrA at h
  split at h
  · cases h
  · rename_i h0
    split at h
    · rename_i c hc
      split at h
      · rename_i hu; exact ⟨n.toNat, c, by omega, hc, hu⟩
      · cases h
    · cases h


/-! ### A new store -/
def newC (n i : Nat) : List PC := (List.range n).map fun j => ⟨false, 0, [], if j < i then ((j + 1 : Nat) : Int) else 0, .fresh⟩
theorem newC_len (n i : Nat) : (newC n i).length = n := by simp [newC]
theorem newC_at {n i j : Nat} (hj : j < n) : (newC n i)[j]? = some ⟨false, 0, [], if j < i then ((j + 1 : Nat) : Int) else 0, .fresh⟩ := by simp [newC, hj]
theorem newC_set {n i : Nat} (hi : i < n) : (newC n i).set i ⟨false, 0, [], ((i + 1 : Nat) : Int), .fresh⟩ = newC n (i + 1) := by
  apply List.ext_getElem?
  intro j
  by_cases hij : i = j
  · subst hij
    rw [List.getElem?_set_self (by rw [newC_len]; exact hi), newC_at hi, if_pos (by omega)]
  · rw [List.getElem?_set_ne hij]
    by_cases hj : j < n
    · rw [newC_at hj, newC_at hj]
      by_cases h1 : j < i
      · rw [if_pos h1, if_pos (by omega)]
      · rw [if_neg h1, if_neg (by omega)]
    · rw [List.getElem?_eq_none (by rw [newC_len]; omega), List.getElem?_eq_none (by rw [newC_len]; omega)]
def hN (h : Hp) (n i : Nat) : Hp := ⟨(h.next + 1, .arr 3 [.agg [.own h.next 4 n 0 n, .d (eI 0), .d (eI n)]]) :: (h.next, .arr 4 ((newC n i).map cV)) :: h.objs, h.next + 2⟩
theorem hN_s (h : Hp) (n i : Nat) : (hN h n i).row (h.next + 1) 1 = some (3, [.agg [.own h.next 4 n 0 n, .d (eI 0), .d (eI n)]]) := row_hd ..
theorem hN_c (h : Hp) (n i : Nat) : (hN h n i).row h.next n = some (4, (newC n i).map cV) := by
  rw [row_lk]
  unfold hN
  rw [get_mk, if_neg (by omega), get_mk, if_pos rfl, rowOf_arr, if_pos (by rw [List.length_map, newC_len])]
theorem hN_st (h : Hp) (n i : Nat) (hi : i < n) : st 1 (hN h n i) (.ptr h.next n i 3) (.d (.int .i64 ((i + 1 : Nat) : Int))) = some (hN h n (i + 1)) := by
  have he : ((newC n i).map cV)[i]? = some (cV ⟨false, 0, [], 0, .fresh⟩) := by
    rw [List.getElem?_map, newC_at hi, if_neg (by omega)]; rfl
  rw [st_in (sz := 1) (off := 3) (x := .d (.int .i64 ((i + 1 : Nat) : Int))) (hN_c h n i) he rfl rfl (by rw [cV_cells]; simp) (by omega) (by omega)]
  congr 1
  unfold hN Hp.set
  simp only [upd, if_true]
  rw [if_neg (by omega)]
  have : ((newC n i).map cV).set i (mkAgg ((cV ⟨false, 0, [], 0, .fresh⟩).cells.take 3 ++ (V.d (.int .i64 ((i + 1 : Nat) : Int))).cells ++ (cV ⟨false, 0, [], 0, .fresh⟩).cells.drop (3 + 1))) = (newC n (i + 1)).map cV := by
    rw [← newC_set hi, List.map_set]; rfl
  rw [this]
def newS (n : Nat) : St := ⟨List.replicate n (false, 0, []), List.range n⟩
theorem chain_new (n : Nat) : ∀ (k i : Nat), i + k = n → Chain (newC n n) i ((List.range' i k))
  | 0, _, _ => trivial
  | k + 1, i, h => by
    rw [List.range'_succ]
    refine ⟨rfl, _, newC_at (by omega), rfl, ?_⟩
    simp only [if_pos (show i < n by omega)]
    exact chain_new n k (i + 1) (by omega)
theorem new_ok (h : Hp) (L : Low h) (n : Nat) (hn : n ≤ 65536) : ∃ r, callW tab 10 [.d (eI n)] h = some r ∧ r.1 = .tup [.ptr (h.next + 1) 1 0 0, .d (eI 0)] ∧
    SR r.2 (h.next + 1) h.next (fun m => h.next ≤ m ∧ m < h.next + 2) (newS n) ∧ Low r.2 ∧ r.2.next = h.next + 2 ∧ (∀ m, m < h.next → r.2.get m = h.get m) := by
  apply call_wpE (fn := f10) rfl rfl
  have h1 : ¬ (65536 : Int) < (n : Int) := by omega
  have hm : mkslO (.d (.agg [.bool false, .int .i64 0, .lst [], .int .i64 0])) 4 48 h (.d (.int .i64 n)) = some (.own h.next 4 n 0 n, h.alloc (.arr 4 ((newC n 0).map cV))) := by
    simp only [mkslO, ixOf_nat, Option.bind_some]
    rw [if_pos (by unfold roomB; omega)]
    have : List.replicate n (V.d (.agg [.bool false, .int .i64 0, .lst [], .int .i64 0])) = (newC n 0).map cV := by
      apply List.ext_getElem?
      intro j
      by_cases hj : j < n
      · rw [List.getElem?_map, newC_at hj]; simp [hj]; rfl
      · rw [List.getElem?_eq_none (by simp; omega), List.getElem?_eq_none (by rw [List.length_map, newC_len]; omega)]
    rw [this]
  have hH : (⟨(h.next + 1, .arr 3 [.agg [.own h.next 4 n 0 n, .d (.int .i64 0), .d (.int .i64 n)]]) :: (h.next, .arr 4 ((newC n 0).map cV)) :: h.objs, h.next + 1 + 1⟩ : Hp) = hN h n 0 := rfl
  (simp only [e10, h1, hm, hH, hN_s, ws, wsl, opX, int, Zv.bool, intBin, reduceIte, ↓reduceIte, Nat.reduceEqDiff, Nat.reduceAdd, Nat.reduceSub, Nat.reduceLeDiff, Int.reduceLT, Int.reduceLE, Int.reduceEq, Int.reduceBEq, Int.reduceNe, Int.reduceBNe, reduceCtorEq, Nat.reduceBEq] <;> repeat' (first | refine wpG_s ?_ ?_ | refine wpC_s ?_ ?_) <;> intro hgo <;> (try simp only [decide_eq_true_eq, decide_eq_false_iff_not, Bool.not_eq_true', Bool.not_eq_false'] at hgo) <;> simp only [hgo, e10, h1, hm, hH, hN_s, ws, wsl, opX, int, Zv.bool, intBin, reduceIte, ↓reduceIte, Nat.reduceEqDiff, Nat.reduceAdd, Nat.reduceSub, Nat.reduceLeDiff, Int.reduceLT, Int.reduceLE, Int.reduceEq, Int.reduceBEq, Int.reduceNe, Int.reduceBNe, reduceCtorEq, Nat.reduceBEq])
  refine loop_wp n (fun i e h' => h' = hN h n i ∧ e = [(4, .ptr (h.next + 1) 1 0 0), (21, .d (.int .i64 n)), (22, .d (.int .i64 i))]) _ ?_ ?_ n 0 _ _ (by omega) ⟨rfl, rfl⟩
  · rintro i e h' hi ⟨rfl, rfl⟩
    (simp only [e10, hi, hN_s, wrap_succ (show i < 2 ^ 62 by omega), ia_own (es := 4) (n := h.next) (tot := n) .i64 hi, hN_st h n i hi, ws, wsl, opX, int, Zv.bool, intBin, reduceIte, ↓reduceIte, Nat.reduceEqDiff, Nat.reduceAdd, Nat.reduceSub, Nat.reduceLeDiff, Int.reduceLT, Int.reduceLE, Int.reduceEq, Int.reduceBEq, Int.reduceNe, Int.reduceBNe, reduceCtorEq, Nat.reduceBEq] <;> repeat' (first | refine wpG_s ?_ ?_ | refine wpC_s ?_ ?_) <;> intro hgo <;> (try simp only [decide_eq_true_eq, decide_eq_false_iff_not, Bool.not_eq_true', Bool.not_eq_false'] at hgo) <;> simp only [hgo, e10, hi, hN_s, wrap_succ (show i < 2 ^ 62 by omega), ia_own (es := 4) (n := h.next) (tot := n) .i64 hi, hN_st h n i hi, ws, wsl, opX, int, Zv.bool, intBin, reduceIte, ↓reduceIte, Nat.reduceEqDiff, Nat.reduceAdd, Nat.reduceSub, Nat.reduceLeDiff, Int.reduceLT, Int.reduceLE, Int.reduceEq, Int.reduceBEq, Int.reduceNe, Int.reduceBNe, reduceCtorEq, Nat.reduceBEq])
  · rintro e h' ⟨rfl, rfl⟩
    (simp only [e10, ws, wsl, opX, int, Zv.bool, intBin, reduceIte, ↓reduceIte, Nat.reduceEqDiff, Nat.reduceAdd, Nat.reduceSub, Nat.reduceLeDiff, Int.reduceLT, Int.reduceLE, Int.reduceEq, Int.reduceBEq, Int.reduceNe, Int.reduceBNe, reduceCtorEq, Nat.reduceBEq] <;> repeat' (first | refine wpG_s ?_ ?_ | refine wpC_s ?_ ?_) <;> intro hgo <;> (try simp only [decide_eq_true_eq, decide_eq_false_iff_not, Bool.not_eq_true', Bool.not_eq_false'] at hgo) <;> simp only [hgo, e10, ws, wsl, opX, int, Zv.bool, intBin, reduceIte, ↓reduceIte, Nat.reduceEqDiff, Nat.reduceAdd, Nat.reduceSub, Nat.reduceLeDiff, Int.reduceLT, Int.reduceLE, Int.reduceEq, Int.reduceBEq, Int.reduceNe, Int.reduceBNe, reduceCtorEq, Nat.reduceBEq])
    refine ⟨_, rfl, rfl, ⟨⟨newC n n, 0, ?_, ?_, ?_, ?_⟩, ?_, ?_⟩, ?_, rfl, ?_⟩
    · refine ⟨?_, ?_, ?_, ?_, ?_, by omega, ?_⟩
      · rw [newC_len]; show _ = some _; unfold hN; rw [get_mk, if_pos rfl]; simp [newS]
      · unfold hN; rw [get_mk, if_neg (by omega), get_mk, if_pos rfl]
      · intro i c m hc hw
        have := lt_of_get hc; rw [newC_len] at this
        rw [newC_at this] at hc; cases hc; cases hw
      · intro c hc _
        obtain ⟨i, hi1, hi2⟩ := List.getElem_of_mem hc
        have h2 := List.getElem?_eq_getElem hi1
        rw [newC_len] at hi1
        rw [newC_at hi1, hi2] at h2; cases h2; rfl
      · intro i j c c' m hc _ hw
        have := lt_of_get hc; rw [newC_len] at this
        rw [newC_at this] at hc; cases hc; cases hw
      · intro i c m hc hw
        have := lt_of_get hc; rw [newC_len] at this
        rw [newC_at this] at hc; cases hc; cases hw
    · apply List.ext_getElem?
      intro j
      by_cases hj : j < n
      · rw [List.getElem?_map, newC_at hj]; simp [newS, hj, ab]
      · rw [List.getElem?_eq_none (by rw [List.length_map, newC_len]; omega), List.getElem?_eq_none (by simp [newS]; omega)]
    · have := chain_new n n 0 (by omega)
      rw [← List.range_eq_range'] at this
      exact this
    · intro c hc m hw
      obtain ⟨i, hi1, hi2⟩ := List.getElem_of_mem hc
      have h2 := List.getElem?_eq_getElem hi1
      rw [newC_len] at hi1
      rw [newC_at hi1, hi2] at h2; cases h2; cases hw
    · refine ⟨List.nodup_range, fun i => ?_, fun c hc => ?_⟩
      rotate_left
      · simp [newS] at hc; rw [hc.2]; simp
      show i ∈ List.range n ↔ ∃ c, (List.replicate n ((false, 0, []) : ACl))[i]? = some c ∧ c.1 = false
      rw [List.mem_range]
      constructor
      · intro hi; exact ⟨(false, 0, []), by simp [hi], rfl⟩
      · rintro ⟨c, hc, _⟩; have := lt_of_get hc; simpa using this
    · exact ⟨⟨by omega, by omega⟩, ⟨by omega, by omega⟩⟩
    · intro m hm
      have hm' : h.next + 2 ≤ m := hm
      show (hN h n n).get m = none
      unfold hN
      rw [get_mk, if_neg (by omega), get_mk, if_neg (by omega)]
      exact L m (by omega)
    · intro m hm
      unfold hN
      rw [get_mk, if_neg (by omega), get_mk, if_neg (by omega)]; rfl
theorem awake : callW tab 14 [] ⟨[], 0⟩ = some (.d (.bool true), ⟨[], 0⟩) := callW_of tab 200 (by kernel_rfl)
theorem awake_any {b : Hp} (L : Low b) : callW tab 14 [] b = some (.d (.bool true), b) := callW_any tabCl (xs := []) awake L
-- ws, wsl, opX, int, Zv.bool, intBin, reduceIte, ↓reduceIte, Nat.reduceEqDiff, Nat.reduceAdd, Nat.reduceSub, Nat.reduceLeDiff, Int.reduceLT, Int.reduceLE, Int.reduceEq, Int.reduceBEq, Int.reduceNe, Int.reduceBNe, reduceCtorEq, Nat.reduceBEq
end Zc55k
