/-
  The reference's New and Audit.
-/
import Derived.Test.YtlncinhieeopmaaZc55S8
set_option linter.unusedSimpArgs false
set_option maxHeartbeats 4000000
namespace Zc55
open Go Zv Zs

section
variable (h : Hp) (n : Nat)
def rN (i : Nat) : V := if i = 0 then .tl [] (some true) else .own (h.next + 2) 1 i 0 i
def tN (i : Nat) : List (Nat × Ob) := if i = 0 then [] else [(h.next + 2, .arr 1 ((List.range i).map nI))]
def hR (i : Nat) : Hp := ⟨tN h i ++ (h.next + 1, .arr 2 [.agg [.own h.next 3 n 0 n, rN h i]]) :: (h.next, .arr 3 (List.replicate n (.d (.agg [.bool false, .int .i64 0, .lst []])))) :: h.objs, if i = 0 then h.next + 2 else h.next + 3⟩
theorem hR_get (i m : Nat) : (hR h n i).get m = if m = h.next + 2 ∧ i ≠ 0 then some (.arr 1 ((List.range i).map nI)) else if m = h.next + 1 then some (.arr 2 [.agg [.own h.next 3 n 0 n, rN h i]]) else if m = h.next then some (.arr 3 (List.replicate n (.d (.agg [.bool false, .int .i64 0, .lst []])))) else h.get m := by
  unfold hR tN
  by_cases hi : i = 0
  · subst hi
    simp only [if_true, List.nil_append, ne_eq, not_true_eq_false, and_false, if_false]
    rw [get_mk, get_mk]; rfl
  · simp only [hi, if_false, List.cons_append, List.nil_append, ne_eq, not_false_eq_true, and_true]
    rw [get_mk, get_mk, get_mk]; rfl
theorem rN_cells (i : Nat) : (rN h i).cells = [rN h i] ∧ stor (rN h i) = true := by unfold rN; split <;> exact ⟨rfl, rfl⟩
theorem hR_step (i : Nat) (hi : i < 2 ^ 20) : ∃ H, app 1 8 (hR h n i) (rN h i) (.tl [.d (eI i)] (some false)) = some (rN h (i + 1), H) ∧ st 1 H (.ptr (h.next + 1) 1 0 1) (rN h (i + 1)) = some (hR h n (i + 1)) := by
  have hx : allV 1 [V.d (eI i)] = true := by simp [allV, V.cells, D.cells]
  have he : rN h (i + 1) = .own (h.next + 2) 1 (i + 1) 0 (i + 1) := by unfold rN; rw [if_neg (by omega)]
  have hst : ∀ H : Hp, H = ⟨(h.next + 2, .arr 1 ((List.range (i + 1)).map nI)) :: (h.next + 1, .arr 2 [.agg [.own h.next 3 n 0 n, rN h i]]) :: (h.next, .arr 3 (List.replicate n (.d (.agg [.bool false, .int .i64 0, .lst []])))) :: h.objs, h.next + 3⟩ → st 1 H (.ptr (h.next + 1) 1 0 1) (rN h (i + 1)) = some (hR h n (i + 1)) := by
    rintro H rfl
    have hrow : Hp.row ⟨(h.next + 2, .arr 1 ((List.range (i + 1)).map nI)) :: (h.next + 1, .arr 2 [.agg [.own h.next 3 n 0 n, rN h i]]) :: (h.next, .arr 3 (List.replicate n (.d (.agg [.bool false, .int .i64 0, .lst []])))) :: h.objs, h.next + 3⟩ (h.next + 1) 1 = some (2, [.agg [.own h.next 3 n 0 n, rN h i]]) := by
      rw [row_lk, get_mk, if_neg (by omega), get_mk, if_pos rfl]; rfl
    rw [st_in (sz := 1) (off := 1) (es := 2) hrow (by rfl) (rN_cells h (i + 1)).2 (by rw [(rN_cells h (i + 1)).1]; rfl) (by simp [V.cells]) (by omega) (by omega)]
    rw [(rN_cells h (i + 1)).1]
    unfold hR tN Hp.set
    simp [upd, V.cells, mkAgg, asD]
  by_cases h0 : i = 0
  · subst h0
    refine ⟨_, ?_, hst _ rfl⟩
    rw [he]
    unfold app
    simp only [elems, Option.bind_some, List.map_cons, List.map_nil, norm_d, hx, if_true]
    simp [rN, hR, tN, allV, roomB, Hp.alloc]
  · refine ⟨_, ?_, hst _ rfl⟩
    have hr : (hR h n i).row (h.next + 2) i = some (1, (List.range i).map nI) := by
      rw [row_lk, hR_get, if_pos ⟨rfl, h0⟩, rowOf_arr, if_pos (by simp)]
    have e1 : rN h i = .own (h.next + 2) 1 i 0 i := by unfold rN; rw [if_neg h0]
    rw [he]
    unfold app
    conv => lhs; rw [e1]
    simp only [elems, Option.bind_some, List.map_cons, List.map_nil, norm_d, hx, if_true, hr, List.length_map, List.length_range, Nat.zero_add, Nat.le_refl, and_self, List.isEmpty_cons, Bool.false_eq_true, if_false, List.length_cons, List.length_nil]
    rw [if_neg (by omega), if_pos (by unfold roomB; omega), List.take_of_length_le (by simp)]
    congr 2
    unfold hR tN Hp.set
    simp only [h0, if_false, List.cons_append, List.nil_append, upd, if_true]
    rw [List.range_succ, List.map_append]
    rfl
end
theorem rnew_ok (h : Hp) (L : Low h) (n : Nat) (hn : n ≤ 65536) : ∃ r, callW tab 22 [.d (eI n)] h = some r ∧ r.1 = .tup [.ptr (h.next + 1) 1 0 0, .d (eI 0)] ∧
    RS r.2 (h.next + 1) h.next (fun m => h.next ≤ m ∧ m < r.2.next) (newS n) ∧ Low r.2 ∧ (r.2.next = h.next + 2 ∨ r.2.next = h.next + 3) ∧ (∀ m, m < h.next → r.2.get m = h.get m) := by
  apply call_wpE (fn := f22) rfl rfl
  have h1 : ¬ (65536 : Int) < (n : Int) := by omega
  have hm : mkslO (.d (.agg [.bool false, .int .i64 0, .lst []])) 3 40 h (.d (.int .i64 n)) = some (.own h.next 3 n 0 n, h.alloc (.arr 3 (List.replicate n (.d (.agg [.bool false, .int .i64 0, .lst []]))))) := by
    simp only [mkslO, ixOf_nat, Option.bind_some]
    rw [if_pos (by unfold roomB; omega)]
  have hH : (⟨(h.next + 1, .arr 2 [.agg [.own h.next 3 n 0 n, .tl [] (some true)]]) :: (h.next, .arr 3 (List.replicate n (.d (.agg [.bool false, .int .i64 0, .lst []])))) :: h.objs, h.next + 1 + 1⟩ : Hp) = hR h n 0 := rfl
  (simp only [e22, h1, hm, hH, ws, wsl, opX, int, Zv.bool, intBin, reduceIte, ↓reduceIte, Nat.reduceEqDiff, Nat.reduceAdd, Nat.reduceSub, Nat.reduceLeDiff, Int.reduceLT, Int.reduceLE, Int.reduceEq, Int.reduceBEq, Int.reduceNe, Int.reduceBNe, reduceCtorEq, Nat.reduceBEq] <;> repeat' (first | refine wpG_s ?_ ?_ | refine wpC_s ?_ ?_) <;> intro hgo <;> (try simp only [decide_eq_true_eq, decide_eq_false_iff_not, Bool.not_eq_true', Bool.not_eq_false'] at hgo) <;> simp only [hgo, e22, h1, hm, hH, ws, wsl, opX, int, Zv.bool, intBin, reduceIte, ↓reduceIte, Nat.reduceEqDiff, Nat.reduceAdd, Nat.reduceSub, Nat.reduceLeDiff, Int.reduceLT, Int.reduceLE, Int.reduceEq, Int.reduceBEq, Int.reduceNe, Int.reduceBNe, reduceCtorEq, Nat.reduceBEq])
  refine loop_wp n (fun i e h' => h' = hR h n i ∧ e = [(0, .d (.int .i64 n)), (4, .ptr (h.next + 1) 1 0 0), (5, .d (.int .i64 i))]) _ ?_ ?_ n 0 _ _ (by omega) ⟨rfl, rfl⟩
  · rintro i e h' hi ⟨rfl, rfl⟩
    obtain ⟨H, ha, hs⟩ := hR_step h n i (by omega)
    have hrow : (hR h n i).row (h.next + 1) 1 = some (2, [.agg [.own h.next 3 n 0 n, rN h i]]) := by
      rw [row_lk, hR_get, if_neg (by omega), if_pos rfl]; rfl
    (simp only [e22, hi, hrow, (rN_cells h i).1, ha, hs, wrap_succ (show i < 2 ^ 62 by omega), ws, wsl, opX, int, Zv.bool, intBin, reduceIte, ↓reduceIte, Nat.reduceEqDiff, Nat.reduceAdd, Nat.reduceSub, Nat.reduceLeDiff, Int.reduceLT, Int.reduceLE, Int.reduceEq, Int.reduceBEq, Int.reduceNe, Int.reduceBNe, reduceCtorEq, Nat.reduceBEq] <;> repeat' (first | refine wpG_s ?_ ?_ | refine wpC_s ?_ ?_) <;> intro hgo <;> (try simp only [decide_eq_true_eq, decide_eq_false_iff_not, Bool.not_eq_true', Bool.not_eq_false'] at hgo) <;> simp only [hgo, e22, hi, hrow, (rN_cells h i).1, ha, hs, wrap_succ (show i < 2 ^ 62 by omega), ws, wsl, opX, int, Zv.bool, intBin, reduceIte, ↓reduceIte, Nat.reduceEqDiff, Nat.reduceAdd, Nat.reduceSub, Nat.reduceLeDiff, Int.reduceLT, Int.reduceLE, Int.reduceEq, Int.reduceBEq, Int.reduceNe, Int.reduceBNe, reduceCtorEq, Nat.reduceBEq])
  · rintro e h' ⟨rfl, rfl⟩
    (simp only [e22, ws, wsl, opX, int, Zv.bool, intBin, reduceIte, ↓reduceIte, Nat.reduceEqDiff, Nat.reduceAdd, Nat.reduceSub, Nat.reduceLeDiff, Int.reduceLT, Int.reduceLE, Int.reduceEq, Int.reduceBEq, Int.reduceNe, Int.reduceBNe, reduceCtorEq, Nat.reduceBEq] <;> repeat' (first | refine wpG_s ?_ ?_ | refine wpC_s ?_ ?_) <;> intro hgo <;> (try simp only [decide_eq_true_eq, decide_eq_false_iff_not, Bool.not_eq_true', Bool.not_eq_false'] at hgo) <;> simp only [hgo, e22, ws, wsl, opX, int, Zv.bool, intBin, reduceIte, ↓reduceIte, Nat.reduceEqDiff, Nat.reduceAdd, Nat.reduceSub, Nat.reduceLeDiff, Int.reduceLT, Int.reduceLE, Int.reduceEq, Int.reduceBEq, Int.reduceNe, Int.reduceBNe, reduceCtorEq, Nat.reduceBEq])
    have hrep : List.replicate n (V.d (.agg [.bool false, .int .i64 0, .lst []])) = (List.replicate n (⟨false, 0, [], .fresh⟩ : RC)).map rcV := by rw [List.map_replicate]; rfl
    have hin : ∀ (i : Nat) c, (List.replicate n (⟨false, 0, [], .fresh⟩ : RC))[i]? = some c → c = ⟨false, 0, [], .fresh⟩ := by
      intro i c hc
      have := List.mem_of_getElem? hc
      exact (List.mem_replicate.1 this).2
    have hnx : (hR h n n).next = (if n = 0 then h.next + 2 else h.next + 3) := rfl
    have hnx2 : h.next + 2 ≤ (hR h n n).next := by rw [hnx]; split <;> omega
    refine ⟨_, rfl, rfl, ⟨⟨List.replicate n ⟨false, 0, [], .fresh⟩, rN h n, ⟨?_, ?_, ?_, ?_, by omega⟩, ?_, ?_, ?_⟩, ?_, ?_⟩, ?_, ?_, ?_⟩
    · rw [hR_get, if_neg (by omega), if_pos rfl, List.length_replicate]
    · rw [hR_get, if_neg (by omega), if_neg (by omega), if_pos rfl, hrep]
    · intro i c m hc hw; rw [hin i c hc] at hw; cases hw
    · intro c hc _; rw [(List.mem_replicate.1 hc).2]
    · by_cases h0 : n = 0
      · subst h0
        exact .inl ⟨some true, rfl⟩
      · refine .inr ⟨h.next + 2, n, 0, (List.range n).map nI, ?_, ?_, by simp, by simp [newS], ?_, ⟨by omega, by rw [hnx, if_neg h0]; omega⟩, by omega, by omega⟩
        · unfold rN; rw [if_neg h0]; simp [newS]
        · rw [hR_get, if_pos ⟨rfl, h0⟩]
        · rw [List.drop_zero, List.take_of_length_le (by simp [newS])]; rfl
    · simp [newS, rab]
    · intro c hc m hw; rw [(List.mem_replicate.1 hc).2] at hw; cases hw
    · refine ⟨List.nodup_range, fun i => ?_, fun c hc => ?_⟩
      rotate_left
      · simp [newS] at hc; rw [hc.2]; simp
      show i ∈ List.range n ↔ ∃ c, (List.replicate n ((false, 0, []) : ACl))[i]? = some c ∧ c.1 = false
      rw [List.mem_range]
      constructor
      · intro hi; exact ⟨(false, 0, []), by simp [hi], rfl⟩
      · rintro ⟨c, hc, _⟩; have := lt_of_get hc; simpa using this
    · exact ⟨⟨by omega, show h.next + 1 < (hR h n n).next by omega⟩, ⟨by omega, show h.next < (hR h n n).next by omega⟩⟩
    · intro m hm
      show (hR h n n).get m = none
      have hm' : (if n = 0 then h.next + 2 else h.next + 3) ≤ m := hm
      rw [hR_get]
      by_cases h0 : n = 0
      · rw [if_pos h0] at hm'
        rw [if_neg (by omega), if_neg (by omega), if_neg (by omega)]; exact L m (by omega)
      · rw [if_neg h0] at hm'
        rw [if_neg (by omega), if_neg (by omega), if_neg (by omega)]; exact L m (by omega)
    · show (if n = 0 then h.next + 2 else h.next + 3) = _ ∨ (if n = 0 then h.next + 2 else h.next + 3) = _
      split
      · exact .inl rfl
      · exact .inr rfl
    · intro m hm
      rw [hR_get, if_neg (by omega), if_neg (by omega), if_neg (by omega)]

/-! ### Audit: a list of what is to be visited -/
def bfs (A : List ACl) : Nat → List Bool → List Wd → Option (List Bool)
  | 0, _, _ => none
  | _ + 1, M, [] => some M
  | k + 1, M, w :: l => if w.1 = 2 then (if usedA A w.2 = false then none else if M.getD w.2.toNat false = true then bfs A k M l else bfs A k (M.set w.2.toNat true) (l ++ wordsA A w.2.toNat)) else bfs A k M l
section
variable (h : Hp)
def HB (M : List Bool) (T : List Wd) (p : Nat) : Hp := ⟨(h.next + 1, .arr 2 ((T.map eW).map .d)) :: (h.next, .arr 1 (M.map bV)) :: h.objs, p⟩
theorem HB_old (M T p) {n : Nat} (hn : n < h.next) : (HB h M T p).get n = h.get n := by
  unfold HB; rw [get_mk, if_neg (by omega), get_mk, if_neg (by omega)]; rfl
theorem HB_m (M T p) {N : Nat} (hM : M.length = N) : (HB h M T p).row h.next N = some (1, M.map bV) := by
  unfold HB; rw [row_lk, get_mk, if_neg (by omega), get_mk, if_pos rfl, rowOf_arr, if_pos (by simp [hM])]
theorem HB_t (M T p) : (HB h M T p).row (h.next + 1) T.length = some (2, (T.map eW).map .d) := by
  unfold HB; rw [row_lk, get_mk, if_pos rfl, rowOf_arr, if_pos (by simp)]
theorem HB_st (M T p) {N : Nat} (hM : M.length = N) {i : Nat} (hi : i < N) : st 1 (HB h M T p) (.ptr h.next N i 0) (.d (.bool true)) = some (HB h (M.set i true) T p) := by
  have he : (M.map bV)[i]? = some (bV (M[i]'(by omega))) := by simp [show i < M.length by omega]
  rw [st_all (sz := 1) (HB_m h M T p hM) he rfl rfl]
  unfold HB Hp.set
  simp [upd, List.map_set]
theorem HB_app (M T p) {v : V} {l : List Wd} (he : elems (HB h M T p) v = some ((l.map eW).map .d)) (hl : T.length + l.length < 2 ^ 30) : app 2 16 (HB h M T p) (.own (h.next + 1) 2 T.length 0 T.length) v = some (.own (h.next + 1) 2 (T ++ l).length 0 (T ++ l).length, HB h M (T ++ l) p) := by
  have hx : allV 2 ((l.map eW).map V.d) = true := by simp [allV, V.cells, D.cells]
  have hn : ((l.map eW).map V.d).map norm = (l.map eW).map V.d := by simp [norm, toD]
  unfold app
  simp only [he, Option.bind_some, hx, if_true, hn, HB_t, List.length_map, Nat.zero_add, Nat.le_refl, and_self]
  by_cases h0 : l = []
  · subst h0; simp
  · have hi : ((l.map eW).map V.d).isEmpty = false := by cases l; exact absurd rfl h0; rfl
    have hl0 : 0 < l.length := by cases l; exact absurd rfl h0; simp
    simp only [hi, Bool.false_eq_true, if_false, List.length_append]
    rw [if_neg (by omega), if_pos (by unfold roomB; omega), List.take_of_length_le (by simp)]
    unfold HB Hp.set
    simp [upd]
theorem HB_fin (M T p) (x y : D) : finS h (HB h M T p) [.d x, .d y] = some (.tup [.d x, .d y], h) := finS_suf (h' := HB h M T p) (suf_two _ _ _) [x, y]
theorem HB_next (M T p) : (HB h M T p).next = p := rfl
theorem HB_up (M T p) : (⟨(HB h M T p).objs, p + 1⟩ : Hp) = HB h M T (p + 1) := rfl
theorem HB_at (M T p) {n : Nat} {w : Wd} (hx : T[n]? = some w) : ld true 2 (HB h M T p) (.ptr (h.next + 1) T.length n 0) = some (.d (eW w)) := by
  simp [ld, HB_t, hx]
end
-- ws, wsl, opX, int, Zv.bool, intBin, reduceIte, ↓reduceIte, Nat.reduceEqDiff, Nat.reduceAdd, Nat.reduceSub, Nat.reduceLeDiff, Int.reduceLT, Int.reduceLE, Int.reduceEq, Int.reduceBEq, Int.reduceNe, Int.reduceBNe, reduceCtorEq, Nat.reduceBEq
end Zc55
