/-
  The program's Get, whose row stays.
-/
import Derived.Test.YtlncinhieeopmaaZc55kS5
set_option linter.unusedSimpArgs false
set_option maxHeartbeats 4000000
namespace Zc55k
open Go Zv Zs

theorem cV_agg (c : PC) : (∃ l, cV c = .d (.agg l)) ∨ (∃ l, cV c = .agg l) := by
  unfold cV wV
  cases c.wh
  · exact .inl ⟨_, rfl⟩
  · exact .inr ⟨_, rfl⟩
  · exact .inr ⟨_, rfl⟩
theorem cV_stor (c : PC) : stor (cV c) = true := by
  rcases cV_agg c with ⟨l, h⟩ | ⟨l, h⟩ <;> rw [h] <;> rfl
theorem ld_cell {h : Hp} {n tot i : Nat} {els : List V} {c : PC} (hr : h.row n tot = some (4, els)) (he : els[i]? = some (cV c)) : ld true 4 h (.ptr n tot i 0) = some (cV c) := by
  simp only [ld, hr, Option.bind_some, he]
  rcases cV_agg c with ⟨l, h⟩ | ⟨l, h⟩ <;> rw [h] <;> simp
theorem cpy_top {wl : List Wd} {q p : Nat} {z : D} {l : List (Nat × Ob)} {v : V} (he : elems ⟨(q, .arr 2 (List.replicate wl.length (.d z))) :: l, p⟩ v = some ((wl.map eW).map .d)) : cpy 2 ⟨(q, .arr 2 (List.replicate wl.length (.d z))) :: l, p⟩ (.own q 2 wl.length 0 wl.length) v = some (int wl.length, ⟨(q, .arr 2 ((wl.map eW).map .d)) :: l, p⟩) := by
  have hx : allV 2 ((wl.map eW).map V.d) = true := by simp [allV, V.cells, D.cells]
  have hr := row_hd q 2 (List.replicate wl.length (.d z)) l p wl.length
  rw [if_pos (by simp)] at hr
  unfold cpy
  simp only [he, Option.bind_some, hx, if_true, hr, List.length_replicate, List.length_map, Nat.zero_add, Nat.min_self, Nat.le_refl, and_self, List.take_zero, List.nil_append, set_hd]
  rw [List.take_of_length_le (by simp), List.drop_of_length_le (by simp), List.append_nil]
theorem get_ok {h : Hp} {ns nc : Nat} {O : Nat → Prop} {S : St} (R : SR h ns nc O S) (L : Low h) {i : Nat} {tag : Int} {wl : List Wd} (ha : S.cells[i]? = some (true, tag, wl)) (hne : wl ≠ []) :
    ∃ r, callW tab 18 [.ptr ns 1 0 0, .d (eI i)] h = some r ∧ ∃ h' q, r = (.tup [.d (eI tag), .own q 2 wl.length 0 wl.length, .d (eI 0)], h') ∧ h'.get q = some (.arr 2 ((wl.map eW).map .d)) ∧ h.next ≤ q ∧ Low h' ∧ (∀ n, n < h.next → h'.get n = h.get n) ∧ h.next ≤ h'.next := by
  apply call_wpE (fn := f18) rfl rfl
  obtain ⟨⟨cs, first, P, hab, hch, hown⟩, hok, hos⟩ := R
  have hst := state_ok P i
  obtain ⟨c, hc⟩ := get_of_lt (l := cs) (n := i) (by have := lt_of_get ha; rw [← hab, List.length_map] at this; exact this)
  have hlt := lt_of_get hc
  have hac : (true, tag, wl) = ab c := by rw [← hab, List.getElem?_map, hc] at ha; exact (Option.some.inj ha).symm
  obtain ⟨rfl, rfl⟩ : tag = c.tag ∧ wl = c.words := by unfold ab at hac; simp only [Prod.mk.injEq] at hac; exact hac.2
  have hus : c.used = true := by unfold ab at hac; simp only [Prod.mk.injEq] at hac; exact hac.1.symm
  rw [sErr_at hc, if_pos hus] at hst
  have hld := ld_cell (i := i) (c := c) P.cells (by rw [List.getElem?_map, hc]; rfl)
  have hl24 : c.words.length ≤ 24 := hok.sm _ (List.mem_of_getElem? ha)
  have hmk : ∀ H : Hp, mkslO (.d (.agg [.int .i64 0, .int .i64 0])) 2 16 H (.d (.int .i64 c.words.length)) = some (.own H.next 2 c.words.length 0 c.words.length, H.alloc (.arr 2 (List.replicate c.words.length (.d (.agg [.int .i64 0, .int .i64 0]))))) := by
    intro H
    simp only [mkslO, ixOf_nat, Option.bind_some]
    rw [if_pos (by unfold roomB; omega)]
  obtain ⟨m, hm⟩ : ∃ m, c.wh = .row m := by
    cases hw : c.wh with
    | row m => exact ⟨m, rfl⟩
    | fresh => exact absurd (P.e c (List.mem_of_getElem? hc) (by rw [hw]; intro n h; cases h)) hne
    | nil => exact absurd (P.e c (List.mem_of_getElem? hc) (by rw [hw]; intro n h; cases h)) hne
  have hgm := P.w i c m hc hm
  have hmlt := low_lt L hgm
  have hwv : wV c = .own m 2 c.words.length 0 c.words.length := by unfold wV; rw [hm]
  have hfz : ∀ (nn nx : Nat) (l : List (Nat × Ob)), Zv.frz ⟨(nn, .arr 4 [cV c]) :: l, nx⟩ (.ptr nn 1 0 0) = some (.ptr nn 1 0 0, ⟨(nn, .arr 4 [cV c]) :: l, nx⟩) := by
    intro nn nx l
    have : toD (cV c) = none := by unfold cV; rw [hwv]; rfl
    simp only [Zv.frz, row_cons, if_true, List.length_cons, List.length_nil, Option.bind_some, List.getElem?_cons_zero, Option.map_some, this]
  have hel : elems ⟨(h.next + 1, .arr 2 (List.replicate c.words.length (.d (.agg [.int .i64 0, .int .i64 0])))) :: (h.next, .arr 4 [cV c]) :: h.objs, h.next + 1 + 1⟩ (.own m 2 c.words.length 0 c.words.length) = some ((c.words.map eW).map .d) := by
    simp only [elems, row_lk, get_mk, if_neg (show ¬ m = h.next + 1 by omega), if_neg (show ¬ m = h.next by omega), get_objs, hgm, rowOf_arr, List.length_map, if_true, Option.bind_some, Nat.zero_add, Nat.le_refl, List.drop_zero]
    rw [List.take_of_length_le (by simp)]
  have hcp := cpy_top hel
  have n5 : (h.next = h.next + 1) = False := by simp
  (simp only [e18, hst, P.row, ia_own (es := 4) (n := nc) (tot := cs.length) .i64 hlt, hld, cV_stor, cV_cells, hfz, hwv, hmk, hcp, row_cons, n5, Nat.one_pos, lenL_own, ws, wsl, opX, int, Zv.bool, intBin, reduceIte, ↓reduceIte, Nat.reduceEqDiff, Nat.reduceAdd, Nat.reduceSub, Nat.reduceLeDiff, Int.reduceLT, Int.reduceLE, Int.reduceEq, Int.reduceBEq, Int.reduceNe, Int.reduceBNe, reduceCtorEq, Nat.reduceBEq] <;> repeat' (first | refine wpG_s ?_ ?_ | refine wpC_s ?_ ?_) <;> intro hgo <;> (try simp only [decide_eq_true_eq, decide_eq_false_iff_not, Bool.not_eq_true', Bool.not_eq_false'] at hgo) <;> simp only [hgo, e18, hst, P.row, ia_own (es := 4) (n := nc) (tot := cs.length) .i64 hlt, hld, cV_stor, cV_cells, hfz, hwv, hmk, hcp, row_cons, n5, Nat.one_pos, lenL_own, ws, wsl, opX, int, Zv.bool, intBin, reduceIte, ↓reduceIte, Nat.reduceEqDiff, Nat.reduceAdd, Nat.reduceSub, Nat.reduceLeDiff, Int.reduceLT, Int.reduceLE, Int.reduceEq, Int.reduceBEq, Int.reduceNe, Int.reduceBNe, reduceCtorEq, Nat.reduceBEq])
  refine ⟨_, rfl, _, _, rfl, ?_, Nat.le_succ _, ?_, fun n hn => ?_, Nat.le_add_right _ 2⟩
  · rw [get_mk, if_pos rfl]
  · intro n hn
    show (if n = h.next + 1 then _ else look h.objs n) = none
    have hn' : h.next + 1 + 1 ≤ n := hn
    rw [if_neg (by omega)]
    exact L n (by omega)
  · rw [get_mk, if_neg (by omega)]; rfl
-- ws, wsl, opX, int, Zv.bool, intBin, reduceIte, ↓reduceIte, Nat.reduceEqDiff, Nat.reduceAdd, Nat.reduceSub, Nat.reduceLeDiff, Int.reduceLT, Int.reduceLE, Int.reduceEq, Int.reduceBEq, Int.reduceNe, Int.reduceBNe, reduceCtorEq, Nat.reduceBEq
end Zc55k
