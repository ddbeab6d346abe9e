/-
  New, Left, Size, and the examples.
-/
import Derived.Test.YtlncinhieeopmaaZc55Q2
import Derived.KernelRfl
set_option linter.unusedSimpArgs false
set_option maxHeartbeats 4000000
namespace Zc55
open Go Zv Zs

theorem free_zero (n : Nat) : (free n 0).map V.d = List.replicate n (.d (cellF 0)) := by
  apply List.ext_getElem?
  intro j
  by_cases hj : j < n
  · rw [List.getElem?_map, free_at hj]; simp [hj]
  · rw [List.getElem?_eq_none (by rw [List.length_map, free_len]; omega), List.getElem?_eq_none (by rw [List.length_replicate]; omega)]

theorem new_ok (h : Hp) (n : Nat) (hn : n ≤ 65536) : callW tab 10 [.d (.int .i64 n)] h = some (.tup [.ptr (h.next + 1) 1 0 0, .d (.int .i64 0)], hN h n n) := by
  rw [callW_fn (fn := f10) rfl rfl]
  have hl := new_loop h n hn n 0 (by omega)
  have h1 : ¬ ((n : Int) < 0) := by omega
  have h2 : ¬ ((n : Int) > 65536) := by omega
  have hm : mkslO (.d (cellF 0)) 4 48 h (.d (.int .i64 n)) = some (.own h.next 4 n 0 n, h.alloc (.arr 4 (List.replicate n (.d (cellF 0))))) := by
    simp only [mkslO, ixOf_nat, Option.bind_some]
    rw [if_pos (by unfold roomB; omega)]
  obtain ⟨objs, nx⟩ := h
  simp only [hN, free_zero, int, Int.ofNat_zero, Int.cast_ofNat_Int] at hl
  simp only [cellF] at hm hl
  simp (config := {decide := true}) only [f10, f10r0, f10r1, f10r3, f10r4, f10r9, ex_seq, ex_reg, ex_blk, its_cons, its_nil, it_o, it_g, opX, ev_t, ev_c, get_cons, get_nil, putO_some, putO_none, pv_some, int, Zv.bool, bin_i, intBin, Option.bind_some, Option.map_some, if_true, if_false, keepE_some, keep_cons, keep_nil, nxt_n, nxt_e, nxt_r, ex_cond, condB_b, ex_skip, ex_exit, ex_ret, want_some, wantV_b, wantV_t, norm_ptr, norm_own, norm_map, beq_self_eq_true, cW_clo, List.map_cons, List.map_nil, normArgs, norm_d, List.cons_append, List.nil_append, decide_true, decide_false, reduceCtorEq, Bool.false_eq_true, beq_iff_eq, Ex.exit.injEq, Nat.add_zero, Nat.zero_add, fa_fp, ld_fp, ldf_fp, partD_one, cells_agg, lenL_lst, stor_d, stor_own, stor_ptr, stor_tl, stor_agg, vcells_d, vcells_agg, vcells_own, vcells_ptr, vcells_tl, cells_int, cells_bool, cells_str, cells_lst, lay_nil, lay_cons, mkAgg1, mkAgg2, mkAgg3, mkAgg4, List.getElem?_cons_zero, List.getElem?_cons_succ, List.length_cons, List.length_nil, List.length_map, List.all_cons, List.all_nil, Bool.and_self, List.take_zero, List.take_succ_cons, List.drop_zero, List.drop_succ_cons, and_self, true_and, and_true, row_cons, set_cons, alloc_mk, nn1, nn2, nilck_ptr, nilck_fp, fa_ptr, partV_one, lenL_own, lenL_tl, asD_own, asD_ptr, asD_fp, asD_tl, asD_clo, asD_map, asD_d, asD_nil, mkAgg_own, mkAgg_ptr, mkAgg_tl, mkAgg_map, mkAgg_clo, mkAgg_d_own, mkAgg_dd_own, mkAgg_d_tl, mkAgg_dd_tl, Option.map_none, mkAgg5, mkAgg6, nilBin_ptr, nilBin_nil, ext_tup, pick_b, resV_one, resV_two, resV_three, done_norm, done_ret, eq_self, args_cons, args_nil, decide_eq_false h1, decide_eq_false h2, pick, hm]
  simp (config := {decide := true}) only [ld, ex_seq, ex_reg, ex_blk, its_cons, its_nil, it_o, it_g, opX, ev_t, ev_c, get_cons, get_nil, putO_some, putO_none, pv_some, int, Zv.bool, bin_i, intBin, Option.bind_some, Option.map_some, if_true, if_false, keepE_some, keep_cons, keep_nil, nxt_n, nxt_e, nxt_r, ex_cond, condB_b, ex_skip, ex_exit, ex_ret, want_some, wantV_b, wantV_t, norm_ptr, norm_own, norm_map, beq_self_eq_true, cW_clo, List.map_cons, List.map_nil, normArgs, norm_d, List.cons_append, List.nil_append, decide_true, decide_false, reduceCtorEq, Bool.false_eq_true, beq_iff_eq, Ex.exit.injEq, Nat.add_zero, Nat.zero_add, fa_fp, ld_fp, ldf_fp, partD_one, cells_agg, lenL_lst, stor_d, stor_own, stor_ptr, stor_tl, stor_agg, vcells_d, vcells_agg, vcells_own, vcells_ptr, vcells_tl, cells_int, cells_bool, cells_str, cells_lst, lay_nil, lay_cons, mkAgg1, mkAgg2, mkAgg3, mkAgg4, List.getElem?_cons_zero, List.getElem?_cons_succ, List.length_cons, List.length_nil, List.length_map, List.all_cons, List.all_nil, Bool.and_self, List.take_zero, List.take_succ_cons, List.drop_zero, List.drop_succ_cons, and_self, true_and, and_true, row_cons, set_cons, alloc_mk, nn1, nn2, nilck_ptr, nilck_fp, fa_ptr, partV_one, lenL_own, lenL_tl, asD_own, asD_ptr, asD_fp, asD_tl, asD_clo, asD_map, asD_d, asD_nil, mkAgg_own, mkAgg_ptr, mkAgg_tl, mkAgg_map, mkAgg_clo, mkAgg_d_own, mkAgg_dd_own, mkAgg_d_tl, mkAgg_dd_tl, Option.map_none, mkAgg5, mkAgg6, nilBin_ptr, nilBin_nil, ext_tup, pick_b, resV_one, resV_two, resV_three, done_norm, done_ret, eq_self, hl]
  rw [finish_leak rfl]
  rfl

theorem awake : callW tab 14 [] ⟨[], 0⟩ = some (.d (.bool true), ⟨[], 0⟩) := callW_of tab 200 (by kernel_rfl)
theorem awake_any {b : Hp} (L : Low b) : callW tab 14 [] b = some (.d (.bool true), b) := callW_any tabCl (xs := []) awake L
end Zc55
