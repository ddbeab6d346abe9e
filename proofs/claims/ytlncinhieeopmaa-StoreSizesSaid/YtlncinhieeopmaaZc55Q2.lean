/-
  A new store.
-/
import Derived.Test.YtlncinhieeopmaaZc55Q1
set_option linter.unusedSimpArgs false
set_option maxHeartbeats 4000000
namespace Zc55
open Go Zv Zs

def cellF (n : Int) : D := .agg [.bool false, .int .i64 0, .lst [], .int .i64 n]
def free (n i : Nat) : List D := (List.range n).map fun j => cellF (if j < i then (j + 1 : Nat) else 0)
def hN (h : Hp) (n i : Nat) : Hp := ⟨(h.next + 1, .arr 3 [.agg [.own h.next 4 n 0 n, .d (.int .i64 0), .d (.int .i64 n)]]) :: (h.next, .arr 4 ((free n i).map .d)) :: h.objs, h.next + 1 + 1⟩

theorem free_len (n i : Nat) : (free n i).length = n := by simp [free]
theorem free_at {n i j : Nat} (hj : j < n) : (free n i)[j]? = some (cellF (if j < i then (j + 1 : Nat) else 0)) := by simp [free, hj]
theorem free_set {n i : Nat} (hi : i < n) : (free n i).set i (cellF ((i + 1 : Nat) : Int)) = free n (i + 1) := by
  apply List.ext_getElem?
  intro j
  rw [List.getElem?_set]
  by_cases hij : i = j
  · subst hij
    rw [if_pos rfl, if_pos (by rw [free_len]; exact hi), free_at hi, if_pos (by omega)]
  · rw [if_neg hij]
    by_cases hj : j < n
    · rw [free_at hj, free_at hj]
      by_cases h1 : j < i
      · rw [if_pos h1, if_pos (by omega)]
      · rw [if_neg h1, if_neg (by omega)]
    · rw [List.getElem?_eq_none (by rw [free_len]; omega), List.getElem?_eq_none (by rw [free_len]; omega)]

theorem new_loop (h : Hp) (n : Nat) (hn : n ≤ 65536) : ∀ (k i : Nat), i + k = n →
    ex tab (.loop f10l0) [(4, .ptr (h.next + 1) 1 0 0), (21, int n), (22, int i)] (hN h n i) =
      some (.exit 0, [(4, .ptr (h.next + 1) 1 0 0), (21, int n), (22, int n), (23, Zv.bool false)], hN h n n) := by
  intro k
  induction k with
  | zero =>
    intro i hi
    have : i = n := by omega
    subst this
    rw [ex_loop]
    simp (config := {decide := true}) only [ex_seq, ex_reg, ex_blk, its_cons, its_nil, it_o, it_g, opX, ev_t, ev_c, get_cons, get_nil, putO_some, putO_none, pv_some, int, Zv.bool, bin_i, intBin, Option.bind_some, Option.map_some, if_true, if_false, keepE_some, keep_cons, keep_nil, nxt_n, nxt_e, nxt_r, ex_cond, condB_b, ex_skip, ex_exit, ex_ret, want_some, wantV_b, wantV_t, norm_ptr, norm_own, norm_map, beq_self_eq_true, cW_clo, List.map_cons, List.map_nil, normArgs, norm_d, List.cons_append, List.nil_append, decide_true, decide_false, reduceCtorEq, Bool.false_eq_true, beq_iff_eq, Ex.exit.injEq, Nat.add_zero, Nat.zero_add, fa_fp, ld_fp, ldf_fp, partD_one, cells_agg, lenL_lst, stor_d, stor_own, stor_ptr, stor_tl, stor_agg, vcells_d, vcells_agg, vcells_own, vcells_ptr, vcells_tl, cells_int, cells_bool, cells_str, cells_lst, lay_nil, lay_cons, mkAgg1, mkAgg2, mkAgg3, mkAgg4, List.getElem?_cons_zero, List.getElem?_cons_succ, List.length_cons, List.length_nil, List.length_map, List.all_cons, List.all_nil, Bool.and_self, List.take_zero, List.take_succ_cons, List.drop_zero, List.drop_succ_cons, and_self, true_and, and_true, row_cons, set_cons, alloc_mk, nn1, nn2, nilck_ptr, nilck_fp, fa_ptr, partV_one, lenL_own, lenL_tl, asD_own, asD_ptr, asD_fp, asD_tl, asD_clo, asD_map, asD_d, asD_nil, mkAgg_own, mkAgg_ptr, mkAgg_tl, mkAgg_map, mkAgg_clo, mkAgg_d_own, mkAgg_dd_own, mkAgg_d_tl, mkAgg_dd_tl, Option.map_none, mkAgg5, mkAgg6, nilBin_ptr, nilBin_nil, ext_tup, pick_b, resV_one, resV_two, resV_three, done_norm, done_ret, eq_self, f10l0, f10r5, Int.lt_irrefl]
  | succ k ih =>
    intro i hi
    have hlt : i < n := by omega
    rw [ex_loop]
    generalize hK : nxt (ex tab (.loop f10l0)) = K
    have hat : ((free n i).map V.d)[i]? = some (.d (cellF 0)) := by rw [List.getElem?_map, free_at hlt]; simp
    have hset : ((free n i).map V.d).set i (.d (.agg [.bool false, .int .i64 0, .lst [], .int .i64 ((i + 1 : Nat) : Int)])) = (free n (i + 1)).map .d := by
      rw [← free_set hlt, List.map_set]; rfl
    simp (config := {decide := true}) only [ex_seq, ex_reg, ex_blk, its_cons, its_nil, it_o, it_g, opX, ev_t, ev_c, get_cons, get_nil, putO_some, putO_none, pv_some, int, Zv.bool, bin_i, intBin, Option.bind_some, Option.map_some, if_true, if_false, keepE_some, keep_cons, keep_nil, nxt_n, nxt_e, nxt_r, ex_cond, condB_b, ex_skip, ex_exit, ex_ret, want_some, wantV_b, wantV_t, norm_ptr, norm_own, norm_map, beq_self_eq_true, cW_clo, List.map_cons, List.map_nil, normArgs, norm_d, List.cons_append, List.nil_append, decide_true, decide_false, reduceCtorEq, Bool.false_eq_true, beq_iff_eq, Ex.exit.injEq, Nat.add_zero, Nat.zero_add, fa_fp, ld_fp, ldf_fp, partD_one, cells_agg, lenL_lst, stor_d, stor_own, stor_ptr, stor_tl, stor_agg, vcells_d, vcells_agg, vcells_own, vcells_ptr, vcells_tl, cells_int, cells_bool, cells_str, cells_lst, lay_nil, lay_cons, mkAgg1, mkAgg2, mkAgg3, mkAgg4, List.getElem?_cons_zero, List.getElem?_cons_succ, List.length_cons, List.length_nil, List.length_map, List.all_cons, List.all_nil, Bool.and_self, List.take_zero, List.take_succ_cons, List.drop_zero, List.drop_succ_cons, and_self, true_and, and_true, row_cons, set_cons, alloc_mk, nn1, nn2, nilck_ptr, nilck_fp, fa_ptr, partV_one, lenL_own, lenL_tl, asD_own, asD_ptr, asD_fp, asD_tl, asD_clo, asD_map, asD_d, asD_nil, mkAgg_own, mkAgg_ptr, mkAgg_tl, mkAgg_map, mkAgg_clo, mkAgg_d_own, mkAgg_dd_own, mkAgg_d_tl, mkAgg_dd_tl, Option.map_none, mkAgg5, mkAgg6, nilBin_ptr, nilBin_nil, ext_tup, pick_b, resV_one, resV_two, resV_three, done_norm, done_ret, eq_self, f10l0, f10r5, decide_eq_true (show (i : Int) < (n : Int) by omega)]
    simp (config := {decide := true}) only [ex_seq, ex_reg, ex_blk, its_cons, its_nil, it_o, it_g, opX, ev_t, ev_c, get_cons, get_nil, putO_some, putO_none, pv_some, int, Zv.bool, bin_i, intBin, Option.bind_some, Option.map_some, if_true, if_false, keepE_some, keep_cons, keep_nil, nxt_n, nxt_e, nxt_r, ex_cond, condB_b, ex_skip, ex_exit, ex_ret, want_some, wantV_b, wantV_t, norm_ptr, norm_own, norm_map, beq_self_eq_true, cW_clo, List.map_cons, List.map_nil, normArgs, norm_d, List.cons_append, List.nil_append, decide_true, decide_false, reduceCtorEq, Bool.false_eq_true, beq_iff_eq, Ex.exit.injEq, Nat.add_zero, Nat.zero_add, fa_fp, ld_fp, ldf_fp, partD_one, cells_agg, lenL_lst, stor_d, stor_own, stor_ptr, stor_tl, stor_agg, vcells_d, vcells_agg, vcells_own, vcells_ptr, vcells_tl, cells_int, cells_bool, cells_str, cells_lst, lay_nil, lay_cons, mkAgg1, mkAgg2, mkAgg3, mkAgg4, List.getElem?_cons_zero, List.getElem?_cons_succ, List.length_cons, List.length_nil, List.length_map, List.all_cons, List.all_nil, Bool.and_self, List.take_zero, List.take_succ_cons, List.drop_zero, List.drop_succ_cons, and_self, true_and, and_true, row_cons, set_cons, alloc_mk, nn1, nn2, nilck_ptr, nilck_fp, fa_ptr, partV_one, lenL_own, lenL_tl, asD_own, asD_ptr, asD_fp, asD_tl, asD_clo, asD_map, asD_d, asD_nil, mkAgg_own, mkAgg_ptr, mkAgg_tl, mkAgg_map, mkAgg_clo, mkAgg_d_own, mkAgg_dd_own, mkAgg_d_tl, mkAgg_dd_tl, Option.map_none, mkAgg5, mkAgg6, nilBin_ptr, nilBin_nil, ext_tup, pick_b, resV_one, resV_two, resV_three, done_norm, done_ret, eq_self, f10r6, f10r7, f10r8, hN, ia, ixOf_nat, ld, st, wrap_succ (show i < 2 ^ 62 by omega), free_len, hat, hlt, cellF, hset]
    subst hK
    rw [nxt_n]
    exact ih (i + 1) (by omega)
end Zc55
