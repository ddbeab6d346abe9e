/-
  The law of what a store keeps, in ZvVal's machine.
-/
import Derived.Test.YtlncinhieeopmaaZc55kS6
set_option linter.unusedSimpArgs false
set_option maxHeartbeats 4000000
namespace Zc55k
open Go Zv Zs
theorem take3 (l : List Wd) (hl : l.length ≤ 24) : takeS (newS 3) 1 l = if wErr (usedA (newS 3).cells) l = 0 then ((0, 0), ⟨[(true, 1, l), (false, 0, []), (false, 0, [])], [1, 2]⟩) else ((0, wErr (usedA (newS 3).cells) l), newS 3) := by
  unfold takeS
  rw [if_neg (by omega), if_neg (by omega)]
  by_cases h : wErr (usedA (newS 3).cells) l = 0
  · rw [if_neg (by simp [h]), if_pos h]; rfl
  · rw [if_pos h, if_neg h]
theorem storeKeeps : ∀ x0 x1 : D, ok (EE Zc55k.es) (.one (.l 2)) x0 → ok (EE Zc55k.es) (.one (.i .u8)) x1 → ∃ h', callW Zc55k.tab 6 [.d x0, .d x1] ⟨[], 0⟩ = some (.d (.bool true), h') := by
  intro x0 x1 h0 h1
  obtain ⟨n, rfl, hn⟩ := ok_i h1
  obtain ⟨n0, n1⟩ := u8_of hn
  obtain ⟨l, rfl, _, h2⟩ := ok_l h0
  obtain ⟨l, rfl⟩ := okEs_map (fun _ => okW) h2
  refine ⟨⟨[], 0⟩, ?_⟩
  apply call_wp (fn := f6) rfl rfl
  have L0 : Low ⟨[], 0⟩ := fun _ _ => rfl
  by_cases hl0 : l = []
  · subst hl0
    (simp only [e6, awake, List.map_nil, List.length_nil, Int.cast_ofNat_Int, ws, wsl, opX, int, Zv.bool, intBin, reduceIte, ↓reduceIte, Nat.reduceEqDiff, Nat.reduceAdd, Nat.reduceSub, Nat.reduceLeDiff, Int.reduceLT, Int.reduceLE, Int.reduceEq, Int.reduceBEq, Int.reduceNe, Int.reduceBNe, reduceCtorEq, Nat.reduceBEq] <;> repeat' (first | refine wpG_s ?_ ?_ | refine wpC_s ?_ ?_) <;> intro hgo <;> (try simp only [decide_eq_true_eq, decide_eq_false_iff_not, Bool.not_eq_true', Bool.not_eq_false'] at hgo) <;> simp only [hgo, e6, awake, List.map_nil, List.length_nil, Int.cast_ofNat_Int, ws, wsl, opX, int, Zv.bool, intBin, reduceIte, ↓reduceIte, Nat.reduceEqDiff, Nat.reduceAdd, Nat.reduceSub, Nat.reduceLeDiff, Int.reduceLT, Int.reduceLE, Int.reduceEq, Int.reduceBEq, Int.reduceNe, Int.reduceBNe, reduceCtorEq, Nat.reduceBEq])
  have hlp : 0 < l.length := List.length_pos_iff.2 hl0
  have e0 : ((l.length : Int) == 0) = false := by simp; omega
  have e0' : ((l.length : Int) = 0) = False := by simp; omega
  by_cases hl24 : 24 < l.length
  · have e1 : (24 : Int) < (l.length : Int) := by omega
    (simp only [e6, awake, e0, e1, ws, wsl, opX, int, Zv.bool, intBin, reduceIte, ↓reduceIte, Nat.reduceEqDiff, Nat.reduceAdd, Nat.reduceSub, Nat.reduceLeDiff, Int.reduceLT, Int.reduceLE, Int.reduceEq, Int.reduceBEq, Int.reduceNe, Int.reduceBNe, reduceCtorEq, Nat.reduceBEq] <;> repeat' (first | refine wpG_s ?_ ?_ | refine wpC_s ?_ ?_) <;> intro hgo <;> (try simp only [decide_eq_true_eq, decide_eq_false_iff_not, Bool.not_eq_true', Bool.not_eq_false'] at hgo) <;> simp only [hgo, e6, awake, e0, e1, ws, wsl, opX, int, Zv.bool, intBin, reduceIte, ↓reduceIte, Nat.reduceEqDiff, Nat.reduceAdd, Nat.reduceSub, Nat.reduceLeDiff, Int.reduceLT, Int.reduceLE, Int.reduceEq, Int.reduceBEq, Int.reduceNe, Int.reduceBNe, reduceCtorEq, Nat.reduceBEq])
  have e1 : ¬ (24 : Int) < (l.length : Int) := by omega
  obtain ⟨⟨v, h1⟩, hnew1, hv, hR1, hL1, hnx1, _⟩ := new_ok ⟨[], 0⟩ L0 3 (by omega)
  simp only at hv hR1 hL1 hnx1
  subst hv
  simp only [hnx1, Nat.zero_add] at hnew1 hR1
  have hnew1 : callW tab 10 [.d (.int .i64 3)] ⟨[], 0⟩ = some (.tup [.ptr 1 1 0 0, .d (.int .i64 0)], h1) := hnew1
  have hto := to_ok l (by omega) hl0 h1
  rw [hnx1] at hto
  have hnx1 : h1.next = 2 := hnx1
  have hL2 : Low ⟨(2, .arr 2 ((l.map eW).map .d)) :: h1.objs, 2 + 1⟩ := by
    have := low_top hL1 (.arr 2 ((l.map eW).map .d)); rw [hnx1] at this; exact this
  have hR2 : SR ⟨(2, .arr 2 ((l.map eW).map .d)) :: h1.objs, 2 + 1⟩ 1 0 (fun m => 0 ≤ m ∧ m < 2) (newS 3) := hR1.frame (fun m hm => by rw [get_mk, if_neg (by omega)]; rfl)
  obtain ⟨⟨v, h3⟩, htk, hv, A⟩ := take_ok hR2 hL2 (by simp [newS]) 1 l (by omega) (m := 2) (by rw [get_mk, if_pos rfl]) (by omega)
  simp only at hv A
  subst hv
  rw [take3 l (by omega)] at htk A
  by_cases hw : wErr (usedA (newS 3).cells) l = 0
  · rw [if_pos hw] at htk A
    simp only at htk A
    have hg2 : h3.get 2 = some (.arr 2 ((l.map eW).map .d)) := by rw [A.fr 2 (by show 2 < 3; omega) (by omega), get_mk, if_pos rfl]
    obtain ⟨m, hm, hml⟩ : ∃ m : Nat, n.tmod l.length = m ∧ m < l.length := by
      rw [Int.tmod_eq_emod_of_nonneg n0]
      have a1 := Int.emod_nonneg n (show (l.length : Int) ≠ 0 by omega)
      have a2 := Int.emod_lt_of_pos n (show (0 : Int) < l.length by omega)
      exact ⟨(n % l.length).toNat, by omega, by omega⟩
    have wn : IntKind.i64.wrap n = n := wrap_ok (by omega) (by omega)
    have wm : IntKind.i64.wrap (m : Int) = m := wrap_ok (by omega) (by omega)
    obtain ⟨w, hwm⟩ := get_of_lt hml
    have hrow2 : h3.row 2 l.length = some (2, (l.map eW).map .d) := by rw [row_lk, hg2, rowOf_arr, if_pos (by simp)]
    generalize hh4 : h3.set 2 (.arr 2 (((l.map eW).map V.d).set m (.d (.agg [.int .i64 w.1, .int .i64 (IntKind.i64.wrap (w.2 + 1))])))) = h4
    have hx3 := A.nx
    have hx3 : 3 ≤ h3.next := hx3
    have hnx4 : h4.next = h3.next := by rw [← hh4]; rfl
    have hL4 : Low h4 := by rw [← hh4]; exact low_set A.low _ _
    have hR4 := A.sr.frame (h' := h4) (fun k hk => by
      rw [← hh4, get_sets, if_neg]
      rintro rfl
      rcases hk with hk | hk
      · omega
      · have := hk.1; simp only at this; omega)
    obtain ⟨r, hc5, h5, q5, rfl, hg5, hq5, hL5, hfr5, hnx5⟩ := get_ok hR4 hL4 (i := 0) (tag := 1) (wl := l) rfl hl0
    have hO : ∀ k, ((0 ≤ k ∧ k < 2) ∨ ((⟨(2, .arr 2 ((l.map eW).map .d)) :: h1.objs, 2 + 1⟩ : Hp).next ≤ k ∧ k < h3.next)) → k < h4.next := by
      rintro k (hk | hk)
      · omega
      · omega
    have hR5 := hR4.frame (h' := h5) (fun k hk => hfr5 k (hO k hk))
    have hf5 := from_ok l (by omega) h5 hL5 hg5
    have hs5 := same_ok l (SlW.data h5 l) (by omega)
    have hrow5 : h5.row q5 l.length = some (2, (l.map eW).map .d) := by rw [row_lk, hg5, rowOf_arr, if_pos (by simp)]
    generalize hh6 : h5.set q5 (.arr 2 (((l.map eW).map V.d).set m (.d (.agg [.int .i64 9, .int .i64 w.2])))) = h6
    have hL6 : Low h6 := by rw [← hh6]; exact low_set hL5 _ _
    have hR6 := hR5.frame (h' := h6) (fun k hk => by
      rw [← hh6, get_sets, if_neg]
      have := hO k hk
      omega)
    obtain ⟨r, hc7, h7, q7, rfl, hg7, hq7, hL7, hfr7, hnx7⟩ := get_ok hR6 hL6 (i := 0) (tag := 1) (wl := l) rfl hl0
    have hf7 := from_ok l (by omega) h7 hL7 hg7
    have hs7 := same_ok l (SlW.data h7 l) (by omega)
    have hfin := finS_suf (h := ⟨[], 0⟩) (h' := h7) (by unfold sufOk; simp [objsBeq]) [.bool true]
    simp only [Int.cast_ofNat_Int] at hc5 hc7
    (simp only [e6, e0, e1, e0', hnew1, hto, htk, hnx1, wn, wm, hm, ia_own (es := 2) (n := 2) (tot := l.length) .i64 hml, ia_own (es := 2) (n := q5) (tot := l.length) .i64 hml, hrow2, hrow5, List.getElem?_map, hwm, st, hh4, hh6, hc5, hf5, hs5, hc7, hf7, hs7, awake_any hL7, ws, wsl, opX, int, Zv.bool, intBin, reduceIte, ↓reduceIte, Nat.reduceEqDiff, Nat.reduceAdd, Nat.reduceSub, Nat.reduceLeDiff, Int.reduceLT, Int.reduceLE, Int.reduceEq, Int.reduceBEq, Int.reduceNe, Int.reduceBNe, reduceCtorEq, Nat.reduceBEq] <;> repeat' (first | refine wpG_s ?_ ?_ | refine wpC_s ?_ ?_) <;> intro hgo <;> (try simp only [decide_eq_true_eq, decide_eq_false_iff_not, Bool.not_eq_true', Bool.not_eq_false'] at hgo) <;> simp only [hgo, e6, e0, e1, e0', hnew1, hto, htk, hnx1, wn, wm, hm, ia_own (es := 2) (n := 2) (tot := l.length) .i64 hml, ia_own (es := 2) (n := q5) (tot := l.length) .i64 hml, hrow2, hrow5, List.getElem?_map, hwm, st, hh4, hh6, hc5, hf5, hs5, hc7, hf7, hs7, awake_any hL7, ws, wsl, opX, int, Zv.bool, intBin, reduceIte, ↓reduceIte, Nat.reduceEqDiff, Nat.reduceAdd, Nat.reduceSub, Nat.reduceLeDiff, Int.reduceLT, Int.reduceLE, Int.reduceEq, Int.reduceBEq, Int.reduceNe, Int.reduceBNe, reduceCtorEq, Nat.reduceBEq])
    exact hfin
  · rw [if_neg hw] at htk A
    simp only at htk A
    have e2 : (wErr (usedA (newS 3).cells) l != 0) = true := by simp [hw]
    have hfin := finS_suf (h := ⟨[], 0⟩) (h' := h3) (by unfold sufOk; simp [objsBeq]) [.bool true]
    (simp only [e6, e0, e1, hnew1, hto, htk, e2, awake_any A.low, ws, wsl, opX, int, Zv.bool, intBin, reduceIte, ↓reduceIte, Nat.reduceEqDiff, Nat.reduceAdd, Nat.reduceSub, Nat.reduceLeDiff, Int.reduceLT, Int.reduceLE, Int.reduceEq, Int.reduceBEq, Int.reduceNe, Int.reduceBNe, reduceCtorEq, Nat.reduceBEq] <;> repeat' (first | refine wpG_s ?_ ?_ | refine wpC_s ?_ ?_) <;> intro hgo <;> (try simp only [decide_eq_true_eq, decide_eq_false_iff_not, Bool.not_eq_true', Bool.not_eq_false'] at hgo) <;> simp only [hgo, e6, e0, e1, hnew1, hto, htk, e2, awake_any A.low, ws, wsl, opX, int, Zv.bool, intBin, reduceIte, ↓reduceIte, Nat.reduceEqDiff, Nat.reduceAdd, Nat.reduceSub, Nat.reduceLeDiff, Int.reduceLT, Int.reduceLE, Int.reduceEq, Int.reduceBEq, Int.reduceNe, Int.reduceBNe, reduceCtorEq, Nat.reduceBEq])
    exact hfin
-- ws, wsl, opX, int, Zv.bool, intBin, reduceIte, ↓reduceIte, Nat.reduceEqDiff, Nat.reduceAdd, Nat.reduceSub, Nat.reduceLeDiff, Int.reduceLT, Int.reduceLE, Int.reduceEq, Int.reduceBEq, Int.reduceNe, Int.reduceBNe, reduceCtorEq, Nat.reduceBEq
end Zc55k
