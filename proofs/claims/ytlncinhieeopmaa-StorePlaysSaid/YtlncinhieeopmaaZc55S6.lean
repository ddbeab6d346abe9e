/-
  The program's Get and Put.
-/
import Derived.Test.YtlncinhieeopmaaZc55S5
set_option linter.unusedSimpArgs false
set_option maxHeartbeats 4000000
namespace Zc55
open Go Zv Zs

def getS (S : St) (n : Int) : Int × List Wd × Int := if sErrA S.cells n ≠ 0 then (0, [], sErrA S.cells n) else match S.cells[n.toNat]? with
  | some c => (c.2.1, c.2.2, 0)
  | none => (0, [], 0)
def putS (S : St) (n k : Int) (w : Wd) : Int × St := if sErrA S.cells n ≠ 0 then (sErrA S.cells n, S) else match S.cells[n.toNat]? with
  | some c => if k < 0 ∨ (c.2.2.length : Int) ≤ k then (2, S) else if wErr (usedA S.cells) [w] ≠ 0 then (wErr (usedA S.cells) [w], S) else (0, ⟨S.cells.set n.toNat (c.1, c.2.1, c.2.2.set k.toNat w), S.free⟩)
  | none => (0, S)
theorem putS_len (S : St) (n k : Int) (w : Wd) : (putS S n k w).2.cells.length = S.cells.length := by
  unfold putS
  split
  · rfl
  · split
    · split
      · rfl
      · split
        · rfl
        · simp
    · rfl
theorem cV_agg (c : PC) : (∃ l, cV c = .d (.agg l)) ∨ (∃ l, cV c = .agg l) := by
  unfold cV wV
  cases c.wh
  · exact .inl ⟨_, rfl⟩
  · exact .inr ⟨_, rfl⟩
  · exact .inr ⟨_, rfl⟩
theorem cV_stor (c : PC) : stor (cV c) = true := by
  rcases cV_agg c with ⟨l, h⟩ | ⟨l, h⟩ <;> rw [h] <;> rfl
theorem ld_cell {h : Hp} {n tot i : Nat} {els : List V} {c : PC} (hr : h.row n tot = some (4, els)) (he : els[i]? = some (cV c)) : ld true 4 h (.ptr n tot i 0) = some (cV c) := by
  simp only [ld, hr, Option.bind_some, he]
  rcases cV_agg c with ⟨l, h⟩ | ⟨l, h⟩ <;> rw [h] <;> simp
theorem cpy_top {wl : List Wd} {q p : Nat} {z : D} {l : List (Nat × Ob)} {v : V} (he : elems ⟨(q, .arr 2 (List.replicate wl.length (.d z))) :: l, p⟩ v = some ((wl.map eW).map .d)) : cpy 2 ⟨(q, .arr 2 (List.replicate wl.length (.d z))) :: l, p⟩ (.own q 2 wl.length 0 wl.length) v = some (int wl.length, ⟨(q, .arr 2 ((wl.map eW).map .d)) :: l, p⟩) := by
  have hx : allV 2 ((wl.map eW).map V.d) = true := by simp [allV, V.cells, D.cells]
  have hr := row_hd q 2 (List.replicate wl.length (.d z)) l p wl.length
  rw [if_pos (by simp)] at hr
  unfold cpy
  simp only [he, Option.bind_some, hx, if_true, hr, List.length_replicate, List.length_map, Nat.zero_add, Nat.min_self, Nat.le_refl, and_self, List.take_zero, List.nil_append, set_hd]
  rw [List.take_of_length_le (by simp), List.drop_of_length_le (by simp), List.append_nil]
theorem finS_get (h : Hp) (x y : D) (wl : List Wd) (p : Nat) : finS h ⟨(h.next + 1, .arr 2 ((wl.map eW).map .d)) :: h.objs, p⟩ [.d x, .own (h.next + 1) 2 wl.length 0 wl.length, .d y] = some (.tup [.d x, .d (eWs wl), .d y], h) := by
  unfold finS
  rw [if_pos (suf_one _ _)]
  have hr := row_hd (h.next + 1) 2 ((wl.map eW).map V.d) h.objs p wl.length
  rw [if_pos (by simp)] at hr
  have hb : back1 ⟨(h.next + 1, .arr 2 ((wl.map eW).map .d)) :: h.objs, p⟩ h.next (.own (h.next + 1) 2 wl.length 0 wl.length) = some (.d (eWs wl)) := by
    unfold back1
    have : deep ⟨(h.next + 1, .arr 2 ((wl.map eW).map .d)) :: h.objs, p⟩ h.next 8 (.own (h.next + 1) 2 wl.length 0 wl.length) = some (.lst (wl.map eW)) := by
      unfold deep
      simp only [hr, Option.bind_some, List.length_map, Nat.zero_add, Nat.le_refl, if_true, List.drop_zero]
      rw [if_pos (by omega), List.take_of_length_le (by simp), deep_ds]
      rfl
    rw [this]
  simp only [List.mapM_cons, List.mapM_nil, back_d, hb]
  rfl
theorem get_ok {h : Hp} {ns nc : Nat} {O : Nat → Prop} {S : St} (R : SR h ns nc O S) (L : Low h) (n : Int) :
    callW tab 18 [.ptr ns 1 0 0, .d (eI n)] h = some (.tup [.d (eI (getS S n).1), .d (eWs (getS S n).2.1), .d (eI (getS S n).2.2)], h) := by
  apply call_wp (fn := f18) rfl rfl
  obtain ⟨⟨cs, first, P, hab, hch, hown⟩, hok, hos⟩ := R
  have hst := state_ok P n
  have hE : sErr cs n = sErrA S.cells n := by unfold sErr; rw [hab]
  rw [hE] at hst
  unfold getS
  by_cases h0 : sErrA S.cells n = 0
  · rw [h0] at hst
    obtain ⟨i, a, rfl, ha, hu⟩ := sErrA_ok h0
    obtain ⟨c, hc⟩ := get_of_lt (l := cs) (n := i) (by have := lt_of_get ha; rw [← hab, List.length_map] at this; exact this)
    have hlt := lt_of_get hc
    have hac : a = ab c := by rw [← hab, List.getElem?_map, hc] at ha; cases ha; rfl
    have hld := ld_cell (i := i) (c := c) P.cells (by rw [List.getElem?_map, hc]; rfl)
    have hl24 : c.words.length ≤ 24 := by have := hok.sm a (List.mem_of_getElem? ha); rw [hac] at this; exact this
    have hmk : ∀ H : Hp, mkslO (.d (.agg [.int .i64 0, .int .i64 0])) 2 16 H (.d (.int .i64 c.words.length)) = some (.own H.next 2 c.words.length 0 c.words.length, H.alloc (.arr 2 (List.replicate c.words.length (.d (.agg [.int .i64 0, .int .i64 0]))))) := by
      intro H
      simp only [mkslO, ixOf_nat, Option.bind_some]
      rw [if_pos (by unfold roomB; omega)]
    have hres : (match S.cells[((i : Int)).toNat]? with | some c => (c.2.1, c.2.2, 0) | none => (0, [], 0) : Int × List Wd × Int) = (c.tag, c.words, 0) := by rw [Int.toNat_natCast, ha, hac]; rfl
    rw [if_neg (by rw [h0]; simp), hres]
    by_cases hrow : ∃ m, c.wh = .row m
    · obtain ⟨m, hm⟩ := hrow
      have hgm := P.w i c m hc hm
      have hmlt := low_lt L hgm
      have hwv : wV c = .own m 2 c.words.length 0 c.words.length := by unfold wV; rw [hm]
      have hfz : ∀ (nn nx : Nat) (l : List (Nat × Ob)), Zv.frz ⟨(nn, .arr 4 [cV c]) :: l, nx⟩ (.ptr nn 1 0 0) = some (.ptr nn 1 0 0, ⟨(nn, .arr 4 [cV c]) :: l, nx⟩) := by
        intro nn nx l
        have : toD (cV c) = none := by unfold cV; rw [hwv]; rfl
        simp only [Zv.frz, row_cons, if_true, List.length_cons, List.length_nil, Option.bind_some, List.getElem?_cons_zero, Option.map_some, this]
      have hel : elems ⟨(h.next + 1, .arr 2 (List.replicate c.words.length (.d (.agg [.int .i64 0, .int .i64 0])))) :: (h.next, .arr 4 [cV c]) :: h.objs, h.next + 1 + 1⟩ (.own m 2 c.words.length 0 c.words.length) = some ((c.words.map eW).map .d) := by
        simp only [elems, row_lk, get_mk, if_neg (show ¬ m = h.next + 1 by omega), if_neg (show ¬ m = h.next by omega), get_objs, hgm, rowOf_arr, List.length_map, if_true, Option.bind_some, Nat.zero_add, Nat.le_refl, List.drop_zero]
        rw [List.take_of_length_le (by simp)]
      have hcp := cpy_top hel
      have n5 : (h.next = h.next + 1) = False := by simp
      (simp only [e18, hst, P.row, ia_own (es := 4) (n := nc) (tot := cs.length) .i64 hlt, hld, cV_stor, cV_cells, hfz, hwv, hmk, hcp, row_cons, n5, Nat.one_pos, finS_get, lenL_own, ws, wsl, opX, int, Zv.bool, intBin, reduceIte, ↓reduceIte, Nat.reduceEqDiff, Nat.reduceAdd, Nat.reduceSub, Nat.reduceLeDiff, Int.reduceLT, Int.reduceLE, Int.reduceEq, Int.reduceBEq, Int.reduceNe, Int.reduceBNe, reduceCtorEq, Nat.reduceBEq] <;> repeat' (first | refine wpG_s ?_ ?_ | refine wpC_s ?_ ?_) <;> intro hgo <;> (try simp only [decide_eq_true_eq, decide_eq_false_iff_not, Bool.not_eq_true', Bool.not_eq_false'] at hgo) <;> simp only [hgo, e18, hst, P.row, ia_own (es := 4) (n := nc) (tot := cs.length) .i64 hlt, hld, cV_stor, cV_cells, hfz, hwv, hmk, hcp, row_cons, n5, Nat.one_pos, finS_get, lenL_own, ws, wsl, opX, int, Zv.bool, intBin, reduceIte, ↓reduceIte, Nat.reduceEqDiff, Nat.reduceAdd, Nat.reduceSub, Nat.reduceLeDiff, Int.reduceLT, Int.reduceLE, Int.reduceEq, Int.reduceBEq, Int.reduceNe, Int.reduceBNe, reduceCtorEq, Nat.reduceBEq])
    · have hno : ∀ m, c.wh ≠ .row m := fun m hm => hrow ⟨m, hm⟩
      have hw0 := P.e c (List.mem_of_getElem? hc) hno
      have hfz : ∀ (nn nx : Nat) (l : List (Nat × Ob)), Zv.frz ⟨(nn, .arr 4 [cV c]) :: l, nx⟩ (.ptr nn 1 0 0) = some (.fp (.agg [.bool c.used, .int .i64 c.tag, .lst [], .int .i64 c.next]) 0, ⟨l, nx⟩) := by
        intro nn nx l
        have : toD (cV c) = some (.agg [.bool c.used, .int .i64 c.tag, .lst [], .int .i64 c.next]) := by
          unfold cV wV
          cases hw : c.wh with
          | fresh => rfl
          | nil => rfl
          | row m => exact absurd hw (hno m)
        simp only [Zv.frz, row_cons, if_true, List.length_cons, List.length_nil, Option.bind_some, List.getElem?_cons_zero, Option.map_some, this, kill_hd]
      have hcp := cpy_top (wl := []) (q := h.next + 1) (p := h.next + 1 + 1) (z := .agg [.int .i64 0, .int .i64 0]) (l := h.objs) (v := .d (.lst [])) rfl
      have hfin := finS_get h (.int .i64 c.tag) (.int .i64 0) [] (h.next + 1 + 1)
      rw [hw0] at hmk ⊢
      simp only [List.length_nil, Int.cast_ofNat_Int, List.map_nil] at hmk hcp hfin
      (simp only [e18, hst, P.row, ia_own (es := 4) (n := nc) (tot := cs.length) .i64 hlt, hld, cV_stor, cV_cells, hfz, hmk, hcp, Nat.one_pos, hfin, ws, wsl, opX, int, Zv.bool, intBin, reduceIte, ↓reduceIte, Nat.reduceEqDiff, Nat.reduceAdd, Nat.reduceSub, Nat.reduceLeDiff, Int.reduceLT, Int.reduceLE, Int.reduceEq, Int.reduceBEq, Int.reduceNe, Int.reduceBNe, reduceCtorEq, Nat.reduceBEq] <;> repeat' (first | refine wpG_s ?_ ?_ | refine wpC_s ?_ ?_) <;> intro hgo <;> (try simp only [decide_eq_true_eq, decide_eq_false_iff_not, Bool.not_eq_true', Bool.not_eq_false'] at hgo) <;> simp only [hgo, e18, hst, P.row, ia_own (es := 4) (n := nc) (tot := cs.length) .i64 hlt, hld, cV_stor, cV_cells, hfz, hmk, hcp, Nat.one_pos, hfin, ws, wsl, opX, int, Zv.bool, intBin, reduceIte, ↓reduceIte, Nat.reduceEqDiff, Nat.reduceAdd, Nat.reduceSub, Nat.reduceLeDiff, Int.reduceLT, Int.reduceLE, Int.reduceEq, Int.reduceBEq, Int.reduceNe, Int.reduceBNe, reduceCtorEq, Nat.reduceBEq])
  · have e2 : (sErrA S.cells n != 0) = true := by simp [h0]
    have hfn : ∀ e, finS h h [.d (.int .i64 0), .tl [] (some true), .d (.int .i64 e)] = some (.tup [.d (.int .i64 0), .d (.lst []), .d (.int .i64 e)], h) := by
      intro e; unfold finS; rw [if_pos (suf_refl _)]; rfl
    rw [if_pos h0]
    (simp only [e18, hst, e2, hfn, List.map_nil, ws, wsl, opX, int, Zv.bool, intBin, reduceIte, ↓reduceIte, Nat.reduceEqDiff, Nat.reduceAdd, Nat.reduceSub, Nat.reduceLeDiff, Int.reduceLT, Int.reduceLE, Int.reduceEq, Int.reduceBEq, Int.reduceNe, Int.reduceBNe, reduceCtorEq, Nat.reduceBEq] <;> repeat' (first | refine wpG_s ?_ ?_ | refine wpC_s ?_ ?_) <;> intro hgo <;> (try simp only [decide_eq_true_eq, decide_eq_false_iff_not, Bool.not_eq_true', Bool.not_eq_false'] at hgo) <;> simp only [hgo, e18, hst, e2, hfn, List.map_nil, ws, wsl, opX, int, Zv.bool, intBin, reduceIte, ↓reduceIte, Nat.reduceEqDiff, Nat.reduceAdd, Nat.reduceSub, Nat.reduceLeDiff, Int.reduceLT, Int.reduceLE, Int.reduceEq, Int.reduceBEq, Int.reduceNe, Int.reduceBNe, reduceCtorEq, Nat.reduceBEq])
    rfl

theorem SR.same {h : Hp} {ns nc : Nat} {O : Nat → Prop} {S : St} (R : SR h ns nc O S) (L : Low h) (q : Nat) (hq : h.next ≤ q) : Aft h ns nc O S ⟨h.objs, q⟩ :=
  ⟨(R.frame (h' := ⟨h.objs, q⟩) (fun _ _ => rfl)).wide fun _ h => .inl h, fun _ _ _ => rfl, fun m hm => L m (Nat.le_trans hq hm), hq⟩
theorem put_ok {h : Hp} {ns nc : Nat} {O : Nat → Prop} {S : St} (R : SR h ns nc O S) (L : Low h) (n k : Int) (w : Wd) :
    ∃ r, callW tab 24 [.ptr ns 1 0 0, .d (eI n), .d (eI k), .d (eW w)] h = some r ∧ r.1 = .d (eI (putS S n k w).1) ∧ Aft h ns nc O (putS S n k w).2 r.2 := by
  apply call_wpE (fn := f24) rfl rfl
  obtain ⟨⟨cs, first, P, hab, hch, hown⟩, hok, hos⟩ := R
  have R0 : SR h ns nc O S := ⟨⟨cs, first, P, hab, hch, hown⟩, hok, hos⟩
  have A0 := R0.same L (h.next + 1) (Nat.le_succ _)
  have P1 : PR (⟨h.objs, h.next + 1⟩ : Hp).get ns nc cs first S.free.length := P
  have hst := state_ok P1 n
  have hE : sErr cs n = sErrA S.cells n := by unfold sErr; rw [hab]
  rw [hE] at hst
  have hU : usedS cs = usedA S.cells := by funext n; unfold usedS; rw [hab]
  have hwd := words_ok P1 [w] (by simp)
  rw [hU] at hwd
  have ntl : norm (.tl [.d (eW w)] (some false)) = .d (eWs [w]) := rfl
  have hs := P.s
  unfold putS
  by_cases h0 : sErrA S.cells n = 0
  · rw [h0] at hst
    obtain ⟨i, a, rfl, ha, hu⟩ := sErrA_ok h0
    obtain ⟨c, hc⟩ := get_of_lt (l := cs) (n := i) (by have := lt_of_get ha; rw [← hab, List.length_map] at this; exact this)
    have hlt := lt_of_get hc
    have hac : a = ab c := by rw [← hab, List.getElem?_map, hc] at ha; cases ha; rfl
    subst hac
    rw [if_neg (by rw [h0]; simp)]
    simp only [Int.toNat_natCast, ha, ab]
    have hlen := (P.words hc).2.len
    by_cases hk0 : k < 0
    · rw [if_pos (.inl hk0)]
      (simp only [e24, hst, hr, hs, P.c, ia_own (es := 4) (n := nc) (tot := cs.length) .i64 hlt, hk0, ws, wsl, opX, int, Zv.bool, intBin, reduceIte, ↓reduceIte, Nat.reduceEqDiff, Nat.reduceAdd, Nat.reduceSub, Nat.reduceLeDiff, Int.reduceLT, Int.reduceLE, Int.reduceEq, Int.reduceBEq, Int.reduceNe, Int.reduceBNe, reduceCtorEq, Nat.reduceBEq] <;> repeat' (first | refine wpG_s ?_ ?_ | refine wpC_s ?_ ?_) <;> intro hgo <;> (try simp only [decide_eq_true_eq, decide_eq_false_iff_not, Bool.not_eq_true', Bool.not_eq_false'] at hgo) <;> simp only [hgo, e24, hst, hr, hs, P.c, ia_own (es := 4) (n := nc) (tot := cs.length) .i64 hlt, hk0, ws, wsl, opX, int, Zv.bool, intBin, reduceIte, ↓reduceIte, Nat.reduceEqDiff, Nat.reduceAdd, Nat.reduceSub, Nat.reduceLeDiff, Int.reduceLT, Int.reduceLE, Int.reduceEq, Int.reduceBEq, Int.reduceNe, Int.reduceBNe, reduceCtorEq, Nat.reduceBEq])
      exact ⟨_, rfl, rfl, A0⟩
    · by_cases hk1 : (c.words.length : Int) ≤ k
      · rw [if_pos (.inr hk1)]
        (simp only [e24, hst, hr, hs, P.c, ia_own (es := 4) (n := nc) (tot := cs.length) .i64 hlt, hk0, hk1, List.getElem?_map, hc, cV_cells, hlen, ws, wsl, opX, int, Zv.bool, intBin, reduceIte, ↓reduceIte, Nat.reduceEqDiff, Nat.reduceAdd, Nat.reduceSub, Nat.reduceLeDiff, Int.reduceLT, Int.reduceLE, Int.reduceEq, Int.reduceBEq, Int.reduceNe, Int.reduceBNe, reduceCtorEq, Nat.reduceBEq] <;> repeat' (first | refine wpG_s ?_ ?_ | refine wpC_s ?_ ?_) <;> intro hgo <;> (try simp only [decide_eq_true_eq, decide_eq_false_iff_not, Bool.not_eq_true', Bool.not_eq_false'] at hgo) <;> simp only [hgo, e24, hst, hr, hs, P.c, ia_own (es := 4) (n := nc) (tot := cs.length) .i64 hlt, hk0, hk1, List.getElem?_map, hc, cV_cells, hlen, ws, wsl, opX, int, Zv.bool, intBin, reduceIte, ↓reduceIte, Nat.reduceEqDiff, Nat.reduceAdd, Nat.reduceSub, Nat.reduceLeDiff, Int.reduceLT, Int.reduceLE, Int.reduceEq, Int.reduceBEq, Int.reduceNe, Int.reduceBNe, reduceCtorEq, Nat.reduceBEq])
        exact ⟨_, rfl, rfl, A0⟩
      · rw [if_neg (by omega)]
        obtain ⟨j, rfl⟩ : ∃ j : Nat, k = j := ⟨k.toNat, by omega⟩
        have hjl : j < c.words.length := by omega
        have hk1' : ¬ c.words.length ≤ j := by omega
        by_cases h2 : wErr (usedA S.cells) [w] = 0
        · rw [if_neg (by rw [h2]; simp)]
          rw [h2] at hwd
          obtain ⟨m, hm⟩ : ∃ m, c.wh = .row m := by
            cases hw : c.wh with
            | row m => exact ⟨m, rfl⟩
            | fresh => have := P.e c (List.mem_of_getElem? hc) (by rw [hw]; intro n h; cases h); rw [this] at hjl; simp at hjl
            | nil => have := P.e c (List.mem_of_getElem? hc) (by rw [hw]; intro n h; cases h); rw [this] at hjl; simp at hjl
          have hgm := P.w i c m hc hm
          have hwv : wV c = .own m 2 c.words.length 0 c.words.length := by unfold wV; rw [hm]
          have hrm : Hp.row ⟨h.objs, h.next + 1⟩ m c.words.length = some (2, (c.words.map eW).map .d) := by rw [row_lk, get_objs, hgm, rowOf_arr, if_pos (by simp)]
          obtain ⟨w0, hw0⟩ := get_of_lt hjl
          have hst2 := st_all (sz := 2) (x := .d (eW w)) (i := j) (e := .d (eW w0)) hrm (by simp [hw0]) rfl rfl
          have hset : ((c.words.map eW).map V.d).set j (.d (eW w)) = ((c.words.set j w).map eW).map .d := by rw [List.map_set, List.map_set]
          rw [hset, set_objs] at hst2
          have hmn := P.wn i c m hc hm
          (simp only [e24, hst, hr, hs, P.c, ia_own (es := 4) (n := nc) (tot := cs.length) .i64 hlt, hk0, hk1', List.getElem?_map, hc, cV_cells, hlen, hwd, ntl, hwv, ia_own (es := 2) (n := m) (tot := c.words.length) .i64 hjl, hst2, ws, wsl, opX, int, Zv.bool, intBin, reduceIte, ↓reduceIte, Nat.reduceEqDiff, Nat.reduceAdd, Nat.reduceSub, Nat.reduceLeDiff, Int.reduceLT, Int.reduceLE, Int.reduceEq, Int.reduceBEq, Int.reduceNe, Int.reduceBNe, reduceCtorEq, Nat.reduceBEq] <;> repeat' (first | refine wpG_s ?_ ?_ | refine wpC_s ?_ ?_) <;> intro hgo <;> (try simp only [decide_eq_true_eq, decide_eq_false_iff_not, Bool.not_eq_true', Bool.not_eq_false'] at hgo) <;> simp only [hgo, e24, hst, hr, hs, P.c, ia_own (es := 4) (n := nc) (tot := cs.length) .i64 hlt, hk0, hk1', List.getElem?_map, hc, cV_cells, hlen, hwd, ntl, hwv, ia_own (es := 2) (n := m) (tot := c.words.length) .i64 hjl, hst2, ws, wsl, opX, int, Zv.bool, intBin, reduceIte, ↓reduceIte, Nat.reduceEqDiff, Nat.reduceAdd, Nat.reduceSub, Nat.reduceLeDiff, Int.reduceLT, Int.reduceLE, Int.reduceEq, Int.reduceBEq, Int.reduceNe, Int.reduceBNe, reduceCtorEq, Nat.reduceBEq])
          refine ⟨_, rfl, rfl, ?_⟩
          have hg1 : ∀ x, Hp.get ⟨(h.set m (.arr 2 (((c.words.set j w).map eW).map .d))).objs, h.next + 1⟩ x = if x = m then some (.arr 2 (((c.words.set j w).map eW).map .d)) else h.get x := by
            intro x; rw [get_objs, get_sets, hgm]; rfl
          have hiA := lt_of_get ha
          have hcs : cV ⟨c.used, c.tag, c.words.set j w, c.next, c.wh⟩ = cV c := by unfold cV wV; rw [hm]; simp
          have hcsm : (cs.set i ⟨c.used, c.tag, c.words.set j w, c.next, c.wh⟩).map cV = cs.map cV := by
            rw [List.map_set, hcs]
            apply List.ext_getElem?
            intro x
            by_cases hx : i = x
            · subst hx; rw [List.getElem?_set_self (by simpa using hlt), List.getElem?_map, hc]; rfl
            · rw [List.getElem?_set_ne hx]
          refine ⟨⟨⟨cs.set i ⟨c.used, c.tag, c.words.set j w, c.next, c.wh⟩, first, P.put hc ?_ ?_ ?_ ?_ ?_, ?_, ?_, ?_⟩, ?_, ?_⟩, ?_, ?_, Nat.le_succ _⟩
          · rw [hg1, if_neg (Ne.symm hmn.1)]; exact hs
          · rw [hg1, if_neg (Ne.symm hmn.2), hcsm]; exact P.c
          · intro x hx
            simp only at hx
            rw [hm] at hx; cases hx
            refine ⟨by rw [hg1, if_pos rfl], hmn.1, hmn.2, fun y c2 hy h2 hcon => hy (P.d y i c2 c m h2 hc hcon hm)⟩
          · intro hx; exact absurd hm (hx m)
          · intro y c2 x hy h2 h3
            rw [hg1, if_neg (fun (e : x = m) => hy (P.d y i c2 c m h2 hc (by rw [← e]; exact h3) hm))]
          · rw [List.map_set, hab]; rfl
          · have : ∀ (r : List Nat) (f : Int), Chain cs f r → Chain (cs.set i ⟨c.used, c.tag, c.words.set j w, c.next, c.wh⟩) f r := by
              intro r
              induction r with
              | nil => intro f _; trivial
              | cons y r ih =>
                rintro f ⟨e1, c2, e2, e3, e4⟩
                by_cases hy : i = y
                · subst hy
                  rw [hc] at e2; cases e2
                  exact ⟨e1, _, List.getElem?_set_self hlt, e3, ih _ e4⟩
                · exact ⟨e1, c2, by rw [List.getElem?_set_ne hy]; exact e2, e3, ih _ e4⟩
            exact this _ _ hch
          · intro c2 h2 x hx
            rcases List.mem_or_eq_of_mem_set h2 with h2 | rfl
            · exact .inl (hown c2 h2 x hx)
            · exact .inl (hown c (List.mem_of_getElem? hc) x hx)
          · refine ⟨hok.nd, fun y => ?_, fun c2 h2 => ?_⟩
            · rw [hok.mem y]
              by_cases hy : i = y
              · subst hy
                rw [List.getElem?_set_self hiA, ha]
                constructor
                · rintro ⟨x, hx, hx2⟩; cases hx; exact ⟨_, rfl, hx2⟩
                · rintro ⟨x, hx, hx2⟩; cases hx; exact ⟨_, rfl, hx2⟩
              · rw [List.getElem?_set_ne hy]
            · rcases List.mem_or_eq_of_mem_set h2 with h2 | rfl
              · exact hok.sm c2 h2
              · have := hok.sm _ (List.mem_of_getElem? ha)
                simpa [ab] using this
          · exact ⟨.inl hos.1, .inl hos.2⟩
          · intro x hx hO
            rw [hg1, if_neg (fun (e : x = m) => hO (by rw [e]; exact hown c (List.mem_of_getElem? hc) m hm))]
          · intro x hx
            exact low_set L m (.arr 2 (((c.words.set j w).map eW).map .d)) x (Nat.le_trans (Nat.le_succ _) hx)
        · rw [if_pos h2]
          have e2 : (wErr (usedA S.cells) [w] != 0) = true := by simp [h2]
          (simp only [e24, hst, hr, hs, P.c, ia_own (es := 4) (n := nc) (tot := cs.length) .i64 hlt, hk0, hk1', List.getElem?_map, hc, cV_cells, hlen, hwd, ntl, e2, ws, wsl, opX, int, Zv.bool, intBin, reduceIte, ↓reduceIte, Nat.reduceEqDiff, Nat.reduceAdd, Nat.reduceSub, Nat.reduceLeDiff, Int.reduceLT, Int.reduceLE, Int.reduceEq, Int.reduceBEq, Int.reduceNe, Int.reduceBNe, reduceCtorEq, Nat.reduceBEq] <;> repeat' (first | refine wpG_s ?_ ?_ | refine wpC_s ?_ ?_) <;> intro hgo <;> (try simp only [decide_eq_true_eq, decide_eq_false_iff_not, Bool.not_eq_true', Bool.not_eq_false'] at hgo) <;> simp only [hgo, e24, hst, hr, hs, P.c, ia_own (es := 4) (n := nc) (tot := cs.length) .i64 hlt, hk0, hk1', List.getElem?_map, hc, cV_cells, hlen, hwd, ntl, e2, ws, wsl, opX, int, Zv.bool, intBin, reduceIte, ↓reduceIte, Nat.reduceEqDiff, Nat.reduceAdd, Nat.reduceSub, Nat.reduceLeDiff, Int.reduceLT, Int.reduceLE, Int.reduceEq, Int.reduceBEq, Int.reduceNe, Int.reduceBNe, reduceCtorEq, Nat.reduceBEq])
          exact ⟨_, rfl, rfl, A0⟩
  · rw [if_pos h0]
    have e2 : (sErrA S.cells n != 0) = true := by simp [h0]
    (simp only [e24, hst, e2, ws, wsl, opX, int, Zv.bool, intBin, reduceIte, ↓reduceIte, Nat.reduceEqDiff, Nat.reduceAdd, Nat.reduceSub, Nat.reduceLeDiff, Int.reduceLT, Int.reduceLE, Int.reduceEq, Int.reduceBEq, Int.reduceNe, Int.reduceBNe, reduceCtorEq, Nat.reduceBEq] <;> repeat' (first | refine wpG_s ?_ ?_ | refine wpC_s ?_ ?_) <;> intro hgo <;> (try simp only [decide_eq_true_eq, decide_eq_false_iff_not, Bool.not_eq_true', Bool.not_eq_false'] at hgo) <;> simp only [hgo, e24, hst, e2, ws, wsl, opX, int, Zv.bool, intBin, reduceIte, ↓reduceIte, Nat.reduceEqDiff, Nat.reduceAdd, Nat.reduceSub, Nat.reduceLeDiff, Int.reduceLT, Int.reduceLE, Int.reduceEq, Int.reduceBEq, Int.reduceNe, Int.reduceBNe, reduceCtorEq, Nat.reduceBEq])
    exact ⟨_, rfl, rfl, A0⟩
-- ws, wsl, opX, int, Zv.bool, intBin, reduceIte, ↓reduceIte, Nat.reduceEqDiff, Nat.reduceAdd, Nat.reduceSub, Nat.reduceLeDiff, Int.reduceLT, Int.reduceLE, Int.reduceEq, Int.reduceBEq, Int.reduceNe, Int.reduceBNe, reduceCtorEq, Nat.reduceBEq
end Zc55
