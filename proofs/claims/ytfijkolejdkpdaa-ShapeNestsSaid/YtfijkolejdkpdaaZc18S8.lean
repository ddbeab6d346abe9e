/-
  The text of a shape: the program's.
-/
import Derived.Test.YtfijkolejdkpdaaZc18S7
set_option linter.unusedSimpArgs false
set_option maxHeartbeats 4000000
namespace Zc18
open Go Zv Zs

theorem strsD_map : ∀ l : List ByteArray, strsD (l.map eS) = some l
  | [] => rfl
  | x :: l => by rw [List.map_cons, strsD, strsD_map l]; rfl
theorem prim0 {xs : List ByteArray} {s : ByteArray} (h1 : xs.length ≤ 1048576) (h2 : (joinL xs s).size ≤ 281474976710656) : prim 0 [.lst (xs.map eS), .str s] = some (.str (joinL xs s)) := by
  unfold prim
  simp only [strsD_map, Option.bind_some]
  rw [if_pos ⟨h1, h2⟩]
theorem join_nil (h : Hp) : callW tab 27 [.d (.lst []), .d (.str ⟨#[32]⟩)] h = some (.d (.str (joinL [] ⟨#[32]⟩)), h) := by
  rw [callW_pr (fn := f27) (k := 0) rfl rfl rfl]
  rfl
theorem join_own {h : Hp} {m : Nat} {xs : List ByteArray} (hr : h.row m xs.length = some (1, (xs.map eS).map .d)) (h1 : xs.length ≤ 1048576) (h2 : (joinL xs ⟨#[32]⟩).size ≤ 281474976710656) :
    callW tab 27 [.own m 1 xs.length 0 xs.length, .d (.str ⟨#[32]⟩)] h = some (.d (.str (joinL xs ⟨#[32]⟩)), h) := by
  rw [callW_pr (fn := f27) (k := 0) rfl rfl rfl]
  unfold primC
  have hd : deep h 0 8 (.own m 1 xs.length 0 xs.length) = some (.lst (xs.map eS)) := by
    unfold deep
    simp only [hr, Option.bind_some, List.length_map, Nat.zero_add, Nat.le_refl, if_true, List.drop_zero, Nat.zero_le]
    rw [List.take_of_length_le (by simp), deep_ds]
    rfl
  have hd2 : deep h 0 8 (.d (.str ⟨#[32]⟩)) = some (.str ⟨#[32]⟩) := rfl
  simp only [List.mapM_cons, List.mapM_nil, hd, hd2]
  show (prim 0 [.lst (xs.map eS), .str ⟨#[32]⟩]).map _ = _
  rw [prim0 h1 h2]
  rfl
theorem row_appq (b : Hp) (l : List ByteArray) (x : ByteArray) (q : Nat) (hq : l = [] → q = b.next) (hl : l.length < 2 ^ 20) :
    ∃ q', q ≤ q' ∧ app 1 16 ⟨(rowH b 1 (l.map eS)).objs, q⟩ (rowV b 1 (l.map eS)) (.tl [.d (.str x)] (some false)) = some (rowV b 1 ((l ++ [x]).map eS), ⟨(rowH b 1 ((l ++ [x]).map eS)).objs, q'⟩) := by
  by_cases h0 : l = []
  · subst h0
    have := hq rfl
    subst this
    refine ⟨b.next + 1, Nat.le_succ _, ?_⟩
    have := rowD_app b (es := 1) (b := 16) (l := []) (x := eS x) rfl (by simp [roomB]) (fun y hy => by cases hy)
    exact this
  · refine ⟨q, Nat.le_refl _, ?_⟩
    have hx : allV 1 [V.d (.str x)] = true := by simp [allV, V.cells, D.cells]
    have hr : Hp.row ⟨(rowH b 1 (l.map eS)).objs, q⟩ b.next l.length = some (1, (l.map eS).map .d) := by
      refine row_look ?_ (by simp)
      unfold rowH
      rw [if_neg (by simpa using h0)]
      exact look_hd ..
    unfold app
    simp only [elems, Option.bind_some, List.map_cons, List.map_nil, norm_d, hx, if_true]
    have e1 : rowV b 1 (l.map eS) = .own b.next 1 l.length 0 l.length := by unfold rowV; rw [if_neg (by simpa using h0), List.length_map]
    have e2 : rowV b 1 ((l ++ [x]).map eS) = .own b.next 1 (l.length + 1) 0 (l.length + 1) := by unfold rowV; rw [if_neg (by simp)]; simp
    rw [e1, e2]
    simp only [hr, Option.bind_some, List.length_map, Nat.zero_add, Nat.le_refl, and_self, if_true, List.isEmpty_cons, Bool.false_eq_true, if_false, List.length_cons, List.length_nil]
    rw [if_neg (by omega), if_pos (by unfold roomB; omega), List.take_of_length_le (by simp)]
    congr 2
    unfold Hp.set rowH
    rw [if_neg (by simpa using h0), if_neg (by simp)]
    show Hp.mk (upd ((b.next, _) :: _) b.next _) q = _
    rw [upd_hd]
    simp [Hp.alloc]
theorem ptext_ok {d : List Dt} (S : Sm d) (t : Int) (h : Hp) : callW tab 13 [.d (eDs d), .d (eI t)] h = some (.tup [.d (.str (textS d t).1), .d (eI (textS d t).2)], h) := by
  apply call_wp (fn := f13) rfl rfl
  have B := S.bd
  have N := S.nm
  have hch := fun hh => pcheck_ok B N hh
  have hof := fun hh => pof_ok B N t hh
  unfold textS
  by_cases hC : checkS d = 0
  · rw [if_neg (by simp [hC])]
    by_cases hT : isT d t = true
    · rw [if_neg (by simp [hT])]
      have hlen := ofS_len B t
      have hbl := B.len
      have hnl : (namesS d t).length = (ofS d t).length := by simp [namesS]
      (simp only [e13, hch, hC, sexists_ok, hT, hof, ws, wsl, opX, int, Zv.bool, intBin, reduceIte, ↓reduceIte, Nat.reduceEqDiff, Nat.reduceAdd, Nat.reduceSub, Nat.reduceLeDiff, Int.reduceLT, Int.reduceLE, Int.reduceEq, Int.reduceBEq, Int.reduceNe, Int.reduceBNe, reduceCtorEq, Nat.reduceBEq] <;> repeat' (first | refine wpG_s ?_ ?_ | refine wpC_s ?_ ?_) <;> intro hgo <;> (try simp only [decide_eq_true_eq, decide_eq_false_iff_not, Bool.not_eq_true', Bool.not_eq_false'] at hgo) <;> simp only [hgo, e13, hch, hC, sexists_ok, hT, hof, ws, wsl, opX, int, Zv.bool, intBin, reduceIte, ↓reduceIte, Nat.reduceEqDiff, Nat.reduceAdd, Nat.reduceSub, Nat.reduceLeDiff, Int.reduceLT, Int.reduceLE, Int.reduceEq, Int.reduceBEq, Int.reduceNe, Int.reduceBNe, reduceCtorEq, Nat.reduceBEq])
      generalize hb : (⟨h.objs, h.next + 1⟩ : Hp) = b
      have hbn : b.next = h.next + 1 := by rw [← hb]
      have hbo : b.objs = h.objs := by rw [← hb]
      refine loop_wp (ofS d t).length (fun n e h' => ∃ q, ((namesS d t).take n = [] → q = h.next) ∧ h' = ⟨(rowH b 1 (((namesS d t).take n).map eS)).objs, q⟩ ∧ e = [(0, .d (eDs d)), (6, rowV b 1 (((namesS d t).take n).map eS)), (18, .d (eWs (ofS d t))), (19, .d (.int .i64 (ofS d t).length)), (20, .d (.int .i64 n))]) _ ?_ ?_ (ofS d t).length 0 _ _ (by omega) ⟨h.next, fun _ => rfl, by rw [List.take_zero, List.map_nil, rowH_nil, hbo], rfl⟩
      · rintro n e h' hn ⟨q, hq, rfl, rfl⟩
        obtain ⟨w, hw⟩ := get_of_lt hn
        obtain ⟨m, k, y, c, rfl, hy, hc⟩ := ofS_at (List.mem_of_getElem? hw)
        have b' := B.at hy
        have hwr := wrap_sub1 (n := m) (by omega)
        have hnm : (namesS d t)[n]? = some c.name := by unfold namesS; rw [List.getElem?_map, hw, Option.map_some, conN_at hy hc]
        have htk : (namesS d t).take (n + 1) = (namesS d t).take n ++ [c.name] := by rw [List.take_add_one, hnm]; rfl
        obtain ⟨q', hqq, ha⟩ := row_appq b ((namesS d t).take n) c.name (q + 1) (fun h0 => by rw [hq h0, hbn]) (by rw [List.length_take]; omega)
        rw [← htk] at ha
        (simp only [e13, hn, iaW hw, hwr, iaD hy, iaC hc, ha, wrap_succ (show n < 2 ^ 62 by omega), ws, wsl, opX, int, Zv.bool, intBin, reduceIte, ↓reduceIte, Nat.reduceEqDiff, Nat.reduceAdd, Nat.reduceSub, Nat.reduceLeDiff, Int.reduceLT, Int.reduceLE, Int.reduceEq, Int.reduceBEq, Int.reduceNe, Int.reduceBNe, reduceCtorEq, Nat.reduceBEq] <;> repeat' (first | refine wpG_s ?_ ?_ | refine wpC_s ?_ ?_) <;> intro hgo <;> (try simp only [decide_eq_true_eq, decide_eq_false_iff_not, Bool.not_eq_true', Bool.not_eq_false'] at hgo) <;> simp only [hgo, e13, hn, iaW hw, hwr, iaD hy, iaC hc, ha, wrap_succ (show n < 2 ^ 62 by omega), ws, wsl, opX, int, Zv.bool, intBin, reduceIte, ↓reduceIte, Nat.reduceEqDiff, Nat.reduceAdd, Nat.reduceSub, Nat.reduceLeDiff, Int.reduceLT, Int.reduceLE, Int.reduceEq, Int.reduceBEq, Int.reduceNe, Int.reduceBNe, reduceCtorEq, Nat.reduceBEq])
        refine ⟨q', fun h0 => ?_, rfl⟩
        rw [htk] at h0; simp at h0
      · rintro e h' ⟨q, hq, rfl, rfl⟩
        rw [List.take_of_length_le (by omega)] at *
        have hfin := finS_suf (h := h) (h' := ⟨(rowH b 1 ((namesS d t).map eS)).objs, q⟩) (by have := rowD_suf b 1 ((namesS d t).map eS); rw [hbo] at this; exact this) [.str (joinL (namesS d t) ⟨#[32]⟩), .int .i64 0]
        have hsz := joinL_size (namesS d t) (names_size S t)
        unfold sSp at hsz ⊢
        by_cases h0 : namesS d t = []
        · rw [h0] at hfin ⊢
          (simp only [e13, List.map_nil, rowV_nil, join_nil, ws, wsl, opX, int, Zv.bool, intBin, reduceIte, ↓reduceIte, Nat.reduceEqDiff, Nat.reduceAdd, Nat.reduceSub, Nat.reduceLeDiff, Int.reduceLT, Int.reduceLE, Int.reduceEq, Int.reduceBEq, Int.reduceNe, Int.reduceBNe, reduceCtorEq, Nat.reduceBEq] <;> repeat' (first | refine wpG_s ?_ ?_ | refine wpC_s ?_ ?_) <;> intro hgo <;> (try simp only [decide_eq_true_eq, decide_eq_false_iff_not, Bool.not_eq_true', Bool.not_eq_false'] at hgo) <;> simp only [hgo, e13, List.map_nil, rowV_nil, join_nil, ws, wsl, opX, int, Zv.bool, intBin, reduceIte, ↓reduceIte, Nat.reduceEqDiff, Nat.reduceAdd, Nat.reduceSub, Nat.reduceLeDiff, Int.reduceLT, Int.reduceLE, Int.reduceEq, Int.reduceBEq, Int.reduceNe, Int.reduceBNe, reduceCtorEq, Nat.reduceBEq])
          exact hfin
        · have e1 : rowV b 1 ((namesS d t).map eS) = .own b.next 1 (namesS d t).length 0 (namesS d t).length := by unfold rowV; rw [if_neg (by simpa using h0), List.length_map]
          have hr : Hp.row ⟨(rowH b 1 ((namesS d t).map eS)).objs, q⟩ b.next (namesS d t).length = some (1, ((namesS d t).map eS).map .d) := by
            refine row_look ?_ (by simp)
            unfold rowH
            rw [if_neg (by simpa using h0)]
            exact look_hd ..
          have hj := join_own hr (by omega) (by omega)
          rw [e1]
          (simp only [e13, hj, ws, wsl, opX, int, Zv.bool, intBin, reduceIte, ↓reduceIte, Nat.reduceEqDiff, Nat.reduceAdd, Nat.reduceSub, Nat.reduceLeDiff, Int.reduceLT, Int.reduceLE, Int.reduceEq, Int.reduceBEq, Int.reduceNe, Int.reduceBNe, reduceCtorEq, Nat.reduceBEq] <;> repeat' (first | refine wpG_s ?_ ?_ | refine wpC_s ?_ ?_) <;> intro hgo <;> (try simp only [decide_eq_true_eq, decide_eq_false_iff_not, Bool.not_eq_true', Bool.not_eq_false'] at hgo) <;> simp only [hgo, e13, hj, ws, wsl, opX, int, Zv.bool, intBin, reduceIte, ↓reduceIte, Nat.reduceEqDiff, Nat.reduceAdd, Nat.reduceSub, Nat.reduceLeDiff, Int.reduceLT, Int.reduceLE, Int.reduceEq, Int.reduceBEq, Int.reduceNe, Int.reduceBNe, reduceCtorEq, Nat.reduceBEq])
          exact hfin
    · have hT' : isT d t = false := by simpa using hT
      rw [if_pos hT']
      (simp only [e13, hch, hC, sexists_ok, hT', ws, wsl, opX, int, Zv.bool, intBin, reduceIte, ↓reduceIte, Nat.reduceEqDiff, Nat.reduceAdd, Nat.reduceSub, Nat.reduceLeDiff, Int.reduceLT, Int.reduceLE, Int.reduceEq, Int.reduceBEq, Int.reduceNe, Int.reduceBNe, reduceCtorEq, Nat.reduceBEq] <;> repeat' (first | refine wpG_s ?_ ?_ | refine wpC_s ?_ ?_) <;> intro hgo <;> (try simp only [decide_eq_true_eq, decide_eq_false_iff_not, Bool.not_eq_true', Bool.not_eq_false'] at hgo) <;> simp only [hgo, e13, hch, hC, sexists_ok, hT', ws, wsl, opX, int, Zv.bool, intBin, reduceIte, ↓reduceIte, Nat.reduceEqDiff, Nat.reduceAdd, Nat.reduceSub, Nat.reduceLeDiff, Int.reduceLT, Int.reduceLE, Int.reduceEq, Int.reduceBEq, Int.reduceNe, Int.reduceBNe, reduceCtorEq, Nat.reduceBEq])
  · rw [if_pos hC]
    have e : (checkS d != 0) = true := by simp [hC]
    (simp only [e13, hch, e, ws, wsl, opX, int, Zv.bool, intBin, reduceIte, ↓reduceIte, Nat.reduceEqDiff, Nat.reduceAdd, Nat.reduceSub, Nat.reduceLeDiff, Int.reduceLT, Int.reduceLE, Int.reduceEq, Int.reduceBEq, Int.reduceNe, Int.reduceBNe, reduceCtorEq, Nat.reduceBEq] <;> repeat' (first | refine wpG_s ?_ ?_ | refine wpC_s ?_ ?_) <;> intro hgo <;> (try simp only [decide_eq_true_eq, decide_eq_false_iff_not, Bool.not_eq_true', Bool.not_eq_false'] at hgo) <;> simp only [hgo, e13, hch, e, ws, wsl, opX, int, Zv.bool, intBin, reduceIte, ↓reduceIte, Nat.reduceEqDiff, Nat.reduceAdd, Nat.reduceSub, Nat.reduceLeDiff, Int.reduceLT, Int.reduceLE, Int.reduceEq, Int.reduceBEq, Int.reduceNe, Int.reduceBNe, reduceCtorEq, Nat.reduceBEq])
-- ws, wsl, opX, int, Zv.bool, intBin, reduceIte, ↓reduceIte, Nat.reduceEqDiff, Nat.reduceAdd, Nat.reduceSub, Nat.reduceLeDiff, Int.reduceLT, Int.reduceLE, Int.reduceEq, Int.reduceBEq, Int.reduceNe, Int.reduceBNe, reduceCtorEq, Nat.reduceBEq
end Zc18
