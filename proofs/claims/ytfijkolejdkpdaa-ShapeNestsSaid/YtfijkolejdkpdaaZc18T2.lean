/-
  Inside, of both; the comparison of two lists.
-/
import Derived.Test.YtfijkolejdkpdaaZc18T1
set_option linter.unusedSimpArgs false
set_option maxHeartbeats 4000000
namespace Zc18
open Go Zv Zs

theorem row_appI (b : Hp) (l : List Int) (x : Int) (q : Nat) (hq : l = [] → q = b.next) (hl : l.length < 2 ^ 20) :
    ∃ q', q ≤ q' ∧ app 1 8 ⟨(rowH b 1 (l.map eI)).objs, q⟩ (rowV b 1 (l.map eI)) (.tl [.d (eI x)] (some false)) = some (rowV b 1 ((l ++ [x]).map eI), ⟨(rowH b 1 ((l ++ [x]).map eI)).objs, q'⟩) := by
  by_cases h0 : l = []
  · subst h0
    have := hq rfl
    subst this
    refine ⟨b.next + 1, Nat.le_succ _, ?_⟩
    have := rowD_app b (es := 1) (b := 8) (l := []) (x := eI x) rfl (by simp [roomB]) (fun y hy => by cases hy)
    exact this
  · refine ⟨q, Nat.le_refl _, ?_⟩
    have hx : allV 1 [V.d (eI x)] = true := by simp [allV, V.cells, D.cells]
    have hr : Hp.row ⟨(rowH b 1 (l.map eI)).objs, q⟩ b.next l.length = some (1, (l.map eI).map .d) := by
      refine row_look ?_ (by simp)
      unfold rowH
      rw [if_neg (by simpa using h0)]
      exact look_hd ..
    unfold app
    simp only [elems, Option.bind_some, List.map_cons, List.map_nil, norm_d, hx, if_true]
    have e1 : rowV b 1 (l.map eI) = .own b.next 1 l.length 0 l.length := by unfold rowV; rw [if_neg (by simpa using h0), List.length_map]
    have e2 : rowV b 1 ((l ++ [x]).map eI) = .own b.next 1 (l.length + 1) 0 (l.length + 1) := by unfold rowV; rw [if_neg (by simp)]; simp
    rw [e1, e2]
    simp only [hr, Option.bind_some, List.length_map, Nat.zero_add, Nat.le_refl, and_self, if_true, List.isEmpty_cons, Bool.false_eq_true, if_false, List.length_cons, List.length_nil]
    rw [if_neg (by omega), if_pos (by unfold roomB; omega), List.take_of_length_le (by simp)]
    congr 2
    unfold Hp.set rowH
    rw [if_neg (by simpa using h0), if_neg (by simp)]
    show Hp.mk (upd ((b.next, _) :: _) b.next _) q = _
    rw [upd_hd]
    simp [Hp.alloc]
/-- Behind a function that hands back a row and a number. -/
theorem finS_row2 (h b : Hp) (hb : b.objs = h.objs) (hn : h.next ≤ b.next) (q : Nat) (l : List D) (x : D) : finS h ⟨(rowH b 1 l).objs, q⟩ [rowV b 1 l, .d x] = some (.tup [.d (.lst l), .d x], h) := by
  unfold finS
  have hs := rowD_suf b 1 l
  rw [hb] at hs
  rw [if_pos hs]
  have h1 : back1 ⟨(rowH b 1 l).objs, q⟩ h.next (rowV b 1 l) = some (.d (.lst l)) := by
    by_cases h0 : l = []
    · subst h0; rfl
    · have hr : Hp.row ⟨(rowH b 1 l).objs, q⟩ b.next l.length = some (1, l.map .d) := by
        refine row_look ?_ (by simp)
        unfold rowH
        rw [if_neg h0]
        exact look_hd ..
      unfold back1 rowV
      rw [if_neg h0]
      have : deep ⟨(rowH b 1 l).objs, q⟩ h.next 8 (.own b.next 1 l.length 0 l.length) = some (.lst l) := by
        unfold deep
        simp only [hr, Option.bind_some, Nat.zero_add, Nat.le_refl, if_true, List.drop_zero, List.length_map]
        rw [if_pos hn, List.take_of_length_le (by simp), deep_ds]
        rfl
      rw [this]
  simp only [List.mapM_cons, List.mapM_nil, h1]
  rfl
theorem miss_fst {d : List Dt} {t f : Int} {n : Nat} {x : Wd} : fst? (fun w => decide (idxS d t w < 0)) 0 (ofS d f) = some (n, x) → missS d t f = true := by
  intro h
  obtain ⟨_, h2, h3, _⟩ := fst_some h
  unfold missS
  rw [List.any_eq_true]
  exact ⟨x, List.mem_of_getElem? h2, h3⟩
theorem insL_take {d : List Dt} {t f : Int} {n : Nat} {w : Wd} (h : (ofS d f)[n]? = some w) : (insL d t f).take (n + 1) = (insL d t f).take n ++ [idxS d t w] := by
  have : (insL d t f)[n]? = some (idxS d t w) := by unfold insL; rw [List.getElem?_map, h]; rfl
  rw [List.take_add_one, this]; rfl
theorem insL_len (d : List Dt) (t f : Int) : (insL d t f).length = (ofS d f).length := by simp [insL]
theorem all_tt {d : List Dt} {t f : Int} (h1 : isT d t = true) (h2 : isT d f = true) : ¬(isT d t = false ∨ isT d f = false) := by rw [h1, h2]; simp
theorem finS_nil2 (h : Hp) (nl : Option Bool) (x : D) : finS h h [.tl [] nl, .d x] = some (.tup [.d (.lst []), .d x], h) := by
  unfold finS; rw [if_pos (suf_refl _)]; rfl
theorem pins_ok {d : List Dt} (B : Bd d) (N : Nm d) (t f : Int) (h : Hp) : callW tab 15 [.d (eDs d), .d (eI t), .d (eI f)] h = some (.tup [.d (eIs (insS d t f).1), .d (eI (insS d t f).2)], h) := by
  apply call_wp (fn := f15) rfl rfl
  have hch := fun hh => pcheck_ok B N hh
  unfold insS
  by_cases hC : checkS d = 0
  · rw [if_neg (by simp [hC])]
    by_cases hT : isT d t = true
    · by_cases hF : isT d f = true
      · rw [if_neg (all_tt hT hF)]
        have h1 := fun hh => pof_ok B N t hh
        have h2 := fun hh => pof_ok B N f hh
        have l1 := ofS_len B t
        have l2 := ofS_len B f
        have hl := insL_len d t f
        have hix := fun w hh => idxW (ofS d t) w hh (by omega)
        (simp only [e15, hch, hC, sexists_ok, hT, hF, h1, h2, ws, wsl, opX, int, Zv.bool, intBin, reduceIte, ↓reduceIte, Nat.reduceEqDiff, Nat.reduceAdd, Nat.reduceSub, Nat.reduceLeDiff, Int.reduceLT, Int.reduceLE, Int.reduceEq, Int.reduceBEq, Int.reduceNe, Int.reduceBNe, reduceCtorEq, Nat.reduceBEq] <;> repeat' (first | refine wpG_s ?_ ?_ | refine wpC_s ?_ ?_) <;> intro hgo <;> (try simp only [decide_eq_true_eq, decide_eq_false_iff_not, Bool.not_eq_true', Bool.not_eq_false'] at hgo) <;> simp only [hgo, e15, hch, hC, sexists_ok, hT, hF, h1, h2, ws, wsl, opX, int, Zv.bool, intBin, reduceIte, ↓reduceIte, Nat.reduceEqDiff, Nat.reduceAdd, Nat.reduceSub, Nat.reduceLeDiff, Int.reduceLT, Int.reduceLE, Int.reduceEq, Int.reduceBEq, Int.reduceNe, Int.reduceBNe, reduceCtorEq, Nat.reduceBEq])
        generalize hb : (⟨h.objs, h.next + 1⟩ : Hp) = b
        have hbn : b.next = h.next + 1 := by rw [← hb]
        have hbo : b.objs = h.objs := by rw [← hb]
        refine loop_wp (ofS d f).length (fun n e h' => ∃ q, ((insL d t f).take n = [] → q = h.next) ∧ (∀ w k, (ofS d f)[k]? = some w → k < n → ¬ idxS d t w < 0) ∧ h' = ⟨(rowH b 1 (((insL d t f).take n).map eI)).objs, q⟩ ∧ e = [(8, .d (eWs (ofS d t))), (9, rowV b 1 (((insL d t f).take n).map eI)), (31, .d (eWs (ofS d f))), (32, .d (.int .i64 (ofS d f).length)), (33, .d (.int .i64 n))]) _ ?_ ?_ (ofS d f).length 0 _ _ (by omega) ⟨h.next, fun _ => rfl, fun w k _ hk => by omega, by rw [List.take_zero, List.map_nil, rowH_nil, hbo], rfl⟩
        · rintro n e h' hn ⟨q, hq, hm, rfl, rfl⟩
          obtain ⟨w, hw⟩ := get_of_lt hn
          have htk := insL_take (t := t) hw
          by_cases hi : idxS d t w < 0
          · have hms : missS d t f = true := by
              unfold missS; rw [List.any_eq_true]; exact ⟨w, List.mem_of_getElem? hw, by simpa using hi⟩
            have hsf : sufOk h.objs (rowH b 1 (((insL d t f).take n).map eI)).objs = true := by have := rowD_suf b 1 (((insL d t f).take n).map eI); rw [hbo] at this; exact this
            rw [if_pos hms]
            have hfin : ∀ q, finS h ⟨(rowH b 1 (((insL d t f).take n).map eI)).objs, q⟩ [.tl [] (some true), .d (.int .i64 9)] = some (.tup [.d (.lst []), .d (.int .i64 9)], h) := by
              intro q
              unfold finS
              rw [if_pos hsf]; rfl
            have hi' : idxZ (fun x => decide (w = x)) (ofS d t) < 0 := hi
            (simp only [e15, hn, iaW hw, hix, hi', hfin, List.map_nil, ws, wsl, opX, int, Zv.bool, intBin, reduceIte, ↓reduceIte, Nat.reduceEqDiff, Nat.reduceAdd, Nat.reduceSub, Nat.reduceLeDiff, Int.reduceLT, Int.reduceLE, Int.reduceEq, Int.reduceBEq, Int.reduceNe, Int.reduceBNe, reduceCtorEq, Nat.reduceBEq] <;> repeat' (first | refine wpG_s ?_ ?_ | refine wpC_s ?_ ?_) <;> intro hgo <;> (try simp only [decide_eq_true_eq, decide_eq_false_iff_not, Bool.not_eq_true', Bool.not_eq_false'] at hgo) <;> simp only [hgo, e15, hn, iaW hw, hix, hi', hfin, List.map_nil, ws, wsl, opX, int, Zv.bool, intBin, reduceIte, ↓reduceIte, Nat.reduceEqDiff, Nat.reduceAdd, Nat.reduceSub, Nat.reduceLeDiff, Int.reduceLT, Int.reduceLE, Int.reduceEq, Int.reduceBEq, Int.reduceNe, Int.reduceBNe, reduceCtorEq, Nat.reduceBEq]) <;> rfl
          · have hi' : ¬ idxZ (fun x => decide (w = x)) (ofS d t) < 0 := hi
            obtain ⟨q', hqq, ha⟩ := row_appI b ((insL d t f).take n) (idxS d t w) (q + 1) (fun h0 => by rw [hq h0, hbn]) (by rw [List.length_take]; omega)
            rw [← htk] at ha
            have ha' : app 1 8 ⟨(rowH b 1 (((insL d t f).take n).map eI)).objs, q + 1⟩ (rowV b 1 (((insL d t f).take n).map eI)) (.tl [.d (eI (idxZ (fun x => decide (w = x)) (ofS d t)))] (some false)) = some (rowV b 1 (((insL d t f).take (n + 1)).map eI), ⟨(rowH b 1 (((insL d t f).take (n + 1)).map eI)).objs, q'⟩) := ha
            (simp only [e15, hn, iaW hw, hix, hi', ha', wrap_succ (show n < 2 ^ 62 by omega), ws, wsl, opX, int, Zv.bool, intBin, reduceIte, ↓reduceIte, Nat.reduceEqDiff, Nat.reduceAdd, Nat.reduceSub, Nat.reduceLeDiff, Int.reduceLT, Int.reduceLE, Int.reduceEq, Int.reduceBEq, Int.reduceNe, Int.reduceBNe, reduceCtorEq, Nat.reduceBEq] <;> repeat' (first | refine wpG_s ?_ ?_ | refine wpC_s ?_ ?_) <;> intro hgo <;> (try simp only [decide_eq_true_eq, decide_eq_false_iff_not, Bool.not_eq_true', Bool.not_eq_false'] at hgo) <;> simp only [hgo, e15, hn, iaW hw, hix, hi', ha', wrap_succ (show n < 2 ^ 62 by omega), ws, wsl, opX, int, Zv.bool, intBin, reduceIte, ↓reduceIte, Nat.reduceEqDiff, Nat.reduceAdd, Nat.reduceSub, Nat.reduceLeDiff, Int.reduceLT, Int.reduceLE, Int.reduceEq, Int.reduceBEq, Int.reduceNe, Int.reduceBNe, reduceCtorEq, Nat.reduceBEq])
            refine ⟨q', fun h0 => ?_, fun v k hv hk => ?_, rfl⟩
            · rw [htk] at h0; simp at h0
            · by_cases hkn : k = n
              · subst hkn; rw [hw] at hv; cases hv; exact hi
              · exact hm v k hv (by omega)
        · rintro e h' ⟨q, hq, hm, rfl, rfl⟩
          have hms : missS d t f = false := by
            rw [← Bool.not_eq_true]
            intro h0
            unfold missS at h0
            rw [List.any_eq_true] at h0
            obtain ⟨w, hw, hi⟩ := h0
            obtain ⟨k, hk1, hk2⟩ := List.getElem_of_mem hw
            exact hm w k (by rw [List.getElem?_eq_getElem hk1, hk2]) hk1 (by simpa using hi)
          rw [hms, if_neg (by simp), List.take_of_length_le (by omega)]
          have hfin := finS_row2 h b hbo (by omega) q ((insL d t f).map eI) (.int .i64 0)
          (simp only [e15, hfin, ws, wsl, opX, int, Zv.bool, intBin, reduceIte, ↓reduceIte, Nat.reduceEqDiff, Nat.reduceAdd, Nat.reduceSub, Nat.reduceLeDiff, Int.reduceLT, Int.reduceLE, Int.reduceEq, Int.reduceBEq, Int.reduceNe, Int.reduceBNe, reduceCtorEq, Nat.reduceBEq] <;> repeat' (first | refine wpG_s ?_ ?_ | refine wpC_s ?_ ?_) <;> intro hgo <;> (try simp only [decide_eq_true_eq, decide_eq_false_iff_not, Bool.not_eq_true', Bool.not_eq_false'] at hgo) <;> simp only [hgo, e15, hfin, ws, wsl, opX, int, Zv.bool, intBin, reduceIte, ↓reduceIte, Nat.reduceEqDiff, Nat.reduceAdd, Nat.reduceSub, Nat.reduceLeDiff, Int.reduceLT, Int.reduceLE, Int.reduceEq, Int.reduceBEq, Int.reduceNe, Int.reduceBNe, reduceCtorEq, Nat.reduceBEq])
      · have hF' : isT d f = false := by simpa using hF
        rw [if_pos (.inr hF')]
        (simp only [e15, hch, hC, sexists_ok, hT, hF', finS_nil2, List.map_nil, ws, wsl, opX, int, Zv.bool, intBin, reduceIte, ↓reduceIte, Nat.reduceEqDiff, Nat.reduceAdd, Nat.reduceSub, Nat.reduceLeDiff, Int.reduceLT, Int.reduceLE, Int.reduceEq, Int.reduceBEq, Int.reduceNe, Int.reduceBNe, reduceCtorEq, Nat.reduceBEq] <;> repeat' (first | refine wpG_s ?_ ?_ | refine wpC_s ?_ ?_) <;> intro hgo <;> (try simp only [decide_eq_true_eq, decide_eq_false_iff_not, Bool.not_eq_true', Bool.not_eq_false'] at hgo) <;> simp only [hgo, e15, hch, hC, sexists_ok, hT, hF', finS_nil2, List.map_nil, ws, wsl, opX, int, Zv.bool, intBin, reduceIte, ↓reduceIte, Nat.reduceEqDiff, Nat.reduceAdd, Nat.reduceSub, Nat.reduceLeDiff, Int.reduceLT, Int.reduceLE, Int.reduceEq, Int.reduceBEq, Int.reduceNe, Int.reduceBNe, reduceCtorEq, Nat.reduceBEq]) <;> rfl
    · have hT' : isT d t = false := by simpa using hT
      rw [if_pos (.inl hT')]
      (simp only [e15, hch, hC, sexists_ok, hT', finS_nil2, List.map_nil, ws, wsl, opX, int, Zv.bool, intBin, reduceIte, ↓reduceIte, Nat.reduceEqDiff, Nat.reduceAdd, Nat.reduceSub, Nat.reduceLeDiff, Int.reduceLT, Int.reduceLE, Int.reduceEq, Int.reduceBEq, Int.reduceNe, Int.reduceBNe, reduceCtorEq, Nat.reduceBEq] <;> repeat' (first | refine wpG_s ?_ ?_ | refine wpC_s ?_ ?_) <;> intro hgo <;> (try simp only [decide_eq_true_eq, decide_eq_false_iff_not, Bool.not_eq_true', Bool.not_eq_false'] at hgo) <;> simp only [hgo, e15, hch, hC, sexists_ok, hT', finS_nil2, List.map_nil, ws, wsl, opX, int, Zv.bool, intBin, reduceIte, ↓reduceIte, Nat.reduceEqDiff, Nat.reduceAdd, Nat.reduceSub, Nat.reduceLeDiff, Int.reduceLT, Int.reduceLE, Int.reduceEq, Int.reduceBEq, Int.reduceNe, Int.reduceBNe, reduceCtorEq, Nat.reduceBEq]) <;> rfl
  · rw [if_pos hC]
    have e : (checkS d != 0) = true := by simp [hC]
    (simp only [e15, hch, e, finS_nil2, List.map_nil, ws, wsl, opX, int, Zv.bool, intBin, reduceIte, ↓reduceIte, Nat.reduceEqDiff, Nat.reduceAdd, Nat.reduceSub, Nat.reduceLeDiff, Int.reduceLT, Int.reduceLE, Int.reduceEq, Int.reduceBEq, Int.reduceNe, Int.reduceBNe, reduceCtorEq, Nat.reduceBEq] <;> repeat' (first | refine wpG_s ?_ ?_ | refine wpC_s ?_ ?_) <;> intro hgo <;> (try simp only [decide_eq_true_eq, decide_eq_false_iff_not, Bool.not_eq_true', Bool.not_eq_false'] at hgo) <;> simp only [hgo, e15, hch, e, finS_nil2, List.map_nil, ws, wsl, opX, int, Zv.bool, intBin, reduceIte, ↓reduceIte, Nat.reduceEqDiff, Nat.reduceAdd, Nat.reduceSub, Nat.reduceLeDiff, Int.reduceLT, Int.reduceLE, Int.reduceEq, Int.reduceBEq, Int.reduceNe, Int.reduceBNe, reduceCtorEq, Nat.reduceBEq]) <;> rfl
theorem rins_ok {d : List Dt} (B : Bd d) (N : Nm d) (t f : Int) (h : Hp) : callW tab 16 [.d (eDs d), .d (eI t), .d (eI f)] h = some (.tup [.d (eIs (insS d t f).1), .d (eI (insS d t f).2)], h) := by
  apply call_wp (fn := f16) rfl rfl
  have hch := fun hh => rcheck_ok B N hh
  unfold insS
  by_cases hC : checkS d = 0
  · rw [if_neg (by simp [hC])]
    by_cases hT : isT d t = true
    · by_cases hF : isT d f = true
      · rw [if_neg (all_tt hT hF)]
        have h2 := fun hh => rof_ok B N f hh
        have l1 := ofS_len B t
        have l2 := ofS_len B f
        have hl := insL_len d t f
        have hix := fun w hh => rindex_ok B N t w hh
        (simp only [e16, hch, hC, sisT_ok, hT, hF, h2, ws, wsl, opX, int, Zv.bool, intBin, reduceIte, ↓reduceIte, Nat.reduceEqDiff, Nat.reduceAdd, Nat.reduceSub, Nat.reduceLeDiff, Int.reduceLT, Int.reduceLE, Int.reduceEq, Int.reduceBEq, Int.reduceNe, Int.reduceBNe, reduceCtorEq, Nat.reduceBEq] <;> repeat' (first | refine wpG_s ?_ ?_ | refine wpC_s ?_ ?_) <;> intro hgo <;> (try simp only [decide_eq_true_eq, decide_eq_false_iff_not, Bool.not_eq_true', Bool.not_eq_false'] at hgo) <;> simp only [hgo, e16, hch, hC, sisT_ok, hT, hF, h2, ws, wsl, opX, int, Zv.bool, intBin, reduceIte, ↓reduceIte, Nat.reduceEqDiff, Nat.reduceAdd, Nat.reduceSub, Nat.reduceLeDiff, Int.reduceLT, Int.reduceLE, Int.reduceEq, Int.reduceBEq, Int.reduceNe, Int.reduceBNe, reduceCtorEq, Nat.reduceBEq])
        refine loop_wp (ofS d f).length (fun n e h' => (∀ w k, (ofS d f)[k]? = some w → k < n → ¬ idxS d t w < 0) ∧ h' = rowH h 1 (((insL d t f).take n).map eI) ∧ e = [(0, .d (eDs d)), (1, .d (eI t)), (8, .d (eWs (ofS d f))), (9, rowV h 1 (((insL d t f).take n).map eI)), (10, .d (.int .i64 n))]) _ ?_ ?_ (ofS d f).length 0 _ _ (by omega) ⟨fun w k _ hk => by omega, by rw [List.take_zero, List.map_nil, rowH_nil], rfl⟩
        · rintro n e h' hn ⟨hm, rfl, rfl⟩
          obtain ⟨w, hw⟩ := get_of_lt hn
          have htk := insL_take (t := t) hw
          by_cases hi : idxS d t w < 0
          · have hms : missS d t f = true := by
              unfold missS; rw [List.any_eq_true]; exact ⟨w, List.mem_of_getElem? hw, by simpa using hi⟩
            have hsf := rowD_suf h 1 (((insL d t f).take n).map eI)
            rw [if_pos hms]
            have hfin : finS h (rowH h 1 (((insL d t f).take n).map eI)) [.tl [] (some true), .d (.int .i64 9)] = some (.tup [.d (.lst []), .d (.int .i64 9)], h) := by
              unfold finS
              rw [if_pos hsf]; rfl
            (simp only [e16, hn, iaW hw, hix, hi, hfin, List.map_nil, ws, wsl, opX, int, Zv.bool, intBin, reduceIte, ↓reduceIte, Nat.reduceEqDiff, Nat.reduceAdd, Nat.reduceSub, Nat.reduceLeDiff, Int.reduceLT, Int.reduceLE, Int.reduceEq, Int.reduceBEq, Int.reduceNe, Int.reduceBNe, reduceCtorEq, Nat.reduceBEq] <;> repeat' (first | refine wpG_s ?_ ?_ | refine wpC_s ?_ ?_) <;> intro hgo <;> (try simp only [decide_eq_true_eq, decide_eq_false_iff_not, Bool.not_eq_true', Bool.not_eq_false'] at hgo) <;> simp only [hgo, e16, hn, iaW hw, hix, hi, hfin, List.map_nil, ws, wsl, opX, int, Zv.bool, intBin, reduceIte, ↓reduceIte, Nat.reduceEqDiff, Nat.reduceAdd, Nat.reduceSub, Nat.reduceLeDiff, Int.reduceLT, Int.reduceLE, Int.reduceEq, Int.reduceBEq, Int.reduceNe, Int.reduceBNe, reduceCtorEq, Nat.reduceBEq]) <;> rfl
          · have ha : app 1 8 (rowH h 1 (((insL d t f).take n).map eI)) (rowV h 1 (((insL d t f).take n).map eI)) (.tl [.d (eI (idxS d t w))] (some false)) = some (rowV h 1 (((insL d t f).take (n + 1)).map eI), rowH h 1 (((insL d t f).take (n + 1)).map eI)) := by
              rw [htk]
              exact row_app h _ _ (by rw [List.length_take]; omega)
            (simp only [e16, hn, iaW hw, hix, hi, ha, wrap_succ (show n < 2 ^ 62 by omega), ws, wsl, opX, int, Zv.bool, intBin, reduceIte, ↓reduceIte, Nat.reduceEqDiff, Nat.reduceAdd, Nat.reduceSub, Nat.reduceLeDiff, Int.reduceLT, Int.reduceLE, Int.reduceEq, Int.reduceBEq, Int.reduceNe, Int.reduceBNe, reduceCtorEq, Nat.reduceBEq] <;> repeat' (first | refine wpG_s ?_ ?_ | refine wpC_s ?_ ?_) <;> intro hgo <;> (try simp only [decide_eq_true_eq, decide_eq_false_iff_not, Bool.not_eq_true', Bool.not_eq_false'] at hgo) <;> simp only [hgo, e16, hn, iaW hw, hix, hi, ha, wrap_succ (show n < 2 ^ 62 by omega), ws, wsl, opX, int, Zv.bool, intBin, reduceIte, ↓reduceIte, Nat.reduceEqDiff, Nat.reduceAdd, Nat.reduceSub, Nat.reduceLeDiff, Int.reduceLT, Int.reduceLE, Int.reduceEq, Int.reduceBEq, Int.reduceNe, Int.reduceBNe, reduceCtorEq, Nat.reduceBEq])
            intro v k hv hk
            by_cases hkn : k = n
            · subst hkn; rw [hw] at hv; cases hv; exact hi
            · exact hm v k hv (by omega)
        · rintro e h' ⟨hm, rfl, rfl⟩
          have hms : missS d t f = false := by
            rw [← Bool.not_eq_true]
            intro h0
            unfold missS at h0
            rw [List.any_eq_true] at h0
            obtain ⟨w, hw, hi⟩ := h0
            obtain ⟨k, hk1, hk2⟩ := List.getElem_of_mem hw
            exact hm w k (by rw [List.getElem?_eq_getElem hk1, hk2]) hk1 (by simpa using hi)
          rw [hms, if_neg (by simp), List.take_of_length_le (by omega)]
          have hfin := finS_row2 h h rfl (Nat.le_refl _) (rowH h 1 ((insL d t f).map eI)).next ((insL d t f).map eI) (.int .i64 0)
          have hfin' : finS h (rowH h 1 ((insL d t f).map eI)) [rowV h 1 ((insL d t f).map eI), .d (.int .i64 0)] = some (.tup [.d (.lst ((insL d t f).map eI)), .d (.int .i64 0)], h) := hfin
          (simp only [e16, hfin', ws, wsl, opX, int, Zv.bool, intBin, reduceIte, ↓reduceIte, Nat.reduceEqDiff, Nat.reduceAdd, Nat.reduceSub, Nat.reduceLeDiff, Int.reduceLT, Int.reduceLE, Int.reduceEq, Int.reduceBEq, Int.reduceNe, Int.reduceBNe, reduceCtorEq, Nat.reduceBEq] <;> repeat' (first | refine wpG_s ?_ ?_ | refine wpC_s ?_ ?_) <;> intro hgo <;> (try simp only [decide_eq_true_eq, decide_eq_false_iff_not, Bool.not_eq_true', Bool.not_eq_false'] at hgo) <;> simp only [hgo, e16, hfin', ws, wsl, opX, int, Zv.bool, intBin, reduceIte, ↓reduceIte, Nat.reduceEqDiff, Nat.reduceAdd, Nat.reduceSub, Nat.reduceLeDiff, Int.reduceLT, Int.reduceLE, Int.reduceEq, Int.reduceBEq, Int.reduceNe, Int.reduceBNe, reduceCtorEq, Nat.reduceBEq])
      · have hF' : isT d f = false := by simpa using hF
        rw [if_pos (.inr hF')]
        (simp only [e16, hch, hC, sisT_ok, hT, hF', finS_nil2, List.map_nil, ws, wsl, opX, int, Zv.bool, intBin, reduceIte, ↓reduceIte, Nat.reduceEqDiff, Nat.reduceAdd, Nat.reduceSub, Nat.reduceLeDiff, Int.reduceLT, Int.reduceLE, Int.reduceEq, Int.reduceBEq, Int.reduceNe, Int.reduceBNe, reduceCtorEq, Nat.reduceBEq] <;> repeat' (first | refine wpG_s ?_ ?_ | refine wpC_s ?_ ?_) <;> intro hgo <;> (try simp only [decide_eq_true_eq, decide_eq_false_iff_not, Bool.not_eq_true', Bool.not_eq_false'] at hgo) <;> simp only [hgo, e16, hch, hC, sisT_ok, hT, hF', finS_nil2, List.map_nil, ws, wsl, opX, int, Zv.bool, intBin, reduceIte, ↓reduceIte, Nat.reduceEqDiff, Nat.reduceAdd, Nat.reduceSub, Nat.reduceLeDiff, Int.reduceLT, Int.reduceLE, Int.reduceEq, Int.reduceBEq, Int.reduceNe, Int.reduceBNe, reduceCtorEq, Nat.reduceBEq]) <;> rfl
    · have hT' : isT d t = false := by simpa using hT
      rw [if_pos (.inl hT')]
      (simp only [e16, hch, hC, sisT_ok, hT', finS_nil2, List.map_nil, ws, wsl, opX, int, Zv.bool, intBin, reduceIte, ↓reduceIte, Nat.reduceEqDiff, Nat.reduceAdd, Nat.reduceSub, Nat.reduceLeDiff, Int.reduceLT, Int.reduceLE, Int.reduceEq, Int.reduceBEq, Int.reduceNe, Int.reduceBNe, reduceCtorEq, Nat.reduceBEq] <;> repeat' (first | refine wpG_s ?_ ?_ | refine wpC_s ?_ ?_) <;> intro hgo <;> (try simp only [decide_eq_true_eq, decide_eq_false_iff_not, Bool.not_eq_true', Bool.not_eq_false'] at hgo) <;> simp only [hgo, e16, hch, hC, sisT_ok, hT', finS_nil2, List.map_nil, ws, wsl, opX, int, Zv.bool, intBin, reduceIte, ↓reduceIte, Nat.reduceEqDiff, Nat.reduceAdd, Nat.reduceSub, Nat.reduceLeDiff, Int.reduceLT, Int.reduceLE, Int.reduceEq, Int.reduceBEq, Int.reduceNe, Int.reduceBNe, reduceCtorEq, Nat.reduceBEq]) <;> rfl
  · rw [if_pos hC]
    have e : (checkS d != 0) = true := by simp [hC]
    (simp only [e16, hch, e, finS_nil2, List.map_nil, ws, wsl, opX, int, Zv.bool, intBin, reduceIte, ↓reduceIte, Nat.reduceEqDiff, Nat.reduceAdd, Nat.reduceSub, Nat.reduceLeDiff, Int.reduceLT, Int.reduceLE, Int.reduceEq, Int.reduceBEq, Int.reduceNe, Int.reduceBNe, reduceCtorEq, Nat.reduceBEq] <;> repeat' (first | refine wpG_s ?_ ?_ | refine wpC_s ?_ ?_) <;> intro hgo <;> (try simp only [decide_eq_true_eq, decide_eq_false_iff_not, Bool.not_eq_true', Bool.not_eq_false'] at hgo) <;> simp only [hgo, e16, hch, e, finS_nil2, List.map_nil, ws, wsl, opX, int, Zv.bool, intBin, reduceIte, ↓reduceIte, Nat.reduceEqDiff, Nat.reduceAdd, Nat.reduceSub, Nat.reduceLeDiff, Int.reduceLT, Int.reduceLE, Int.reduceEq, Int.reduceBEq, Int.reduceNe, Int.reduceBNe, reduceCtorEq, Nat.reduceBEq]) <;> rfl
theorem same_refl (l : List Int) (h : Hp) (hl : l.length < 2 ^ 60) : callW tab 17 [.d (eIs l), .d (eIs l)] h = some (.d (.bool true), h) := by
  apply call_wp (fn := f17) rfl rfl
  have hloop := loop_all (T := tab) (a := f17l0) (l := l) (f := fun n => [(0, .d (eIs l)), (1, .d (eIs l)), (5, int n)]) (h := h)
      (by intro n x hx hlt; all_goals (apply wq_ex.1; (simp only [hlt, e17, iaI hx, wrap_succ (show n < 2 ^ 62 by omega), ws, wsl, opX, int, Zv.bool, intBin, reduceIte, ↓reduceIte, Nat.reduceEqDiff, Nat.reduceAdd, Nat.reduceSub, Nat.reduceLeDiff, Int.reduceLT, Int.reduceLE, Int.reduceEq, Int.reduceBEq, Int.reduceNe, Int.reduceBNe, reduceCtorEq, Nat.reduceBEq] <;> repeat' (first | refine wpG_s ?_ ?_ | refine wpC_s ?_ ?_) <;> intro hgo <;> (try simp only [decide_eq_true_eq, decide_eq_false_iff_not, Bool.not_eq_true', Bool.not_eq_false'] at hgo) <;> simp only [hgo, hlt, e17, iaI hx, wrap_succ (show n < 2 ^ 62 by omega), ws, wsl, opX, int, Zv.bool, intBin, reduceIte, ↓reduceIte, Nat.reduceEqDiff, Nat.reduceAdd, Nat.reduceSub, Nat.reduceLeDiff, Int.reduceLT, Int.reduceLE, Int.reduceEq, Int.reduceBEq, Int.reduceNe, Int.reduceBNe, reduceCtorEq, Nat.reduceBEq])))
      (by apply wq_ex.1; (simp only [e17, ws, wsl, opX, int, Zv.bool, intBin, reduceIte, ↓reduceIte, Nat.reduceEqDiff, Nat.reduceAdd, Nat.reduceSub, Nat.reduceLeDiff, Int.reduceLT, Int.reduceLE, Int.reduceEq, Int.reduceBEq, Int.reduceNe, Int.reduceBNe, reduceCtorEq, Nat.reduceBEq] <;> repeat' (first | refine wpG_s ?_ ?_ | refine wpC_s ?_ ?_) <;> intro hgo <;> (try simp only [decide_eq_true_eq, decide_eq_false_iff_not, Bool.not_eq_true', Bool.not_eq_false'] at hgo) <;> simp only [hgo, e17, ws, wsl, opX, int, Zv.bool, intBin, reduceIte, ↓reduceIte, Nat.reduceEqDiff, Nat.reduceAdd, Nat.reduceSub, Nat.reduceLeDiff, Int.reduceLT, Int.reduceLE, Int.reduceEq, Int.reduceBEq, Int.reduceNe, Int.reduceBNe, reduceCtorEq, Nat.reduceBEq]) <;> rfl)
      (by simp)
  simp only [int, Zv.bool, Int.cast_ofNat_Int] at hloop
  (simp only [e17, wq_of hloop, ws, wsl, opX, int, Zv.bool, intBin, reduceIte, ↓reduceIte, Nat.reduceEqDiff, Nat.reduceAdd, Nat.reduceSub, Nat.reduceLeDiff, Int.reduceLT, Int.reduceLE, Int.reduceEq, Int.reduceBEq, Int.reduceNe, Int.reduceBNe, reduceCtorEq, Nat.reduceBEq] <;> repeat' (first | refine wpG_s ?_ ?_ | refine wpC_s ?_ ?_) <;> intro hgo <;> (try simp only [decide_eq_true_eq, decide_eq_false_iff_not, Bool.not_eq_true', Bool.not_eq_false'] at hgo) <;> simp only [hgo, e17, wq_of hloop, ws, wsl, opX, int, Zv.bool, intBin, reduceIte, ↓reduceIte, Nat.reduceEqDiff, Nat.reduceAdd, Nat.reduceSub, Nat.reduceLeDiff, Int.reduceLT, Int.reduceLE, Int.reduceEq, Int.reduceBEq, Int.reduceNe, Int.reduceBNe, reduceCtorEq, Nat.reduceBEq])
-- ws, wsl, opX, int, Zv.bool, intBin, reduceIte, ↓reduceIte, Nat.reduceEqDiff, Nat.reduceAdd, Nat.reduceSub, Nat.reduceLeDiff, Int.reduceLT, Int.reduceLE, Int.reduceEq, Int.reduceBEq, Int.reduceNe, Int.reduceBNe, reduceCtorEq, Nat.reduceBEq
end Zc18
