/-
  What is given to the law; a copy made and read; the program's Get, whose row stays.
-/
import Derived.Test.YtlncinhieeopmaaZc55kS3
set_option linter.unusedSimpArgs false
set_option maxHeartbeats 4000000
namespace Zc55k
open Go Zv Zs

theorem okEs_map {α : Type} {E : Nat → ET} {t : ET} {enc : α → D} (H : ∀ x, ok E t x → ∃ a, x = enc a) : ∀ {l : List D}, okEs E t l → ∃ xs : List α, l = xs.map enc
  | [], _ => ⟨[], rfl⟩
  | x :: l, h => by
    simp only [okEs] at h
    obtain ⟨a, rfl⟩ := H x h.1
    obtain ⟨xs, rfl⟩ := okEs_map H h.2
    exact ⟨a :: xs, rfl⟩
theorem okI {x : D} (h : ok (EE es) (.one (.i .i64)) x) : ∃ a, x = eI a := by
  obtain ⟨n, rfl, _⟩ := ok_i h; exact ⟨n, rfl⟩
theorem okW {x : D} (h : ok (EE es) (.st [.i .i64, .i .i64]) x) : ∃ a, x = eW a := by
  obtain ⟨l, rfl, h1⟩ := ok_st h
  obtain ⟨y, r, rfl, ha, h1⟩ := okCs_cons h1
  obtain ⟨z, r, rfl, hb, h1⟩ := okCs_cons h1
  obtain rfl := okCs_nil h1
  obtain ⟨a, rfl⟩ := okI ha
  obtain ⟨b, rfl⟩ := okI hb
  exact ⟨(a, b), rfl⟩
theorem u8_of {n : Int} (h : (Lit.int .u8 n).wf = true) : 0 ≤ n ∧ n ≤ 255 := by
  simp [Lit.wf, IntKind.min, IntKind.max, IntKind.signed, IntKind.bits] at h
  omega
theorem fold_push {α : Type} : ∀ (l s : List α), l.foldl (fun s x => s ++ [x]) s = s ++ l
  | [], s => by simp
  | x :: l, s => by rw [List.foldl_cons, fold_push l]; simp
theorem rowW_app (h : Hp) (s : List Wd) (w : Wd) (hl : s.length < 2 ^ 20) : app 2 16 (rowH h 2 (s.map eW)) (rowV h 2 (s.map eW)) (.tl [.d (eW w)] (some false)) = some (rowV h 2 ((s ++ [w]).map eW), rowH h 2 ((s ++ [w]).map eW)) := by
  have := rowD_app h (es := 2) (b := 16) (l := s.map eW) (x := eW w) rfl (by simp only [List.length_map, roomB]; omega) (fun y hy => by obtain ⟨w, _, rfl⟩ := List.mem_map.1 hy; rfl)
  rw [this, List.map_append]; rfl
theorem finS_row (h : Hp) (l : List D) : finS h (rowH h 2 l) [rowV h 2 l] = some (.d (.lst l), h) := by
  have := finish_row (fn := ⟨0, [0], true, .skip⟩) (h := h) (l := l) (es := 2) (t := 0) (e := [(0, rowV h 2 l)]) rfl rfl rfl
  exact this
theorem to_ok (l : List Wd) (hl : l.length < 2 ^ 20) (h0 : l ≠ []) (h : Hp) : callW tab 17 [.d (eWs l)] h = some (.own h.next 2 l.length 0 l.length, ⟨(h.next, .arr 2 ((l.map eW).map .d)) :: h.objs, h.next + 1⟩) := by
  apply call_wp (fn := f17) rfl rfl
  have := loop_fold (T := tab) (a := f17l0) (l := l) (fun n s => [(0, .d (eWs l)), (3, rowV h 2 (s.map eW)), (4, int n)]) (fun _ s => rowH h 2 (s.map eW)) (fun n s => s.length = n)
    (fun s w => s ++ [w]) (fun s => (.exit 0, [(0, .d (eWs l)), (3, rowV h 2 (s.map eW)), (4, .d (.int .i64 l.length)), (8, .d (.bool false))], rowH h 2 (s.map eW)))
    (by
      intro n s w hx hlt hs
      refine ⟨?_, by simp [hs]⟩
      apply wq_ex.1
      (simp only [e17, hlt, iaW hx, rowW_app h s w (by omega), wrap_succ (show n < 2 ^ 62 by omega), ws, wsl, opX, int, Zv.bool, intBin, reduceIte, ↓reduceIte, Nat.reduceEqDiff, Nat.reduceAdd, Nat.reduceSub, Nat.reduceLeDiff, Int.reduceLT, Int.reduceLE, Int.reduceEq, Int.reduceBEq, Int.reduceNe, Int.reduceBNe, reduceCtorEq, Nat.reduceBEq] <;> repeat' (first | refine wpG_s ?_ ?_ | refine wpC_s ?_ ?_) <;> intro hgo <;> (try simp only [decide_eq_true_eq, decide_eq_false_iff_not, Bool.not_eq_true', Bool.not_eq_false'] at hgo) <;> simp only [hgo, e17, hlt, iaW hx, rowW_app h s w (by omega), wrap_succ (show n < 2 ^ 62 by omega), ws, wsl, opX, int, Zv.bool, intBin, reduceIte, ↓reduceIte, Nat.reduceEqDiff, Nat.reduceAdd, Nat.reduceSub, Nat.reduceLeDiff, Int.reduceLT, Int.reduceLE, Int.reduceEq, Int.reduceBEq, Int.reduceNe, Int.reduceBNe, reduceCtorEq, Nat.reduceBEq]))
    (by
      intro s _
      apply wq_ex.1
      (simp only [e17, ws, wsl, opX, int, Zv.bool, intBin, reduceIte, ↓reduceIte, Nat.reduceEqDiff, Nat.reduceAdd, Nat.reduceSub, Nat.reduceLeDiff, Int.reduceLT, Int.reduceLE, Int.reduceEq, Int.reduceBEq, Int.reduceNe, Int.reduceBNe, reduceCtorEq, Nat.reduceBEq] <;> repeat' (first | refine wpG_s ?_ ?_ | refine wpC_s ?_ ?_) <;> intro hgo <;> (try simp only [decide_eq_true_eq, decide_eq_false_iff_not, Bool.not_eq_true', Bool.not_eq_false'] at hgo) <;> simp only [hgo, e17, ws, wsl, opX, int, Zv.bool, intBin, reduceIte, ↓reduceIte, Nat.reduceEqDiff, Nat.reduceAdd, Nat.reduceSub, Nat.reduceLeDiff, Int.reduceLT, Int.reduceLE, Int.reduceEq, Int.reduceBEq, Int.reduceNe, Int.reduceBNe, reduceCtorEq, Nat.reduceBEq]))
    (by intro s; simp) [] rfl
  rw [fold_push, List.nil_append] at this
  simp only [int, Int.cast_ofNat_Int, List.map_nil, rowV_nil, rowH_nil] at this
  have e1 : rowV h 2 (l.map eW) = .own h.next 2 l.length 0 l.length := by unfold rowV; rw [if_neg (by simpa using h0), List.length_map]
  have e2 : rowH h 2 (l.map eW) = ⟨(h.next, .arr 2 ((l.map eW).map .d)) :: h.objs, h.next + 1⟩ := by unfold rowH; rw [if_neg (by simpa using h0)]; rfl
  rw [e1, e2] at this
  (simp only [e17, wq_of this, ws, wsl, opX, int, Zv.bool, intBin, reduceIte, ↓reduceIte, Nat.reduceEqDiff, Nat.reduceAdd, Nat.reduceSub, Nat.reduceLeDiff, Int.reduceLT, Int.reduceLE, Int.reduceEq, Int.reduceBEq, Int.reduceNe, Int.reduceBNe, reduceCtorEq, Nat.reduceBEq] <;> repeat' (first | refine wpG_s ?_ ?_ | refine wpC_s ?_ ?_) <;> intro hgo <;> (try simp only [decide_eq_true_eq, decide_eq_false_iff_not, Bool.not_eq_true', Bool.not_eq_false'] at hgo) <;> simp only [hgo, e17, wq_of this, ws, wsl, opX, int, Zv.bool, intBin, reduceIte, ↓reduceIte, Nat.reduceEqDiff, Nat.reduceAdd, Nat.reduceSub, Nat.reduceLeDiff, Int.reduceLT, Int.reduceLE, Int.reduceEq, Int.reduceBEq, Int.reduceNe, Int.reduceBNe, reduceCtorEq, Nat.reduceBEq])
theorem rowH_old (h : Hp) (l : List D) (m : Nat) (hm : m < h.next) : (rowH h 2 l).get m = h.get m := by
  unfold rowH
  split
  · rfl
  · show (if m = h.next then _ else _) = _
    rw [if_neg (by omega)]; rfl
theorem from_ok (l : List Wd) (hl : l.length ≤ 100) (h : Hp) (L : Low h) {m : Nat} (hg : h.get m = some (.arr 2 ((l.map eW).map .d))) : callW tab 20 [.own m 2 l.length 0 l.length] h = some (.d (eWs l), h) := by
  apply call_wp (fn := f20) rfl rfl
  have hm := low_lt L hg
  have SW : ∀ s : List Wd, SlW (rowH h 2 (s.map eW)) (.own m 2 l.length 0 l.length) l := fun s => SlW.own (by rw [rowH_old h _ m hm]; exact hg)
  have := loop_fold (T := tab) (a := f20l0) (l := l) (fun n s => [(0, .own m 2 l.length 0 l.length), (3, rowV h 2 (s.map eW)), (4, int n)]) (fun _ s => rowH h 2 (s.map eW)) (fun n s => s.length = n)
    (fun s w => s ++ [w]) (fun s => (.exit 0, [(0, .own m 2 l.length 0 l.length), (3, rowV h 2 (s.map eW)), (4, .d (.int .i64 l.length)), (12, .d (.bool false))], rowH h 2 (s.map eW)))
    (by
      intro n s w hx hlt hs
      refine ⟨?_, by simp [hs]⟩
      have h100 : (n : Int) < 100 := by omega
      have hrow : (rowH h 2 (s.map eW)).row m l.length = some (2, (l.map eW).map .d) := by rw [row_lk, rowH_old h _ m hm, hg, rowOf_arr, if_pos (by simp)]
      apply wq_ex.1
      (simp only [e20, hlt, h100, ia_own (es := 2) (n := m) (tot := l.length) .i64 hlt, hrow, List.getElem?_map, hx, rowW_app h s w (by omega), wrap_succ (show n < 2 ^ 62 by omega), ws, wsl, opX, int, Zv.bool, intBin, reduceIte, ↓reduceIte, Nat.reduceEqDiff, Nat.reduceAdd, Nat.reduceSub, Nat.reduceLeDiff, Int.reduceLT, Int.reduceLE, Int.reduceEq, Int.reduceBEq, Int.reduceNe, Int.reduceBNe, reduceCtorEq, Nat.reduceBEq] <;> repeat' (first | refine wpG_s ?_ ?_ | refine wpC_s ?_ ?_) <;> intro hgo <;> (try simp only [decide_eq_true_eq, decide_eq_false_iff_not, Bool.not_eq_true', Bool.not_eq_false'] at hgo) <;> simp only [hgo, e20, hlt, h100, ia_own (es := 2) (n := m) (tot := l.length) .i64 hlt, hrow, List.getElem?_map, hx, rowW_app h s w (by omega), wrap_succ (show n < 2 ^ 62 by omega), ws, wsl, opX, int, Zv.bool, intBin, reduceIte, ↓reduceIte, Nat.reduceEqDiff, Nat.reduceAdd, Nat.reduceSub, Nat.reduceLeDiff, Int.reduceLT, Int.reduceLE, Int.reduceEq, Int.reduceBEq, Int.reduceNe, Int.reduceBNe, reduceCtorEq, Nat.reduceBEq]))
    (by
      intro s _
      apply wq_ex.1
      (simp only [e20, ws, wsl, opX, int, Zv.bool, intBin, reduceIte, ↓reduceIte, Nat.reduceEqDiff, Nat.reduceAdd, Nat.reduceSub, Nat.reduceLeDiff, Int.reduceLT, Int.reduceLE, Int.reduceEq, Int.reduceBEq, Int.reduceNe, Int.reduceBNe, reduceCtorEq, Nat.reduceBEq] <;> repeat' (first | refine wpG_s ?_ ?_ | refine wpC_s ?_ ?_) <;> intro hgo <;> (try simp only [decide_eq_true_eq, decide_eq_false_iff_not, Bool.not_eq_true', Bool.not_eq_false'] at hgo) <;> simp only [hgo, e20, ws, wsl, opX, int, Zv.bool, intBin, reduceIte, ↓reduceIte, Nat.reduceEqDiff, Nat.reduceAdd, Nat.reduceSub, Nat.reduceLeDiff, Int.reduceLT, Int.reduceLE, Int.reduceEq, Int.reduceBEq, Int.reduceNe, Int.reduceBNe, reduceCtorEq, Nat.reduceBEq]))
    (by intro s; simp) [] rfl
  rw [fold_push, List.nil_append] at this
  simp only [int, Int.cast_ofNat_Int, List.map_nil, rowV_nil, rowH_nil] at this
  (simp only [e20, wq_of this, finS_row, ws, wsl, opX, int, Zv.bool, intBin, reduceIte, ↓reduceIte, Nat.reduceEqDiff, Nat.reduceAdd, Nat.reduceSub, Nat.reduceLeDiff, Int.reduceLT, Int.reduceLE, Int.reduceEq, Int.reduceBEq, Int.reduceNe, Int.reduceBNe, reduceCtorEq, Nat.reduceBEq] <;> repeat' (first | refine wpG_s ?_ ?_ | refine wpC_s ?_ ?_) <;> intro hgo <;> (try simp only [decide_eq_true_eq, decide_eq_false_iff_not, Bool.not_eq_true', Bool.not_eq_false'] at hgo) <;> simp only [hgo, e20, wq_of this, finS_row, ws, wsl, opX, int, Zv.bool, intBin, reduceIte, ↓reduceIte, Nat.reduceEqDiff, Nat.reduceAdd, Nat.reduceSub, Nat.reduceLeDiff, Int.reduceLT, Int.reduceLE, Int.reduceEq, Int.reduceBEq, Int.reduceNe, Int.reduceBNe, reduceCtorEq, Nat.reduceBEq])

theorem aggW (x y : Wd) : aggBin [.i, .i] .neq (.d (eW x)) (.d (eW y)) = some (.d (.bool (!decide (x = y)))) := by
  obtain ⟨a, b⟩ := x
  obtain ⟨c, d⟩ := y
  simp only [aggBin, D.eqs, keyEq, if_true, ibeq, Bool.and_true, Prod.mk.injEq]
  congr 3
  by_cases h1 : a = c <;> by_cases h2 : b = d <;> simp [h1, h2]
theorem same_ok {h : Hp} {v : V} {b : List Wd} (a : List Wd) (S : SlW h v b) (ha : a.length < 2 ^ 60) : callW tab 19 [.d (eWs a), v] h = some (.d (.bool (decide (a = b))), h) := by
  apply call_wp (fn := f19) rfl rfl
  by_cases hlen : a.length = b.length
  · skip
    have hloop := loop_any (T := tab) (a := f19l0) (l := a.zip b) (p := (fun q => !decide (q.1 = q.2))) (f := fun n => [(0, .d (eWs a)), (1, v), (5, int n)]) (h := h)
        (by intro n x hx hlt hp; have hx' := List.getElem?_zip_eq_some.1 hx; have h5 := lt_of_get hx'.1; obtain ⟨y, hy, hly⟩ := S.at_ n x.2 hx'.2; simp only [Bool.not_eq_true', Bool.not_eq_false', decide_eq_true_eq, decide_eq_false_iff_not] at hp; all_goals (apply wq_ex.1; (simp only [hlt, hp, e19, iaW hx'.1, hy, hly, aggW, h5, wrap_succ (show n < 2 ^ 62 by omega), ws, wsl, opX, int, Zv.bool, intBin, reduceIte, ↓reduceIte, Nat.reduceEqDiff, Nat.reduceAdd, Nat.reduceSub, Nat.reduceLeDiff, Int.reduceLT, Int.reduceLE, Int.reduceEq, Int.reduceBEq, Int.reduceNe, Int.reduceBNe, reduceCtorEq, Nat.reduceBEq] <;> repeat' (first | refine wpG_s ?_ ?_ | refine wpC_s ?_ ?_) <;> intro hgo <;> (try simp only [decide_eq_true_eq, decide_eq_false_iff_not, Bool.not_eq_true', Bool.not_eq_false'] at hgo) <;> simp only [hgo, hlt, hp, e19, iaW hx'.1, hy, hly, aggW, h5, wrap_succ (show n < 2 ^ 62 by omega), ws, wsl, opX, int, Zv.bool, intBin, reduceIte, ↓reduceIte, Nat.reduceEqDiff, Nat.reduceAdd, Nat.reduceSub, Nat.reduceLeDiff, Int.reduceLT, Int.reduceLE, Int.reduceEq, Int.reduceBEq, Int.reduceNe, Int.reduceBNe, reduceCtorEq, Nat.reduceBEq])))
        (by intro n x hx hlt hp; have hx' := List.getElem?_zip_eq_some.1 hx; have h5 := lt_of_get hx'.1; obtain ⟨y, hy, hly⟩ := S.at_ n x.2 hx'.2; simp only [Bool.not_eq_true', Bool.not_eq_false', decide_eq_true_eq, decide_eq_false_iff_not] at hp; all_goals (apply wq_ex.1; (simp only [hlt, hp, e19, iaW hx'.1, hy, hly, aggW, h5, wrap_succ (show n < 2 ^ 62 by omega), ws, wsl, opX, int, Zv.bool, intBin, reduceIte, ↓reduceIte, Nat.reduceEqDiff, Nat.reduceAdd, Nat.reduceSub, Nat.reduceLeDiff, Int.reduceLT, Int.reduceLE, Int.reduceEq, Int.reduceBEq, Int.reduceNe, Int.reduceBNe, reduceCtorEq, Nat.reduceBEq] <;> repeat' (first | refine wpG_s ?_ ?_ | refine wpC_s ?_ ?_) <;> intro hgo <;> (try simp only [decide_eq_true_eq, decide_eq_false_iff_not, Bool.not_eq_true', Bool.not_eq_false'] at hgo) <;> simp only [hgo, hlt, hp, e19, iaW hx'.1, hy, hly, aggW, h5, wrap_succ (show n < 2 ^ 62 by omega), ws, wsl, opX, int, Zv.bool, intBin, reduceIte, ↓reduceIte, Nat.reduceEqDiff, Nat.reduceAdd, Nat.reduceSub, Nat.reduceLeDiff, Int.reduceLT, Int.reduceLE, Int.reduceEq, Int.reduceBEq, Int.reduceNe, Int.reduceBNe, reduceCtorEq, Nat.reduceBEq]) <;> rfl))
        (by apply wq_ex.1; (simp only [e19, show (a.zip b).length = a.length by simp [hlen], ws, wsl, opX, int, Zv.bool, intBin, reduceIte, ↓reduceIte, Nat.reduceEqDiff, Nat.reduceAdd, Nat.reduceSub, Nat.reduceLeDiff, Int.reduceLT, Int.reduceLE, Int.reduceEq, Int.reduceBEq, Int.reduceNe, Int.reduceBNe, reduceCtorEq, Nat.reduceBEq] <;> repeat' (first | refine wpG_s ?_ ?_ | refine wpC_s ?_ ?_) <;> intro hgo <;> (try simp only [decide_eq_true_eq, decide_eq_false_iff_not, Bool.not_eq_true', Bool.not_eq_false'] at hgo) <;> simp only [hgo, e19, show (a.zip b).length = a.length by simp [hlen], ws, wsl, opX, int, Zv.bool, intBin, reduceIte, ↓reduceIte, Nat.reduceEqDiff, Nat.reduceAdd, Nat.reduceSub, Nat.reduceLeDiff, Int.reduceLT, Int.reduceLE, Int.reduceEq, Int.reduceBEq, Int.reduceNe, Int.reduceBNe, reduceCtorEq, Nat.reduceBEq]) <;> rfl)
        (by simp) (by simp)
    simp only [int, Zv.bool, Int.cast_ofNat_Int] at hloop
    have e : ((a.length : Int) != (b.length : Int)) = false := by simp [hlen]
    (simp only [e19, wq_of hloop, S.len, e, ws, wsl, opX, int, Zv.bool, intBin, reduceIte, ↓reduceIte, Nat.reduceEqDiff, Nat.reduceAdd, Nat.reduceSub, Nat.reduceLeDiff, Int.reduceLT, Int.reduceLE, Int.reduceEq, Int.reduceBEq, Int.reduceNe, Int.reduceBNe, reduceCtorEq, Nat.reduceBEq] <;> repeat' (first | refine wpG_s ?_ ?_ | refine wpC_s ?_ ?_) <;> intro hgo <;> (try simp only [decide_eq_true_eq, decide_eq_false_iff_not, Bool.not_eq_true', Bool.not_eq_false'] at hgo) <;> simp only [hgo, e19, wq_of hloop, S.len, e, ws, wsl, opX, int, Zv.bool, intBin, reduceIte, ↓reduceIte, Nat.reduceEqDiff, Nat.reduceAdd, Nat.reduceSub, Nat.reduceLeDiff, Int.reduceLT, Int.reduceLE, Int.reduceEq, Int.reduceBEq, Int.reduceNe, Int.reduceBNe, reduceCtorEq, Nat.reduceBEq])
    have key : ∀ (l m : List Wd), l.length = m.length → ((l.zip m).any fun q => !decide (q.1 = q.2)) = !decide (l = m) := by
      intro l
      induction l with
      | nil => intro m hm; cases m <;> simp_all
      | cons a l ih =>
        intro m hm
        cases m with
        | nil => simp at hm
        | cons b m =>
          simp only [List.zip_cons_cons, List.any_cons, ih m (by simpa using hm), List.cons.injEq]
          by_cases h1 : a = b <;> by_cases h2 : l = m <;> simp [h1, h2]
    rw [key a b hlen]
    by_cases h1 : a = b
    · (simp only [e19, h1, ws, wsl, opX, int, Zv.bool, intBin, reduceIte, ↓reduceIte, Nat.reduceEqDiff, Nat.reduceAdd, Nat.reduceSub, Nat.reduceLeDiff, Int.reduceLT, Int.reduceLE, Int.reduceEq, Int.reduceBEq, Int.reduceNe, Int.reduceBNe, reduceCtorEq, Nat.reduceBEq] <;> repeat' (first | refine wpG_s ?_ ?_ | refine wpC_s ?_ ?_) <;> intro hgo <;> (try simp only [decide_eq_true_eq, decide_eq_false_iff_not, Bool.not_eq_true', Bool.not_eq_false'] at hgo) <;> simp only [hgo, e19, h1, ws, wsl, opX, int, Zv.bool, intBin, reduceIte, ↓reduceIte, Nat.reduceEqDiff, Nat.reduceAdd, Nat.reduceSub, Nat.reduceLeDiff, Int.reduceLT, Int.reduceLE, Int.reduceEq, Int.reduceBEq, Int.reduceNe, Int.reduceBNe, reduceCtorEq, Nat.reduceBEq])
    · (simp only [e19, h1, ws, wsl, opX, int, Zv.bool, intBin, reduceIte, ↓reduceIte, Nat.reduceEqDiff, Nat.reduceAdd, Nat.reduceSub, Nat.reduceLeDiff, Int.reduceLT, Int.reduceLE, Int.reduceEq, Int.reduceBEq, Int.reduceNe, Int.reduceBNe, reduceCtorEq, Nat.reduceBEq] <;> repeat' (first | refine wpG_s ?_ ?_ | refine wpC_s ?_ ?_) <;> intro hgo <;> (try simp only [decide_eq_true_eq, decide_eq_false_iff_not, Bool.not_eq_true', Bool.not_eq_false'] at hgo) <;> simp only [hgo, e19, h1, ws, wsl, opX, int, Zv.bool, intBin, reduceIte, ↓reduceIte, Nat.reduceEqDiff, Nat.reduceAdd, Nat.reduceSub, Nat.reduceLeDiff, Int.reduceLT, Int.reduceLE, Int.reduceEq, Int.reduceBEq, Int.reduceNe, Int.reduceBNe, reduceCtorEq, Nat.reduceBEq])
  · have e : ((a.length : Int) != (b.length : Int)) = true := by simp; omega
    have h1 : ¬ a = b := fun h => hlen (by rw [h])
    (simp only [e19, e, h1, S.len, ws, wsl, opX, int, Zv.bool, intBin, reduceIte, ↓reduceIte, Nat.reduceEqDiff, Nat.reduceAdd, Nat.reduceSub, Nat.reduceLeDiff, Int.reduceLT, Int.reduceLE, Int.reduceEq, Int.reduceBEq, Int.reduceNe, Int.reduceBNe, reduceCtorEq, Nat.reduceBEq] <;> repeat' (first | refine wpG_s ?_ ?_ | refine wpC_s ?_ ?_) <;> intro hgo <;> (try simp only [decide_eq_true_eq, decide_eq_false_iff_not, Bool.not_eq_true', Bool.not_eq_false'] at hgo) <;> simp only [hgo, e19, e, h1, S.len, ws, wsl, opX, int, Zv.bool, intBin, reduceIte, ↓reduceIte, Nat.reduceEqDiff, Nat.reduceAdd, Nat.reduceSub, Nat.reduceLeDiff, Int.reduceLT, Int.reduceLE, Int.reduceEq, Int.reduceBEq, Int.reduceNe, Int.reduceBNe, reduceCtorEq, Nat.reduceBEq])

-- ws, wsl, opX, int, Zv.bool, intBin, reduceIte, ↓reduceIte, Nat.reduceEqDiff, Nat.reduceAdd, Nat.reduceSub, Nat.reduceLeDiff, Int.reduceLT, Int.reduceLE, Int.reduceEq, Int.reduceBEq, Int.reduceNe, Int.reduceBNe, reduceCtorEq, Nat.reduceBEq
end Zc55k
