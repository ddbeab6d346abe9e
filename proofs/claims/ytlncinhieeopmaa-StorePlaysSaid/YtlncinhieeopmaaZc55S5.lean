/-
  What is given to the laws; two stores in one memory.
-/
import Derived.Test.YtlncinhieeopmaaZc55S4
set_option linter.unusedSimpArgs false
set_option maxHeartbeats 4000000
namespace Zc55
open Go Zv Zs

structure Act where
  op : Int
  cell : Int
  at_ : Int
  tag : Int
  words : List Wd
abbrev eA (a : Act) : D := .agg [.int .i64 a.op, .int .i64 a.cell, .int .i64 a.at_, .int .i64 a.tag, .lst (a.words.map eW)]
theorem iaA {l : List Act} {n : Nat} {x : Act} (hx : l[n]? = some x) : ia 5 (.d (.lst (l.map eA))) (.d (.int .i64 (n : Int))) = some (.fp (eA x) 0) := ia_map (f := eA) .i64 hx rfl
theorem okEs_map {α : Type} {E : Nat → ET} {t : ET} {enc : α → D} (H : ∀ x, ok E t x → ∃ a, x = enc a) : ∀ {l : List D}, okEs E t l → ∃ xs : List α, l = xs.map enc
  | [], _ => ⟨[], rfl⟩
  | x :: l, h => by
    simp only [okEs] at h
    obtain ⟨a, rfl⟩ := H x h.1
    obtain ⟨xs, rfl⟩ := okEs_map H h.2
    exact ⟨a :: xs, rfl⟩
theorem okI {x : D} (h : ok (EE es) (.one (.i .i64)) x) : ∃ a, x = eI a := by
  obtain ⟨n, rfl, _⟩ := ok_i h; exact ⟨n, rfl⟩
theorem okW {x : D} (h : ok (EE es) (.st [.i .i64, .i .i64]) x) : ∃ a, x = eW a := by
  obtain ⟨l, rfl, h1⟩ := ok_st h
  obtain ⟨y, r, rfl, ha, h1⟩ := okCs_cons h1
  obtain ⟨z, r, rfl, hb, h1⟩ := okCs_cons h1
  obtain rfl := okCs_nil h1
  obtain ⟨a, rfl⟩ := okI ha
  obtain ⟨b, rfl⟩ := okI hb
  exact ⟨(a, b), rfl⟩
theorem okA {x : D} (h : ok (EE es) (.st [.i .i64, .i .i64, .i .i64, .i .i64, .l 2]) x) : ∃ a, x = eA a := by
  obtain ⟨l, rfl, h1⟩ := ok_st h
  obtain ⟨y1, r, rfl, ha1, h1⟩ := okCs_cons h1
  obtain ⟨y2, r, rfl, ha2, h1⟩ := okCs_cons h1
  obtain ⟨y3, r, rfl, ha3, h1⟩ := okCs_cons h1
  obtain ⟨y4, r, rfl, ha4, h1⟩ := okCs_cons h1
  obtain ⟨z, r, rfl, hb, h1⟩ := okCs_cons h1
  obtain rfl := okCs_nil h1
  obtain ⟨a1, rfl⟩ := okI ha1
  obtain ⟨a2, rfl⟩ := okI ha2
  obtain ⟨a3, rfl⟩ := okI ha3
  obtain ⟨a4, rfl⟩ := okI ha4
  obtain ⟨l, rfl, _, h2⟩ := ok_l hb
  obtain ⟨xs, rfl⟩ := okEs_map (fun _ => okW) h2
  exact ⟨⟨a1, a2, a3, a4, xs⟩, rfl⟩
theorem u8_of {n : Int} (h : (Lit.int .u8 n).wf = true) : 0 ≤ n ∧ n ≤ 255 := by
  simp [Lit.wf, IntKind.min, IntKind.max, IntKind.signed, IntKind.bits] at h
  omega

theorem fold_push {α : Type} : ∀ (l s : List α), l.foldl (fun s x => s ++ [x]) s = s ++ l
  | [], s => by simp
  | x :: l, s => by rw [List.foldl_cons, fold_push l]; simp
theorem rowW_app (h : Hp) (s : List Wd) (w : Wd) (hl : s.length < 2 ^ 20) : app 2 16 (rowH h 2 (s.map eW)) (rowV h 2 (s.map eW)) (.tl [.d (eW w)] (some false)) = some (rowV h 2 ((s ++ [w]).map eW), rowH h 2 ((s ++ [w]).map eW)) := by
  have := rowD_app h (es := 2) (b := 16) (l := s.map eW) (x := eW w) rfl (by simp only [List.length_map, roomB]; omega) (fun y hy => by obtain ⟨w, _, rfl⟩ := List.mem_map.1 hy; rfl)
  rw [this, List.map_append]; rfl
theorem rowW_fin {fn : AF} (hs : fn.scp = true) {t : Nat} (hr : fn.res = [t]) {h : Hp} {l : List Wd} {e : Env} (he : e.get t = rowV h 2 (l.map eW)) : finish fn h e (rowH h 2 (l.map eW)) = some (.d (eWs l), h) := finish_row (es := 2) hs hr he
theorem finS_row (h : Hp) (l : List D) : finS h (rowH h 2 l) [rowV h 2 l] = some (.d (.lst l), h) := by
  have := finish_row (fn := ⟨0, [0], true, .skip⟩) (h := h) (l := l) (es := 2) (t := 0) (e := [(0, rowV h 2 l)]) rfl rfl rfl
  exact this
theorem to_ok (l : List Wd) (hl : l.length < 2 ^ 20) (h : Hp) : callW tab 17 [.d (eWs l)] h = some (.d (eWs l), h) := by
  apply call_wp (fn := f17) rfl rfl
  have := loop_fold (T := tab) (a := f17l0) (l := l) (fun n s => [(0, .d (eWs l)), (3, rowV h 2 (s.map eW)), (4, int n)]) (fun _ s => rowH h 2 (s.map eW)) (fun n s => s.length = n)
    (fun s w => s ++ [w]) (fun s => (.exit 0, [(0, .d (eWs l)), (3, rowV h 2 (s.map eW)), (4, .d (.int .i64 l.length)), (8, .d (.bool false))], rowH h 2 (s.map eW)))
    (by
      intro n s w hx hlt hs
      refine ⟨?_, by simp [hs]⟩
      apply wq_ex.1
      (simp only [e17, hlt, iaW hx, rowW_app h s w (by omega), wrap_succ (show n < 2 ^ 62 by omega), ws, wsl, opX, int, Zv.bool, intBin, reduceIte, ↓reduceIte, Nat.reduceEqDiff, Nat.reduceAdd, Nat.reduceSub, Nat.reduceLeDiff, Int.reduceLT, Int.reduceLE, Int.reduceEq, Int.reduceBEq, Int.reduceNe, Int.reduceBNe, reduceCtorEq, Nat.reduceBEq] <;> repeat' (first | refine wpG_s ?_ ?_ | refine wpC_s ?_ ?_) <;> intro hgo <;> (try simp only [decide_eq_true_eq, decide_eq_false_iff_not, Bool.not_eq_true', Bool.not_eq_false'] at hgo) <;> simp only [hgo, e17, hlt, iaW hx, rowW_app h s w (by omega), wrap_succ (show n < 2 ^ 62 by omega), ws, wsl, opX, int, Zv.bool, intBin, reduceIte, ↓reduceIte, Nat.reduceEqDiff, Nat.reduceAdd, Nat.reduceSub, Nat.reduceLeDiff, Int.reduceLT, Int.reduceLE, Int.reduceEq, Int.reduceBEq, Int.reduceNe, Int.reduceBNe, reduceCtorEq, Nat.reduceBEq]))
    (by
      intro s _
      apply wq_ex.1
      (simp only [e17, ws, wsl, opX, int, Zv.bool, intBin, reduceIte, ↓reduceIte, Nat.reduceEqDiff, Nat.reduceAdd, Nat.reduceSub, Nat.reduceLeDiff, Int.reduceLT, Int.reduceLE, Int.reduceEq, Int.reduceBEq, Int.reduceNe, Int.reduceBNe, reduceCtorEq, Nat.reduceBEq] <;> repeat' (first | refine wpG_s ?_ ?_ | refine wpC_s ?_ ?_) <;> intro hgo <;> (try simp only [decide_eq_true_eq, decide_eq_false_iff_not, Bool.not_eq_true', Bool.not_eq_false'] at hgo) <;> simp only [hgo, e17, ws, wsl, opX, int, Zv.bool, intBin, reduceIte, ↓reduceIte, Nat.reduceEqDiff, Nat.reduceAdd, Nat.reduceSub, Nat.reduceLeDiff, Int.reduceLT, Int.reduceLE, Int.reduceEq, Int.reduceBEq, Int.reduceNe, Int.reduceBNe, reduceCtorEq, Nat.reduceBEq]))
    (by intro s; simp) [] rfl
  rw [fold_push, List.nil_append] at this
  simp only [int, Int.cast_ofNat_Int, List.map_nil, rowV_nil, rowH_nil] at this
  (simp only [e17, wq_of this, finS_row, ws, wsl, opX, int, Zv.bool, intBin, reduceIte, ↓reduceIte, Nat.reduceEqDiff, Nat.reduceAdd, Nat.reduceSub, Nat.reduceLeDiff, Int.reduceLT, Int.reduceLE, Int.reduceEq, Int.reduceBEq, Int.reduceNe, Int.reduceBNe, reduceCtorEq, Nat.reduceBEq] <;> repeat' (first | refine wpG_s ?_ ?_ | refine wpC_s ?_ ?_) <;> intro hgo <;> (try simp only [decide_eq_true_eq, decide_eq_false_iff_not, Bool.not_eq_true', Bool.not_eq_false'] at hgo) <;> simp only [hgo, e17, wq_of this, finS_row, ws, wsl, opX, int, Zv.bool, intBin, reduceIte, ↓reduceIte, Nat.reduceEqDiff, Nat.reduceAdd, Nat.reduceSub, Nat.reduceLeDiff, Int.reduceLT, Int.reduceLE, Int.reduceEq, Int.reduceBEq, Int.reduceNe, Int.reduceBNe, reduceCtorEq, Nat.reduceBEq])
theorem from_ok (l : List Wd) (hl : l.length ≤ 100) (h : Hp) : callW tab 20 [.d (eWs l)] h = some (.d (eWs l), h) := by
  apply call_wp (fn := f20) rfl rfl
  have := loop_fold (T := tab) (a := f20l0) (l := l) (fun n s => [(0, .d (eWs l)), (3, rowV h 2 (s.map eW)), (4, int n)]) (fun _ s => rowH h 2 (s.map eW)) (fun n s => s.length = n)
    (fun s w => s ++ [w]) (fun s => (.exit 0, [(0, .d (eWs l)), (3, rowV h 2 (s.map eW)), (4, .d (.int .i64 l.length)), (12, .d (.bool false))], rowH h 2 (s.map eW)))
    (by
      intro n s w hx hlt hs
      refine ⟨?_, by simp [hs]⟩
      have h100 : (n : Int) < 100 := by omega
      apply wq_ex.1
      (simp only [e20, hlt, h100, iaW hx, rowW_app h s w (by omega), wrap_succ (show n < 2 ^ 62 by omega), ws, wsl, opX, int, Zv.bool, intBin, reduceIte, ↓reduceIte, Nat.reduceEqDiff, Nat.reduceAdd, Nat.reduceSub, Nat.reduceLeDiff, Int.reduceLT, Int.reduceLE, Int.reduceEq, Int.reduceBEq, Int.reduceNe, Int.reduceBNe, reduceCtorEq, Nat.reduceBEq] <;> repeat' (first | refine wpG_s ?_ ?_ | refine wpC_s ?_ ?_) <;> intro hgo <;> (try simp only [decide_eq_true_eq, decide_eq_false_iff_not, Bool.not_eq_true', Bool.not_eq_false'] at hgo) <;> simp only [hgo, e20, hlt, h100, iaW hx, rowW_app h s w (by omega), wrap_succ (show n < 2 ^ 62 by omega), ws, wsl, opX, int, Zv.bool, intBin, reduceIte, ↓reduceIte, Nat.reduceEqDiff, Nat.reduceAdd, Nat.reduceSub, Nat.reduceLeDiff, Int.reduceLT, Int.reduceLE, Int.reduceEq, Int.reduceBEq, Int.reduceNe, Int.reduceBNe, reduceCtorEq, Nat.reduceBEq]))
    (by
      intro s _
      apply wq_ex.1
      (simp only [e20, ws, wsl, opX, int, Zv.bool, intBin, reduceIte, ↓reduceIte, Nat.reduceEqDiff, Nat.reduceAdd, Nat.reduceSub, Nat.reduceLeDiff, Int.reduceLT, Int.reduceLE, Int.reduceEq, Int.reduceBEq, Int.reduceNe, Int.reduceBNe, reduceCtorEq, Nat.reduceBEq] <;> repeat' (first | refine wpG_s ?_ ?_ | refine wpC_s ?_ ?_) <;> intro hgo <;> (try simp only [decide_eq_true_eq, decide_eq_false_iff_not, Bool.not_eq_true', Bool.not_eq_false'] at hgo) <;> simp only [hgo, e20, ws, wsl, opX, int, Zv.bool, intBin, reduceIte, ↓reduceIte, Nat.reduceEqDiff, Nat.reduceAdd, Nat.reduceSub, Nat.reduceLeDiff, Int.reduceLT, Int.reduceLE, Int.reduceEq, Int.reduceBEq, Int.reduceNe, Int.reduceBNe, reduceCtorEq, Nat.reduceBEq]))
    (by intro s; simp) [] rfl
  rw [fold_push, List.nil_append] at this
  simp only [int, Int.cast_ofNat_Int, List.map_nil, rowV_nil, rowH_nil] at this
  (simp only [e20, wq_of this, finS_row, ws, wsl, opX, int, Zv.bool, intBin, reduceIte, ↓reduceIte, Nat.reduceEqDiff, Nat.reduceAdd, Nat.reduceSub, Nat.reduceLeDiff, Int.reduceLT, Int.reduceLE, Int.reduceEq, Int.reduceBEq, Int.reduceNe, Int.reduceBNe, reduceCtorEq, Nat.reduceBEq] <;> repeat' (first | refine wpG_s ?_ ?_ | refine wpC_s ?_ ?_) <;> intro hgo <;> (try simp only [decide_eq_true_eq, decide_eq_false_iff_not, Bool.not_eq_true', Bool.not_eq_false'] at hgo) <;> simp only [hgo, e20, wq_of this, finS_row, ws, wsl, opX, int, Zv.bool, intBin, reduceIte, ↓reduceIte, Nat.reduceEqDiff, Nat.reduceAdd, Nat.reduceSub, Nat.reduceLeDiff, Int.reduceLT, Int.reduceLE, Int.reduceEq, Int.reduceBEq, Int.reduceNe, Int.reduceBNe, reduceCtorEq, Nat.reduceBEq])

theorem few_ok (l : List Act) (h : Hp) : ∃ r, callW tab 16 [.d (.lst (l.map eA))] h = some r ∧ ∃ b, r = (.d (.bool b), h) ∧ (b = true → l.length ≤ 40 ∧ ∀ a, a ∈ l → a.words.length ≤ 30) := by
  apply call_wpE (fn := f16) rfl rfl
  (simp only [e16, ws, wsl, opX, int, Zv.bool, intBin, reduceIte, ↓reduceIte, Nat.reduceEqDiff, Nat.reduceAdd, Nat.reduceSub, Nat.reduceLeDiff, Int.reduceLT, Int.reduceLE, Int.reduceEq, Int.reduceBEq, Int.reduceNe, Int.reduceBNe, reduceCtorEq, Nat.reduceBEq] <;> repeat' (first | refine wpG_s ?_ ?_ | refine wpC_s ?_ ?_) <;> intro hgo <;> (try simp only [decide_eq_true_eq, decide_eq_false_iff_not, Bool.not_eq_true', Bool.not_eq_false'] at hgo) <;> simp only [hgo, e16, ws, wsl, opX, int, Zv.bool, intBin, reduceIte, ↓reduceIte, Nat.reduceEqDiff, Nat.reduceAdd, Nat.reduceSub, Nat.reduceLeDiff, Int.reduceLT, Int.reduceLE, Int.reduceEq, Int.reduceBEq, Int.reduceNe, Int.reduceBNe, reduceCtorEq, Nat.reduceBEq])
  refine loop_wp (min l.length 40) (fun n e h' => h' = h ∧ e = [(0, .d (.lst (l.map eA))), (3, .d (.int .i64 n))] ∧ ∀ k a, k < n → l[k]? = some a → a.words.length ≤ 30) _ ?_ ?_ (min l.length 40) 0 _ _ (by omega) ⟨rfl, rfl, fun k a hk => by omega⟩
  · rintro n e h' hn ⟨rfl, rfl, hk⟩
    obtain ⟨a, ha⟩ := get_of_lt (l := l) (n := n) (by omega)
    have hlt : n < l.length := by omega
    have h40 : (n : Int) < 40 := by omega
    by_cases h1 : (30 : Int) < (a.words.length : Int)
    · (simp only [e16, hlt, h40, iaA ha, h1, ws, wsl, opX, int, Zv.bool, intBin, reduceIte, ↓reduceIte, Nat.reduceEqDiff, Nat.reduceAdd, Nat.reduceSub, Nat.reduceLeDiff, Int.reduceLT, Int.reduceLE, Int.reduceEq, Int.reduceBEq, Int.reduceNe, Int.reduceBNe, reduceCtorEq, Nat.reduceBEq] <;> repeat' (first | refine wpG_s ?_ ?_ | refine wpC_s ?_ ?_) <;> intro hgo <;> (try simp only [decide_eq_true_eq, decide_eq_false_iff_not, Bool.not_eq_true', Bool.not_eq_false'] at hgo) <;> simp only [hgo, e16, hlt, h40, iaA ha, h1, ws, wsl, opX, int, Zv.bool, intBin, reduceIte, ↓reduceIte, Nat.reduceEqDiff, Nat.reduceAdd, Nat.reduceSub, Nat.reduceLeDiff, Int.reduceLT, Int.reduceLE, Int.reduceEq, Int.reduceBEq, Int.reduceNe, Int.reduceBNe, reduceCtorEq, Nat.reduceBEq])
      exact ⟨_, rfl, false, rfl, by simp⟩
    · (simp only [e16, hlt, h40, iaA ha, h1, wrap_succ (show n < 2 ^ 62 by omega), ws, wsl, opX, int, Zv.bool, intBin, reduceIte, ↓reduceIte, Nat.reduceEqDiff, Nat.reduceAdd, Nat.reduceSub, Nat.reduceLeDiff, Int.reduceLT, Int.reduceLE, Int.reduceEq, Int.reduceBEq, Int.reduceNe, Int.reduceBNe, reduceCtorEq, Nat.reduceBEq] <;> repeat' (first | refine wpG_s ?_ ?_ | refine wpC_s ?_ ?_) <;> intro hgo <;> (try simp only [decide_eq_true_eq, decide_eq_false_iff_not, Bool.not_eq_true', Bool.not_eq_false'] at hgo) <;> simp only [hgo, e16, hlt, h40, iaA ha, h1, wrap_succ (show n < 2 ^ 62 by omega), ws, wsl, opX, int, Zv.bool, intBin, reduceIte, ↓reduceIte, Nat.reduceEqDiff, Nat.reduceAdd, Nat.reduceSub, Nat.reduceLeDiff, Int.reduceLT, Int.reduceLE, Int.reduceEq, Int.reduceBEq, Int.reduceNe, Int.reduceBNe, reduceCtorEq, Nat.reduceBEq])
      intro k a' hk' ha'
      by_cases hkn : k = n
      · subst hkn; rw [ha] at ha'; cases ha'; omega
      · exact hk k a' (by omega) ha'
  · rintro e h' ⟨rfl, rfl, hk⟩
    by_cases hl : l.length ≤ 40
    · have e1 : min l.length 40 = l.length := by omega
      rw [e1] at hk ⊢
      have e2 : ((l.length : Int) ≤ 40) := by omega
      (simp only [e16, e2, ws, wsl, opX, int, Zv.bool, intBin, reduceIte, ↓reduceIte, Nat.reduceEqDiff, Nat.reduceAdd, Nat.reduceSub, Nat.reduceLeDiff, Int.reduceLT, Int.reduceLE, Int.reduceEq, Int.reduceBEq, Int.reduceNe, Int.reduceBNe, reduceCtorEq, Nat.reduceBEq] <;> repeat' (first | refine wpG_s ?_ ?_ | refine wpC_s ?_ ?_) <;> intro hgo <;> (try simp only [decide_eq_true_eq, decide_eq_false_iff_not, Bool.not_eq_true', Bool.not_eq_false'] at hgo) <;> simp only [hgo, e16, e2, ws, wsl, opX, int, Zv.bool, intBin, reduceIte, ↓reduceIte, Nat.reduceEqDiff, Nat.reduceAdd, Nat.reduceSub, Nat.reduceLeDiff, Int.reduceLT, Int.reduceLE, Int.reduceEq, Int.reduceBEq, Int.reduceNe, Int.reduceBNe, reduceCtorEq, Nat.reduceBEq])
      refine ⟨_, rfl, true, rfl, fun _ => ⟨hl, fun a ha => ?_⟩⟩
      obtain ⟨k, hk1, hk2⟩ := List.getElem_of_mem ha
      exact hk k a hk1 (by rw [List.getElem?_eq_getElem hk1, hk2])
    · have e1 : min l.length 40 = 40 := by omega
      rw [e1]
      have e2 : ¬ ((l.length : Int) ≤ 40) := by omega
      have e3 : ((40 : Int) < (l.length : Int)) := by omega
      (simp only [e16, e2, e3, ws, wsl, opX, int, Zv.bool, intBin, reduceIte, ↓reduceIte, Nat.reduceEqDiff, Nat.reduceAdd, Nat.reduceSub, Nat.reduceLeDiff, Int.reduceLT, Int.reduceLE, Int.reduceEq, Int.reduceBEq, Int.reduceNe, Int.reduceBNe, reduceCtorEq, Nat.reduceBEq] <;> repeat' (first | refine wpG_s ?_ ?_ | refine wpC_s ?_ ?_) <;> intro hgo <;> (try simp only [decide_eq_true_eq, decide_eq_false_iff_not, Bool.not_eq_true', Bool.not_eq_false'] at hgo) <;> simp only [hgo, e16, e2, e3, ws, wsl, opX, int, Zv.bool, intBin, reduceIte, ↓reduceIte, Nat.reduceEqDiff, Nat.reduceAdd, Nat.reduceSub, Nat.reduceLeDiff, Int.reduceLT, Int.reduceLE, Int.reduceEq, Int.reduceBEq, Int.reduceNe, Int.reduceBNe, reduceCtorEq, Nat.reduceBEq])
      exact ⟨_, rfl, false, rfl, by simp⟩

theorem takeS_len (S : St) (tag : Int) (wl : List Wd) : (takeS S tag wl).2.cells.length = S.cells.length := by
  unfold takeS
  split
  · rfl
  · split
    · rfl
    · split
      · rfl
      · split
        · rfl
        · simp
theorem giveS_len (S : St) (n : Int) : (giveS S n).2.cells.length = S.cells.length := by
  unfold giveS
  split
  · rfl
  · simp

/-- Two of the program's stores in one memory. -/
structure Two (h : Hp) (s c t d : Nat) (S T : St) : Prop where
  ex : ∃ O1 O2 : Nat → Prop, SR h s c O1 S ∧ SR h t d O2 T ∧ (∀ n, O1 n → ¬ O2 n) ∧ (∀ n, O1 n → n < h.next) ∧ (∀ n, O2 n → n < h.next)
  low : Low h
  ls : S.cells.length ≤ 2 ^ 20
  lt : T.cells.length ≤ 2 ^ 20
theorem Two.swap {h : Hp} {s c t d : Nat} {S T : St} (K : Two h s c t d S T) : Two h t d s c T S := by
  obtain ⟨⟨O1, O2, h1, h2, h3, h4, h5⟩, h6, h7, h8⟩ := K
  exact ⟨⟨O2, O1, h2, h1, fun n a b => h3 n b a, h5, h4⟩, h6, h8, h7⟩
theorem Two.take {h : Hp} {s c t d : Nat} {S T : St} (K : Two h s c t d S T) (tag : Int) (wl : List Wd) (hw : wl.length < 2 ^ 60) :
    ∃ h', callW tab 11 [.ptr s 1 0 0, .d (eI tag), .d (eWs wl)] h = some (.tup [.d (eI (takeS S tag wl).1.1), .d (eI (takeS S tag wl).1.2)], h') ∧ Two h' s c t d (takeS S tag wl).2 T := by
  obtain ⟨⟨O1, O2, h1, h2, h3, h4, h5⟩, h6, h7, h8⟩ := K
  obtain ⟨⟨v, h'⟩, k1, k2, A⟩ := take_ok h1 h6 h7 tag wl hw
  simp only at k2 A
  subst k2
  refine ⟨h', k1, ⟨_, O2, A.sr, h2.frame (fun n hn => A.fr n (h5 n hn) (fun ho => h3 n ho hn)), ?_, ?_, ?_⟩, A.low, by rw [takeS_len]; exact h7, h8⟩
  · rintro n (a | a) b
    · exact h3 n a b
    · have := h5 n b; omega
  · rintro n (a | a)
    · exact Nat.lt_of_lt_of_le (h4 n a) A.nx
    · exact a.2
  · intro n hn; exact Nat.lt_of_lt_of_le (h5 n hn) A.nx
theorem Two.give {h : Hp} {s c t d : Nat} {S T : St} (K : Two h s c t d S T) (n : Int) :
    ∃ h', callW tab 13 [.ptr s 1 0 0, .d (eI n)] h = some (.d (eI (giveS S n).1), h') ∧ Two h' s c t d (giveS S n).2 T := by
  obtain ⟨⟨O1, O2, h1, h2, h3, h4, h5⟩, h6, h7, h8⟩ := K
  obtain ⟨⟨v, h'⟩, k1, k2, A⟩ := give_ok h1 h6 h7 n
  simp only at k2 A
  subst k2
  refine ⟨h', k1, ⟨_, O2, A.sr, h2.frame (fun n hn => A.fr n (h5 n hn) (fun ho => h3 n ho hn)), ?_, ?_, ?_⟩, A.low, by rw [giveS_len]; exact h7, h8⟩
  · rintro n (a | a) b
    · exact h3 n a b
    · have := h5 n b; omega
  · rintro n (a | a)
    · exact Nat.lt_of_lt_of_le (h4 n a) A.nx
    · exact a.2
  · intro n hn; exact Nat.lt_of_lt_of_le (h5 n hn) A.nx
theorem Two.audit {h : Hp} {s c t d : Nat} {S T : St} (K : Two h s c t d S T) (wl : List Wd) (hw : wl.length < 2 ^ 60) :
    callW tab 12 [.ptr s 1 0 0, .d (eWs wl)] h = some (.tup [.d (eI (auditS S wl).1), .d (eI (auditS S wl).2)], h) := by
  obtain ⟨⟨O1, O2, h1, _⟩, h6, h7, h8⟩ := K
  exact audit_ok h1 h6 h7 wl hw
theorem Two.left {h : Hp} {s c t d : Nat} {S T : St} (K : Two h s c t d S T) : callW tab 15 [.ptr s 1 0 0] h = some (.d (eI S.free.length), h) := by
  obtain ⟨⟨O1, O2, ⟨⟨cs, first, P, _⟩, _⟩, _⟩, _⟩ := K
  exact left_ok P
-- ws, wsl, opX, int, Zv.bool, intBin, reduceIte, ↓reduceIte, Nat.reduceEqDiff, Nat.reduceAdd, Nat.reduceSub, Nat.reduceLeDiff, Int.reduceLT, Int.reduceLE, Int.reduceEq, Int.reduceBEq, Int.reduceNe, Int.reduceBNe, reduceCtorEq, Nat.reduceBEq
end Zc55
