/-
  Types with finite values: the program.
-/
import Derived.Test.YtfbkbopmenilkaaZc27R13
set_option linter.unusedSimpArgs false
set_option maxHeartbeats 4000000
namespace Zc27
open Go Zv Zs

/-- The marks, behind the variable that holds them. -/
structure RM (H : Hp) (b a L : Nat) (M : List Bool) : Prop where
  len : M.length = L
  box : H.row b 1 = some (1, [.own a 1 L 0 L])
  row : H.row a L = some (1, M.map bV)
theorem RM.up {H : Hp} {b a L : Nat} {M : List Bool} (R : RM H b a L M) (q : Nat) : RM ⟨H.objs, q⟩ b a L M := ⟨R.len, R.box, R.row⟩

theorem fin11_ok {H : Hp} {b a L n : Nat} {M : List Bool} (R : RM H b a L M) (hn : n < L) : callW tab 92 [.d (eI n), .ptr b 1 0 0] H = some (.d (.bool (!mk M n)), H) := by
  refine call_wp (fn := f92) rfl rfl ?_
  obtain ⟨x, hx⟩ := get_of_lt (l := M) (n := n) (by rw [R.len]; exact hn)
  (simp only [e92, R.box, ia_own (es := 1) (n := a) (tot := L) .i64 hn, ld_bit R.row hx, mk_at hx, ws, wsl, opX, int, Zv.bool, intBin, reduceIte, ↓reduceIte, Nat.reduceEqDiff, Nat.reduceAdd, Nat.reduceSub, Nat.reduceLeDiff, Int.reduceLT, Int.reduceLE, Int.reduceEq, Int.reduceBEq, Int.reduceNe, Int.reduceBNe, reduceCtorEq, Nat.reduceBEq] <;> repeat' (first | refine wpG_s ?_ ?_ | refine wpC_s ?_ ?_) <;> intro hgo <;> (try simp only [decide_eq_true_eq, decide_eq_false_iff_not, Bool.not_eq_true', Bool.not_eq_false'] at hgo) <;> simp only [hgo, e92, R.box, ia_own (es := 1) (n := a) (tot := L) .i64 hn, ld_bit R.row hx, mk_at hx, ws, wsl, opX, int, Zv.bool, intBin, reduceIte, ↓reduceIte, Nat.reduceEqDiff, Nat.reduceAdd, Nat.reduceSub, Nat.reduceLeDiff, Int.reduceLT, Int.reduceLE, Int.reduceEq, Int.reduceBEq, Int.reduceNe, Int.reduceBNe, reduceCtorEq, Nat.reduceBEq])
theorem fin1_ok {H : Hp} {b a L : Nat} {M : List Bool} (R : RM H b a L M) (c : Cn) (hc : c.flds.length < 2 ^ 60) (hf : ∀ f, f ∈ c.flds → ∃ n : Nat, f = n ∧ n < L) : callW tab 91 [.d (eC c), .ptr b 1 0 0] H = some (.d (.bool (allD M c)), H) := by
  refine call_wp (fn := f91) rfl rfl ?_
  have hcont := conFT c.flds (.clo 92 [.ptr b 1 0 0]) (fun f => !mk M f) ⟨H.objs, H.next + 1⟩ hc rfl
    (fun f hfm => by obtain ⟨n, rfl, hn⟩ := hf f hfm; exact fin11_ok (R.up _) hn)
  have e : (!c.flds.any fun f => !mk M f) = allD M c := by
    unfold allD
    have : ∀ l : List Int, (!l.any fun f => !mk M f) = l.all (mk M) := by
      intro l; induction l with
      | nil => rfl
      | cons b l ih => rw [List.any_cons, List.all_cons, ← ih]; cases mk M b <;> simp
    exact this _
  (simp only [e91, hcont, e, ws, wsl, opX, int, Zv.bool, intBin, reduceIte, ↓reduceIte, Nat.reduceEqDiff, Nat.reduceAdd, Nat.reduceSub, Nat.reduceLeDiff, Int.reduceLT, Int.reduceLE, Int.reduceEq, Int.reduceBEq, Int.reduceNe, Int.reduceBNe, reduceCtorEq, Nat.reduceBEq] <;> repeat' (first | refine wpG_s ?_ ?_ | refine wpC_s ?_ ?_) <;> intro hgo <;> (try simp only [decide_eq_true_eq, decide_eq_false_iff_not, Bool.not_eq_true', Bool.not_eq_false'] at hgo) <;> simp only [hgo, e91, hcont, e, ws, wsl, opX, int, Zv.bool, intBin, reduceIte, ↓reduceIte, Nat.reduceEqDiff, Nat.reduceAdd, Nat.reduceSub, Nat.reduceLeDiff, Int.reduceLT, Int.reduceLE, Int.reduceEq, Int.reduceBEq, Int.reduceNe, Int.reduceBNe, reduceCtorEq, Nat.reduceBEq])

theorem indB {h : Hp} {a L : Nat} {M : List Bool} (hr : h.row a L = some (1, M.map bV)) (hL : M.length = L) (hl : L < 2 ^ 60) (b : Bool) : callW tab 100 [.own a 1 L 0 L, .d (.bool b)] h = some (.d (eI (idxZ (fun x => b == x) M)), h) := by
  refine call_wp (fn := f100) rfl rfl ?_
  have hloop := loop_find (T := tab) (a := f100l0) (l := M) (p := (fun x => b == x)) (f := fun n => [(0, .own a 1 L 0 L), (1, .d (.bool b)), (7, int L), (8, int n)]) (h := h)
      (by intro n x hx hlt hp; have hlt' : n < L := (by omega); have hio := ia_own (es := 1) (n := a) (tot := L) .i64 hlt'; have hl := ld_bit hr hx; all_goals (apply wq_ex.1; (simp only [hlt, hp, e100, hlt', hio, hl, wrap_succ (show n < 2 ^ 62 by omega), ws, wsl, opX, int, Zv.bool, intBin, reduceIte, ↓reduceIte, Nat.reduceEqDiff, Nat.reduceAdd, Nat.reduceSub, Nat.reduceLeDiff, Int.reduceLT, Int.reduceLE, Int.reduceEq, Int.reduceBEq, Int.reduceNe, Int.reduceBNe, reduceCtorEq, Nat.reduceBEq] <;> repeat' (first | refine wpG_s ?_ ?_ | refine wpC_s ?_ ?_) <;> intro hgo <;> (try simp only [decide_eq_true_eq, decide_eq_false_iff_not, Bool.not_eq_true', Bool.not_eq_false'] at hgo) <;> simp only [hgo, hlt, hp, e100, hlt', hio, hl, wrap_succ (show n < 2 ^ 62 by omega), ws, wsl, opX, int, Zv.bool, intBin, reduceIte, ↓reduceIte, Nat.reduceEqDiff, Nat.reduceAdd, Nat.reduceSub, Nat.reduceLeDiff, Int.reduceLT, Int.reduceLE, Int.reduceEq, Int.reduceBEq, Int.reduceNe, Int.reduceBNe, reduceCtorEq, Nat.reduceBEq])))
      (by intro n x hx hlt hp; have hlt' : n < L := (by omega); have hio := ia_own (es := 1) (n := a) (tot := L) .i64 hlt'; have hl := ld_bit hr hx; all_goals (apply wq_ex.1; (simp only [hlt, hp, e100, hlt', hio, hl, wrap_succ (show n < 2 ^ 62 by omega), ws, wsl, opX, int, Zv.bool, intBin, reduceIte, ↓reduceIte, Nat.reduceEqDiff, Nat.reduceAdd, Nat.reduceSub, Nat.reduceLeDiff, Int.reduceLT, Int.reduceLE, Int.reduceEq, Int.reduceBEq, Int.reduceNe, Int.reduceBNe, reduceCtorEq, Nat.reduceBEq] <;> repeat' (first | refine wpG_s ?_ ?_ | refine wpC_s ?_ ?_) <;> intro hgo <;> (try simp only [decide_eq_true_eq, decide_eq_false_iff_not, Bool.not_eq_true', Bool.not_eq_false'] at hgo) <;> simp only [hgo, hlt, hp, e100, hlt', hio, hl, wrap_succ (show n < 2 ^ 62 by omega), ws, wsl, opX, int, Zv.bool, intBin, reduceIte, ↓reduceIte, Nat.reduceEqDiff, Nat.reduceAdd, Nat.reduceSub, Nat.reduceLeDiff, Int.reduceLT, Int.reduceLE, Int.reduceEq, Int.reduceBEq, Int.reduceNe, Int.reduceBNe, reduceCtorEq, Nat.reduceBEq]) <;> rfl))
      (by apply wq_ex.1; (simp only [e100, hL, ws, wsl, opX, int, Zv.bool, intBin, reduceIte, ↓reduceIte, Nat.reduceEqDiff, Nat.reduceAdd, Nat.reduceSub, Nat.reduceLeDiff, Int.reduceLT, Int.reduceLE, Int.reduceEq, Int.reduceBEq, Int.reduceNe, Int.reduceBNe, reduceCtorEq, Nat.reduceBEq] <;> repeat' (first | refine wpG_s ?_ ?_ | refine wpC_s ?_ ?_) <;> intro hgo <;> (try simp only [decide_eq_true_eq, decide_eq_false_iff_not, Bool.not_eq_true', Bool.not_eq_false'] at hgo) <;> simp only [hgo, e100, hL, ws, wsl, opX, int, Zv.bool, intBin, reduceIte, ↓reduceIte, Nat.reduceEqDiff, Nat.reduceAdd, Nat.reduceSub, Nat.reduceLeDiff, Int.reduceLT, Int.reduceLE, Int.reduceEq, Int.reduceBEq, Int.reduceNe, Int.reduceBNe, reduceCtorEq, Nat.reduceBEq]) <;> rfl)
      (by intro n x; simp) (by simp)
  simp only [int, Zv.bool, Int.cast_ofNat_Int] at hloop
  (simp only [e100, wq_of hloop, ws, wsl, opX, int, Zv.bool, intBin, reduceIte, ↓reduceIte, Nat.reduceEqDiff, Nat.reduceAdd, Nat.reduceSub, Nat.reduceLeDiff, Int.reduceLT, Int.reduceLE, Int.reduceEq, Int.reduceBEq, Int.reduceNe, Int.reduceBNe, reduceCtorEq, Nat.reduceBEq] <;> repeat' (first | refine wpG_s ?_ ?_ | refine wpC_s ?_ ?_) <;> intro hgo <;> (try simp only [decide_eq_true_eq, decide_eq_false_iff_not, Bool.not_eq_true', Bool.not_eq_false'] at hgo) <;> simp only [hgo, e100, wq_of hloop, ws, wsl, opX, int, Zv.bool, intBin, reduceIte, ↓reduceIte, Nat.reduceEqDiff, Nat.reduceAdd, Nat.reduceSub, Nat.reduceLeDiff, Int.reduceLT, Int.reduceLE, Int.reduceEq, Int.reduceBEq, Int.reduceNe, Int.reduceBNe, reduceCtorEq, Nat.reduceBEq])
  unfold idxZ
  cases fst? (fun x => b == x) 0 M with
  | none => (simp only [e100, ws, wsl, opX, int, Zv.bool, intBin, reduceIte, ↓reduceIte, Nat.reduceEqDiff, Nat.reduceAdd, Nat.reduceSub, Nat.reduceLeDiff, Int.reduceLT, Int.reduceLE, Int.reduceEq, Int.reduceBEq, Int.reduceNe, Int.reduceBNe, reduceCtorEq, Nat.reduceBEq] <;> repeat' (first | refine wpG_s ?_ ?_ | refine wpC_s ?_ ?_) <;> intro hgo <;> (try simp only [decide_eq_true_eq, decide_eq_false_iff_not, Bool.not_eq_true', Bool.not_eq_false'] at hgo) <;> simp only [hgo, e100, ws, wsl, opX, int, Zv.bool, intBin, reduceIte, ↓reduceIte, Nat.reduceEqDiff, Nat.reduceAdd, Nat.reduceSub, Nat.reduceLeDiff, Int.reduceLT, Int.reduceLE, Int.reduceEq, Int.reduceBEq, Int.reduceNe, Int.reduceBNe, reduceCtorEq, Nat.reduceBEq])
  | some n => (simp only [e100, ws, wsl, opX, int, Zv.bool, intBin, reduceIte, ↓reduceIte, Nat.reduceEqDiff, Nat.reduceAdd, Nat.reduceSub, Nat.reduceLeDiff, Int.reduceLT, Int.reduceLE, Int.reduceEq, Int.reduceBEq, Int.reduceNe, Int.reduceBNe, reduceCtorEq, Nat.reduceBEq] <;> repeat' (first | refine wpG_s ?_ ?_ | refine wpC_s ?_ ?_) <;> intro hgo <;> (try simp only [decide_eq_true_eq, decide_eq_false_iff_not, Bool.not_eq_true', Bool.not_eq_false'] at hgo) <;> simp only [hgo, e100, ws, wsl, opX, int, Zv.bool, intBin, reduceIte, ↓reduceIte, Nat.reduceEqDiff, Nat.reduceAdd, Nat.reduceSub, Nat.reduceLeDiff, Int.reduceLT, Int.reduceLE, Int.reduceEq, Int.reduceBEq, Int.reduceNe, Int.reduceBNe, reduceCtorEq, Nat.reduceBEq])
theorem containsB {h : Hp} {a L : Nat} {M : List Bool} (hr : h.row a L = some (1, M.map bV)) (hL : M.length = L) (hl : L < 2 ^ 60) (b : Bool) : callW tab 93 [.own a 1 L 0 L, .d (.bool b)] h = some (.d (.bool (M.any fun x => b == x)), h) := by
  refine call_wp (fn := f93) rfl rfl ?_
  (simp only [e93, indB hr hL hl b, idxZ_nn, Bool.decide_eq_true, ws, wsl, opX, int, Zv.bool, intBin, reduceIte, ↓reduceIte, Nat.reduceEqDiff, Nat.reduceAdd, Nat.reduceSub, Nat.reduceLeDiff, Int.reduceLT, Int.reduceLE, Int.reduceEq, Int.reduceBEq, Int.reduceNe, Int.reduceBNe, reduceCtorEq, Nat.reduceBEq] <;> repeat' (first | refine wpG_s ?_ ?_ | refine wpC_s ?_ ?_) <;> intro hgo <;> (try simp only [decide_eq_true_eq, decide_eq_false_iff_not, Bool.not_eq_true', Bool.not_eq_false'] at hgo) <;> simp only [hgo, e93, indB hr hL hl b, idxZ_nn, Bool.decide_eq_true, ws, wsl, opX, int, Zv.bool, intBin, reduceIte, ↓reduceIte, Nat.reduceEqDiff, Nat.reduceAdd, Nat.reduceSub, Nat.reduceLeDiff, Int.reduceLT, Int.reduceLE, Int.reduceEq, Int.reduceBEq, Int.reduceNe, Int.reduceBNe, reduceCtorEq, Nat.reduceBEq])

section
variable (h : Hp) (L : Nat)
def HP (M : List Bool) : Hp := ⟨(h.next + 1, .arr 1 [.own h.next 1 L 0 L]) :: (h.next, .arr 1 (M.map bV)) :: h.objs, h.next + 2⟩
theorem HP_R (M : List Bool) (hL : M.length = L) : RM (HP h L M) (h.next + 1) h.next L M := by
  refine ⟨hL, row_look (look_hd ..) rfl, row_look ?_ (by simp [hL])⟩
  unfold HP
  rw [look_tl _ _ (by omega), look_hd]
theorem HP_st (M : List Bool) {j : Nat} (hL : M.length = L) (b : Bool) (hj : j < L) : st 1 (HP h L M) (.ptr h.next L j 0) (.d (.bool b)) = some (HP h L (M.set j b)) := by
  unfold st
  have : (M.map bV)[j]? = some (bV (M[j]'(by omega))) := by simp [show j < M.length by omega]
  simp only [(HP_R h L M hL).row, Option.bind_some, this]
  rw [if_pos (by simp [stor, V.cells, D.cells]), if_pos (by simp)]
  unfold HP Hp.set
  simp [upd, List.map_set]
theorem HP_fin (M : List Bool) (x : D) : finS h (HP h L M) [.d x] = some (.d x, h) := finS1cc ..
end
theorem pfinite_ok {d : List Dt} (B : Bd d) (Ty : typedS d = true) (h : Hp) : callW tab 67 [.d (eDs d)] h = some (.d (.bool (finiteS d)), h) := by
  refine call_wp (fn := f67) rfl rfl ?_
  have hbl := B.len
  have hw0 := wrap_succ (show d.length < 2 ^ 62 by omega)
  have hmk : mkslO (.d (.bool false)) 1 1 h (.d (.int .i64 ((d.length + 1 : Nat) : Int))) = some (.own h.next 1 (d.length + 1) 0 (d.length + 1), ⟨(h.next, .arr 1 ((List.replicate (d.length + 1) false).map bV)) :: h.objs, h.next + 1⟩) := by
    simp only [mkslO, ixOf_nat, Option.bind_some]
    rw [if_pos (by unfold roomB; omega)]
    simp [Hp.alloc]
  have hH : (⟨(h.next + 1, .arr 1 [.own h.next 1 (d.length + 1) 0 (d.length + 1)]) :: (h.next, .arr 1 ((List.replicate (d.length + 1) false).map bV)) :: h.objs, h.next + 1 + 1⟩ : Hp) = HP h (d.length + 1) (List.replicate (d.length + 1) false) := rfl
  have hR0 := (HP_R h (d.length + 1) (List.replicate (d.length + 1) false) (by simp)).box
  have hi0 : ia 1 (.own h.next 1 (d.length + 1) 0 (d.length + 1)) (.d (.int .i64 0)) = some (.ptr h.next (d.length + 1) 0 0) := ia_own (j := 0) .i64 (by omega)
  have hs0 : st 1 (HP h (d.length + 1) (List.replicate (d.length + 1) false)) (.ptr h.next (d.length + 1) 0 0) (.d (.bool true)) = some (HP h (d.length + 1) (marks d)) := by
    rw [HP_st h _ _ (by simp) true (by omega)]; rfl
  -- a pass
  have l0 : ∀ (M : List Bool), M.length = d.length + 1 →
      wp tab (.loop f67l0) [(0, .d (eDs d)), (3, .ptr (h.next + 1) 1 0 0), (4, .d (.bool false)), (15, .d (.int .i64 d.length)), (16, .d (.int .i64 0))] (HP h (d.length + 1) M)
        (fun o => ∃ b, o = (.exit 2, [(0, .d (eDs d)), (3, .ptr (h.next + 1) 1 0 0), (4, .d (.bool b)), (15, .d (.int .i64 d.length)), (16, .d (.int .i64 d.length)), (17, .d (.bool false))], HP h (d.length + 1) (pass d M)) ∧ (b = false → pass d M = M) ∧ (b = true → cnt M < cnt (pass d M))) := by
    intro M hM
    refine loop_wp d.length (fun i e h' => ∃ b, h' = HP h (d.length + 1) (passN d M i) ∧ e = [(0, .d (eDs d)), (3, .ptr (h.next + 1) 1 0 0), (4, .d (.bool b)), (15, .d (.int .i64 d.length)), (16, .d (.int .i64 i))] ∧ (b = false → passN d M i = M) ∧ (b = true → cnt M < cnt (passN d M i))) _ ?_ ?_ d.length 0 _ _ (by omega) ⟨false, rfl, rfl, fun _ => rfl, fun h => by cases h⟩
    · rintro i e h' hi ⟨b, rfl, rfl, hb0, hb1⟩
      obtain ⟨y, hy⟩ := get_of_lt hi
      have by_ := B.at hy
      have hlen : (passN d M i).length = d.length + 1 := by rw [passN_len]; exact hM
      have R := HP_R h (d.length + 1) (passN d M i) hlen
      have hcont := conFC y.cons (.clo 91 [.ptr (h.next + 1) 1 0 0]) (allD (passN d M i)) (HP h (d.length + 1) (passN d M i)) (by omega) rfl
        (fun c hc => fin1_ok R c (by have := B.flds y (List.mem_of_getElem? hy) c hc; omega) (fun f hf => typed_at Ty (List.mem_of_getElem? hy) hc hf))
      have hw := wrap_succ (show i < 2 ^ 62 by omega)
      obtain ⟨x, hx⟩ := get_of_lt (l := passN d M i) (n := i + 1) (by omega)
      have hi1 := ia_own (es := 1) (n := h.next) (tot := d.length + 1) (j := i + 1) (len := d.length + 1) .i64 (by omega)
      have hl := ld_bit R.row hx
      have hst := HP_st h (d.length + 1) (passN d M i) (j := i + 1) hlen true (by omega)
      have hs := stp_at (M := passN d M i) hy
      have hbx := R.box
      cases hr : y.cons.any (allD (passN d M i)) with
      | false =>
        rw [hr, if_neg (by simp)] at hs
        (simp only [e67, hi, iaD hy, hcont, hr, hw, ws, wsl, opX, int, Zv.bool, intBin, reduceIte, ↓reduceIte, Nat.reduceEqDiff, Nat.reduceAdd, Nat.reduceSub, Nat.reduceLeDiff, Int.reduceLT, Int.reduceLE, Int.reduceEq, Int.reduceBEq, Int.reduceNe, Int.reduceBNe, reduceCtorEq, Nat.reduceBEq] <;> repeat' (first | refine wpG_s ?_ ?_ | refine wpC_s ?_ ?_) <;> intro hgo <;> (try simp only [decide_eq_true_eq, decide_eq_false_iff_not, Bool.not_eq_true', Bool.not_eq_false'] at hgo) <;> simp only [hgo, e67, hi, iaD hy, hcont, hr, hw, ws, wsl, opX, int, Zv.bool, intBin, reduceIte, ↓reduceIte, Nat.reduceEqDiff, Nat.reduceAdd, Nat.reduceSub, Nat.reduceLeDiff, Int.reduceLT, Int.reduceLE, Int.reduceEq, Int.reduceBEq, Int.reduceNe, Int.reduceBNe, reduceCtorEq, Nat.reduceBEq])
        refine ⟨b, ?_, rfl, ?_, ?_⟩
        · rw [passN, hs]
        · rw [passN, hs]; exact hb0
        · rw [passN, hs]; exact hb1
      | true =>
        rw [hr, if_pos rfl] at hs
        cases x with
        | true =>
          rw [set_true hx] at hs
          (simp only [e67, hi, iaD hy, hcont, hr, hw, hbx, hi1, hl, ws, wsl, opX, int, Zv.bool, intBin, reduceIte, ↓reduceIte, Nat.reduceEqDiff, Nat.reduceAdd, Nat.reduceSub, Nat.reduceLeDiff, Int.reduceLT, Int.reduceLE, Int.reduceEq, Int.reduceBEq, Int.reduceNe, Int.reduceBNe, reduceCtorEq, Nat.reduceBEq] <;> repeat' (first | refine wpG_s ?_ ?_ | refine wpC_s ?_ ?_) <;> intro hgo <;> (try simp only [decide_eq_true_eq, decide_eq_false_iff_not, Bool.not_eq_true', Bool.not_eq_false'] at hgo) <;> simp only [hgo, e67, hi, iaD hy, hcont, hr, hw, hbx, hi1, hl, ws, wsl, opX, int, Zv.bool, intBin, reduceIte, ↓reduceIte, Nat.reduceEqDiff, Nat.reduceAdd, Nat.reduceSub, Nat.reduceLeDiff, Int.reduceLT, Int.reduceLE, Int.reduceEq, Int.reduceBEq, Int.reduceNe, Int.reduceBNe, reduceCtorEq, Nat.reduceBEq])
          refine ⟨b, ?_, rfl, ?_, ?_⟩
          · rw [passN, hs]
          · rw [passN, hs]; exact hb0
          · rw [passN, hs]; exact hb1
        | false =>
          (simp only [e67, hi, iaD hy, hcont, hr, hw, hbx, hi1, hl, hst, ws, wsl, opX, int, Zv.bool, intBin, reduceIte, ↓reduceIte, Nat.reduceEqDiff, Nat.reduceAdd, Nat.reduceSub, Nat.reduceLeDiff, Int.reduceLT, Int.reduceLE, Int.reduceEq, Int.reduceBEq, Int.reduceNe, Int.reduceBNe, reduceCtorEq, Nat.reduceBEq] <;> repeat' (first | refine wpG_s ?_ ?_ | refine wpC_s ?_ ?_) <;> intro hgo <;> (try simp only [decide_eq_true_eq, decide_eq_false_iff_not, Bool.not_eq_true', Bool.not_eq_false'] at hgo) <;> simp only [hgo, e67, hi, iaD hy, hcont, hr, hw, hbx, hi1, hl, hst, ws, wsl, opX, int, Zv.bool, intBin, reduceIte, ↓reduceIte, Nat.reduceEqDiff, Nat.reduceAdd, Nat.reduceSub, Nat.reduceLeDiff, Int.reduceLT, Int.reduceLE, Int.reduceEq, Int.reduceBEq, Int.reduceNe, Int.reduceBNe, reduceCtorEq, Nat.reduceBEq])
          refine ⟨true, ?_, rfl, (fun h => by cases h), fun _ => ?_⟩
          · rw [passN, hs]
          · rw [passN, hs]
            have := set_grow hx
            rcases passN_cnt d M i with k | k
            · rw [k] at this ⊢; exact this
            · omega
    · rintro e h' ⟨b, rfl, rfl, hb0, hb1⟩
      (simp only [e67, ws, wsl, opX, int, Zv.bool, intBin, reduceIte, ↓reduceIte, Nat.reduceEqDiff, Nat.reduceAdd, Nat.reduceSub, Nat.reduceLeDiff, Int.reduceLT, Int.reduceLE, Int.reduceEq, Int.reduceBEq, Int.reduceNe, Int.reduceBNe, reduceCtorEq, Nat.reduceBEq] <;> repeat' (first | refine wpG_s ?_ ?_ | refine wpC_s ?_ ?_) <;> intro hgo <;> (try simp only [decide_eq_true_eq, decide_eq_false_iff_not, Bool.not_eq_true', Bool.not_eq_false'] at hgo) <;> simp only [hgo, e67, ws, wsl, opX, int, Zv.bool, intBin, reduceIte, ↓reduceIte, Nat.reduceEqDiff, Nat.reduceAdd, Nat.reduceSub, Nat.reduceLeDiff, Int.reduceLT, Int.reduceLE, Int.reduceEq, Int.reduceBEq, Int.reduceNe, Int.reduceBNe, reduceCtorEq, Nat.reduceBEq])
      exact ⟨b, ⟨rfl, rfl⟩, hb0, hb1⟩
  -- the passes
  have l1 : ∀ (k : Nat) (M : List Bool) (b : Bool) (r : Env), M.length = d.length + 1 → (∃ j, M = iter d (marks d) j) → (b = true → d.length + 2 ≤ cnt M + k) → (b = false → pass d M = M) →
      wp tab (.loop f67l1) ((0, .d (eDs d)) :: (3, .ptr (h.next + 1) 1 0 0) :: (4, .d (.bool b)) :: r) (HP h (d.length + 1) M)
        (fun o => o = (.exit 0, [(0, .d (eDs d)), (3, .ptr (h.next + 1) 1 0 0), (13, .d (.bool false))], HP h (d.length + 1) (iter d (marks d) (d.length + 1)))) := by
    intro k
    induction k with
    | zero =>
      intro M b r hM hj hk hb
      cases b with
      | true => have := hk rfl; have := cnt_le M; omega
      | false =>
        obtain ⟨j, rfl⟩ := hj
        rw [wq_loop, fix_eq (hb rfl)]
        (simp only [e67, ws, wsl, opX, int, Zv.bool, intBin, reduceIte, ↓reduceIte, Nat.reduceEqDiff, Nat.reduceAdd, Nat.reduceSub, Nat.reduceLeDiff, Int.reduceLT, Int.reduceLE, Int.reduceEq, Int.reduceBEq, Int.reduceNe, Int.reduceBNe, reduceCtorEq, Nat.reduceBEq] <;> repeat' (first | refine wpG_s ?_ ?_ | refine wpC_s ?_ ?_) <;> intro hgo <;> (try simp only [decide_eq_true_eq, decide_eq_false_iff_not, Bool.not_eq_true', Bool.not_eq_false'] at hgo) <;> simp only [hgo, e67, ws, wsl, opX, int, Zv.bool, intBin, reduceIte, ↓reduceIte, Nat.reduceEqDiff, Nat.reduceAdd, Nat.reduceSub, Nat.reduceLeDiff, Int.reduceLT, Int.reduceLE, Int.reduceEq, Int.reduceBEq, Int.reduceNe, Int.reduceBNe, reduceCtorEq, Nat.reduceBEq])
    | succ k ih =>
      intro M b r hM hj hk hb
      cases b with
      | false =>
        obtain ⟨j, rfl⟩ := hj
        rw [wq_loop, fix_eq (hb rfl)]
        (simp only [e67, ws, wsl, opX, int, Zv.bool, intBin, reduceIte, ↓reduceIte, Nat.reduceEqDiff, Nat.reduceAdd, Nat.reduceSub, Nat.reduceLeDiff, Int.reduceLT, Int.reduceLE, Int.reduceEq, Int.reduceBEq, Int.reduceNe, Int.reduceBNe, reduceCtorEq, Nat.reduceBEq] <;> repeat' (first | refine wpG_s ?_ ?_ | refine wpC_s ?_ ?_) <;> intro hgo <;> (try simp only [decide_eq_true_eq, decide_eq_false_iff_not, Bool.not_eq_true', Bool.not_eq_false'] at hgo) <;> simp only [hgo, e67, ws, wsl, opX, int, Zv.bool, intBin, reduceIte, ↓reduceIte, Nat.reduceEqDiff, Nat.reduceAdd, Nat.reduceSub, Nat.reduceLeDiff, Int.reduceLT, Int.reduceLE, Int.reduceEq, Int.reduceBEq, Int.reduceNe, Int.reduceBNe, reduceCtorEq, Nat.reduceBEq])
      | true =>
        rw [wq_loop]
        (simp only [e67, ws, wsl, opX, int, Zv.bool, intBin, reduceIte, ↓reduceIte, Nat.reduceEqDiff, Nat.reduceAdd, Nat.reduceSub, Nat.reduceLeDiff, Int.reduceLT, Int.reduceLE, Int.reduceEq, Int.reduceBEq, Int.reduceNe, Int.reduceBNe, reduceCtorEq, Nat.reduceBEq] <;> repeat' (first | refine wpG_s ?_ ?_ | refine wpC_s ?_ ?_) <;> intro hgo <;> (try simp only [decide_eq_true_eq, decide_eq_false_iff_not, Bool.not_eq_true', Bool.not_eq_false'] at hgo) <;> simp only [hgo, e67, ws, wsl, opX, int, Zv.bool, intBin, reduceIte, ↓reduceIte, Nat.reduceEqDiff, Nat.reduceAdd, Nat.reduceSub, Nat.reduceLeDiff, Int.reduceLT, Int.reduceLE, Int.reduceEq, Int.reduceBEq, Int.reduceNe, Int.reduceBNe, reduceCtorEq, Nat.reduceBEq])
        refine wq_mono (l0 M hM) ?_
        rintro o ⟨b, rfl, h0, h1⟩
        (simp only [e67, ws, wsl, opX, int, Zv.bool, intBin, reduceIte, ↓reduceIte, Nat.reduceEqDiff, Nat.reduceAdd, Nat.reduceSub, Nat.reduceLeDiff, Int.reduceLT, Int.reduceLE, Int.reduceEq, Int.reduceBEq, Int.reduceNe, Int.reduceBNe, reduceCtorEq, Nat.reduceBEq] <;> repeat' (first | refine wpG_s ?_ ?_ | refine wpC_s ?_ ?_) <;> intro hgo <;> (try simp only [decide_eq_true_eq, decide_eq_false_iff_not, Bool.not_eq_true', Bool.not_eq_false'] at hgo) <;> simp only [hgo, e67, ws, wsl, opX, int, Zv.bool, intBin, reduceIte, ↓reduceIte, Nat.reduceEqDiff, Nat.reduceAdd, Nat.reduceSub, Nat.reduceLeDiff, Int.reduceLT, Int.reduceLE, Int.reduceEq, Int.reduceBEq, Int.reduceNe, Int.reduceBNe, reduceCtorEq, Nat.reduceBEq])
        obtain ⟨j, rfl⟩ := hj
        refine ih (pass d (iter d (marks d) j)) b _ (by rw [pass, passN_len]; exact hM) ⟨j + 1, rfl⟩ (fun hb => ?_) (fun hb => ?_)
        · have := hk rfl; have := h1 hb; omega
        · have := h0 hb; rw [this, this]
  (simp only [e67, hw0, hmk, hH, hR0, hi0, hs0, ws, wsl, opX, int, Zv.bool, intBin, reduceIte, ↓reduceIte, Nat.reduceEqDiff, Nat.reduceAdd, Nat.reduceSub, Nat.reduceLeDiff, Int.reduceLT, Int.reduceLE, Int.reduceEq, Int.reduceBEq, Int.reduceNe, Int.reduceBNe, reduceCtorEq, Nat.reduceBEq] <;> repeat' (first | refine wpG_s ?_ ?_ | refine wpC_s ?_ ?_) <;> intro hgo <;> (try simp only [decide_eq_true_eq, decide_eq_false_iff_not, Bool.not_eq_true', Bool.not_eq_false'] at hgo) <;> simp only [hgo, e67, hw0, hmk, hH, hR0, hi0, hs0, ws, wsl, opX, int, Zv.bool, intBin, reduceIte, ↓reduceIte, Nat.reduceEqDiff, Nat.reduceAdd, Nat.reduceSub, Nat.reduceLeDiff, Int.reduceLT, Int.reduceLE, Int.reduceEq, Int.reduceBEq, Int.reduceNe, Int.reduceBNe, reduceCtorEq, Nat.reduceBEq])
  refine wq_mono (l1 (d.length + 2) (marks d) true _ (by simp [marks]) ⟨0, rfl⟩ (fun _ => by omega) (fun h => by cases h)) ?_
  rintro o rfl
  have hlen : (iter d (marks d) (d.length + 1)).length = d.length + 1 := by rw [iter_len]; simp [marks]
  have R := HP_R h (d.length + 1) (iter d (marks d) (d.length + 1)) hlen
  have hcB := containsB R.row hlen (by omega) false
  have e : (!(iter d (marks d) (d.length + 1)).any fun x => false == x) = finiteS d := by
    unfold finiteS
    have : ∀ l : List Bool, (!l.any fun b => false == b) = l.all id := by
      intro l; induction l with
      | nil => rfl
      | cons b l ih => rw [List.any_cons, List.all_cons, ← ih]; cases b <;> simp
    exact this _
  (simp only [e67, R.box, hcB, e, HP_fin, ws, wsl, opX, int, Zv.bool, intBin, reduceIte, ↓reduceIte, Nat.reduceEqDiff, Nat.reduceAdd, Nat.reduceSub, Nat.reduceLeDiff, Int.reduceLT, Int.reduceLE, Int.reduceEq, Int.reduceBEq, Int.reduceNe, Int.reduceBNe, reduceCtorEq, Nat.reduceBEq] <;> repeat' (first | refine wpG_s ?_ ?_ | refine wpC_s ?_ ?_) <;> intro hgo <;> (try simp only [decide_eq_true_eq, decide_eq_false_iff_not, Bool.not_eq_true', Bool.not_eq_false'] at hgo) <;> simp only [hgo, e67, R.box, hcB, e, HP_fin, ws, wsl, opX, int, Zv.bool, intBin, reduceIte, ↓reduceIte, Nat.reduceEqDiff, Nat.reduceAdd, Nat.reduceSub, Nat.reduceLeDiff, Int.reduceLT, Int.reduceLE, Int.reduceEq, Int.reduceBEq, Int.reduceNe, Int.reduceBNe, reduceCtorEq, Nat.reduceBEq])
-- ws, wsl, opX, int, Zv.bool, intBin, reduceIte, ↓reduceIte, Nat.reduceEqDiff, Nat.reduceAdd, Nat.reduceSub, Nat.reduceLeDiff, Int.reduceLT, Int.reduceLE, Int.reduceEq, Int.reduceBEq, Int.reduceNe, Int.reduceBNe, reduceCtorEq, Nat.reduceBEq
end Zc27
