/-
  Types with finite values: marks until nothing changes.
-/
import Derived.Test.YtfbkbopmenilkaaZc27R10
set_option linter.unusedSimpArgs false
set_option maxHeartbeats 4000000
namespace Zc27
open Go Zv Zs

def mk (M : List Bool) (f : Int) : Bool := M.getD f.toNat false
def allD (M : List Bool) (c : Cn) : Bool := c.flds.all (mk M)
def stp (d : List Dt) (M : List Bool) (i : Nat) : List Bool := match d[i]? with
  | some y => if y.cons.any (allD M) = true then M.set (i + 1) true else M
  | none => M
def passN (d : List Dt) (M : List Bool) : Nat → List Bool
  | 0 => M
  | n + 1 => stp d (passN d M n) n
def pass (d : List Dt) (M : List Bool) : List Bool := passN d M d.length
def iter (d : List Dt) (M : List Bool) : Nat → List Bool
  | 0 => M
  | n + 1 => pass d (iter d M n)
def cnt (M : List Bool) : Nat := M.countP id
def marks (d : List Dt) : List Bool := true :: List.replicate d.length false
def finiteS (d : List Dt) : Bool := (iter d (marks d) (d.length + 1)).all id

theorem set_cnt : ∀ (M : List Bool) (k : Nat), M.set k true = M ∨ cnt M < cnt (M.set k true)
  | [], _ => .inl rfl
  | b :: M, 0 => by
    cases b with
    | true => exact .inl rfl
    | false => right; simp [cnt]
  | b :: M, k + 1 => by
    rcases set_cnt M k with h | h
    · left; rw [List.set_cons_succ, h]
    · right
      unfold cnt at h ⊢
      rw [List.set_cons_succ, List.countP_cons, List.countP_cons]
      omega
theorem set_true {M : List Bool} {k : Nat} (h : M[k]? = some true) : M.set k true = M := by
  obtain ⟨hlt, h⟩ := List.getElem?_eq_some_iff.1 h
  rw [← h]; exact List.set_getElem_self hlt
theorem set_false {M : List Bool} {k : Nat} (h : M[k]? = some false) : M.set k false = M := by
  obtain ⟨hlt, h⟩ := List.getElem?_eq_some_iff.1 h
  rw [← h]; exact List.set_getElem_self hlt
theorem set_grow {M : List Bool} {k : Nat} (h : M[k]? = some false) : cnt M < cnt (M.set k true) := by
  rcases set_cnt M k with h1 | h1
  · have hlt := lt_of_get h
    have : (M.set k true)[k]? = some true := by simp [hlt]
    rw [h1, h] at this; cases this
  · exact h1
theorem stp_at {d : List Dt} {M : List Bool} {i : Nat} {y : Dt} (hy : d[i]? = some y) : stp d M i = if y.cons.any (allD M) = true then M.set (i + 1) true else M := by
  unfold stp; rw [hy]
theorem stp_len (d : List Dt) (M : List Bool) (i : Nat) : (stp d M i).length = M.length := by
  unfold stp
  split
  · split
    · exact List.length_set
    · rfl
  · rfl
theorem stp_cnt (d : List Dt) (M : List Bool) (i : Nat) : stp d M i = M ∨ cnt M < cnt (stp d M i) := by
  unfold stp
  split
  · split
    · exact set_cnt M (i + 1)
    · exact .inl rfl
  · exact .inl rfl
theorem passN_len (d : List Dt) (M : List Bool) : ∀ n, (passN d M n).length = M.length
  | 0 => rfl
  | n + 1 => by rw [passN, stp_len, passN_len d M n]
theorem passN_cnt (d : List Dt) (M : List Bool) : ∀ n, passN d M n = M ∨ cnt M < cnt (passN d M n)
  | 0 => .inl rfl
  | n + 1 => by
    rw [passN]
    rcases passN_cnt d M n with h | h <;> rcases stp_cnt d (passN d M n) n with k | k
    · left; rw [k, h]
    · right; rw [h] at k ⊢; exact k
    · right; rw [k]; exact h
    · right; omega
theorem iter_len (d : List Dt) (M : List Bool) : ∀ n, (iter d M n).length = M.length
  | 0 => rfl
  | n + 1 => by rw [iter, pass, passN_len, iter_len d M n]
theorem cnt_le (M : List Bool) : cnt M ≤ M.length := List.countP_le_length
theorem iter_cnt (d : List Dt) : ∀ n, pass d (iter d (marks d) n) = iter d (marks d) n ∨ n + 1 < cnt (iter d (marks d) (n + 1))
  | 0 => by
    rcases passN_cnt d (marks d) d.length with h | h
    · exact .inl h
    · right
      have : 1 ≤ cnt (marks d) := by unfold cnt marks; rw [List.countP_cons]; simp
      show 1 < cnt (pass d (marks d))
      unfold pass; omega
  | n + 1 => by
    rcases iter_cnt d n with h | h
    · left
      show pass d (pass d (iter d (marks d) n)) = pass d (iter d (marks d) n)
      rw [h, h]
    · rcases passN_cnt d (iter d (marks d) (n + 1)) d.length with k | k
      · exact .inl k
      · right
        show n + 1 + 1 < cnt (pass d (iter d (marks d) (n + 1)))
        unfold pass; omega
theorem iter_fix (d : List Dt) : pass d (iter d (marks d) (d.length + 1)) = iter d (marks d) (d.length + 1) := by
  rcases iter_cnt d (d.length + 1) with h | h
  · exact h
  · have h1 := cnt_le (iter d (marks d) (d.length + 1 + 1))
    have h2 : (marks d).length = d.length + 1 := by simp [marks]
    rw [iter_len, h2] at h1
    omega
theorem iter_more {d : List Dt} {M : List Bool} {j : Nat} (h : pass d (iter d M j) = iter d M j) : ∀ k, iter d M (j + k) = iter d M j
  | 0 => rfl
  | k + 1 => by
    show pass d (iter d M (j + k)) = _
    rw [iter_more h k, h]
/-- However often: what does not change any more is the same. -/
theorem fix_eq {d : List Dt} {j : Nat} (h : pass d (iter d (marks d) j) = iter d (marks d) j) : iter d (marks d) j = iter d (marks d) (d.length + 1) := by
  by_cases hj : j ≤ d.length + 1
  · have := iter_more h (d.length + 1 - j)
    rw [show j + (d.length + 1 - j) = d.length + 1 by omega] at this
    exact this.symm
  · have := iter_more (iter_fix d) (j - (d.length + 1))
    rw [show d.length + 1 + (j - (d.length + 1)) = j by omega] at this
    exact this

/-- All fields are types. -/
def typedS (d : List Dt) : Bool := d.all fun y => y.cons.all fun c => c.flds.all (isT d)
theorem typed_at {d : List Dt} (h : typedS d = true) {y : Dt} {c : Cn} {f : Int} (hy : y ∈ d) (hc : c ∈ y.cons) (hf : f ∈ c.flds) : ∃ n : Nat, f = n ∧ n < d.length + 1 := by
  have := List.all_eq_true.1 (List.all_eq_true.1 (List.all_eq_true.1 h y hy) c hc) f hf
  simp only [isT, Bool.and_eq_true, decide_eq_true_eq] at this
  exact ⟨f.toNat, by omega, by omega⟩

abbrev bV (b : Bool) : V := .d (.bool b)
theorem ia_own {es n tot len j : Nat} (k : IntKind) (h : j < len) : ia es (.own n es tot 0 len) (.d (.int k (j : Int))) = some (.ptr n tot j 0) := by
  simp [ia, ixOf_nat, h]
theorem ld_bit {H : Hp} {a : Nat} {M : List Bool} {j L : Nat} {b : Bool} (hr : H.row a L = some (1, M.map bV)) (hb : M[j]? = some b) : ld false 1 H (.ptr a L j 0) = some (bV b) := by
  rw [ld_one, hr]
  simp [hb, V.cells, D.cells]
theorem mk_at {M : List Bool} {n : Nat} {b : Bool} (h : M[n]? = some b) : mk M (n : Int) = b := by
  unfold mk
  rw [Int.toNat_natCast, List.getD_eq_getElem?_getD, h]; rfl
theorem fold_and {α : Type} (p : α → Bool) : ∀ (l : List α) (b : Bool), l.foldl (fun b x => if b = true then p x else false) b = (b && l.all p)
  | [], b => by simp
  | x :: l, b => by
    rw [List.foldl_cons, fold_and p l, List.all_cons]
    cases b <;> simp

section
variable (h : Hp)
def HQ (M : List Bool) : Hp := ⟨(h.next, .arr 1 (M.map bV)) :: h.objs, h.next + 1⟩
theorem HQ_row (M : List Bool) {L : Nat} (hL : M.length = L) : (HQ h M).row h.next L = some (1, M.map bV) := row_look (look_hd ..) (by simp [hL])
theorem HQ_st (M : List Bool) {L j : Nat} (hL : M.length = L) (b : Bool) (hj : j < L) : st 1 (HQ h M) (.ptr h.next L j 0) (.d (.bool b)) = some (HQ h (M.set j b)) := by
  unfold st
  have : (M.map bV)[j]? = some (bV (M[j]'(by omega))) := by simp [show j < M.length by omega]
  simp only [HQ_row h M hL, Option.bind_some, this]
  rw [if_pos (by simp [stor, V.cells, D.cells]), if_pos (by simp)]
  unfold HQ Hp.set
  simp [upd, List.map_set]
theorem HQ_fin (M : List Bool) (x : D) : finS h (HQ h M) [.d x] = some (.d x, h) := finS1c ..
end

theorem ref_fold (M : List Bool) (i : Nat) (hi : i < M.length) (cs : List Cn) :
    cs.foldl (fun M c => M.set i (if mk M (i : Int) = true then true else allD M c)) M = if cs.any (allD M) = true then M.set i true else M := by
  have hget := List.getElem?_eq_getElem hi
  by_cases hb : M[i] = true
  · rw [hb] at hget
    have : ∀ cs : List Cn, cs.foldl (fun M c => M.set i (if mk M (i : Int) = true then true else allD M c)) M = M := by
      intro cs
      induction cs with
      | nil => rfl
      | cons c cs ih => rw [List.foldl_cons, mk_at hget, if_pos rfl, set_true hget]; exact ih
    rw [this, set_true hget]; simp
  · have hb : M[i] = false := by simpa using hb
    rw [hb] at hget
    have h2 : ∀ cs : List Cn, cs.foldl (fun M c => M.set i (if mk M (i : Int) = true then true else allD M c)) (M.set i true) = M.set i true := by
      intro cs
      have hg2 : (M.set i true)[i]? = some true := by simp [hi]
      induction cs with
      | nil => rfl
      | cons c cs ih => rw [List.foldl_cons, mk_at hg2, if_pos rfl, set_true hg2]; exact ih
    induction cs with
    | nil => simp
    | cons c cs ih =>
      rw [List.foldl_cons, mk_at hget, List.any_cons]
      cases hc : allD M c with
      | true => simp only [Bool.false_eq_true, if_false, Bool.true_or, if_true]; exact h2 cs
      | false => simp only [Bool.false_eq_true, if_false, Bool.false_or, set_false hget]; exact ih

theorem rfinite_ok {d : List Dt} (B : Bd d) (Ty : typedS d = true) (h : Hp) : callW tab 75 [.d (eDs d)] h = some (.d (.bool (finiteS d)), h) := by
  refine call_wp (fn := f75) rfl rfl ?_
  have hbl := B.len
  have hw0 := wrap_succ (show d.length < 2 ^ 62 by omega)
  have hmk : mkslO (.d (.bool false)) 1 1 h (.d (.int .i64 ((d.length + 1 : Nat) : Int))) = some (.own h.next 1 (d.length + 1) 0 (d.length + 1), HQ h (List.replicate (d.length + 1) false)) := by
    simp only [mkslO, ixOf_nat, Option.bind_some]
    rw [if_pos (by unfold roomB; omega)]
    simp [HQ, Hp.alloc]
  have hi0 : ia 1 (.own h.next 1 (d.length + 1) 0 (d.length + 1)) (.d (.int .i64 0)) = some (.ptr h.next (d.length + 1) 0 0) := ia_own (j := 0) .i64 (by omega)
  have hs0 : st 1 (HQ h (List.replicate (d.length + 1) false)) (.ptr h.next (d.length + 1) 0 0) (.d (.bool true)) = some (HQ h (marks d)) := by
    rw [HQ_st h _ (by simp) true (by omega)]; rfl
  let ow : V := .own h.next 1 (d.length + 1) 0 (d.length + 1)
  -- all fields of a constructor
  have l0 : ∀ (M : List Bool) (r i k : Nat) (y : Dt) (c : Cn), M.length = d.length + 1 → d[i]? = some y → y.cons[k]? = some c →
      ex tab (.loop f75l0) [(0, .d (eDs d)), (3, .own h.next 1 (d.length + 1) 0 (d.length + 1)), (4, .d (.int .i64 r)), (5, .d (.int .i64 i)), (6, .d (.int .i64 k)), (7, .d (.bool true)), (8, .d (eIs c.flds)), (9, .d (.int .i64 0))] (HQ h M) =
        some (.exit 6, [(0, .d (eDs d)), (3, .own h.next 1 (d.length + 1) 0 (d.length + 1)), (4, .d (.int .i64 r)), (5, .d (.int .i64 i)), (6, .d (.int .i64 k)), (7, .d (.bool (allD M c))), (8, .d (eIs c.flds)), (9, .d (.int .i64 c.flds.length)), (51, .d (.bool false))], HQ h M) := by
    intro M r i k y c hM hy hc
    have bc := B.cat hy hc
    have := loop_fold (T := tab) (a := f75l0) (l := c.flds) (fun j s => [(0, .d (eDs d)), (3, .own h.next 1 (d.length + 1) 0 (d.length + 1)), (4, .d (.int .i64 r)), (5, .d (.int .i64 i)), (6, .d (.int .i64 k)), (7, .d (.bool s)), (8, .d (eIs c.flds)), (9, int j)]) (fun _ _ => HQ h M) (fun _ _ => True)
      (fun s f => if s = true then mk M f else false) (fun s => (.exit 6, [(0, .d (eDs d)), (3, .own h.next 1 (d.length + 1) 0 (d.length + 1)), (4, .d (.int .i64 r)), (5, .d (.int .i64 i)), (6, .d (.int .i64 k)), (7, .d (.bool s)), (8, .d (eIs c.flds)), (9, .d (.int .i64 c.flds.length)), (51, .d (.bool false))], HQ h M))
      (by
        intro j s x hx hlt _
        refine ⟨?_, trivial⟩
        obtain ⟨n, rfl, hn⟩ := typed_at Ty (List.mem_of_getElem? hy) (List.mem_of_getElem? hc) (List.mem_of_getElem? hx)
        obtain ⟨b, hb⟩ := get_of_lt (l := M) (n := n) (by omega)
        apply wq_ex.1
        have hl := ld_bit (HQ_row h M hM) hb
        have hio := ia_own (es := 1) (n := h.next) (tot := d.length + 1) .i64 hn
        cases s <;> (simp only [e75, hlt, iaI hx, hio, hl, mk_at hb, wrap_succ (show j < 2 ^ 62 by omega), ws, wsl, opX, int, Zv.bool, intBin, reduceIte, ↓reduceIte, Nat.reduceEqDiff, Nat.reduceAdd, Nat.reduceSub, Nat.reduceLeDiff, Int.reduceLT, Int.reduceLE, Int.reduceEq, Int.reduceBEq, Int.reduceNe, Int.reduceBNe, reduceCtorEq, Nat.reduceBEq] <;> repeat' (first | refine wpG_s ?_ ?_ | refine wpC_s ?_ ?_) <;> intro hgo <;> (try simp only [decide_eq_true_eq, decide_eq_false_iff_not, Bool.not_eq_true', Bool.not_eq_false'] at hgo) <;> simp only [hgo, e75, hlt, iaI hx, hio, hl, mk_at hb, wrap_succ (show j < 2 ^ 62 by omega), ws, wsl, opX, int, Zv.bool, intBin, reduceIte, ↓reduceIte, Nat.reduceEqDiff, Nat.reduceAdd, Nat.reduceSub, Nat.reduceLeDiff, Int.reduceLT, Int.reduceLE, Int.reduceEq, Int.reduceBEq, Int.reduceNe, Int.reduceBNe, reduceCtorEq, Nat.reduceBEq]))
      (by
        intro s _
        apply wq_ex.1
        (simp only [e75, ws, wsl, opX, int, Zv.bool, intBin, reduceIte, ↓reduceIte, Nat.reduceEqDiff, Nat.reduceAdd, Nat.reduceSub, Nat.reduceLeDiff, Int.reduceLT, Int.reduceLE, Int.reduceEq, Int.reduceBEq, Int.reduceNe, Int.reduceBNe, reduceCtorEq, Nat.reduceBEq] <;> repeat' (first | refine wpG_s ?_ ?_ | refine wpC_s ?_ ?_) <;> intro hgo <;> (try simp only [decide_eq_true_eq, decide_eq_false_iff_not, Bool.not_eq_true', Bool.not_eq_false'] at hgo) <;> simp only [hgo, e75, ws, wsl, opX, int, Zv.bool, intBin, reduceIte, ↓reduceIte, Nat.reduceEqDiff, Nat.reduceAdd, Nat.reduceSub, Nat.reduceLeDiff, Int.reduceLT, Int.reduceLE, Int.reduceEq, Int.reduceBEq, Int.reduceNe, Int.reduceBNe, reduceCtorEq, Nat.reduceBEq]))
      (by intro s; simp) true trivial
    rw [fold_and, Bool.true_and] at this
    simp only [int, Int.cast_ofNat_Int] at this
    exact this
  -- all constructors of a type
  have l1 : ∀ (M : List Bool) (r i : Nat) (y : Dt), M.length = d.length + 1 → d[i]? = some y →
      ex tab (.loop f75l1) [(0, .d (eDs d)), (3, .own h.next 1 (d.length + 1) 0 (d.length + 1)), (4, .d (.int .i64 r)), (5, .d (.int .i64 i)), (6, .d (.int .i64 0))] (HQ h M) =
        some (.exit 4, [(0, .d (eDs d)), (3, .own h.next 1 (d.length + 1) 0 (d.length + 1)), (4, .d (.int .i64 r)), (5, .d (.int .i64 i)), (6, .d (.int .i64 y.cons.length)), (36, .d (.bool false))], HQ h (stp d M i)) := by
    intro M r i y hM hy
    have b := B.at hy
    have hw1 := wrap_succ (show i < 2 ^ 62 by omega)
    have hi1 := ia_own (es := 1) (n := h.next) (tot := d.length + 1) (j := i + 1) (len := d.length + 1) .i64 (by omega)
    have := loop_fold (T := tab) (a := f75l1) (l := y.cons) (fun j _ => [(0, .d (eDs d)), (3, .own h.next 1 (d.length + 1) 0 (d.length + 1)), (4, .d (.int .i64 r)), (5, .d (.int .i64 i)), (6, int j)]) (fun _ s => HQ h s) (fun _ s => s.length = d.length + 1)
      (fun M c => M.set (i + 1) (if mk M ((i + 1 : Nat) : Int) = true then true else allD M c)) (fun s => (.exit 4, [(0, .d (eDs d)), (3, .own h.next 1 (d.length + 1) 0 (d.length + 1)), (4, .d (.int .i64 r)), (5, .d (.int .i64 i)), (6, .d (.int .i64 y.cons.length)), (36, .d (.bool false))], HQ h s))
      (by
        intro j s x hx hlt hs
        refine ⟨?_, by rw [List.length_set]; exact hs⟩
        obtain ⟨b, hb⟩ := get_of_lt (l := s) (n := i + 1) (by omega)
        have hl := ld_bit (HQ_row h s hs) hb
        have hin := l0 s r i j y x hs hy hx
        have hst := fun b => HQ_st h s (j := i + 1) hs b (by omega)
        apply wq_ex.1
        (simp only [e75, hlt, iaD hy, iaC hx, wq_of hin, hw1, hi1, hl, hst, mk_at hb, wrap_succ (show j < 2 ^ 62 by omega), ws, wsl, opX, int, Zv.bool, intBin, reduceIte, ↓reduceIte, Nat.reduceEqDiff, Nat.reduceAdd, Nat.reduceSub, Nat.reduceLeDiff, Int.reduceLT, Int.reduceLE, Int.reduceEq, Int.reduceBEq, Int.reduceNe, Int.reduceBNe, reduceCtorEq, Nat.reduceBEq] <;> repeat' (first | refine wpG_s ?_ ?_ | refine wpC_s ?_ ?_) <;> intro hgo <;> (try simp only [decide_eq_true_eq, decide_eq_false_iff_not, Bool.not_eq_true', Bool.not_eq_false'] at hgo) <;> simp only [hgo, e75, hlt, iaD hy, iaC hx, wq_of hin, hw1, hi1, hl, hst, mk_at hb, wrap_succ (show j < 2 ^ 62 by omega), ws, wsl, opX, int, Zv.bool, intBin, reduceIte, ↓reduceIte, Nat.reduceEqDiff, Nat.reduceAdd, Nat.reduceSub, Nat.reduceLeDiff, Int.reduceLT, Int.reduceLE, Int.reduceEq, Int.reduceBEq, Int.reduceNe, Int.reduceBNe, reduceCtorEq, Nat.reduceBEq]))
      (by
        intro s _
        apply wq_ex.1
        (simp only [e75, iaD hy, ws, wsl, opX, int, Zv.bool, intBin, reduceIte, ↓reduceIte, Nat.reduceEqDiff, Nat.reduceAdd, Nat.reduceSub, Nat.reduceLeDiff, Int.reduceLT, Int.reduceLE, Int.reduceEq, Int.reduceBEq, Int.reduceNe, Int.reduceBNe, reduceCtorEq, Nat.reduceBEq] <;> repeat' (first | refine wpG_s ?_ ?_ | refine wpC_s ?_ ?_) <;> intro hgo <;> (try simp only [decide_eq_true_eq, decide_eq_false_iff_not, Bool.not_eq_true', Bool.not_eq_false'] at hgo) <;> simp only [hgo, e75, iaD hy, ws, wsl, opX, int, Zv.bool, intBin, reduceIte, ↓reduceIte, Nat.reduceEqDiff, Nat.reduceAdd, Nat.reduceSub, Nat.reduceLeDiff, Int.reduceLT, Int.reduceLE, Int.reduceEq, Int.reduceBEq, Int.reduceNe, Int.reduceBNe, reduceCtorEq, Nat.reduceBEq]))
      (by intro s; simp) M hM
    rw [ref_fold M (i + 1) (by omega), ← stp_at hy] at this
    simp only [int, Int.cast_ofNat_Int] at this
    exact this
  -- a pass
  have l2 : ∀ (M : List Bool) (r : Nat), M.length = d.length + 1 →
      wp tab (.loop f75l2) [(0, .d (eDs d)), (3, .own h.next 1 (d.length + 1) 0 (d.length + 1)), (4, .d (.int .i64 r)), (5, .d (.int .i64 0))] (HQ h M)
        (fun o => o = (.exit 2, [(0, .d (eDs d)), (3, .own h.next 1 (d.length + 1) 0 (d.length + 1)), (4, .d (.int .i64 r)), (5, .d (.int .i64 d.length)), (26, .d (.bool false))], HQ h (pass d M))) := by
    intro M r hM
    refine loop_wp d.length (fun i e h' => h' = HQ h (passN d M i) ∧ e = [(0, .d (eDs d)), (3, .own h.next 1 (d.length + 1) 0 (d.length + 1)), (4, .d (.int .i64 r)), (5, .d (.int .i64 i))]) _ ?_ ?_ d.length 0 _ _ (by omega) ⟨rfl, rfl⟩
    · rintro i e h' hi ⟨rfl, rfl⟩
      obtain ⟨y, hy⟩ := get_of_lt hi
      have hin := l1 (passN d M i) r i y (by rw [passN_len]; exact hM) hy
      (simp only [e75, hi, wq_of hin, wrap_succ (show i < 2 ^ 62 by omega), ws, wsl, opX, int, Zv.bool, intBin, reduceIte, ↓reduceIte, Nat.reduceEqDiff, Nat.reduceAdd, Nat.reduceSub, Nat.reduceLeDiff, Int.reduceLT, Int.reduceLE, Int.reduceEq, Int.reduceBEq, Int.reduceNe, Int.reduceBNe, reduceCtorEq, Nat.reduceBEq] <;> repeat' (first | refine wpG_s ?_ ?_ | refine wpC_s ?_ ?_) <;> intro hgo <;> (try simp only [decide_eq_true_eq, decide_eq_false_iff_not, Bool.not_eq_true', Bool.not_eq_false'] at hgo) <;> simp only [hgo, e75, hi, wq_of hin, wrap_succ (show i < 2 ^ 62 by omega), ws, wsl, opX, int, Zv.bool, intBin, reduceIte, ↓reduceIte, Nat.reduceEqDiff, Nat.reduceAdd, Nat.reduceSub, Nat.reduceLeDiff, Int.reduceLT, Int.reduceLE, Int.reduceEq, Int.reduceBEq, Int.reduceNe, Int.reduceBNe, reduceCtorEq, Nat.reduceBEq])
      rfl
    · rintro e h' ⟨rfl, rfl⟩
      (simp only [e75, ws, wsl, opX, int, Zv.bool, intBin, reduceIte, ↓reduceIte, Nat.reduceEqDiff, Nat.reduceAdd, Nat.reduceSub, Nat.reduceLeDiff, Int.reduceLT, Int.reduceLE, Int.reduceEq, Int.reduceBEq, Int.reduceNe, Int.reduceBNe, reduceCtorEq, Nat.reduceBEq] <;> repeat' (first | refine wpG_s ?_ ?_ | refine wpC_s ?_ ?_) <;> intro hgo <;> (try simp only [decide_eq_true_eq, decide_eq_false_iff_not, Bool.not_eq_true', Bool.not_eq_false'] at hgo) <;> simp only [hgo, e75, ws, wsl, opX, int, Zv.bool, intBin, reduceIte, ↓reduceIte, Nat.reduceEqDiff, Nat.reduceAdd, Nat.reduceSub, Nat.reduceLeDiff, Int.reduceLT, Int.reduceLE, Int.reduceEq, Int.reduceBEq, Int.reduceNe, Int.reduceBNe, reduceCtorEq, Nat.reduceBEq])
      rfl
  (simp only [e75, hw0, hmk, hi0, hs0, ws, wsl, opX, int, Zv.bool, intBin, reduceIte, ↓reduceIte, Nat.reduceEqDiff, Nat.reduceAdd, Nat.reduceSub, Nat.reduceLeDiff, Int.reduceLT, Int.reduceLE, Int.reduceEq, Int.reduceBEq, Int.reduceNe, Int.reduceBNe, reduceCtorEq, Nat.reduceBEq] <;> repeat' (first | refine wpG_s ?_ ?_ | refine wpC_s ?_ ?_) <;> intro hgo <;> (try simp only [decide_eq_true_eq, decide_eq_false_iff_not, Bool.not_eq_true', Bool.not_eq_false'] at hgo) <;> simp only [hgo, e75, hw0, hmk, hi0, hs0, ws, wsl, opX, int, Zv.bool, intBin, reduceIte, ↓reduceIte, Nat.reduceEqDiff, Nat.reduceAdd, Nat.reduceSub, Nat.reduceLeDiff, Int.reduceLT, Int.reduceLE, Int.reduceEq, Int.reduceBEq, Int.reduceNe, Int.reduceBNe, reduceCtorEq, Nat.reduceBEq])
  refine loop_wp (d.length + 1) (fun r e h' => h' = HQ h (iter d (marks d) r) ∧ e = [(0, .d (eDs d)), (3, .own h.next 1 (d.length + 1) 0 (d.length + 1)), (4, .d (.int .i64 r))]) _ ?_ ?_ (d.length + 1) 0 _ _ (by omega) ⟨rfl, rfl⟩
  · rintro r e h' hr ⟨rfl, rfl⟩
    have hr' : r ≤ d.length := by omega
    (simp only [e75, hr', ws, wsl, opX, int, Zv.bool, intBin, reduceIte, ↓reduceIte, Nat.reduceEqDiff, Nat.reduceAdd, Nat.reduceSub, Nat.reduceLeDiff, Int.reduceLT, Int.reduceLE, Int.reduceEq, Int.reduceBEq, Int.reduceNe, Int.reduceBNe, reduceCtorEq, Nat.reduceBEq] <;> repeat' (first | refine wpG_s ?_ ?_ | refine wpC_s ?_ ?_) <;> intro hgo <;> (try simp only [decide_eq_true_eq, decide_eq_false_iff_not, Bool.not_eq_true', Bool.not_eq_false'] at hgo) <;> simp only [hgo, e75, hr', ws, wsl, opX, int, Zv.bool, intBin, reduceIte, ↓reduceIte, Nat.reduceEqDiff, Nat.reduceAdd, Nat.reduceSub, Nat.reduceLeDiff, Int.reduceLT, Int.reduceLE, Int.reduceEq, Int.reduceBEq, Int.reduceNe, Int.reduceBNe, reduceCtorEq, Nat.reduceBEq])
    refine wq_mono (l2 _ r (by rw [iter_len]; simp [marks])) ?_
    rintro o rfl
    (simp only [e75, wrap_succ (show r < 2 ^ 62 by omega), ws, wsl, opX, int, Zv.bool, intBin, reduceIte, ↓reduceIte, Nat.reduceEqDiff, Nat.reduceAdd, Nat.reduceSub, Nat.reduceLeDiff, Int.reduceLT, Int.reduceLE, Int.reduceEq, Int.reduceBEq, Int.reduceNe, Int.reduceBNe, reduceCtorEq, Nat.reduceBEq] <;> repeat' (first | refine wpG_s ?_ ?_ | refine wpC_s ?_ ?_) <;> intro hgo <;> (try simp only [decide_eq_true_eq, decide_eq_false_iff_not, Bool.not_eq_true', Bool.not_eq_false'] at hgo) <;> simp only [hgo, e75, wrap_succ (show r < 2 ^ 62 by omega), ws, wsl, opX, int, Zv.bool, intBin, reduceIte, ↓reduceIte, Nat.reduceEqDiff, Nat.reduceAdd, Nat.reduceSub, Nat.reduceLeDiff, Int.reduceLT, Int.reduceLE, Int.reduceEq, Int.reduceBEq, Int.reduceNe, Int.reduceBNe, reduceCtorEq, Nat.reduceBEq])
    rfl
  · rintro e h' ⟨rfl, rfl⟩
    have hr' : ¬ d.length + 1 ≤ d.length := by omega
    have hlen : (iter d (marks d) (d.length + 1)).length = d.length + 1 := by rw [iter_len]; simp [marks]
    (simp only [e75, hr', ws, wsl, opX, int, Zv.bool, intBin, reduceIte, ↓reduceIte, Nat.reduceEqDiff, Nat.reduceAdd, Nat.reduceSub, Nat.reduceLeDiff, Int.reduceLT, Int.reduceLE, Int.reduceEq, Int.reduceBEq, Int.reduceNe, Int.reduceBNe, reduceCtorEq, Nat.reduceBEq] <;> repeat' (first | refine wpG_s ?_ ?_ | refine wpC_s ?_ ?_) <;> intro hgo <;> (try simp only [decide_eq_true_eq, decide_eq_false_iff_not, Bool.not_eq_true', Bool.not_eq_false'] at hgo) <;> simp only [hgo, e75, hr', ws, wsl, opX, int, Zv.bool, intBin, reduceIte, ↓reduceIte, Nat.reduceEqDiff, Nat.reduceAdd, Nat.reduceSub, Nat.reduceLeDiff, Int.reduceLT, Int.reduceLE, Int.reduceEq, Int.reduceBEq, Int.reduceNe, Int.reduceBNe, reduceCtorEq, Nat.reduceBEq])
    have hloop := loop_any (T := tab) (a := f75l4) (l := iter d (marks d) (d.length + 1)) (p := (fun b => !b)) (f := fun n => [(3, .own h.next 1 (d.length + 1) 0 (d.length + 1)), (10, int n)]) (h := HQ h (iter d (marks d) (d.length + 1)))
        (by intro n x hx hlt hp; have hl := ld_bit (HQ_row h _ hlen) hx; have hlt' : n < d.length + 1 := (by omega); have hio := ia_own (es := 1) (n := h.next) (tot := d.length + 1) .i64 hlt'; simp only [Bool.not_eq_true', Bool.not_eq_false'] at hp; all_goals (apply wq_ex.1; (simp only [hlt, hp, e75, hlt', hio, hl, wrap_succ (show n < 2 ^ 62 by omega), ws, wsl, opX, int, Zv.bool, intBin, reduceIte, ↓reduceIte, Nat.reduceEqDiff, Nat.reduceAdd, Nat.reduceSub, Nat.reduceLeDiff, Int.reduceLT, Int.reduceLE, Int.reduceEq, Int.reduceBEq, Int.reduceNe, Int.reduceBNe, reduceCtorEq, Nat.reduceBEq] <;> repeat' (first | refine wpG_s ?_ ?_ | refine wpC_s ?_ ?_) <;> intro hgo <;> (try simp only [decide_eq_true_eq, decide_eq_false_iff_not, Bool.not_eq_true', Bool.not_eq_false'] at hgo) <;> simp only [hgo, hlt, hp, e75, hlt', hio, hl, wrap_succ (show n < 2 ^ 62 by omega), ws, wsl, opX, int, Zv.bool, intBin, reduceIte, ↓reduceIte, Nat.reduceEqDiff, Nat.reduceAdd, Nat.reduceSub, Nat.reduceLeDiff, Int.reduceLT, Int.reduceLE, Int.reduceEq, Int.reduceBEq, Int.reduceNe, Int.reduceBNe, reduceCtorEq, Nat.reduceBEq])))
        (by intro n x hx hlt hp; have hl := ld_bit (HQ_row h _ hlen) hx; have hlt' : n < d.length + 1 := (by omega); have hio := ia_own (es := 1) (n := h.next) (tot := d.length + 1) .i64 hlt'; simp only [Bool.not_eq_true', Bool.not_eq_false'] at hp; all_goals (apply wq_ex.1; (simp only [hlt, hp, e75, hlt', hio, hl, wrap_succ (show n < 2 ^ 62 by omega), ws, wsl, opX, int, Zv.bool, intBin, reduceIte, ↓reduceIte, Nat.reduceEqDiff, Nat.reduceAdd, Nat.reduceSub, Nat.reduceLeDiff, Int.reduceLT, Int.reduceLE, Int.reduceEq, Int.reduceBEq, Int.reduceNe, Int.reduceBNe, reduceCtorEq, Nat.reduceBEq] <;> repeat' (first | refine wpG_s ?_ ?_ | refine wpC_s ?_ ?_) <;> intro hgo <;> (try simp only [decide_eq_true_eq, decide_eq_false_iff_not, Bool.not_eq_true', Bool.not_eq_false'] at hgo) <;> simp only [hgo, hlt, hp, e75, hlt', hio, hl, wrap_succ (show n < 2 ^ 62 by omega), ws, wsl, opX, int, Zv.bool, intBin, reduceIte, ↓reduceIte, Nat.reduceEqDiff, Nat.reduceAdd, Nat.reduceSub, Nat.reduceLeDiff, Int.reduceLT, Int.reduceLE, Int.reduceEq, Int.reduceBEq, Int.reduceNe, Int.reduceBNe, reduceCtorEq, Nat.reduceBEq]) <;> rfl))
        (by apply wq_ex.1; (simp only [e75, hlen, ws, wsl, opX, int, Zv.bool, intBin, reduceIte, ↓reduceIte, Nat.reduceEqDiff, Nat.reduceAdd, Nat.reduceSub, Nat.reduceLeDiff, Int.reduceLT, Int.reduceLE, Int.reduceEq, Int.reduceBEq, Int.reduceNe, Int.reduceBNe, reduceCtorEq, Nat.reduceBEq] <;> repeat' (first | refine wpG_s ?_ ?_ | refine wpC_s ?_ ?_) <;> intro hgo <;> (try simp only [decide_eq_true_eq, decide_eq_false_iff_not, Bool.not_eq_true', Bool.not_eq_false'] at hgo) <;> simp only [hgo, e75, hlen, ws, wsl, opX, int, Zv.bool, intBin, reduceIte, ↓reduceIte, Nat.reduceEqDiff, Nat.reduceAdd, Nat.reduceSub, Nat.reduceLeDiff, Int.reduceLT, Int.reduceLE, Int.reduceEq, Int.reduceBEq, Int.reduceNe, Int.reduceBNe, reduceCtorEq, Nat.reduceBEq]) <;> rfl)
        (by simp) (by simp)
    simp only [int, Zv.bool, Int.cast_ofNat_Int] at hloop
    (simp only [e75, wq_of hloop, ws, wsl, opX, int, Zv.bool, intBin, reduceIte, ↓reduceIte, Nat.reduceEqDiff, Nat.reduceAdd, Nat.reduceSub, Nat.reduceLeDiff, Int.reduceLT, Int.reduceLE, Int.reduceEq, Int.reduceBEq, Int.reduceNe, Int.reduceBNe, reduceCtorEq, Nat.reduceBEq] <;> repeat' (first | refine wpG_s ?_ ?_ | refine wpC_s ?_ ?_) <;> intro hgo <;> (try simp only [decide_eq_true_eq, decide_eq_false_iff_not, Bool.not_eq_true', Bool.not_eq_false'] at hgo) <;> simp only [hgo, e75, wq_of hloop, ws, wsl, opX, int, Zv.bool, intBin, reduceIte, ↓reduceIte, Nat.reduceEqDiff, Nat.reduceAdd, Nat.reduceSub, Nat.reduceLeDiff, Int.reduceLT, Int.reduceLE, Int.reduceEq, Int.reduceBEq, Int.reduceNe, Int.reduceBNe, reduceCtorEq, Nat.reduceBEq])
    have : ∀ l : List Bool, (l.any fun b => !b) = !l.all id := by
      intro l; induction l with
      | nil => rfl
      | cons b l ih => rw [List.any_cons, List.all_cons, ih]; cases b <;> simp
    rw [this]
    unfold finiteS
    cases (iter d (marks d) (d.length + 1)).all id <;> (simp only [e75, HQ_fin, ws, wsl, opX, int, Zv.bool, intBin, reduceIte, ↓reduceIte, Nat.reduceEqDiff, Nat.reduceAdd, Nat.reduceSub, Nat.reduceLeDiff, Int.reduceLT, Int.reduceLE, Int.reduceEq, Int.reduceBEq, Int.reduceNe, Int.reduceBNe, reduceCtorEq, Nat.reduceBEq] <;> repeat' (first | refine wpG_s ?_ ?_ | refine wpC_s ?_ ?_) <;> intro hgo <;> (try simp only [decide_eq_true_eq, decide_eq_false_iff_not, Bool.not_eq_true', Bool.not_eq_false'] at hgo) <;> simp only [hgo, e75, HQ_fin, ws, wsl, opX, int, Zv.bool, intBin, reduceIte, ↓reduceIte, Nat.reduceEqDiff, Nat.reduceAdd, Nat.reduceSub, Nat.reduceLeDiff, Int.reduceLT, Int.reduceLE, Int.reduceEq, Int.reduceBEq, Int.reduceNe, Int.reduceBNe, reduceCtorEq, Nat.reduceBEq])
-- ws, wsl, opX, int, Zv.bool, intBin, reduceIte, ↓reduceIte, Nat.reduceEqDiff, Nat.reduceAdd, Nat.reduceSub, Nat.reduceLeDiff, Int.reduceLT, Int.reduceLE, Int.reduceEq, Int.reduceBEq, Int.reduceNe, Int.reduceBNe, reduceCtorEq, Nat.reduceBEq
end Zc27
