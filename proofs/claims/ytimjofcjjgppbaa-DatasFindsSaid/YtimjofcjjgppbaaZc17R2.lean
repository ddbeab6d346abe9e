/-
  Flat, Cells, Type, Con and Name.
-/
import Derived.Test.YtimjofcjjgppbaaZc17R1
set_option linter.unusedSimpArgs false
set_option maxHeartbeats 4000000
namespace Zc17
open Go Zv Zs

/-- A table within bounds. -/
structure Bd (d : List Dt) : Prop where
  len : d.length ≤ 100
  cons : ∀ y, y ∈ d → y.cons.length ≤ 30
  flds : ∀ y, y ∈ d → ∀ c, c ∈ y.cons → c.flds.length ≤ 20
theorem Bd.at {d : List Dt} (B : Bd d) {m : Nat} {y : Dt} (hy : d[m]? = some y) : m < 100 ∧ m < d.length ∧ y.cons.length ≤ 30 := by
  have := lt_of_get hy
  have := B.len
  exact ⟨by omega, by omega, B.cons y (List.mem_of_getElem? hy)⟩
theorem Bd.cat {d : List Dt} (B : Bd d) {m k : Nat} {y : Dt} {c : Cn} (hy : d[m]? = some y) (hc : y.cons[k]? = some c) : k < 30 ∧ c.flds.length ≤ 20 := by
  have := (B.at hy).2.2
  have := lt_of_get hc
  exact ⟨by omega, B.flds y (List.mem_of_getElem? hy) c (List.mem_of_getElem? hc)⟩
theorem tcase4 (d : List Dt) (t : Int) : t < 0 ∨ t = 0 ∨ (d.length : Int) < t ∨ ∃ n : Nat, ∃ y, t = (n : Int) + 1 ∧ d[n]? = some y := by
  rcases tcase d t with h | h | h
  · by_cases h0 : t = 0
    · exact .inr (.inl h0)
    · exact .inl (by omega)
  · exact .inr (.inr (.inl h))
  · exact .inr (.inr (.inr h))
theorem isT_lo {d : List Dt} {t : Int} (h : t < 0) : isT d t = false := by unfold isT; rw [decide_eq_false (by omega)]; rfl
theorem isT_zero (d : List Dt) : isT d 0 = true := by simp [isT]
theorem isT_hi {d : List Dt} {t : Int} (h : (d.length : Int) < t) : isT d t = false := by unfold isT; rw [decide_eq_false (p := t ≤ _) (by omega), Bool.and_false]
theorem isT_at {d : List Dt} {n : Nat} {y : Dt} (h : d[n]? = some y) : isT d ((n : Int) + 1) = true := by
  have := lt_of_get h
  unfold isT; rw [decide_eq_true (by omega), decide_eq_true (by omega)]; rfl
theorem consOf_lo {d : List Dt} {t : Int} (h : t < 1) : consOf d t = [] := by unfold consOf; rw [if_neg (by omega)]
theorem consOf_hi {d : List Dt} {t : Int} (h : (d.length : Int) < t) : consOf d t = [] := by
  unfold consOf
  split
  · rw [List.getElem?_eq_none (by omega)]; rfl
  · rfl
theorem consOf_len {d : List Dt} (B : Bd d) (t : Int) : (consOf d t).length ≤ 30 := by
  rcases tcase d t with h | h | ⟨n, y, rfl, hy⟩
  · rw [consOf_lo h]; simp
  · rw [consOf_hi h]; simp
  · rw [consOf_at hy]; exact (B.at hy).2.2

def hasF (c : Cn) : Bool := decide (0 < c.flds.length)
def flatS (d : List Dt) (t : Int) : Bool := isT d t && !(consOf d t).any hasF

theorem flat1_ok (c : Cn) (h : Hp) : callW tab 45 [.d (eC c)] h = some (.d (.bool (hasF c)), h) := by
  apply call_wp (fn := f45) rfl rfl
  (simp only [e45, hasF, Int.natCast_pos, ws, wsl, opX, int, Zv.bool, intBin, reduceIte, ↓reduceIte, Nat.reduceEqDiff, Nat.reduceAdd, Nat.reduceSub, Nat.reduceLeDiff, Int.reduceLT, Int.reduceLE, Int.reduceEq, Int.reduceBEq, Int.reduceNe, Int.reduceBNe, reduceCtorEq, Nat.reduceBEq] <;> repeat' (first | refine wpG_s ?_ ?_ | refine wpC_s ?_ ?_) <;> intro hgo <;> (try simp only [decide_eq_true_eq, decide_eq_false_iff_not, Bool.not_eq_true', Bool.not_eq_false'] at hgo) <;> simp only [hgo, e45, hasF, Int.natCast_pos, ws, wsl, opX, int, Zv.bool, intBin, reduceIte, ↓reduceIte, Nat.reduceEqDiff, Nat.reduceAdd, Nat.reduceSub, Nat.reduceLeDiff, Int.reduceLT, Int.reduceLE, Int.reduceEq, Int.reduceBEq, Int.reduceNe, Int.reduceBNe, reduceCtorEq, Nat.reduceBEq])

theorem flat_ok {d : List Dt} (B : Bd d) (t : Int) (h : Hp) : callW tab 14 [.d (eDs d), .d (eI t)] h = some (.d (.bool (flatS d t)), h) := by
  apply call_wp (fn := f14) rfl rfl
  have hl := B.len
  have h2 := cons_ok d t h (by omega)
  have h3 := contains43 (consOf d t) (.clo 45 []) hasF h (by have := consOf_len B t; omega) rfl (fun c _ => flat1_ok c h)
  (simp only [e14, flatS, exists_ok, h2, h3, ws, wsl, opX, int, Zv.bool, intBin, reduceIte, ↓reduceIte, Nat.reduceEqDiff, Nat.reduceAdd, Nat.reduceSub, Nat.reduceLeDiff, Int.reduceLT, Int.reduceLE, Int.reduceEq, Int.reduceBEq, Int.reduceNe, Int.reduceBNe, reduceCtorEq, Nat.reduceBEq] <;> repeat' (first | refine wpG_s ?_ ?_ | refine wpC_s ?_ ?_) <;> intro hgo <;> (try simp only [decide_eq_true_eq, decide_eq_false_iff_not, Bool.not_eq_true', Bool.not_eq_false'] at hgo) <;> simp only [hgo, e14, flatS, exists_ok, h2, h3, ws, wsl, opX, int, Zv.bool, intBin, reduceIte, ↓reduceIte, Nat.reduceEqDiff, Nat.reduceAdd, Nat.reduceSub, Nat.reduceLeDiff, Int.reduceLT, Int.reduceLE, Int.reduceEq, Int.reduceBEq, Int.reduceNe, Int.reduceBNe, reduceCtorEq, Nat.reduceBEq])

theorem rflat_ok {d : List Dt} (B : Bd d) (t : Int) (h : Hp) : callW tab 15 [.d (eDs d), .d (eI t)] h = some (.d (.bool (flatS d t)), h) := by
  apply call_wp (fn := f15) rfl rfl
  rcases tcase4 d t with h0 | rfl | h0 | ⟨m, y, rfl, hy⟩
  · have : (t == 0) = false := by simp; omega
    (simp only [e15, flatS, isType_ok, isT_lo h0, this, ws, wsl, opX, int, Zv.bool, intBin, reduceIte, ↓reduceIte, Nat.reduceEqDiff, Nat.reduceAdd, Nat.reduceSub, Nat.reduceLeDiff, Int.reduceLT, Int.reduceLE, Int.reduceEq, Int.reduceBEq, Int.reduceNe, Int.reduceBNe, reduceCtorEq, Nat.reduceBEq] <;> repeat' (first | refine wpG_s ?_ ?_ | refine wpC_s ?_ ?_) <;> intro hgo <;> (try simp only [decide_eq_true_eq, decide_eq_false_iff_not, Bool.not_eq_true', Bool.not_eq_false'] at hgo) <;> simp only [hgo, e15, flatS, isType_ok, isT_lo h0, this, ws, wsl, opX, int, Zv.bool, intBin, reduceIte, ↓reduceIte, Nat.reduceEqDiff, Nat.reduceAdd, Nat.reduceSub, Nat.reduceLeDiff, Int.reduceLT, Int.reduceLE, Int.reduceEq, Int.reduceBEq, Int.reduceNe, Int.reduceBNe, reduceCtorEq, Nat.reduceBEq])
  · (simp only [e15, flatS, isType_ok, isT_zero, consOf_lo (show (0:Int) < 1 by decide), List.any_nil, ws, wsl, opX, int, Zv.bool, intBin, reduceIte, ↓reduceIte, Nat.reduceEqDiff, Nat.reduceAdd, Nat.reduceSub, Nat.reduceLeDiff, Int.reduceLT, Int.reduceLE, Int.reduceEq, Int.reduceBEq, Int.reduceNe, Int.reduceBNe, reduceCtorEq, Nat.reduceBEq] <;> repeat' (first | refine wpG_s ?_ ?_ | refine wpC_s ?_ ?_) <;> intro hgo <;> (try simp only [decide_eq_true_eq, decide_eq_false_iff_not, Bool.not_eq_true', Bool.not_eq_false'] at hgo) <;> simp only [hgo, e15, flatS, isType_ok, isT_zero, consOf_lo (show (0:Int) < 1 by decide), List.any_nil, ws, wsl, opX, int, Zv.bool, intBin, reduceIte, ↓reduceIte, Nat.reduceEqDiff, Nat.reduceAdd, Nat.reduceSub, Nat.reduceLeDiff, Int.reduceLT, Int.reduceLE, Int.reduceEq, Int.reduceBEq, Int.reduceNe, Int.reduceBNe, reduceCtorEq, Nat.reduceBEq])
  · have : (t == 0) = false := by simp; omega
    (simp only [e15, flatS, isType_ok, isT_hi h0, this, ws, wsl, opX, int, Zv.bool, intBin, reduceIte, ↓reduceIte, Nat.reduceEqDiff, Nat.reduceAdd, Nat.reduceSub, Nat.reduceLeDiff, Int.reduceLT, Int.reduceLE, Int.reduceEq, Int.reduceBEq, Int.reduceNe, Int.reduceBNe, reduceCtorEq, Nat.reduceBEq] <;> repeat' (first | refine wpG_s ?_ ?_ | refine wpC_s ?_ ?_) <;> intro hgo <;> (try simp only [decide_eq_true_eq, decide_eq_false_iff_not, Bool.not_eq_true', Bool.not_eq_false'] at hgo) <;> simp only [hgo, e15, flatS, isType_ok, isT_hi h0, this, ws, wsl, opX, int, Zv.bool, intBin, reduceIte, ↓reduceIte, Nat.reduceEqDiff, Nat.reduceAdd, Nat.reduceSub, Nat.reduceLeDiff, Int.reduceLT, Int.reduceLE, Int.reduceEq, Int.reduceBEq, Int.reduceNe, Int.reduceBNe, reduceCtorEq, Nat.reduceBEq])
  · have b := B.at hy
    have hw := wrap_sub1 (n := m) (by omega)
    have hloop := loop_any (T := tab) (a := f15l0) (l := y.cons) (p := hasF) (f := fun n => [(0, .d (eDs d)), (1, .d (eI ((m : Int) + 1))), (5, int n)]) (h := h)
        (by intro n x hx hlt hp; simp only [hasF, decide_eq_true_eq, decide_eq_false_iff_not] at hp; all_goals (apply wq_ex.1; (simp only [hlt, hp, e15, iaD hy, iaC hx, hw, wrap_succ (show n < 2 ^ 62 by omega), Int.natCast_pos, ws, wsl, opX, int, Zv.bool, intBin, reduceIte, ↓reduceIte, Nat.reduceEqDiff, Nat.reduceAdd, Nat.reduceSub, Nat.reduceLeDiff, Int.reduceLT, Int.reduceLE, Int.reduceEq, Int.reduceBEq, Int.reduceNe, Int.reduceBNe, reduceCtorEq, Nat.reduceBEq] <;> repeat' (first | refine wpG_s ?_ ?_ | refine wpC_s ?_ ?_) <;> intro hgo <;> (try simp only [decide_eq_true_eq, decide_eq_false_iff_not, Bool.not_eq_true', Bool.not_eq_false'] at hgo) <;> simp only [hgo, hlt, hp, e15, iaD hy, iaC hx, hw, wrap_succ (show n < 2 ^ 62 by omega), Int.natCast_pos, ws, wsl, opX, int, Zv.bool, intBin, reduceIte, ↓reduceIte, Nat.reduceEqDiff, Nat.reduceAdd, Nat.reduceSub, Nat.reduceLeDiff, Int.reduceLT, Int.reduceLE, Int.reduceEq, Int.reduceBEq, Int.reduceNe, Int.reduceBNe, reduceCtorEq, Nat.reduceBEq])))
        (by intro n x hx hlt hp; simp only [hasF, decide_eq_true_eq, decide_eq_false_iff_not] at hp; all_goals (apply wq_ex.1; (simp only [hlt, hp, e15, iaD hy, iaC hx, hw, wrap_succ (show n < 2 ^ 62 by omega), Int.natCast_pos, ws, wsl, opX, int, Zv.bool, intBin, reduceIte, ↓reduceIte, Nat.reduceEqDiff, Nat.reduceAdd, Nat.reduceSub, Nat.reduceLeDiff, Int.reduceLT, Int.reduceLE, Int.reduceEq, Int.reduceBEq, Int.reduceNe, Int.reduceBNe, reduceCtorEq, Nat.reduceBEq] <;> repeat' (first | refine wpG_s ?_ ?_ | refine wpC_s ?_ ?_) <;> intro hgo <;> (try simp only [decide_eq_true_eq, decide_eq_false_iff_not, Bool.not_eq_true', Bool.not_eq_false'] at hgo) <;> simp only [hgo, hlt, hp, e15, iaD hy, iaC hx, hw, wrap_succ (show n < 2 ^ 62 by omega), Int.natCast_pos, ws, wsl, opX, int, Zv.bool, intBin, reduceIte, ↓reduceIte, Nat.reduceEqDiff, Nat.reduceAdd, Nat.reduceSub, Nat.reduceLeDiff, Int.reduceLT, Int.reduceLE, Int.reduceEq, Int.reduceBEq, Int.reduceNe, Int.reduceBNe, reduceCtorEq, Nat.reduceBEq]) <;> rfl))
        (by apply wq_ex.1; (simp only [e15, iaD hy, hw, ws, wsl, opX, int, Zv.bool, intBin, reduceIte, ↓reduceIte, Nat.reduceEqDiff, Nat.reduceAdd, Nat.reduceSub, Nat.reduceLeDiff, Int.reduceLT, Int.reduceLE, Int.reduceEq, Int.reduceBEq, Int.reduceNe, Int.reduceBNe, reduceCtorEq, Nat.reduceBEq] <;> repeat' (first | refine wpG_s ?_ ?_ | refine wpC_s ?_ ?_) <;> intro hgo <;> (try simp only [decide_eq_true_eq, decide_eq_false_iff_not, Bool.not_eq_true', Bool.not_eq_false'] at hgo) <;> simp only [hgo, e15, iaD hy, hw, ws, wsl, opX, int, Zv.bool, intBin, reduceIte, ↓reduceIte, Nat.reduceEqDiff, Nat.reduceAdd, Nat.reduceSub, Nat.reduceLeDiff, Int.reduceLT, Int.reduceLE, Int.reduceEq, Int.reduceBEq, Int.reduceNe, Int.reduceBNe, reduceCtorEq, Nat.reduceBEq]) <;> rfl)
        (by simp) (by simp)
    simp only [int, Zv.bool, Int.cast_ofNat_Int] at hloop
    (simp only [e15, flatS, isType_ok, isT_at hy, consOf_at hy, wq_of hloop, ws, wsl, opX, int, Zv.bool, intBin, reduceIte, ↓reduceIte, Nat.reduceEqDiff, Nat.reduceAdd, Nat.reduceSub, Nat.reduceLeDiff, Int.reduceLT, Int.reduceLE, Int.reduceEq, Int.reduceBEq, Int.reduceNe, Int.reduceBNe, reduceCtorEq, Nat.reduceBEq] <;> repeat' (first | refine wpG_s ?_ ?_ | refine wpC_s ?_ ?_) <;> intro hgo <;> (try simp only [decide_eq_true_eq, decide_eq_false_iff_not, Bool.not_eq_true', Bool.not_eq_false'] at hgo) <;> simp only [hgo, e15, flatS, isType_ok, isT_at hy, consOf_at hy, wq_of hloop, ws, wsl, opX, int, Zv.bool, intBin, reduceIte, ↓reduceIte, Nat.reduceEqDiff, Nat.reduceAdd, Nat.reduceSub, Nat.reduceLeDiff, Int.reduceLT, Int.reduceLE, Int.reduceEq, Int.reduceBEq, Int.reduceNe, Int.reduceBNe, reduceCtorEq, Nat.reduceBEq])
    cases y.cons.any hasF <;> (simp only [e15, ws, wsl, opX, int, Zv.bool, intBin, reduceIte, ↓reduceIte, Nat.reduceEqDiff, Nat.reduceAdd, Nat.reduceSub, Nat.reduceLeDiff, Int.reduceLT, Int.reduceLE, Int.reduceEq, Int.reduceBEq, Int.reduceNe, Int.reduceBNe, reduceCtorEq, Nat.reduceBEq] <;> repeat' (first | refine wpG_s ?_ ?_ | refine wpC_s ?_ ?_) <;> intro hgo <;> (try simp only [decide_eq_true_eq, decide_eq_false_iff_not, Bool.not_eq_true', Bool.not_eq_false'] at hgo) <;> simp only [hgo, e15, ws, wsl, opX, int, Zv.bool, intBin, reduceIte, ↓reduceIte, Nat.reduceEqDiff, Nat.reduceAdd, Nat.reduceSub, Nat.reduceLeDiff, Int.reduceLT, Int.reduceLE, Int.reduceEq, Int.reduceBEq, Int.reduceNe, Int.reduceBNe, reduceCtorEq, Nat.reduceBEq])

def cellsS (l : List Cn) (k : Int) : Int := if k < 0 then 0 else match l[k.toNat]? with
  | some c => if c.flds.length = 0 then 0 else 1
  | none => 0
theorem kcase {α : Type} (l : List α) (k : Int) : k < 0 ∨ (l.length : Int) ≤ k ∨ ∃ n : Nat, ∃ y, k = (n : Int) ∧ l[n]? = some y := by
  by_cases h0 : k < 0
  · exact .inl h0
  · by_cases h1 : (l.length : Int) ≤ k
    · exact .inr (.inl h1)
    · obtain ⟨y, hy⟩ := get_of_lt (l := l) (n := k.toNat) (by omega)
      exact .inr (.inr ⟨k.toNat, y, by omega, hy⟩)
theorem cellsS_lo {l : List Cn} {k : Int} (h : k < 0) : cellsS l k = 0 := by unfold cellsS; rw [if_pos h]
theorem cellsS_hi {l : List Cn} {k : Int} (h : (l.length : Int) ≤ k) : cellsS l k = 0 := by
  unfold cellsS
  rw [List.getElem?_eq_none (by omega)]; simp
theorem cellsS_at {l : List Cn} {n : Nat} {c : Cn} (h : l[n]? = some c) : cellsS l n = if c.flds.length = 0 then 0 else 1 := by
  unfold cellsS
  rw [if_neg (by omega), Int.toNat_natCast, h]

theorem cells_ok {d : List Dt} (B : Bd d) (t k : Int) (h : Hp) : callW tab 16 [.d (eDs d), .d (eI t), .d (eI k)] h = some (.d (eI (cellsS (consOf d t) k)), h) := by
  apply call_wp (fn := f16) rfl rfl
  have hl := B.len
  have h2 := cons_ok d t h (by omega)
  rcases kcase (consOf d t) k with h0 | h0 | ⟨n, y, rfl, hy⟩
  · (simp only [e16, h2, h0, cellsS_lo h0, ws, wsl, opX, int, Zv.bool, intBin, reduceIte, ↓reduceIte, Nat.reduceEqDiff, Nat.reduceAdd, Nat.reduceSub, Nat.reduceLeDiff, Int.reduceLT, Int.reduceLE, Int.reduceEq, Int.reduceBEq, Int.reduceNe, Int.reduceBNe, reduceCtorEq, Nat.reduceBEq] <;> repeat' (first | refine wpG_s ?_ ?_ | refine wpC_s ?_ ?_) <;> intro hgo <;> (try simp only [decide_eq_true_eq, decide_eq_false_iff_not, Bool.not_eq_true', Bool.not_eq_false'] at hgo) <;> simp only [hgo, e16, h2, h0, cellsS_lo h0, ws, wsl, opX, int, Zv.bool, intBin, reduceIte, ↓reduceIte, Nat.reduceEqDiff, Nat.reduceAdd, Nat.reduceSub, Nat.reduceLeDiff, Int.reduceLT, Int.reduceLE, Int.reduceEq, Int.reduceBEq, Int.reduceNe, Int.reduceBNe, reduceCtorEq, Nat.reduceBEq])
  · have h1 : ¬ k < 0 := by omega
    (simp only [e16, h2, h0, h1, cellsS_hi h0, ws, wsl, opX, int, Zv.bool, intBin, reduceIte, ↓reduceIte, Nat.reduceEqDiff, Nat.reduceAdd, Nat.reduceSub, Nat.reduceLeDiff, Int.reduceLT, Int.reduceLE, Int.reduceEq, Int.reduceBEq, Int.reduceNe, Int.reduceBNe, reduceCtorEq, Nat.reduceBEq] <;> repeat' (first | refine wpG_s ?_ ?_ | refine wpC_s ?_ ?_) <;> intro hgo <;> (try simp only [decide_eq_true_eq, decide_eq_false_iff_not, Bool.not_eq_true', Bool.not_eq_false'] at hgo) <;> simp only [hgo, e16, h2, h0, h1, cellsS_hi h0, ws, wsl, opX, int, Zv.bool, intBin, reduceIte, ↓reduceIte, Nat.reduceEqDiff, Nat.reduceAdd, Nat.reduceSub, Nat.reduceLeDiff, Int.reduceLT, Int.reduceLE, Int.reduceEq, Int.reduceBEq, Int.reduceNe, Int.reduceBNe, reduceCtorEq, Nat.reduceBEq])
  · have hlt := lt_of_get hy
    have h1 : ¬ (consOf d t).length ≤ n := by omega
    by_cases hz : y.flds.length = 0
    · (simp only [e16, h2, h1, iaC hy, cellsS_at hy, hz, ws, wsl, opX, int, Zv.bool, intBin, reduceIte, ↓reduceIte, Nat.reduceEqDiff, Nat.reduceAdd, Nat.reduceSub, Nat.reduceLeDiff, Int.reduceLT, Int.reduceLE, Int.reduceEq, Int.reduceBEq, Int.reduceNe, Int.reduceBNe, reduceCtorEq, Nat.reduceBEq] <;> repeat' (first | refine wpG_s ?_ ?_ | refine wpC_s ?_ ?_) <;> intro hgo <;> (try simp only [decide_eq_true_eq, decide_eq_false_iff_not, Bool.not_eq_true', Bool.not_eq_false'] at hgo) <;> simp only [hgo, e16, h2, h1, iaC hy, cellsS_at hy, hz, ws, wsl, opX, int, Zv.bool, intBin, reduceIte, ↓reduceIte, Nat.reduceEqDiff, Nat.reduceAdd, Nat.reduceSub, Nat.reduceLeDiff, Int.reduceLT, Int.reduceLE, Int.reduceEq, Int.reduceBEq, Int.reduceNe, Int.reduceBNe, reduceCtorEq, Nat.reduceBEq])
    · have hz' : ((y.flds.length : Int) == 0) = false := by simpa using hz
      (simp only [e16, h2, h1, iaC hy, cellsS_at hy, hz, hz', ws, wsl, opX, int, Zv.bool, intBin, reduceIte, ↓reduceIte, Nat.reduceEqDiff, Nat.reduceAdd, Nat.reduceSub, Nat.reduceLeDiff, Int.reduceLT, Int.reduceLE, Int.reduceEq, Int.reduceBEq, Int.reduceNe, Int.reduceBNe, reduceCtorEq, Nat.reduceBEq] <;> repeat' (first | refine wpG_s ?_ ?_ | refine wpC_s ?_ ?_) <;> intro hgo <;> (try simp only [decide_eq_true_eq, decide_eq_false_iff_not, Bool.not_eq_true', Bool.not_eq_false'] at hgo) <;> simp only [hgo, e16, h2, h1, iaC hy, cellsS_at hy, hz, hz', ws, wsl, opX, int, Zv.bool, intBin, reduceIte, ↓reduceIte, Nat.reduceEqDiff, Nat.reduceAdd, Nat.reduceSub, Nat.reduceLeDiff, Int.reduceLT, Int.reduceLE, Int.reduceEq, Int.reduceBEq, Int.reduceNe, Int.reduceBNe, reduceCtorEq, Nat.reduceBEq])
theorem rcells_ok {d : List Dt} (B : Bd d) (t k : Int) (h : Hp) : callW tab 17 [.d (eDs d), .d (eI t), .d (eI k)] h = some (.d (eI (cellsS (consOf d t) k)), h) := by
  apply call_wp (fn := f17) rfl rfl
  have nil : cellsS [] k = 0 := by
    by_cases h : k < 0
    · exact cellsS_lo h
    · exact cellsS_hi (by simp; omega)
  rcases tcase4 d t with h0 | rfl | h0 | ⟨m, y, rfl, hy⟩
  · have : (t == 0) = false := by simp; omega
    (simp only [e17, isType_ok, isT_lo h0, this, consOf_lo (show t < 1 by omega), nil, ws, wsl, opX, int, Zv.bool, intBin, reduceIte, ↓reduceIte, Nat.reduceEqDiff, Nat.reduceAdd, Nat.reduceSub, Nat.reduceLeDiff, Int.reduceLT, Int.reduceLE, Int.reduceEq, Int.reduceBEq, Int.reduceNe, Int.reduceBNe, reduceCtorEq, Nat.reduceBEq] <;> repeat' (first | refine wpG_s ?_ ?_ | refine wpC_s ?_ ?_) <;> intro hgo <;> (try simp only [decide_eq_true_eq, decide_eq_false_iff_not, Bool.not_eq_true', Bool.not_eq_false'] at hgo) <;> simp only [hgo, e17, isType_ok, isT_lo h0, this, consOf_lo (show t < 1 by omega), nil, ws, wsl, opX, int, Zv.bool, intBin, reduceIte, ↓reduceIte, Nat.reduceEqDiff, Nat.reduceAdd, Nat.reduceSub, Nat.reduceLeDiff, Int.reduceLT, Int.reduceLE, Int.reduceEq, Int.reduceBEq, Int.reduceNe, Int.reduceBNe, reduceCtorEq, Nat.reduceBEq])
  · (simp only [e17, consOf_lo (show (0:Int) < 1 by decide), nil, ws, wsl, opX, int, Zv.bool, intBin, reduceIte, ↓reduceIte, Nat.reduceEqDiff, Nat.reduceAdd, Nat.reduceSub, Nat.reduceLeDiff, Int.reduceLT, Int.reduceLE, Int.reduceEq, Int.reduceBEq, Int.reduceNe, Int.reduceBNe, reduceCtorEq, Nat.reduceBEq] <;> repeat' (first | refine wpG_s ?_ ?_ | refine wpC_s ?_ ?_) <;> intro hgo <;> (try simp only [decide_eq_true_eq, decide_eq_false_iff_not, Bool.not_eq_true', Bool.not_eq_false'] at hgo) <;> simp only [hgo, e17, consOf_lo (show (0:Int) < 1 by decide), nil, ws, wsl, opX, int, Zv.bool, intBin, reduceIte, ↓reduceIte, Nat.reduceEqDiff, Nat.reduceAdd, Nat.reduceSub, Nat.reduceLeDiff, Int.reduceLT, Int.reduceLE, Int.reduceEq, Int.reduceBEq, Int.reduceNe, Int.reduceBNe, reduceCtorEq, Nat.reduceBEq])
  · have : (t == 0) = false := by simp; omega
    (simp only [e17, isType_ok, isT_hi h0, this, consOf_hi h0, nil, ws, wsl, opX, int, Zv.bool, intBin, reduceIte, ↓reduceIte, Nat.reduceEqDiff, Nat.reduceAdd, Nat.reduceSub, Nat.reduceLeDiff, Int.reduceLT, Int.reduceLE, Int.reduceEq, Int.reduceBEq, Int.reduceNe, Int.reduceBNe, reduceCtorEq, Nat.reduceBEq] <;> repeat' (first | refine wpG_s ?_ ?_ | refine wpC_s ?_ ?_) <;> intro hgo <;> (try simp only [decide_eq_true_eq, decide_eq_false_iff_not, Bool.not_eq_true', Bool.not_eq_false'] at hgo) <;> simp only [hgo, e17, isType_ok, isT_hi h0, this, consOf_hi h0, nil, ws, wsl, opX, int, Zv.bool, intBin, reduceIte, ↓reduceIte, Nat.reduceEqDiff, Nat.reduceAdd, Nat.reduceSub, Nat.reduceLeDiff, Int.reduceLT, Int.reduceLE, Int.reduceEq, Int.reduceBEq, Int.reduceNe, Int.reduceBNe, reduceCtorEq, Nat.reduceBEq])
  · have b := B.at hy
    have hw := wrap_sub1 (n := m) (by omega)
    rcases kcase y.cons k with h0 | h0 | ⟨n, z, rfl, hz⟩
    · (simp only [e17, isType_ok, isT_at hy, consOf_at hy, h0, cellsS_lo h0, ws, wsl, opX, int, Zv.bool, intBin, reduceIte, ↓reduceIte, Nat.reduceEqDiff, Nat.reduceAdd, Nat.reduceSub, Nat.reduceLeDiff, Int.reduceLT, Int.reduceLE, Int.reduceEq, Int.reduceBEq, Int.reduceNe, Int.reduceBNe, reduceCtorEq, Nat.reduceBEq] <;> repeat' (first | refine wpG_s ?_ ?_ | refine wpC_s ?_ ?_) <;> intro hgo <;> (try simp only [decide_eq_true_eq, decide_eq_false_iff_not, Bool.not_eq_true', Bool.not_eq_false'] at hgo) <;> simp only [hgo, e17, isType_ok, isT_at hy, consOf_at hy, h0, cellsS_lo h0, ws, wsl, opX, int, Zv.bool, intBin, reduceIte, ↓reduceIte, Nat.reduceEqDiff, Nat.reduceAdd, Nat.reduceSub, Nat.reduceLeDiff, Int.reduceLT, Int.reduceLE, Int.reduceEq, Int.reduceBEq, Int.reduceNe, Int.reduceBNe, reduceCtorEq, Nat.reduceBEq])
    · have h1 : ¬ k < 0 := by omega
      (simp only [e17, isType_ok, isT_at hy, consOf_at hy, iaD hy, hw, h0, h1, cellsS_hi h0, ws, wsl, opX, int, Zv.bool, intBin, reduceIte, ↓reduceIte, Nat.reduceEqDiff, Nat.reduceAdd, Nat.reduceSub, Nat.reduceLeDiff, Int.reduceLT, Int.reduceLE, Int.reduceEq, Int.reduceBEq, Int.reduceNe, Int.reduceBNe, reduceCtorEq, Nat.reduceBEq] <;> repeat' (first | refine wpG_s ?_ ?_ | refine wpC_s ?_ ?_) <;> intro hgo <;> (try simp only [decide_eq_true_eq, decide_eq_false_iff_not, Bool.not_eq_true', Bool.not_eq_false'] at hgo) <;> simp only [hgo, e17, isType_ok, isT_at hy, consOf_at hy, iaD hy, hw, h0, h1, cellsS_hi h0, ws, wsl, opX, int, Zv.bool, intBin, reduceIte, ↓reduceIte, Nat.reduceEqDiff, Nat.reduceAdd, Nat.reduceSub, Nat.reduceLeDiff, Int.reduceLT, Int.reduceLE, Int.reduceEq, Int.reduceBEq, Int.reduceNe, Int.reduceBNe, reduceCtorEq, Nat.reduceBEq])
    · have hlt := lt_of_get hz
      have h1 : ¬ y.cons.length ≤ n := by omega
      by_cases hq : z.flds.length = 0
      · (simp only [e17, isType_ok, isT_at hy, consOf_at hy, iaD hy, iaC hz, hw, h1, cellsS_at hz, hq, ws, wsl, opX, int, Zv.bool, intBin, reduceIte, ↓reduceIte, Nat.reduceEqDiff, Nat.reduceAdd, Nat.reduceSub, Nat.reduceLeDiff, Int.reduceLT, Int.reduceLE, Int.reduceEq, Int.reduceBEq, Int.reduceNe, Int.reduceBNe, reduceCtorEq, Nat.reduceBEq] <;> repeat' (first | refine wpG_s ?_ ?_ | refine wpC_s ?_ ?_) <;> intro hgo <;> (try simp only [decide_eq_true_eq, decide_eq_false_iff_not, Bool.not_eq_true', Bool.not_eq_false'] at hgo) <;> simp only [hgo, e17, isType_ok, isT_at hy, consOf_at hy, iaD hy, iaC hz, hw, h1, cellsS_at hz, hq, ws, wsl, opX, int, Zv.bool, intBin, reduceIte, ↓reduceIte, Nat.reduceEqDiff, Nat.reduceAdd, Nat.reduceSub, Nat.reduceLeDiff, Int.reduceLT, Int.reduceLE, Int.reduceEq, Int.reduceBEq, Int.reduceNe, Int.reduceBNe, reduceCtorEq, Nat.reduceBEq])
      · have hq' : ((z.flds.length : Int) == 0) = false := by simpa using hq
        (simp only [e17, isType_ok, isT_at hy, consOf_at hy, iaD hy, iaC hz, hw, h1, cellsS_at hz, hq, hq', ws, wsl, opX, int, Zv.bool, intBin, reduceIte, ↓reduceIte, Nat.reduceEqDiff, Nat.reduceAdd, Nat.reduceSub, Nat.reduceLeDiff, Int.reduceLT, Int.reduceLE, Int.reduceEq, Int.reduceBEq, Int.reduceNe, Int.reduceBNe, reduceCtorEq, Nat.reduceBEq] <;> repeat' (first | refine wpG_s ?_ ?_ | refine wpC_s ?_ ?_) <;> intro hgo <;> (try simp only [decide_eq_true_eq, decide_eq_false_iff_not, Bool.not_eq_true', Bool.not_eq_false'] at hgo) <;> simp only [hgo, e17, isType_ok, isT_at hy, consOf_at hy, iaD hy, iaC hz, hw, h1, cellsS_at hz, hq, hq', ws, wsl, opX, int, Zv.bool, intBin, reduceIte, ↓reduceIte, Nat.reduceEqDiff, Nat.reduceAdd, Nat.reduceSub, Nat.reduceLeDiff, Int.reduceLT, Int.reduceLE, Int.reduceEq, Int.reduceBEq, Int.reduceNe, Int.reduceBNe, reduceCtorEq, Nat.reduceBEq])

abbrev sInt : ByteArray := ⟨#[73, 110, 116]⟩
abbrev sE : ByteArray := ⟨#[]⟩
def typeS (d : List Dt) (nm : ByteArray) : Int × Bool := if nm = sInt then (0, true) else match fst? (fun y => decide (y.name = nm)) 0 d with
  | some (n, _) => ((n : Int) + 1, true)
  | none => (0, false)
theorem rtype_ok {d : List Dt} (B : Bd d) (nm : ByteArray) (h : Hp) : callW tab 26 [.d (eDs d), .d (.str nm)] h = some (.tup [.d (eI (typeS d nm).1), .d (.bool (typeS d nm).2)], h) := by
  apply call_wp (fn := f26) rfl rfl
  have hl := B.len
  by_cases hn : nm = sInt
  · (simp only [e26, typeS, hn, ws, wsl, opX, int, Zv.bool, intBin, reduceIte, ↓reduceIte, Nat.reduceEqDiff, Nat.reduceAdd, Nat.reduceSub, Nat.reduceLeDiff, Int.reduceLT, Int.reduceLE, Int.reduceEq, Int.reduceBEq, Int.reduceNe, Int.reduceBNe, reduceCtorEq, Nat.reduceBEq] <;> repeat' (first | refine wpG_s ?_ ?_ | refine wpC_s ?_ ?_) <;> intro hgo <;> (try simp only [decide_eq_true_eq, decide_eq_false_iff_not, Bool.not_eq_true', Bool.not_eq_false'] at hgo) <;> simp only [hgo, e26, typeS, hn, ws, wsl, opX, int, Zv.bool, intBin, reduceIte, ↓reduceIte, Nat.reduceEqDiff, Nat.reduceAdd, Nat.reduceSub, Nat.reduceLeDiff, Int.reduceLT, Int.reduceLE, Int.reduceEq, Int.reduceBEq, Int.reduceNe, Int.reduceBNe, reduceCtorEq, Nat.reduceBEq])
  · skip
    have hloop := loop_find (T := tab) (a := f26l0) (l := d) (p := (fun y => decide (y.name = nm))) (f := fun n => [(0, .d (eDs d)), (1, .d (.str nm)), (6, int n)]) (h := h)
        (by intro n x hx hlt hp; simp only [decide_eq_true_eq, decide_eq_false_iff_not] at hp; all_goals (apply wq_ex.1; (simp only [hlt, hp, e26, iaD hx, wrap_succ (show n < 2 ^ 62 by omega), ws, wsl, opX, int, Zv.bool, intBin, reduceIte, ↓reduceIte, Nat.reduceEqDiff, Nat.reduceAdd, Nat.reduceSub, Nat.reduceLeDiff, Int.reduceLT, Int.reduceLE, Int.reduceEq, Int.reduceBEq, Int.reduceNe, Int.reduceBNe, reduceCtorEq, Nat.reduceBEq] <;> repeat' (first | refine wpG_s ?_ ?_ | refine wpC_s ?_ ?_) <;> intro hgo <;> (try simp only [decide_eq_true_eq, decide_eq_false_iff_not, Bool.not_eq_true', Bool.not_eq_false'] at hgo) <;> simp only [hgo, hlt, hp, e26, iaD hx, wrap_succ (show n < 2 ^ 62 by omega), ws, wsl, opX, int, Zv.bool, intBin, reduceIte, ↓reduceIte, Nat.reduceEqDiff, Nat.reduceAdd, Nat.reduceSub, Nat.reduceLeDiff, Int.reduceLT, Int.reduceLE, Int.reduceEq, Int.reduceBEq, Int.reduceNe, Int.reduceBNe, reduceCtorEq, Nat.reduceBEq])))
        (by intro n x hx hlt hp; simp only [decide_eq_true_eq, decide_eq_false_iff_not] at hp; all_goals (apply wq_ex.1; (simp only [hlt, hp, e26, iaD hx, wrap_succ (show n < 2 ^ 62 by omega), ws, wsl, opX, int, Zv.bool, intBin, reduceIte, ↓reduceIte, Nat.reduceEqDiff, Nat.reduceAdd, Nat.reduceSub, Nat.reduceLeDiff, Int.reduceLT, Int.reduceLE, Int.reduceEq, Int.reduceBEq, Int.reduceNe, Int.reduceBNe, reduceCtorEq, Nat.reduceBEq] <;> repeat' (first | refine wpG_s ?_ ?_ | refine wpC_s ?_ ?_) <;> intro hgo <;> (try simp only [decide_eq_true_eq, decide_eq_false_iff_not, Bool.not_eq_true', Bool.not_eq_false'] at hgo) <;> simp only [hgo, hlt, hp, e26, iaD hx, wrap_succ (show n < 2 ^ 62 by omega), ws, wsl, opX, int, Zv.bool, intBin, reduceIte, ↓reduceIte, Nat.reduceEqDiff, Nat.reduceAdd, Nat.reduceSub, Nat.reduceLeDiff, Int.reduceLT, Int.reduceLE, Int.reduceEq, Int.reduceBEq, Int.reduceNe, Int.reduceBNe, reduceCtorEq, Nat.reduceBEq]) <;> rfl))
        (by apply wq_ex.1; (simp only [e26, ws, wsl, opX, int, Zv.bool, intBin, reduceIte, ↓reduceIte, Nat.reduceEqDiff, Nat.reduceAdd, Nat.reduceSub, Nat.reduceLeDiff, Int.reduceLT, Int.reduceLE, Int.reduceEq, Int.reduceBEq, Int.reduceNe, Int.reduceBNe, reduceCtorEq, Nat.reduceBEq] <;> repeat' (first | refine wpG_s ?_ ?_ | refine wpC_s ?_ ?_) <;> intro hgo <;> (try simp only [decide_eq_true_eq, decide_eq_false_iff_not, Bool.not_eq_true', Bool.not_eq_false'] at hgo) <;> simp only [hgo, e26, ws, wsl, opX, int, Zv.bool, intBin, reduceIte, ↓reduceIte, Nat.reduceEqDiff, Nat.reduceAdd, Nat.reduceSub, Nat.reduceLeDiff, Int.reduceLT, Int.reduceLE, Int.reduceEq, Int.reduceBEq, Int.reduceNe, Int.reduceBNe, reduceCtorEq, Nat.reduceBEq]) <;> rfl)
        (by intro n x; simp) (by simp)
    simp only [int, Zv.bool, Int.cast_ofNat_Int] at hloop
    (simp only [e26, typeS, hn, wq_of hloop, ws, wsl, opX, int, Zv.bool, intBin, reduceIte, ↓reduceIte, Nat.reduceEqDiff, Nat.reduceAdd, Nat.reduceSub, Nat.reduceLeDiff, Int.reduceLT, Int.reduceLE, Int.reduceEq, Int.reduceBEq, Int.reduceNe, Int.reduceBNe, reduceCtorEq, Nat.reduceBEq] <;> repeat' (first | refine wpG_s ?_ ?_ | refine wpC_s ?_ ?_) <;> intro hgo <;> (try simp only [decide_eq_true_eq, decide_eq_false_iff_not, Bool.not_eq_true', Bool.not_eq_false'] at hgo) <;> simp only [hgo, e26, typeS, hn, wq_of hloop, ws, wsl, opX, int, Zv.bool, intBin, reduceIte, ↓reduceIte, Nat.reduceEqDiff, Nat.reduceAdd, Nat.reduceSub, Nat.reduceLeDiff, Int.reduceLT, Int.reduceLE, Int.reduceEq, Int.reduceBEq, Int.reduceNe, Int.reduceBNe, reduceCtorEq, Nat.reduceBEq])
    cases hq : fst? (fun y => decide (y.name = nm)) 0 d with
    | none => (simp only [e26, ws, wsl, opX, int, Zv.bool, intBin, reduceIte, ↓reduceIte, Nat.reduceEqDiff, Nat.reduceAdd, Nat.reduceSub, Nat.reduceLeDiff, Int.reduceLT, Int.reduceLE, Int.reduceEq, Int.reduceBEq, Int.reduceNe, Int.reduceBNe, reduceCtorEq, Nat.reduceBEq] <;> repeat' (first | refine wpG_s ?_ ?_ | refine wpC_s ?_ ?_) <;> intro hgo <;> (try simp only [decide_eq_true_eq, decide_eq_false_iff_not, Bool.not_eq_true', Bool.not_eq_false'] at hgo) <;> simp only [hgo, e26, ws, wsl, opX, int, Zv.bool, intBin, reduceIte, ↓reduceIte, Nat.reduceEqDiff, Nat.reduceAdd, Nat.reduceSub, Nat.reduceLeDiff, Int.reduceLT, Int.reduceLE, Int.reduceEq, Int.reduceBEq, Int.reduceNe, Int.reduceBNe, reduceCtorEq, Nat.reduceBEq])
    | some q =>
      obtain ⟨n, y⟩ := q
      have := lt_of_get (fst_some hq).2.1
      (simp only [e26, Int.natCast_add, ws, wsl, opX, int, Zv.bool, intBin, reduceIte, ↓reduceIte, Nat.reduceEqDiff, Nat.reduceAdd, Nat.reduceSub, Nat.reduceLeDiff, Int.reduceLT, Int.reduceLE, Int.reduceEq, Int.reduceBEq, Int.reduceNe, Int.reduceBNe, reduceCtorEq, Nat.reduceBEq] <;> repeat' (first | refine wpG_s ?_ ?_ | refine wpC_s ?_ ?_) <;> intro hgo <;> (try simp only [decide_eq_true_eq, decide_eq_false_iff_not, Bool.not_eq_true', Bool.not_eq_false'] at hgo) <;> simp only [hgo, e26, Int.natCast_add, ws, wsl, opX, int, Zv.bool, intBin, reduceIte, ↓reduceIte, Nat.reduceEqDiff, Nat.reduceAdd, Nat.reduceSub, Nat.reduceLeDiff, Int.reduceLT, Int.reduceLE, Int.reduceEq, Int.reduceBEq, Int.reduceNe, Int.reduceBNe, reduceCtorEq, Nat.reduceBEq])
-- ws, wsl, opX, int, Zv.bool, intBin, reduceIte, ↓reduceIte, Nat.reduceEqDiff, Nat.reduceAdd, Nat.reduceSub, Nat.reduceLeDiff, Int.reduceLT, Int.reduceLE, Int.reduceEq, Int.reduceBEq, Int.reduceNe, Int.reduceBNe, reduceCtorEq, Nat.reduceBEq
end Zc17
