/-
  Tables of data types, and the small functions on them.
-/
import Derived.Test.YtfbkbopmenilkaaTypes
import Derived.Test.YtfbkbopmenilkaaZc27X
import Derived.Test.YtfbkbopmenilkaaZwWp
set_option linter.unusedSimpArgs false
set_option maxHeartbeats 4000000
namespace Zc27
open Go Zv Zs

structure Cn where
  name : ByteArray
  flds : List Int
structure Dt where
  name : ByteArray
  cons : List Cn

abbrev eI (n : Int) : D := .int .i64 n
abbrev eIs (l : List Int) : D := .lst (l.map eI)
abbrev eC (c : Cn) : D := .agg [.str c.name, .lst (c.flds.map eI)]
abbrev eCs (l : List Cn) : D := .lst (l.map eC)
abbrev eD (d : Dt) : D := .agg [.str d.name, .lst (d.cons.map eC)]
abbrev eDs (l : List Dt) : D := .lst (l.map eD)

theorem iaC {l : List Cn} {n : Nat} {x : Cn} (hx : l[n]? = some x) : ia 2 (.d (.lst (l.map eC))) (.d (.int .i64 (n : Int))) = some (.fp (eC x) 0) := ia_map (f := eC) .i64 hx rfl
theorem iaD {l : List Dt} {n : Nat} {x : Dt} (hx : l[n]? = some x) : ia 2 (.d (.lst (l.map eD))) (.d (.int .i64 (n : Int))) = some (.fp (eD x) 0) := ia_map (f := eD) .i64 hx rfl
theorem iaI {l : List Int} {n : Nat} {x : Int} (hx : l[n]? = some x) : ia 1 (.d (.lst (l.map eI))) (.d (.int .i64 (n : Int))) = some (.fp (eI x) 0) := ia_map (f := eI) .i64 hx rfl
def isT (d : List Dt) (t : Int) : Bool := decide (0 ≤ t) && decide (t ≤ d.length)

theorem exists_ok (d : List Dt) (t : Int) (h : Hp) : callW tab 66 [.d (eDs d), .d (eI t)] h = some (.d (.bool (isT d t)), h) := by
  refine call_wp (fn := f66) rfl rfl ?_
  (simp only [e66, isT, ws, wsl, opX, int, Zv.bool, intBin, reduceIte, ↓reduceIte, Nat.reduceEqDiff, Nat.reduceAdd, Nat.reduceSub, Nat.reduceLeDiff, Int.reduceLT, Int.reduceLE, Int.reduceEq, Int.reduceBEq, Int.reduceNe, Int.reduceBNe, reduceCtorEq, Nat.reduceBEq] <;> repeat' (first | refine wpG_s ?_ ?_ | refine wpC_s ?_ ?_) <;> intro hgo <;> (try simp only [decide_eq_true_eq, decide_eq_false_iff_not, Bool.not_eq_true', Bool.not_eq_false'] at hgo) <;> simp only [hgo, e66, isT, ws, wsl, opX, int, Zv.bool, intBin, reduceIte, ↓reduceIte, Nat.reduceEqDiff, Nat.reduceAdd, Nat.reduceSub, Nat.reduceLeDiff, Int.reduceLT, Int.reduceLE, Int.reduceEq, Int.reduceBEq, Int.reduceNe, Int.reduceBNe, reduceCtorEq, Nat.reduceBEq])
theorem isType_ok (d : List Dt) (t : Int) (h : Hp) : callW tab 96 [.d (eDs d), .d (eI t)] h = some (.d (.bool (isT d t)), h) := by
  refine call_wp (fn := f96) rfl rfl ?_
  (simp only [e96, isT, ws, wsl, opX, int, Zv.bool, intBin, reduceIte, ↓reduceIte, Nat.reduceEqDiff, Nat.reduceAdd, Nat.reduceSub, Nat.reduceLeDiff, Int.reduceLT, Int.reduceLE, Int.reduceEq, Int.reduceBEq, Int.reduceNe, Int.reduceBNe, reduceCtorEq, Nat.reduceBEq] <;> repeat' (first | refine wpG_s ?_ ?_ | refine wpC_s ?_ ?_) <;> intro hgo <;> (try simp only [decide_eq_true_eq, decide_eq_false_iff_not, Bool.not_eq_true', Bool.not_eq_false'] at hgo) <;> simp only [hgo, e96, isT, ws, wsl, opX, int, Zv.bool, intBin, reduceIte, ↓reduceIte, Nat.reduceEqDiff, Nat.reduceAdd, Nat.reduceSub, Nat.reduceLeDiff, Int.reduceLT, Int.reduceLE, Int.reduceEq, Int.reduceBEq, Int.reduceNe, Int.reduceBNe, reduceCtorEq, Nat.reduceBEq])
  trace_state
  -- ws, wsl, opX, int, Zv.bool, intBin, reduceIte, ↓reduceIte, Nat.reduceEqDiff, Nat.reduceAdd, Nat.reduceSub, Nat.reduceLeDiff, Int.reduceLT, Int.reduceLE, Int.reduceEq, Int.reduceBEq, Int.reduceNe, Int.reduceBNe, reduceCtorEq, Nat.reduceBEq

def consOf (d : List Dt) (t : Int) : List Cn := if 1 ≤ t then ((d[(t - 1).toNat]?).map Dt.cons).getD [] else []
theorem consOf_nat (d : List Dt) (n : Nat) : consOf d ((n : Int) + 1) = ((d[n]?).map Dt.cons).getD [] := by
  unfold consOf
  rw [if_pos (by omega), show ((n : Int) + 1 - 1).toNat = n by omega]
theorem consOf_at {d : List Dt} {n : Nat} {y : Dt} (hy : d[n]? = some y) : consOf d ((n : Int) + 1) = y.cons := by rw [consOf_nat, hy]; rfl
theorem lt_of_get {α : Type} {l : List α} {n : Nat} {x : α} (h : l[n]? = some x) : n < l.length := (List.getElem?_eq_some_iff.1 h).1
theorem get_of_lt {α : Type} {l : List α} {n : Nat} (h : n < l.length) : ∃ x, l[n]? = some x := ⟨l[n], List.getElem?_eq_getElem h⟩
theorem wrap_sub1 {n : Nat} (h : n < 2 ^ 62) : IntKind.i64.wrap ((n : Int) + 1 - 1) = (n : Int) := by rw [wrap_ok (by omega) (by omega)]; omega
/-- A type: below one, above the table, or one of the table. -/
theorem tcase (d : List Dt) (t : Int) : t < 1 ∨ (d.length : Int) < t ∨ ∃ n : Nat, ∃ y, t = (n : Int) + 1 ∧ d[n]? = some y := by
  by_cases h0 : t < 1
  · exact .inl h0
  · by_cases h1 : (d.length : Int) < t
    · exact .inr (.inl h1)
    · obtain ⟨y, hy⟩ := get_of_lt (l := d) (n := (t - 1).toNat) (by omega)
      exact .inr (.inr ⟨(t - 1).toNat, y, by omega, hy⟩)

theorem idxFC (l : List Cn) (cv : V) (p : Cn → Bool) (h : Hp) (hl : l.length < 2 ^ 60) (hcv : norm cv = cv) (hc : ∀ c, c ∈ l → cW tab cv [.d (eC c)] h = some (.d (.bool (p c)), h)) :
    callW tab 99 [.d (.lst (l.map eC)), cv] h = some (.d (eI (idxZ p l)), h) := by
  refine call_wp (fn := f99) rfl rfl ?_
  have hloop := loop_find (T := tab) (a := f99l0) (l := l) (p := p) (f := fun n => [(0, .d (.lst (l.map eC))), (1, cv), (7, int l.length), (8, int n)]) (h := h)
      (by intro n x hx hlt hp; have hcall := hc x (List.mem_of_getElem? hx); all_goals (apply wq_ex.1; (simp only [hlt, hp, e99, iaC hx, hcall, wrap_succ (show n < 2 ^ 62 by omega), ws, wsl, opX, int, Zv.bool, intBin, reduceIte, ↓reduceIte, Nat.reduceEqDiff, Nat.reduceAdd, Nat.reduceSub, Nat.reduceLeDiff, Int.reduceLT, Int.reduceLE, Int.reduceEq, Int.reduceBEq, Int.reduceNe, Int.reduceBNe, reduceCtorEq, Nat.reduceBEq] <;> repeat' (first | refine wpG_s ?_ ?_ | refine wpC_s ?_ ?_) <;> intro hgo <;> (try simp only [decide_eq_true_eq, decide_eq_false_iff_not, Bool.not_eq_true', Bool.not_eq_false'] at hgo) <;> simp only [hgo, hlt, hp, e99, iaC hx, hcall, wrap_succ (show n < 2 ^ 62 by omega), ws, wsl, opX, int, Zv.bool, intBin, reduceIte, ↓reduceIte, Nat.reduceEqDiff, Nat.reduceAdd, Nat.reduceSub, Nat.reduceLeDiff, Int.reduceLT, Int.reduceLE, Int.reduceEq, Int.reduceBEq, Int.reduceNe, Int.reduceBNe, reduceCtorEq, Nat.reduceBEq])))
      (by intro n x hx hlt hp; have hcall := hc x (List.mem_of_getElem? hx); all_goals (apply wq_ex.1; (simp only [hlt, hp, e99, iaC hx, hcall, wrap_succ (show n < 2 ^ 62 by omega), ws, wsl, opX, int, Zv.bool, intBin, reduceIte, ↓reduceIte, Nat.reduceEqDiff, Nat.reduceAdd, Nat.reduceSub, Nat.reduceLeDiff, Int.reduceLT, Int.reduceLE, Int.reduceEq, Int.reduceBEq, Int.reduceNe, Int.reduceBNe, reduceCtorEq, Nat.reduceBEq] <;> repeat' (first | refine wpG_s ?_ ?_ | refine wpC_s ?_ ?_) <;> intro hgo <;> (try simp only [decide_eq_true_eq, decide_eq_false_iff_not, Bool.not_eq_true', Bool.not_eq_false'] at hgo) <;> simp only [hgo, hlt, hp, e99, iaC hx, hcall, wrap_succ (show n < 2 ^ 62 by omega), ws, wsl, opX, int, Zv.bool, intBin, reduceIte, ↓reduceIte, Nat.reduceEqDiff, Nat.reduceAdd, Nat.reduceSub, Nat.reduceLeDiff, Int.reduceLT, Int.reduceLE, Int.reduceEq, Int.reduceBEq, Int.reduceNe, Int.reduceBNe, reduceCtorEq, Nat.reduceBEq]) <;> rfl))
      (by apply wq_ex.1; (simp only [e99, ws, wsl, opX, int, Zv.bool, intBin, reduceIte, ↓reduceIte, Nat.reduceEqDiff, Nat.reduceAdd, Nat.reduceSub, Nat.reduceLeDiff, Int.reduceLT, Int.reduceLE, Int.reduceEq, Int.reduceBEq, Int.reduceNe, Int.reduceBNe, reduceCtorEq, Nat.reduceBEq] <;> repeat' (first | refine wpG_s ?_ ?_ | refine wpC_s ?_ ?_) <;> intro hgo <;> (try simp only [decide_eq_true_eq, decide_eq_false_iff_not, Bool.not_eq_true', Bool.not_eq_false'] at hgo) <;> simp only [hgo, e99, ws, wsl, opX, int, Zv.bool, intBin, reduceIte, ↓reduceIte, Nat.reduceEqDiff, Nat.reduceAdd, Nat.reduceSub, Nat.reduceLeDiff, Int.reduceLT, Int.reduceLE, Int.reduceEq, Int.reduceBEq, Int.reduceNe, Int.reduceBNe, reduceCtorEq, Nat.reduceBEq]) <;> rfl)
      (by intro n x; simp) (by simp)
  simp only [int, Zv.bool, Int.cast_ofNat_Int] at hloop
  (simp only [e99, hcv, wq_of hloop, ws, wsl, opX, int, Zv.bool, intBin, reduceIte, ↓reduceIte, Nat.reduceEqDiff, Nat.reduceAdd, Nat.reduceSub, Nat.reduceLeDiff, Int.reduceLT, Int.reduceLE, Int.reduceEq, Int.reduceBEq, Int.reduceNe, Int.reduceBNe, reduceCtorEq, Nat.reduceBEq] <;> repeat' (first | refine wpG_s ?_ ?_ | refine wpC_s ?_ ?_) <;> intro hgo <;> (try simp only [decide_eq_true_eq, decide_eq_false_iff_not, Bool.not_eq_true', Bool.not_eq_false'] at hgo) <;> simp only [hgo, e99, hcv, wq_of hloop, ws, wsl, opX, int, Zv.bool, intBin, reduceIte, ↓reduceIte, Nat.reduceEqDiff, Nat.reduceAdd, Nat.reduceSub, Nat.reduceLeDiff, Int.reduceLT, Int.reduceLE, Int.reduceEq, Int.reduceBEq, Int.reduceNe, Int.reduceBNe, reduceCtorEq, Nat.reduceBEq])
  unfold idxZ
  cases fst? p 0 l with
  | none => (simp only [e99, ws, wsl, opX, int, Zv.bool, intBin, reduceIte, ↓reduceIte, Nat.reduceEqDiff, Nat.reduceAdd, Nat.reduceSub, Nat.reduceLeDiff, Int.reduceLT, Int.reduceLE, Int.reduceEq, Int.reduceBEq, Int.reduceNe, Int.reduceBNe, reduceCtorEq, Nat.reduceBEq] <;> repeat' (first | refine wpG_s ?_ ?_ | refine wpC_s ?_ ?_) <;> intro hgo <;> (try simp only [decide_eq_true_eq, decide_eq_false_iff_not, Bool.not_eq_true', Bool.not_eq_false'] at hgo) <;> simp only [hgo, e99, ws, wsl, opX, int, Zv.bool, intBin, reduceIte, ↓reduceIte, Nat.reduceEqDiff, Nat.reduceAdd, Nat.reduceSub, Nat.reduceLeDiff, Int.reduceLT, Int.reduceLE, Int.reduceEq, Int.reduceBEq, Int.reduceNe, Int.reduceBNe, reduceCtorEq, Nat.reduceBEq])
  | some n => (simp only [e99, ws, wsl, opX, int, Zv.bool, intBin, reduceIte, ↓reduceIte, Nat.reduceEqDiff, Nat.reduceAdd, Nat.reduceSub, Nat.reduceLeDiff, Int.reduceLT, Int.reduceLE, Int.reduceEq, Int.reduceBEq, Int.reduceNe, Int.reduceBNe, reduceCtorEq, Nat.reduceBEq] <;> repeat' (first | refine wpG_s ?_ ?_ | refine wpC_s ?_ ?_) <;> intro hgo <;> (try simp only [decide_eq_true_eq, decide_eq_false_iff_not, Bool.not_eq_true', Bool.not_eq_false'] at hgo) <;> simp only [hgo, e99, ws, wsl, opX, int, Zv.bool, intBin, reduceIte, ↓reduceIte, Nat.reduceEqDiff, Nat.reduceAdd, Nat.reduceSub, Nat.reduceLeDiff, Int.reduceLT, Int.reduceLE, Int.reduceEq, Int.reduceBEq, Int.reduceNe, Int.reduceBNe, reduceCtorEq, Nat.reduceBEq])
theorem conFC (l : List Cn) (cv : V) (p : Cn → Bool) (h : Hp) (hl : l.length < 2 ^ 60) (hcv : norm cv = cv) (hc : ∀ c, c ∈ l → cW tab cv [.d (eC c)] h = some (.d (.bool (p c)), h)) :
    callW tab 87 [.d (.lst (l.map eC)), cv] h = some (.d (.bool (l.any p)), h) := by
  refine call_wp (fn := f87) rfl rfl ?_
  have hi := idxFC l cv p h hl hcv hc
  (simp only [e87, hcv, hi, idxZ_nn, Bool.decide_eq_true, ws, wsl, opX, int, Zv.bool, intBin, reduceIte, ↓reduceIte, Nat.reduceEqDiff, Nat.reduceAdd, Nat.reduceSub, Nat.reduceLeDiff, Int.reduceLT, Int.reduceLE, Int.reduceEq, Int.reduceBEq, Int.reduceNe, Int.reduceBNe, reduceCtorEq, Nat.reduceBEq] <;> repeat' (first | refine wpG_s ?_ ?_ | refine wpC_s ?_ ?_) <;> intro hgo <;> (try simp only [decide_eq_true_eq, decide_eq_false_iff_not, Bool.not_eq_true', Bool.not_eq_false'] at hgo) <;> simp only [hgo, e87, hcv, hi, idxZ_nn, Bool.decide_eq_true, ws, wsl, opX, int, Zv.bool, intBin, reduceIte, ↓reduceIte, Nat.reduceEqDiff, Nat.reduceAdd, Nat.reduceSub, Nat.reduceLeDiff, Int.reduceLT, Int.reduceLE, Int.reduceEq, Int.reduceBEq, Int.reduceNe, Int.reduceBNe, reduceCtorEq, Nat.reduceBEq])

theorem idxFT (l : List Int) (cv : V) (p : Int → Bool) (h : Hp) (hl : l.length < 2 ^ 60) (hcv : norm cv = cv) (hc : ∀ c, c ∈ l → cW tab cv [.d (eI c)] h = some (.d (.bool (p c)), h)) :
    callW tab 68 [.d (.lst (l.map eI)), cv] h = some (.d (eI (idxZ p l)), h) := by
  refine call_wp (fn := f68) rfl rfl ?_
  have hloop := loop_find (T := tab) (a := f68l0) (l := l) (p := p) (f := fun n => [(0, .d (.lst (l.map eI))), (1, cv), (7, int l.length), (8, int n)]) (h := h)
      (by intro n x hx hlt hp; have hcall := hc x (List.mem_of_getElem? hx); all_goals (apply wq_ex.1; (simp only [hlt, hp, e68, iaI hx, hcall, wrap_succ (show n < 2 ^ 62 by omega), ws, wsl, opX, int, Zv.bool, intBin, reduceIte, ↓reduceIte, Nat.reduceEqDiff, Nat.reduceAdd, Nat.reduceSub, Nat.reduceLeDiff, Int.reduceLT, Int.reduceLE, Int.reduceEq, Int.reduceBEq, Int.reduceNe, Int.reduceBNe, reduceCtorEq, Nat.reduceBEq] <;> repeat' (first | refine wpG_s ?_ ?_ | refine wpC_s ?_ ?_) <;> intro hgo <;> (try simp only [decide_eq_true_eq, decide_eq_false_iff_not, Bool.not_eq_true', Bool.not_eq_false'] at hgo) <;> simp only [hgo, hlt, hp, e68, iaI hx, hcall, wrap_succ (show n < 2 ^ 62 by omega), ws, wsl, opX, int, Zv.bool, intBin, reduceIte, ↓reduceIte, Nat.reduceEqDiff, Nat.reduceAdd, Nat.reduceSub, Nat.reduceLeDiff, Int.reduceLT, Int.reduceLE, Int.reduceEq, Int.reduceBEq, Int.reduceNe, Int.reduceBNe, reduceCtorEq, Nat.reduceBEq])))
      (by intro n x hx hlt hp; have hcall := hc x (List.mem_of_getElem? hx); all_goals (apply wq_ex.1; (simp only [hlt, hp, e68, iaI hx, hcall, wrap_succ (show n < 2 ^ 62 by omega), ws, wsl, opX, int, Zv.bool, intBin, reduceIte, ↓reduceIte, Nat.reduceEqDiff, Nat.reduceAdd, Nat.reduceSub, Nat.reduceLeDiff, Int.reduceLT, Int.reduceLE, Int.reduceEq, Int.reduceBEq, Int.reduceNe, Int.reduceBNe, reduceCtorEq, Nat.reduceBEq] <;> repeat' (first | refine wpG_s ?_ ?_ | refine wpC_s ?_ ?_) <;> intro hgo <;> (try simp only [decide_eq_true_eq, decide_eq_false_iff_not, Bool.not_eq_true', Bool.not_eq_false'] at hgo) <;> simp only [hgo, hlt, hp, e68, iaI hx, hcall, wrap_succ (show n < 2 ^ 62 by omega), ws, wsl, opX, int, Zv.bool, intBin, reduceIte, ↓reduceIte, Nat.reduceEqDiff, Nat.reduceAdd, Nat.reduceSub, Nat.reduceLeDiff, Int.reduceLT, Int.reduceLE, Int.reduceEq, Int.reduceBEq, Int.reduceNe, Int.reduceBNe, reduceCtorEq, Nat.reduceBEq]) <;> rfl))
      (by apply wq_ex.1; (simp only [e68, ws, wsl, opX, int, Zv.bool, intBin, reduceIte, ↓reduceIte, Nat.reduceEqDiff, Nat.reduceAdd, Nat.reduceSub, Nat.reduceLeDiff, Int.reduceLT, Int.reduceLE, Int.reduceEq, Int.reduceBEq, Int.reduceNe, Int.reduceBNe, reduceCtorEq, Nat.reduceBEq] <;> repeat' (first | refine wpG_s ?_ ?_ | refine wpC_s ?_ ?_) <;> intro hgo <;> (try simp only [decide_eq_true_eq, decide_eq_false_iff_not, Bool.not_eq_true', Bool.not_eq_false'] at hgo) <;> simp only [hgo, e68, ws, wsl, opX, int, Zv.bool, intBin, reduceIte, ↓reduceIte, Nat.reduceEqDiff, Nat.reduceAdd, Nat.reduceSub, Nat.reduceLeDiff, Int.reduceLT, Int.reduceLE, Int.reduceEq, Int.reduceBEq, Int.reduceNe, Int.reduceBNe, reduceCtorEq, Nat.reduceBEq]) <;> rfl)
      (by intro n x; simp) (by simp)
  simp only [int, Zv.bool, Int.cast_ofNat_Int] at hloop
  (simp only [e68, hcv, wq_of hloop, ws, wsl, opX, int, Zv.bool, intBin, reduceIte, ↓reduceIte, Nat.reduceEqDiff, Nat.reduceAdd, Nat.reduceSub, Nat.reduceLeDiff, Int.reduceLT, Int.reduceLE, Int.reduceEq, Int.reduceBEq, Int.reduceNe, Int.reduceBNe, reduceCtorEq, Nat.reduceBEq] <;> repeat' (first | refine wpG_s ?_ ?_ | refine wpC_s ?_ ?_) <;> intro hgo <;> (try simp only [decide_eq_true_eq, decide_eq_false_iff_not, Bool.not_eq_true', Bool.not_eq_false'] at hgo) <;> simp only [hgo, e68, hcv, wq_of hloop, ws, wsl, opX, int, Zv.bool, intBin, reduceIte, ↓reduceIte, Nat.reduceEqDiff, Nat.reduceAdd, Nat.reduceSub, Nat.reduceLeDiff, Int.reduceLT, Int.reduceLE, Int.reduceEq, Int.reduceBEq, Int.reduceNe, Int.reduceBNe, reduceCtorEq, Nat.reduceBEq])
  unfold idxZ
  cases fst? p 0 l with
  | none => (simp only [e68, ws, wsl, opX, int, Zv.bool, intBin, reduceIte, ↓reduceIte, Nat.reduceEqDiff, Nat.reduceAdd, Nat.reduceSub, Nat.reduceLeDiff, Int.reduceLT, Int.reduceLE, Int.reduceEq, Int.reduceBEq, Int.reduceNe, Int.reduceBNe, reduceCtorEq, Nat.reduceBEq] <;> repeat' (first | refine wpG_s ?_ ?_ | refine wpC_s ?_ ?_) <;> intro hgo <;> (try simp only [decide_eq_true_eq, decide_eq_false_iff_not, Bool.not_eq_true', Bool.not_eq_false'] at hgo) <;> simp only [hgo, e68, ws, wsl, opX, int, Zv.bool, intBin, reduceIte, ↓reduceIte, Nat.reduceEqDiff, Nat.reduceAdd, Nat.reduceSub, Nat.reduceLeDiff, Int.reduceLT, Int.reduceLE, Int.reduceEq, Int.reduceBEq, Int.reduceNe, Int.reduceBNe, reduceCtorEq, Nat.reduceBEq])
  | some n => (simp only [e68, ws, wsl, opX, int, Zv.bool, intBin, reduceIte, ↓reduceIte, Nat.reduceEqDiff, Nat.reduceAdd, Nat.reduceSub, Nat.reduceLeDiff, Int.reduceLT, Int.reduceLE, Int.reduceEq, Int.reduceBEq, Int.reduceNe, Int.reduceBNe, reduceCtorEq, Nat.reduceBEq] <;> repeat' (first | refine wpG_s ?_ ?_ | refine wpC_s ?_ ?_) <;> intro hgo <;> (try simp only [decide_eq_true_eq, decide_eq_false_iff_not, Bool.not_eq_true', Bool.not_eq_false'] at hgo) <;> simp only [hgo, e68, ws, wsl, opX, int, Zv.bool, intBin, reduceIte, ↓reduceIte, Nat.reduceEqDiff, Nat.reduceAdd, Nat.reduceSub, Nat.reduceLeDiff, Int.reduceLT, Int.reduceLE, Int.reduceEq, Int.reduceBEq, Int.reduceNe, Int.reduceBNe, reduceCtorEq, Nat.reduceBEq])
theorem conFT (l : List Int) (cv : V) (p : Int → Bool) (h : Hp) (hl : l.length < 2 ^ 60) (hcv : norm cv = cv) (hc : ∀ c, c ∈ l → cW tab cv [.d (eI c)] h = some (.d (.bool (p c)), h)) :
    callW tab 34 [.d (.lst (l.map eI)), cv] h = some (.d (.bool (l.any p)), h) := by
  refine call_wp (fn := f34) rfl rfl ?_
  have hi := idxFT l cv p h hl hcv hc
  (simp only [e34, hcv, hi, idxZ_nn, Bool.decide_eq_true, ws, wsl, opX, int, Zv.bool, intBin, reduceIte, ↓reduceIte, Nat.reduceEqDiff, Nat.reduceAdd, Nat.reduceSub, Nat.reduceLeDiff, Int.reduceLT, Int.reduceLE, Int.reduceEq, Int.reduceBEq, Int.reduceNe, Int.reduceBNe, reduceCtorEq, Nat.reduceBEq] <;> repeat' (first | refine wpG_s ?_ ?_ | refine wpC_s ?_ ?_) <;> intro hgo <;> (try simp only [decide_eq_true_eq, decide_eq_false_iff_not, Bool.not_eq_true', Bool.not_eq_false'] at hgo) <;> simp only [hgo, e34, hcv, hi, idxZ_nn, Bool.decide_eq_true, ws, wsl, opX, int, Zv.bool, intBin, reduceIte, ↓reduceIte, Nat.reduceEqDiff, Nat.reduceAdd, Nat.reduceSub, Nat.reduceLeDiff, Int.reduceLT, Int.reduceLE, Int.reduceEq, Int.reduceBEq, Int.reduceNe, Int.reduceBNe, reduceCtorEq, Nat.reduceBEq])
-- ws, wsl, opX, int, Zv.bool, intBin, reduceIte, ↓reduceIte, Nat.reduceEqDiff, Nat.reduceAdd, Nat.reduceSub, Nat.reduceLeDiff, Int.reduceLT, Int.reduceLE, Int.reduceEq, Int.reduceBEq, Int.reduceNe, Int.reduceBNe, reduceCtorEq, Nat.reduceBEq
end Zc27
