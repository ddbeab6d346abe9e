/-
  Flat, Cells, Type, Con and Name.
-/
import Derived.Test.YtfbkbopmenilkaaZc27R1
set_option linter.unusedSimpArgs false
set_option maxHeartbeats 4000000
namespace Zc27
open Go Zv Zs

/-- A table within bounds. -/
structure Bd (d : List Dt) : Prop where
  len : d.length ≤ 100
  cons : ∀ y, y ∈ d → y.cons.length ≤ 30
  flds : ∀ y, y ∈ d → ∀ c, c ∈ y.cons → c.flds.length ≤ 20
theorem Bd.at {d : List Dt} (B : Bd d) {m : Nat} {y : Dt} (hy : d[m]? = some y) : m < 100 ∧ m < d.length ∧ y.cons.length ≤ 30 := by
  have := lt_of_get hy
  have := B.len
  exact ⟨by omega, by omega, B.cons y (List.mem_of_getElem? hy)⟩
theorem Bd.cat {d : List Dt} (B : Bd d) {m k : Nat} {y : Dt} {c : Cn} (hy : d[m]? = some y) (hc : y.cons[k]? = some c) : k < 30 ∧ c.flds.length ≤ 20 := by
  have := (B.at hy).2.2
  have := lt_of_get hc
  exact ⟨by omega, B.flds y (List.mem_of_getElem? hy) c (List.mem_of_getElem? hc)⟩
theorem tcase4 (d : List Dt) (t : Int) : t < 0 ∨ t = 0 ∨ (d.length : Int) < t ∨ ∃ n : Nat, ∃ y, t = (n : Int) + 1 ∧ d[n]? = some y := by
  rcases tcase d t with h | h | h
  · by_cases h0 : t = 0
    · exact .inr (.inl h0)
    · exact .inl (by omega)
  · exact .inr (.inr (.inl h))
  · exact .inr (.inr (.inr h))
theorem isT_lo {d : List Dt} {t : Int} (h : t < 0) : isT d t = false := by unfold isT; rw [decide_eq_false (by omega)]; rfl
theorem isT_zero (d : List Dt) : isT d 0 = true := by simp [isT]
theorem isT_hi {d : List Dt} {t : Int} (h : (d.length : Int) < t) : isT d t = false := by unfold isT; rw [decide_eq_false (p := t ≤ _) (by omega), Bool.and_false]
theorem isT_at {d : List Dt} {n : Nat} {y : Dt} (h : d[n]? = some y) : isT d ((n : Int) + 1) = true := by
  have := lt_of_get h
  unfold isT; rw [decide_eq_true (by omega), decide_eq_true (by omega)]; rfl
theorem consOf_lo {d : List Dt} {t : Int} (h : t < 1) : consOf d t = [] := by unfold consOf; rw [if_neg (by omega)]
theorem consOf_hi {d : List Dt} {t : Int} (h : (d.length : Int) < t) : consOf d t = [] := by
  unfold consOf
  split
  · rw [List.getElem?_eq_none (by omega)]; rfl
  · rfl
theorem consOf_len {d : List Dt} (B : Bd d) (t : Int) : (consOf d t).length ≤ 30 := by
  rcases tcase d t with h | h | ⟨n, y, rfl, hy⟩
  · rw [consOf_lo h]; simp
  · rw [consOf_hi h]; simp
  · rw [consOf_at hy]; exact (B.at hy).2.2

def hasF (c : Cn) : Bool := decide (0 < c.flds.length)
def flatS (d : List Dt) (t : Int) : Bool := isT d t && !(consOf d t).any hasF

def cellsS (l : List Cn) (k : Int) : Int := if k < 0 then 0 else match l[k.toNat]? with
  | some c => if c.flds.length = 0 then 0 else 1
  | none => 0
theorem kcase {α : Type} (l : List α) (k : Int) : k < 0 ∨ (l.length : Int) ≤ k ∨ ∃ n : Nat, ∃ y, k = (n : Int) ∧ l[n]? = some y := by
  by_cases h0 : k < 0
  · exact .inl h0
  · by_cases h1 : (l.length : Int) ≤ k
    · exact .inr (.inl h1)
    · obtain ⟨y, hy⟩ := get_of_lt (l := l) (n := k.toNat) (by omega)
      exact .inr (.inr ⟨k.toNat, y, by omega, hy⟩)
theorem cellsS_lo {l : List Cn} {k : Int} (h : k < 0) : cellsS l k = 0 := by unfold cellsS; rw [if_pos h]
theorem cellsS_hi {l : List Cn} {k : Int} (h : (l.length : Int) ≤ k) : cellsS l k = 0 := by
  unfold cellsS
  rw [List.getElem?_eq_none (by omega)]; simp
theorem cellsS_at {l : List Cn} {n : Nat} {c : Cn} (h : l[n]? = some c) : cellsS l n = if c.flds.length = 0 then 0 else 1 := by
  unfold cellsS
  rw [if_neg (by omega), Int.toNat_natCast, h]

abbrev sInt : ByteArray := ⟨#[73, 110, 116]⟩
abbrev sE : ByteArray := ⟨#[]⟩
def typeS (d : List Dt) (nm : ByteArray) : Int × Bool := if nm = sInt then (0, true) else match fst? (fun y => decide (y.name = nm)) 0 d with
  | some (n, _) => ((n : Int) + 1, true)
  | none => (0, false)
-- ws, wsl, opX, int, Zv.bool, intBin, reduceIte, ↓reduceIte, Nat.reduceEqDiff, Nat.reduceAdd, Nat.reduceSub, Nat.reduceLeDiff, Int.reduceLT, Int.reduceLE, Int.reduceEq, Int.reduceBEq, Int.reduceNe, Int.reduceBNe, reduceCtorEq, Nat.reduceBEq
end Zc27
