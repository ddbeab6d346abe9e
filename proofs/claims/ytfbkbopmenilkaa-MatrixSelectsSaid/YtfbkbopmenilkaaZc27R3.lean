/-
  What is given to a law, the bound on tables, and the examples.
-/
import Derived.Test.YtfbkbopmenilkaaZc27R2
import Derived.KernelRfl
set_option linter.unusedSimpArgs false
set_option maxHeartbeats 4000000
namespace Zc27
open Go Zv Zs

theorem okEs_map {α : Type} {E : Nat → ET} {t : ET} {enc : α → D} (H : ∀ x, ok E t x → ∃ a, x = enc a) : ∀ {l : List D}, okEs E t l → ∃ xs : List α, l = xs.map enc
  | [], _ => ⟨[], rfl⟩
  | x :: l, h => by
    simp only [okEs] at h
    obtain ⟨a, rfl⟩ := H x h.1
    obtain ⟨xs, rfl⟩ := okEs_map H h.2
    exact ⟨a :: xs, rfl⟩
theorem okI {x : D} (h : ok (EE es) (.one (.i .i64)) x) : ∃ a, x = eI a := by
  obtain ⟨n, rfl, _⟩ := ok_i h; exact ⟨n, rfl⟩
theorem okC {x : D} (h : ok (EE es) (.st [.s, .l 2]) x) : ∃ a, x = eC a := by
  obtain ⟨l, rfl, h1⟩ := ok_st h
  obtain ⟨y, r, rfl, ha, h1⟩ := okCs_cons h1
  obtain ⟨z, r, rfl, hb, h1⟩ := okCs_cons h1
  obtain rfl := okCs_nil h1
  obtain ⟨s, rfl, _⟩ := ok_s ha
  obtain ⟨l, rfl, _, h2⟩ := ok_l hb
  obtain ⟨xs, rfl⟩ := okEs_map (fun _ => okI) h2
  exact ⟨⟨s, xs⟩, rfl⟩
theorem okD {x : D} (h : ok (EE es) (.st [.s, .l 1]) x) : ∃ a, x = eD a := by
  obtain ⟨l, rfl, h1⟩ := ok_st h
  obtain ⟨y, r, rfl, ha, h1⟩ := okCs_cons h1
  obtain ⟨z, r, rfl, hb, h1⟩ := okCs_cons h1
  obtain rfl := okCs_nil h1
  obtain ⟨s, rfl, _⟩ := ok_s ha
  obtain ⟨l, rfl, _, h2⟩ := ok_l hb
  obtain ⟨xs, rfl⟩ := okEs_map (fun _ => okC) h2
  exact ⟨⟨s, xs⟩, rfl⟩
theorem okDs {x : D} (h : ok (EE es) (.one (.l 0)) x) : ∃ a, x = eDs a := by
  obtain ⟨l, rfl, _, h2⟩ := ok_l h
  obtain ⟨xs, rfl⟩ := okEs_map (fun _ => okD) h2
  exact ⟨xs, rfl⟩

/-- A table whose names are no longer than memory. -/
def Nm (d : List Dt) : Prop := ∀ y, y ∈ d → y.name.size < 2 ^ 60 ∧ ∀ c, c ∈ y.cons → c.name.size < 2 ^ 60
-- ws, wsl, opX, int, Zv.bool, intBin, reduceIte, ↓reduceIte, Nat.reduceEqDiff, Nat.reduceAdd, Nat.reduceSub, Nat.reduceLeDiff, Int.reduceLT, Int.reduceLE, Int.reduceEq, Int.reduceBEq, Int.reduceNe, Int.reduceBNe, reduceCtorEq, Nat.reduceBEq
end Zc27
