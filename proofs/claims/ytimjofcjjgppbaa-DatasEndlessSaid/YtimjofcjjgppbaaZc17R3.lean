/-
  What is given to a law, the bound on tables, and the examples.
-/
import Derived.Test.YtimjofcjjgppbaaZc17R2
import Derived.KernelRfl
set_option linter.unusedSimpArgs false
set_option maxHeartbeats 4000000
namespace Zc17
open Go Zv Zs

theorem okEs_map {α : Type} {E : Nat → ET} {t : ET} {enc : α → D} (H : ∀ x, ok E t x → ∃ a, x = enc a) : ∀ {l : List D}, okEs E t l → ∃ xs : List α, l = xs.map enc
  | [], _ => ⟨[], rfl⟩
  | x :: l, h => by
    simp only [okEs] at h
    obtain ⟨a, rfl⟩ := H x h.1
    obtain ⟨xs, rfl⟩ := okEs_map H h.2
    exact ⟨a :: xs, rfl⟩
theorem okI {x : D} (h : ok (EE es) (.one (.i .i64)) x) : ∃ a, x = eI a := by
  obtain ⟨n, rfl, _⟩ := ok_i h; exact ⟨n, rfl⟩
theorem okC {x : D} (h : ok (EE es) (.st [.s, .l 2]) x) : ∃ a, x = eC a := by
  obtain ⟨l, rfl, h1⟩ := ok_st h
  obtain ⟨y, r, rfl, ha, h1⟩ := okCs_cons h1
  obtain ⟨z, r, rfl, hb, h1⟩ := okCs_cons h1
  obtain rfl := okCs_nil h1
  obtain ⟨s, rfl, _⟩ := ok_s ha
  obtain ⟨l, rfl, _, h2⟩ := ok_l hb
  obtain ⟨xs, rfl⟩ := okEs_map (fun _ => okI) h2
  exact ⟨⟨s, xs⟩, rfl⟩
theorem okD {x : D} (h : ok (EE es) (.st [.s, .l 1]) x) : ∃ a, x = eD a := by
  obtain ⟨l, rfl, h1⟩ := ok_st h
  obtain ⟨y, r, rfl, ha, h1⟩ := okCs_cons h1
  obtain ⟨z, r, rfl, hb, h1⟩ := okCs_cons h1
  obtain rfl := okCs_nil h1
  obtain ⟨s, rfl, _⟩ := ok_s ha
  obtain ⟨l, rfl, _, h2⟩ := ok_l hb
  obtain ⟨xs, rfl⟩ := okEs_map (fun _ => okC) h2
  exact ⟨⟨s, xs⟩, rfl⟩
theorem okDs {x : D} (h : ok (EE es) (.one (.l 0)) x) : ∃ a, x = eDs a := by
  obtain ⟨l, rfl, _, h2⟩ := ok_l h
  obtain ⟨xs, rfl⟩ := okEs_map (fun _ => okD) h2
  exact ⟨xs, rfl⟩

theorem awake : callW tab 10 [] ⟨[], 0⟩ = some (.d (.bool true), ⟨[], 0⟩) := callW_of tab 200 (by kernel_rfl)

theorem few_inner (d : List Dt) (h : Hp) (m : Nat) (y : Dt) (hy : d[m]? = some y) (hb : y.cons.length ≤ 30) (p : Int) : wp tab (.loop f11l0) [(0, .d (eDs d)), (3, .d (eI p)), (4, int m), (5, int (0 : Nat))] h
    (fun o => o = (.ret, [(2, .d (.bool false))], h) ∨ (∃ q k, o = (.exit 2, [(0, .d (eDs d)), (3, .d (eI q)), (4, int m), (5, int k), (47, .d (.bool false))], h) ∧ ∀ c, c ∈ y.cons → c.flds.length ≤ 20 ∧ c.name.size ≤ 100)) := by
  refine loop_wp y.cons.length (fun n e h' => h' = h ∧ (∃ q, e = [(0, .d (eDs d)), (3, .d (eI q)), (4, int m), (5, int n)]) ∧ ∀ k c, k < n → y.cons[k]? = some c → c.flds.length ≤ 20 ∧ c.name.size ≤ 100) _ ?_ ?_ y.cons.length 0 _ _ (by omega) ⟨rfl, ⟨p, rfl⟩, fun k c hk => by omega⟩
  · rintro n e h' hn ⟨rfl, ⟨q, rfl⟩, hk⟩
    obtain ⟨c, hc⟩ := get_of_lt hn
    have ic := iaC hc
    by_cases h1 : (100 : Int) < c.name.size
    · (simp only [e11, hn, h1, iaD hy, ic, ws, wsl, opX, int, Zv.bool, intBin, reduceIte, ↓reduceIte, Nat.reduceEqDiff, Nat.reduceAdd, Nat.reduceSub, Nat.reduceLeDiff, Int.reduceLT, Int.reduceLE, Int.reduceEq, Int.reduceBEq, Int.reduceNe, Int.reduceBNe, reduceCtorEq, Nat.reduceBEq] <;> repeat' (first | refine wpG_s ?_ ?_ | refine wpC_s ?_ ?_) <;> intro hgo <;> (try simp only [decide_eq_true_eq, decide_eq_false_iff_not, Bool.not_eq_true', Bool.not_eq_false'] at hgo) <;> simp only [hgo, e11, hn, h1, iaD hy, ic, ws, wsl, opX, int, Zv.bool, intBin, reduceIte, ↓reduceIte, Nat.reduceEqDiff, Nat.reduceAdd, Nat.reduceSub, Nat.reduceLeDiff, Int.reduceLT, Int.reduceLE, Int.reduceEq, Int.reduceBEq, Int.reduceNe, Int.reduceBNe, reduceCtorEq, Nat.reduceBEq])
    · by_cases h2 : (20 : Int) < c.flds.length
      · (simp only [e11, hn, h1, h2, iaD hy, ic, ws, wsl, opX, int, Zv.bool, intBin, reduceIte, ↓reduceIte, Nat.reduceEqDiff, Nat.reduceAdd, Nat.reduceSub, Nat.reduceLeDiff, Int.reduceLT, Int.reduceLE, Int.reduceEq, Int.reduceBEq, Int.reduceNe, Int.reduceBNe, reduceCtorEq, Nat.reduceBEq] <;> repeat' (first | refine wpG_s ?_ ?_ | refine wpC_s ?_ ?_) <;> intro hgo <;> (try simp only [decide_eq_true_eq, decide_eq_false_iff_not, Bool.not_eq_true', Bool.not_eq_false'] at hgo) <;> simp only [hgo, e11, hn, h1, h2, iaD hy, ic, ws, wsl, opX, int, Zv.bool, intBin, reduceIte, ↓reduceIte, Nat.reduceEqDiff, Nat.reduceAdd, Nat.reduceSub, Nat.reduceLeDiff, Int.reduceLT, Int.reduceLE, Int.reduceEq, Int.reduceBEq, Int.reduceNe, Int.reduceBNe, reduceCtorEq, Nat.reduceBEq])
      · (simp only [e11, hn, h1, h2, iaD hy, ic, wrap_succ (show n < 2 ^ 62 by omega), ws, wsl, opX, int, Zv.bool, intBin, reduceIte, ↓reduceIte, Nat.reduceEqDiff, Nat.reduceAdd, Nat.reduceSub, Nat.reduceLeDiff, Int.reduceLT, Int.reduceLE, Int.reduceEq, Int.reduceBEq, Int.reduceNe, Int.reduceBNe, reduceCtorEq, Nat.reduceBEq] <;> repeat' (first | refine wpG_s ?_ ?_ | refine wpC_s ?_ ?_) <;> intro hgo <;> (try simp only [decide_eq_true_eq, decide_eq_false_iff_not, Bool.not_eq_true', Bool.not_eq_false'] at hgo) <;> simp only [hgo, e11, hn, h1, h2, iaD hy, ic, wrap_succ (show n < 2 ^ 62 by omega), ws, wsl, opX, int, Zv.bool, intBin, reduceIte, ↓reduceIte, Nat.reduceEqDiff, Nat.reduceAdd, Nat.reduceSub, Nat.reduceLeDiff, Int.reduceLT, Int.reduceLE, Int.reduceEq, Int.reduceBEq, Int.reduceNe, Int.reduceBNe, reduceCtorEq, Nat.reduceBEq])
        refine ⟨⟨_, rfl⟩, fun k c' hk' hc' => ?_⟩
        by_cases hkn : k = n
        · subst hkn; rw [hc] at hc'; cases hc'; exact ⟨by omega, by omega⟩
        · exact hk k c' (by omega) hc'
  · rintro e h' ⟨rfl, ⟨q, rfl⟩, hk⟩
    (simp only [e11, iaD hy, ws, wsl, opX, int, Zv.bool, intBin, reduceIte, ↓reduceIte, Nat.reduceEqDiff, Nat.reduceAdd, Nat.reduceSub, Nat.reduceLeDiff, Int.reduceLT, Int.reduceLE, Int.reduceEq, Int.reduceBEq, Int.reduceNe, Int.reduceBNe, reduceCtorEq, Nat.reduceBEq] <;> repeat' (first | refine wpG_s ?_ ?_ | refine wpC_s ?_ ?_) <;> intro hgo <;> (try simp only [decide_eq_true_eq, decide_eq_false_iff_not, Bool.not_eq_true', Bool.not_eq_false'] at hgo) <;> simp only [hgo, e11, iaD hy, ws, wsl, opX, int, Zv.bool, intBin, reduceIte, ↓reduceIte, Nat.reduceEqDiff, Nat.reduceAdd, Nat.reduceSub, Nat.reduceLeDiff, Int.reduceLT, Int.reduceLE, Int.reduceEq, Int.reduceBEq, Int.reduceNe, Int.reduceBNe, reduceCtorEq, Nat.reduceBEq])
    refine ⟨q, _, rfl, fun c hc => ?_⟩
    obtain ⟨k, hk1, hk2⟩ := List.getElem_of_mem hc
    exact hk k c hk1 (by rw [List.getElem?_eq_getElem hk1, hk2])

/-- A table whose names are no longer than memory. -/
def Nm (d : List Dt) : Prop := ∀ y, y ∈ d → y.name.size < 2 ^ 60 ∧ ∀ c, c ∈ y.cons → c.name.size < 2 ^ 60
theorem few_ok' (d : List Dt) (h : Hp) : ∃ r, callW tab 11 [.d (eDs d)] h = some r ∧ ∃ b, r = (.d (.bool b), h) ∧ (b = true → (d.length ≤ 80 ∧ Bd d) ∧ Nm d) := by
  apply call_wpE (fn := f11) rfl rfl
  by_cases h0 : (80 : Int) < d.length
  · (simp only [e11, h0, ws, wsl, opX, int, Zv.bool, intBin, reduceIte, ↓reduceIte, Nat.reduceEqDiff, Nat.reduceAdd, Nat.reduceSub, Nat.reduceLeDiff, Int.reduceLT, Int.reduceLE, Int.reduceEq, Int.reduceBEq, Int.reduceNe, Int.reduceBNe, reduceCtorEq, Nat.reduceBEq] <;> repeat' (first | refine wpG_s ?_ ?_ | refine wpC_s ?_ ?_) <;> intro hgo <;> (try simp only [decide_eq_true_eq, decide_eq_false_iff_not, Bool.not_eq_true', Bool.not_eq_false'] at hgo) <;> simp only [hgo, e11, h0, ws, wsl, opX, int, Zv.bool, intBin, reduceIte, ↓reduceIte, Nat.reduceEqDiff, Nat.reduceAdd, Nat.reduceSub, Nat.reduceLeDiff, Int.reduceLT, Int.reduceLE, Int.reduceEq, Int.reduceBEq, Int.reduceNe, Int.reduceBNe, reduceCtorEq, Nat.reduceBEq])
    exact ⟨_, rfl, false, rfl, by simp⟩
  · (simp only [e11, h0, ws, wsl, opX, int, Zv.bool, intBin, reduceIte, ↓reduceIte, Nat.reduceEqDiff, Nat.reduceAdd, Nat.reduceSub, Nat.reduceLeDiff, Int.reduceLT, Int.reduceLE, Int.reduceEq, Int.reduceBEq, Int.reduceNe, Int.reduceBNe, reduceCtorEq, Nat.reduceBEq] <;> repeat' (first | refine wpG_s ?_ ?_ | refine wpC_s ?_ ?_) <;> intro hgo <;> (try simp only [decide_eq_true_eq, decide_eq_false_iff_not, Bool.not_eq_true', Bool.not_eq_false'] at hgo) <;> simp only [hgo, e11, h0, ws, wsl, opX, int, Zv.bool, intBin, reduceIte, ↓reduceIte, Nat.reduceEqDiff, Nat.reduceAdd, Nat.reduceSub, Nat.reduceLeDiff, Int.reduceLT, Int.reduceLE, Int.reduceEq, Int.reduceBEq, Int.reduceNe, Int.reduceBNe, reduceCtorEq, Nat.reduceBEq])
    refine loop_wp d.length (fun n e h' => h' = h ∧ (∃ q, e = [(0, .d (eDs d)), (3, .d (eI q)), (4, int n)]) ∧ ∀ k y, k < n → d[k]? = some y → (y.cons.length ≤ 30 ∧ y.name.size ≤ 100) ∧ ∀ c, c ∈ y.cons → c.flds.length ≤ 20 ∧ c.name.size ≤ 100) _ ?_ ?_ d.length 0 _ _ (by omega) ⟨rfl, ⟨0, rfl⟩, fun k c hk => by omega⟩
    · rintro n e h' hn ⟨rfl, ⟨q, rfl⟩, hk⟩
      obtain ⟨y, hy⟩ := get_of_lt hn
      by_cases h1 : (100 : Int) < y.name.size
      · (simp only [e11, iaD hy, hn, h1, ws, wsl, opX, int, Zv.bool, intBin, reduceIte, ↓reduceIte, Nat.reduceEqDiff, Nat.reduceAdd, Nat.reduceSub, Nat.reduceLeDiff, Int.reduceLT, Int.reduceLE, Int.reduceEq, Int.reduceBEq, Int.reduceNe, Int.reduceBNe, reduceCtorEq, Nat.reduceBEq] <;> repeat' (first | refine wpG_s ?_ ?_ | refine wpC_s ?_ ?_) <;> intro hgo <;> (try simp only [decide_eq_true_eq, decide_eq_false_iff_not, Bool.not_eq_true', Bool.not_eq_false'] at hgo) <;> simp only [hgo, e11, iaD hy, hn, h1, ws, wsl, opX, int, Zv.bool, intBin, reduceIte, ↓reduceIte, Nat.reduceEqDiff, Nat.reduceAdd, Nat.reduceSub, Nat.reduceLeDiff, Int.reduceLT, Int.reduceLE, Int.reduceEq, Int.reduceBEq, Int.reduceNe, Int.reduceBNe, reduceCtorEq, Nat.reduceBEq])
        exact ⟨_, rfl, false, rfl, by simp⟩
      · by_cases h2 : (30 : Int) < y.cons.length
        · (simp only [e11, iaD hy, hn, h1, h2, ws, wsl, opX, int, Zv.bool, intBin, reduceIte, ↓reduceIte, Nat.reduceEqDiff, Nat.reduceAdd, Nat.reduceSub, Nat.reduceLeDiff, Int.reduceLT, Int.reduceLE, Int.reduceEq, Int.reduceBEq, Int.reduceNe, Int.reduceBNe, reduceCtorEq, Nat.reduceBEq] <;> repeat' (first | refine wpG_s ?_ ?_ | refine wpC_s ?_ ?_) <;> intro hgo <;> (try simp only [decide_eq_true_eq, decide_eq_false_iff_not, Bool.not_eq_true', Bool.not_eq_false'] at hgo) <;> simp only [hgo, e11, iaD hy, hn, h1, h2, ws, wsl, opX, int, Zv.bool, intBin, reduceIte, ↓reduceIte, Nat.reduceEqDiff, Nat.reduceAdd, Nat.reduceSub, Nat.reduceLeDiff, Int.reduceLT, Int.reduceLE, Int.reduceEq, Int.reduceBEq, Int.reduceNe, Int.reduceBNe, reduceCtorEq, Nat.reduceBEq])
          exact ⟨_, rfl, false, rfl, by simp⟩
        · (simp only [e11, iaD hy, hn, h1, h2, ws, wsl, opX, int, Zv.bool, intBin, reduceIte, ↓reduceIte, Nat.reduceEqDiff, Nat.reduceAdd, Nat.reduceSub, Nat.reduceLeDiff, Int.reduceLT, Int.reduceLE, Int.reduceEq, Int.reduceBEq, Int.reduceNe, Int.reduceBNe, reduceCtorEq, Nat.reduceBEq] <;> repeat' (first | refine wpG_s ?_ ?_ | refine wpC_s ?_ ?_) <;> intro hgo <;> (try simp only [decide_eq_true_eq, decide_eq_false_iff_not, Bool.not_eq_true', Bool.not_eq_false'] at hgo) <;> simp only [hgo, e11, iaD hy, hn, h1, h2, ws, wsl, opX, int, Zv.bool, intBin, reduceIte, ↓reduceIte, Nat.reduceEqDiff, Nat.reduceAdd, Nat.reduceSub, Nat.reduceLeDiff, Int.reduceLT, Int.reduceLE, Int.reduceEq, Int.reduceBEq, Int.reduceNe, Int.reduceBNe, reduceCtorEq, Nat.reduceBEq])
          refine wq_mono (few_inner d h' n y hy (by omega) _) ?_
          rintro o (rfl | ⟨q, k, rfl, hc⟩)
          · (simp only [e11, ws, wsl, opX, int, Zv.bool, intBin, reduceIte, ↓reduceIte, Nat.reduceEqDiff, Nat.reduceAdd, Nat.reduceSub, Nat.reduceLeDiff, Int.reduceLT, Int.reduceLE, Int.reduceEq, Int.reduceBEq, Int.reduceNe, Int.reduceBNe, reduceCtorEq, Nat.reduceBEq] <;> repeat' (first | refine wpG_s ?_ ?_ | refine wpC_s ?_ ?_) <;> intro hgo <;> (try simp only [decide_eq_true_eq, decide_eq_false_iff_not, Bool.not_eq_true', Bool.not_eq_false'] at hgo) <;> simp only [hgo, e11, ws, wsl, opX, int, Zv.bool, intBin, reduceIte, ↓reduceIte, Nat.reduceEqDiff, Nat.reduceAdd, Nat.reduceSub, Nat.reduceLeDiff, Int.reduceLT, Int.reduceLE, Int.reduceEq, Int.reduceBEq, Int.reduceNe, Int.reduceBNe, reduceCtorEq, Nat.reduceBEq])
            exact ⟨_, rfl, false, rfl, by simp⟩
          · (simp only [e11, wrap_succ (show n < 2 ^ 62 by omega), ws, wsl, opX, int, Zv.bool, intBin, reduceIte, ↓reduceIte, Nat.reduceEqDiff, Nat.reduceAdd, Nat.reduceSub, Nat.reduceLeDiff, Int.reduceLT, Int.reduceLE, Int.reduceEq, Int.reduceBEq, Int.reduceNe, Int.reduceBNe, reduceCtorEq, Nat.reduceBEq] <;> repeat' (first | refine wpG_s ?_ ?_ | refine wpC_s ?_ ?_) <;> intro hgo <;> (try simp only [decide_eq_true_eq, decide_eq_false_iff_not, Bool.not_eq_true', Bool.not_eq_false'] at hgo) <;> simp only [hgo, e11, wrap_succ (show n < 2 ^ 62 by omega), ws, wsl, opX, int, Zv.bool, intBin, reduceIte, ↓reduceIte, Nat.reduceEqDiff, Nat.reduceAdd, Nat.reduceSub, Nat.reduceLeDiff, Int.reduceLT, Int.reduceLE, Int.reduceEq, Int.reduceBEq, Int.reduceNe, Int.reduceBNe, reduceCtorEq, Nat.reduceBEq])
            refine ⟨⟨_, rfl⟩, fun k' y' hk' hy' => ?_⟩
            by_cases hkn : k' = n
            · subst hkn; rw [hy] at hy'; cases hy'; exact ⟨⟨by omega, by omega⟩, hc⟩
            · exact hk k' y' (by omega) hy'
    · rintro e h' ⟨rfl, ⟨q, rfl⟩, hk⟩
      (simp only [e11, ws, wsl, opX, int, Zv.bool, intBin, reduceIte, ↓reduceIte, Nat.reduceEqDiff, Nat.reduceAdd, Nat.reduceSub, Nat.reduceLeDiff, Int.reduceLT, Int.reduceLE, Int.reduceEq, Int.reduceBEq, Int.reduceNe, Int.reduceBNe, reduceCtorEq, Nat.reduceBEq] <;> repeat' (first | refine wpG_s ?_ ?_ | refine wpC_s ?_ ?_) <;> intro hgo <;> (try simp only [decide_eq_true_eq, decide_eq_false_iff_not, Bool.not_eq_true', Bool.not_eq_false'] at hgo) <;> simp only [hgo, e11, ws, wsl, opX, int, Zv.bool, intBin, reduceIte, ↓reduceIte, Nat.reduceEqDiff, Nat.reduceAdd, Nat.reduceSub, Nat.reduceLeDiff, Int.reduceLT, Int.reduceLE, Int.reduceEq, Int.reduceBEq, Int.reduceNe, Int.reduceBNe, reduceCtorEq, Nat.reduceBEq])
      have key : ∀ y, y ∈ d → (y.cons.length ≤ 30 ∧ y.name.size ≤ 100) ∧ ∀ c, c ∈ y.cons → c.flds.length ≤ 20 ∧ c.name.size ≤ 100 := by
        intro y hy
        obtain ⟨k, hk1, hk2⟩ := List.getElem_of_mem hy
        exact hk k y hk1 (by rw [List.getElem?_eq_getElem hk1, hk2])
      refine ⟨_, rfl, _, rfl, fun _ => ⟨⟨by omega, by omega, fun y hy => (key y hy).1.1, fun y hy c hc => ((key y hy).2 c hc).1⟩, fun y hy => ⟨?_, fun c hc => ?_⟩⟩⟩
      · have := (key y hy).1.2; omega
      · have := ((key y hy).2 c hc).2; omega
theorem few_ok (d : List Dt) (h : Hp) : ∃ r, callW tab 11 [.d (eDs d)] h = some r ∧ ∃ b, r = (.d (.bool b), h) ∧ (b = true → Bd d) := by
  obtain ⟨r, h1, b, h2, h3⟩ := few_ok' d h
  exact ⟨r, h1, b, h2, fun hb => (h3 hb).1.2⟩
-- ws, wsl, opX, int, Zv.bool, intBin, reduceIte, ↓reduceIte, Nat.reduceEqDiff, Nat.reduceAdd, Nat.reduceSub, Nat.reduceLeDiff, Int.reduceLT, Int.reduceLE, Int.reduceEq, Int.reduceBEq, Int.reduceNe, Int.reduceBNe, reduceCtorEq, Nat.reduceBEq
end Zc17
