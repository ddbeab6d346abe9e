/-
  Small tables, few patterns.
-/
import Derived.Test.YtfbkbopmenilkaaZc27S1
set_option linter.unusedSimpArgs false
set_option maxHeartbeats 4000000
namespace Zc27
open Go Zv Zs

def smC (c : Cn) : Prop := c.name.size ≤ 40 ∧ c.flds.length ≤ 8
def smD (y : Dt) : Prop := y.name.size ≤ 40 ∧ y.cons.length ≤ 8 ∧ ∀ c, c ∈ y.cons → smC c
structure Sml (d : List Dt) : Prop where
  len : d.length ≤ 10
  ds : ∀ y, y ∈ d → smD y
theorem mem_get {α : Type} {l : List α} {x : α} (h : x ∈ l) : ∃ k, k < l.length ∧ l[k]? = some x := by
  obtain ⟨k, hk1, hk2⟩ := List.getElem_of_mem h
  exact ⟨k, hk1, by rw [List.getElem?_eq_getElem hk1, hk2]⟩
theorem small_in {d : List Dt} {y : Dt} {j : Nat} (hy : d[j]? = some y) (hj : j < 10) (hc : y.cons.length ≤ 8) (h : Hp) :
    wp tab (.loop f30l0) [(0, .d (eDs d)), (3, .d (.int .i64 (j : Int))), (4, .d (.int .i64 0))] h
      (fun o => o = (.ret, [(2, .d (.bool false))], h) ∨ (o = (.exit 2, [(0, .d (eDs d)), (3, .d (.int .i64 (j : Int))), (4, .d (.int .i64 y.cons.length)), (38, .d (.bool false))], h) ∧ ∀ c, c ∈ y.cons → smC c)) := by
  refine loop_wp y.cons.length (fun n e h' => h' = h ∧ e = [(0, .d (eDs d)), (3, .d (.int .i64 (j : Int))), (4, .d (.int .i64 n))] ∧ ∀ c k, y.cons[k]? = some c → k < n → smC c) _ ?_ ?_ y.cons.length 0 _ _ (by omega) ⟨rfl, rfl, fun c k _ hk => by omega⟩
  · rintro n e h' hn ⟨rfl, rfl, hk⟩
    obtain ⟨c, hcn⟩ := get_of_lt hn
    by_cases h1 : (40 : Int) < (c.name.size : Int)
    · (simp only [e30, iaD hy, iaC hcn, hn, h1, ws, wsl, opX, int, Zv.bool, intBin, reduceIte, ↓reduceIte, Nat.reduceEqDiff, Nat.reduceAdd, Nat.reduceSub, Nat.reduceLeDiff, Int.reduceLT, Int.reduceLE, Int.reduceEq, Int.reduceBEq, Int.reduceNe, Int.reduceBNe, reduceCtorEq, Nat.reduceBEq] <;> repeat' (first | refine wpG_s ?_ ?_ | refine wpC_s ?_ ?_) <;> intro hgo <;> (try simp only [decide_eq_true_eq, decide_eq_false_iff_not, Bool.not_eq_true', Bool.not_eq_false'] at hgo) <;> simp only [hgo, e30, iaD hy, iaC hcn, hn, h1, ws, wsl, opX, int, Zv.bool, intBin, reduceIte, ↓reduceIte, Nat.reduceEqDiff, Nat.reduceAdd, Nat.reduceSub, Nat.reduceLeDiff, Int.reduceLT, Int.reduceLE, Int.reduceEq, Int.reduceBEq, Int.reduceNe, Int.reduceBNe, reduceCtorEq, Nat.reduceBEq])
    · by_cases h2 : (8 : Int) < (c.flds.length : Int)
      · (simp only [e30, iaD hy, iaC hcn, hn, h1, h2, ws, wsl, opX, int, Zv.bool, intBin, reduceIte, ↓reduceIte, Nat.reduceEqDiff, Nat.reduceAdd, Nat.reduceSub, Nat.reduceLeDiff, Int.reduceLT, Int.reduceLE, Int.reduceEq, Int.reduceBEq, Int.reduceNe, Int.reduceBNe, reduceCtorEq, Nat.reduceBEq] <;> repeat' (first | refine wpG_s ?_ ?_ | refine wpC_s ?_ ?_) <;> intro hgo <;> (try simp only [decide_eq_true_eq, decide_eq_false_iff_not, Bool.not_eq_true', Bool.not_eq_false'] at hgo) <;> simp only [hgo, e30, iaD hy, iaC hcn, hn, h1, h2, ws, wsl, opX, int, Zv.bool, intBin, reduceIte, ↓reduceIte, Nat.reduceEqDiff, Nat.reduceAdd, Nat.reduceSub, Nat.reduceLeDiff, Int.reduceLT, Int.reduceLE, Int.reduceEq, Int.reduceBEq, Int.reduceNe, Int.reduceBNe, reduceCtorEq, Nat.reduceBEq])
      · (simp only [e30, iaD hy, iaC hcn, hn, h1, h2, wrap_succ (show n < 2 ^ 62 by omega), ws, wsl, opX, int, Zv.bool, intBin, reduceIte, ↓reduceIte, Nat.reduceEqDiff, Nat.reduceAdd, Nat.reduceSub, Nat.reduceLeDiff, Int.reduceLT, Int.reduceLE, Int.reduceEq, Int.reduceBEq, Int.reduceNe, Int.reduceBNe, reduceCtorEq, Nat.reduceBEq] <;> repeat' (first | refine wpG_s ?_ ?_ | refine wpC_s ?_ ?_) <;> intro hgo <;> (try simp only [decide_eq_true_eq, decide_eq_false_iff_not, Bool.not_eq_true', Bool.not_eq_false'] at hgo) <;> simp only [hgo, e30, iaD hy, iaC hcn, hn, h1, h2, wrap_succ (show n < 2 ^ 62 by omega), ws, wsl, opX, int, Zv.bool, intBin, reduceIte, ↓reduceIte, Nat.reduceEqDiff, Nat.reduceAdd, Nat.reduceSub, Nat.reduceLeDiff, Int.reduceLT, Int.reduceLE, Int.reduceEq, Int.reduceBEq, Int.reduceNe, Int.reduceBNe, reduceCtorEq, Nat.reduceBEq])
        intro c' k hc' hkn
        by_cases hkk : k = n
        · subst hkk; rw [hcn] at hc'; cases hc'; exact ⟨by omega, by omega⟩
        · exact hk c' k hc' (by omega)
  · rintro e h' ⟨rfl, rfl, hk⟩
    (simp only [e30, iaD hy, ws, wsl, opX, int, Zv.bool, intBin, reduceIte, ↓reduceIte, Nat.reduceEqDiff, Nat.reduceAdd, Nat.reduceSub, Nat.reduceLeDiff, Int.reduceLT, Int.reduceLE, Int.reduceEq, Int.reduceBEq, Int.reduceNe, Int.reduceBNe, reduceCtorEq, Nat.reduceBEq] <;> repeat' (first | refine wpG_s ?_ ?_ | refine wpC_s ?_ ?_) <;> intro hgo <;> (try simp only [decide_eq_true_eq, decide_eq_false_iff_not, Bool.not_eq_true', Bool.not_eq_false'] at hgo) <;> simp only [hgo, e30, iaD hy, ws, wsl, opX, int, Zv.bool, intBin, reduceIte, ↓reduceIte, Nat.reduceEqDiff, Nat.reduceAdd, Nat.reduceSub, Nat.reduceLeDiff, Int.reduceLT, Int.reduceLE, Int.reduceEq, Int.reduceBEq, Int.reduceNe, Int.reduceBNe, reduceCtorEq, Nat.reduceBEq])
    intro c hc
    obtain ⟨k, h1, h2⟩ := mem_get hc
    exact hk c k h2 h1
theorem small_ok (d : List Dt) (h : Hp) : ∃ b, callW tab 30 [.d (eDs d)] h = some (.d (.bool b), h) ∧ (b = true → Sml d) := by
  obtain ⟨r, h1, b, rfl, h2⟩ : ∃ r, callW tab 30 [.d (eDs d)] h = some r ∧ ∃ b, r = (.d (.bool b), h) ∧ (b = true → Sml d) := by
    refine call_wpE (fn := f30) rfl rfl ?_
    (simp only [e30, ws, wsl, opX, int, Zv.bool, intBin, reduceIte, ↓reduceIte, Nat.reduceEqDiff, Nat.reduceAdd, Nat.reduceSub, Nat.reduceLeDiff, Int.reduceLT, Int.reduceLE, Int.reduceEq, Int.reduceBEq, Int.reduceNe, Int.reduceBNe, reduceCtorEq, Nat.reduceBEq] <;> repeat' (first | refine wpG_s ?_ ?_ | refine wpC_s ?_ ?_) <;> intro hgo <;> (try simp only [decide_eq_true_eq, decide_eq_false_iff_not, Bool.not_eq_true', Bool.not_eq_false'] at hgo) <;> simp only [hgo, e30, ws, wsl, opX, int, Zv.bool, intBin, reduceIte, ↓reduceIte, Nat.reduceEqDiff, Nat.reduceAdd, Nat.reduceSub, Nat.reduceLeDiff, Int.reduceLT, Int.reduceLE, Int.reduceEq, Int.reduceBEq, Int.reduceNe, Int.reduceBNe, reduceCtorEq, Nat.reduceBEq])
    refine loop_wp (min d.length 10) (fun n e h' => h' = h ∧ e = [(0, .d (eDs d)), (3, .d (.int .i64 n))] ∧ ∀ y k, d[k]? = some y → k < n → smD y) _ ?_ ?_ (min d.length 10) 0 _ _ (by omega) ⟨rfl, rfl, fun c k _ hk => by omega⟩
    · rintro n e h' hn ⟨rfl, rfl, hk⟩
      have hn1 : n < d.length := by omega
      have hn2 : (n : Int) < 10 := by omega
      obtain ⟨y, hy⟩ := get_of_lt hn1
      by_cases h1 : (40 : Int) < (y.name.size : Int)
      · (simp only [e30, iaD hy, hn1, hn2, h1, ws, wsl, opX, int, Zv.bool, intBin, reduceIte, ↓reduceIte, Nat.reduceEqDiff, Nat.reduceAdd, Nat.reduceSub, Nat.reduceLeDiff, Int.reduceLT, Int.reduceLE, Int.reduceEq, Int.reduceBEq, Int.reduceNe, Int.reduceBNe, reduceCtorEq, Nat.reduceBEq] <;> repeat' (first | refine wpG_s ?_ ?_ | refine wpC_s ?_ ?_) <;> intro hgo <;> (try simp only [decide_eq_true_eq, decide_eq_false_iff_not, Bool.not_eq_true', Bool.not_eq_false'] at hgo) <;> simp only [hgo, e30, iaD hy, hn1, hn2, h1, ws, wsl, opX, int, Zv.bool, intBin, reduceIte, ↓reduceIte, Nat.reduceEqDiff, Nat.reduceAdd, Nat.reduceSub, Nat.reduceLeDiff, Int.reduceLT, Int.reduceLE, Int.reduceEq, Int.reduceBEq, Int.reduceNe, Int.reduceBNe, reduceCtorEq, Nat.reduceBEq])
        exact ⟨_, rfl, false, rfl, fun h => (by cases h)⟩
      · by_cases h2 : (8 : Int) < (y.cons.length : Int)
        · (simp only [e30, iaD hy, hn1, hn2, h1, h2, ws, wsl, opX, int, Zv.bool, intBin, reduceIte, ↓reduceIte, Nat.reduceEqDiff, Nat.reduceAdd, Nat.reduceSub, Nat.reduceLeDiff, Int.reduceLT, Int.reduceLE, Int.reduceEq, Int.reduceBEq, Int.reduceNe, Int.reduceBNe, reduceCtorEq, Nat.reduceBEq] <;> repeat' (first | refine wpG_s ?_ ?_ | refine wpC_s ?_ ?_) <;> intro hgo <;> (try simp only [decide_eq_true_eq, decide_eq_false_iff_not, Bool.not_eq_true', Bool.not_eq_false'] at hgo) <;> simp only [hgo, e30, iaD hy, hn1, hn2, h1, h2, ws, wsl, opX, int, Zv.bool, intBin, reduceIte, ↓reduceIte, Nat.reduceEqDiff, Nat.reduceAdd, Nat.reduceSub, Nat.reduceLeDiff, Int.reduceLT, Int.reduceLE, Int.reduceEq, Int.reduceBEq, Int.reduceNe, Int.reduceBNe, reduceCtorEq, Nat.reduceBEq])
          exact ⟨_, rfl, false, rfl, fun h => (by cases h)⟩
        · (simp only [e30, iaD hy, hn1, hn2, h1, h2, ws, wsl, opX, int, Zv.bool, intBin, reduceIte, ↓reduceIte, Nat.reduceEqDiff, Nat.reduceAdd, Nat.reduceSub, Nat.reduceLeDiff, Int.reduceLT, Int.reduceLE, Int.reduceEq, Int.reduceBEq, Int.reduceNe, Int.reduceBNe, reduceCtorEq, Nat.reduceBEq] <;> repeat' (first | refine wpG_s ?_ ?_ | refine wpC_s ?_ ?_) <;> intro hgo <;> (try simp only [decide_eq_true_eq, decide_eq_false_iff_not, Bool.not_eq_true', Bool.not_eq_false'] at hgo) <;> simp only [hgo, e30, iaD hy, hn1, hn2, h1, h2, ws, wsl, opX, int, Zv.bool, intBin, reduceIte, ↓reduceIte, Nat.reduceEqDiff, Nat.reduceAdd, Nat.reduceSub, Nat.reduceLeDiff, Int.reduceLT, Int.reduceLE, Int.reduceEq, Int.reduceBEq, Int.reduceNe, Int.reduceBNe, reduceCtorEq, Nat.reduceBEq])
          refine wq_mono (small_in hy (by omega) (by omega) h') ?_
          rintro o (rfl | ⟨rfl, hall⟩)
          · (simp only [e30, ws, wsl, opX, int, Zv.bool, intBin, reduceIte, ↓reduceIte, Nat.reduceEqDiff, Nat.reduceAdd, Nat.reduceSub, Nat.reduceLeDiff, Int.reduceLT, Int.reduceLE, Int.reduceEq, Int.reduceBEq, Int.reduceNe, Int.reduceBNe, reduceCtorEq, Nat.reduceBEq] <;> repeat' (first | refine wpG_s ?_ ?_ | refine wpC_s ?_ ?_) <;> intro hgo <;> (try simp only [decide_eq_true_eq, decide_eq_false_iff_not, Bool.not_eq_true', Bool.not_eq_false'] at hgo) <;> simp only [hgo, e30, ws, wsl, opX, int, Zv.bool, intBin, reduceIte, ↓reduceIte, Nat.reduceEqDiff, Nat.reduceAdd, Nat.reduceSub, Nat.reduceLeDiff, Int.reduceLT, Int.reduceLE, Int.reduceEq, Int.reduceBEq, Int.reduceNe, Int.reduceBNe, reduceCtorEq, Nat.reduceBEq])
            exact ⟨_, rfl, false, rfl, fun h => (by cases h)⟩
          · (simp only [e30, wrap_succ (show n < 2 ^ 62 by omega), ws, wsl, opX, int, Zv.bool, intBin, reduceIte, ↓reduceIte, Nat.reduceEqDiff, Nat.reduceAdd, Nat.reduceSub, Nat.reduceLeDiff, Int.reduceLT, Int.reduceLE, Int.reduceEq, Int.reduceBEq, Int.reduceNe, Int.reduceBNe, reduceCtorEq, Nat.reduceBEq] <;> repeat' (first | refine wpG_s ?_ ?_ | refine wpC_s ?_ ?_) <;> intro hgo <;> (try simp only [decide_eq_true_eq, decide_eq_false_iff_not, Bool.not_eq_true', Bool.not_eq_false'] at hgo) <;> simp only [hgo, e30, wrap_succ (show n < 2 ^ 62 by omega), ws, wsl, opX, int, Zv.bool, intBin, reduceIte, ↓reduceIte, Nat.reduceEqDiff, Nat.reduceAdd, Nat.reduceSub, Nat.reduceLeDiff, Int.reduceLT, Int.reduceLE, Int.reduceEq, Int.reduceBEq, Int.reduceNe, Int.reduceBNe, reduceCtorEq, Nat.reduceBEq])
            intro y' k hy' hkn
            by_cases hkk : k = n
            · subst hkk; rw [hy] at hy'; cases hy'; exact ⟨by omega, by omega, hall⟩
            · exact hk y' k hy' (by omega)
    · rintro e h' ⟨rfl, rfl, hk⟩
      by_cases h3 : d.length < 10
      · have e1 : min d.length 10 = d.length := by omega
        rw [e1]
        have hle : (d.length : Int) ≤ 10 := by omega
        (simp only [e30, hle, ws, wsl, opX, int, Zv.bool, intBin, reduceIte, ↓reduceIte, Nat.reduceEqDiff, Nat.reduceAdd, Nat.reduceSub, Nat.reduceLeDiff, Int.reduceLT, Int.reduceLE, Int.reduceEq, Int.reduceBEq, Int.reduceNe, Int.reduceBNe, reduceCtorEq, Nat.reduceBEq] <;> repeat' (first | refine wpG_s ?_ ?_ | refine wpC_s ?_ ?_) <;> intro hgo <;> (try simp only [decide_eq_true_eq, decide_eq_false_iff_not, Bool.not_eq_true', Bool.not_eq_false'] at hgo) <;> simp only [hgo, e30, hle, ws, wsl, opX, int, Zv.bool, intBin, reduceIte, ↓reduceIte, Nat.reduceEqDiff, Nat.reduceAdd, Nat.reduceSub, Nat.reduceLeDiff, Int.reduceLT, Int.reduceLE, Int.reduceEq, Int.reduceBEq, Int.reduceNe, Int.reduceBNe, reduceCtorEq, Nat.reduceBEq])
        refine ⟨_, rfl, true, rfl, fun _ => ⟨by omega, fun y hy => ?_⟩⟩
        obtain ⟨k, k1, k2⟩ := mem_get hy
        exact hk y k k2 (by omega)
      · have e1 : min d.length 10 = 10 := by omega
        rw [e1]
        have hnl : ¬ ((10 : Int) < 10) := by omega
        by_cases h4 : (10 : Int) < (d.length : Int)
        · have hnle : ¬ (d.length : Int) ≤ 10 := by omega
          (simp only [e30, h4, hnle, ws, wsl, opX, int, Zv.bool, intBin, reduceIte, ↓reduceIte, Nat.reduceEqDiff, Nat.reduceAdd, Nat.reduceSub, Nat.reduceLeDiff, Int.reduceLT, Int.reduceLE, Int.reduceEq, Int.reduceBEq, Int.reduceNe, Int.reduceBNe, reduceCtorEq, Nat.reduceBEq] <;> repeat' (first | refine wpG_s ?_ ?_ | refine wpC_s ?_ ?_) <;> intro hgo <;> (try simp only [decide_eq_true_eq, decide_eq_false_iff_not, Bool.not_eq_true', Bool.not_eq_false'] at hgo) <;> simp only [hgo, e30, h4, hnle, ws, wsl, opX, int, Zv.bool, intBin, reduceIte, ↓reduceIte, Nat.reduceEqDiff, Nat.reduceAdd, Nat.reduceSub, Nat.reduceLeDiff, Int.reduceLT, Int.reduceLE, Int.reduceEq, Int.reduceBEq, Int.reduceNe, Int.reduceBNe, reduceCtorEq, Nat.reduceBEq])
          exact ⟨_, rfl, false, rfl, fun h => (by cases h)⟩
        · have hle : (d.length : Int) ≤ 10 := by omega
          (simp only [e30, h4, hle, ws, wsl, opX, int, Zv.bool, intBin, reduceIte, ↓reduceIte, Nat.reduceEqDiff, Nat.reduceAdd, Nat.reduceSub, Nat.reduceLeDiff, Int.reduceLT, Int.reduceLE, Int.reduceEq, Int.reduceBEq, Int.reduceNe, Int.reduceBNe, reduceCtorEq, Nat.reduceBEq] <;> repeat' (first | refine wpG_s ?_ ?_ | refine wpC_s ?_ ?_) <;> intro hgo <;> (try simp only [decide_eq_true_eq, decide_eq_false_iff_not, Bool.not_eq_true', Bool.not_eq_false'] at hgo) <;> simp only [hgo, e30, h4, hle, ws, wsl, opX, int, Zv.bool, intBin, reduceIte, ↓reduceIte, Nat.reduceEqDiff, Nat.reduceAdd, Nat.reduceSub, Nat.reduceLeDiff, Int.reduceLT, Int.reduceLE, Int.reduceEq, Int.reduceBEq, Int.reduceNe, Int.reduceBNe, reduceCtorEq, Nat.reduceBEq])
          refine ⟨_, rfl, true, rfl, fun _ => ⟨by omega, fun y hy => ?_⟩⟩
          obtain ⟨k, k1, k2⟩ := mem_get hy
          exact hk y k k2 (by omega)
  exact ⟨b, h1, h2⟩
-- ws, wsl, opX, int, Zv.bool, intBin, reduceIte, ↓reduceIte, Nat.reduceEqDiff, Nat.reduceAdd, Nat.reduceSub, Nat.reduceLeDiff, Int.reduceLT, Int.reduceLE, Int.reduceEq, Int.reduceBEq, Int.reduceNe, Int.reduceBNe, reduceCtorEq, Nat.reduceBEq
end Zc27
