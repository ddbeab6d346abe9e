/-
  Small values.
-/
import Derived.Test.YtfbkbopmenilkaaZc27S8
set_option linter.unusedSimpArgs false
set_option maxHeartbeats 4000000
namespace Zc27
open Go Zv Zs

mutual
def szP : Vl → Nat → Nat
  | .mk _ _ qs, n => szL qs (n + 1)
def szL : List Vl → Nat → Nat
  | [], n => n
  | p :: r, n => if n ≤ 60 then szL r (szP p n) else n
end
mutual
theorem szP_le : ∀ (p : Vl) (n : Nat), n ≤ 60 → n < szP p n ∧ szP p n ≤ 61
  | .mk m c qs, n, h => by
    have := szL_le qs (n + 1) (by omega)
    rw [szP]
    exact ⟨by omega, by omega⟩
theorem szL_le : ∀ (l : List Vl) (n : Nat), n ≤ 61 → n ≤ szL l n ∧ szL l n ≤ 61
  | [], n, h => by rw [szL]; exact ⟨by omega, h⟩
  | p :: r, n, h => by
    rw [szL]
    split
    · rename_i hn
      have h1 := szP_le p n hn
      have h2 := szL_le r (szP p n) h1.2
      exact ⟨by omega, h2.2⟩
    · exact ⟨by omega, by omega⟩
end
theorem szL_big {l : List Vl} {n : Nat} (h : 60 < n) : szL l n = n := by
  cases l with
  | nil => rw [szL]
  | cons p r => rw [szL, if_neg (by omega)]
theorem size_ok : ∀ (v : Vl) (n : Nat), n ≤ 60 → ∀ h, callW tab 55 [.d (eV v), .d (.int .i64 n), .d (.int .i64 60)] h = some (.d (.int .i64 (szP v n)), h)
  | .mk mm cc l, n, hn, h => by
    have hrec : ∀ p, p ∈ l → ∀ n : Nat, n ≤ 60 → ∀ h, callW tab 55 [.d (eV p), .d (.int .i64 (n : Int)), .d (.int .i64 60)] h = some (.d (.int .i64 (szP p n)), h) := by
      intro p hp n hn h
      exact size_ok p n hn h
    refine call_wp (fn := f55) rfl rfl ?_
    rw [eV_mk, szP]
    have hw0 := wrap_succ (show n < 2 ^ 62 by omega)
    (simp only [e55, hw0, ws, wsl, opX, int, Zv.bool, intBin, reduceIte, ↓reduceIte, Nat.reduceEqDiff, Nat.reduceAdd, Nat.reduceSub, Nat.reduceLeDiff, Int.reduceLT, Int.reduceLE, Int.reduceEq, Int.reduceBEq, Int.reduceNe, Int.reduceBNe, reduceCtorEq, Nat.reduceBEq] <;> repeat' (first | refine wpG_s ?_ ?_ | refine wpC_s ?_ ?_) <;> intro hgo <;> (try simp only [decide_eq_true_eq, decide_eq_false_iff_not, Bool.not_eq_true', Bool.not_eq_false'] at hgo) <;> simp only [hgo, e55, hw0, ws, wsl, opX, int, Zv.bool, intBin, reduceIte, ↓reduceIte, Nat.reduceEqDiff, Nat.reduceAdd, Nat.reduceSub, Nat.reduceLeDiff, Int.reduceLT, Int.reduceLE, Int.reduceEq, Int.reduceBEq, Int.reduceNe, Int.reduceBNe, reduceCtorEq, Nat.reduceBEq])
    refine loop_wp 62 (fun i e h' => ∃ (j m : Nat), h' = ⟨h.objs, h.next + 1⟩ ∧ e = [(1, .d (.int .i64 (m : Int))), (2, .d (.int .i64 60)), (3, .fp (.agg [.int .i64 mm, .int .i64 cc, .lst (l.map eV)]) 0), (7, .d (.int .i64 (j : Int)))] ∧ j = i ∧ j + n < m ∧ m ≤ 61 ∧ szL l (n + 1) = szL (l.drop j) m) _ ?_ ?_ 62 0 _ _ rfl ⟨0, n + 1, rfl, rfl, rfl, by omega, by omega, rfl⟩
    · rintro i e h' hi ⟨j, m, rfl, rfl, rfl, hjm, hm, heq⟩
      by_cases hj : j < l.length
      · obtain ⟨p, hp⟩ := get_of_lt hj
        have hd : l.drop j = p :: l.drop (j + 1) := by
          obtain ⟨h1, h2⟩ := List.getElem?_eq_some_iff.1 hp
          rw [List.drop_eq_getElem_cons h1, h2]
        by_cases hm6 : m ≤ 60
        · have hle : (m : Int) ≤ 60 := by omega
          have hr := hrec p (List.mem_of_getElem? hp) m hm6
          have hpc := szP_le p m hm6
          (simp only [e55, hj, hle, iaV hp, vls, hr, wrap_succ (show j < 2 ^ 62 by omega), ws, wsl, opX, int, Zv.bool, intBin, reduceIte, ↓reduceIte, Nat.reduceEqDiff, Nat.reduceAdd, Nat.reduceSub, Nat.reduceLeDiff, Int.reduceLT, Int.reduceLE, Int.reduceEq, Int.reduceBEq, Int.reduceNe, Int.reduceBNe, reduceCtorEq, Nat.reduceBEq] <;> repeat' (first | refine wpG_s ?_ ?_ | refine wpC_s ?_ ?_) <;> intro hgo <;> (try simp only [decide_eq_true_eq, decide_eq_false_iff_not, Bool.not_eq_true', Bool.not_eq_false'] at hgo) <;> simp only [hgo, e55, hj, hle, iaV hp, vls, hr, wrap_succ (show j < 2 ^ 62 by omega), ws, wsl, opX, int, Zv.bool, intBin, reduceIte, ↓reduceIte, Nat.reduceEqDiff, Nat.reduceAdd, Nat.reduceSub, Nat.reduceLeDiff, Int.reduceLT, Int.reduceLE, Int.reduceEq, Int.reduceBEq, Int.reduceNe, Int.reduceBNe, reduceCtorEq, Nat.reduceBEq])
          refine ⟨j + 1, szP p m, by simp, rfl, by omega, hpc.2, ?_⟩
          rw [heq, hd, szL, if_pos hm6]
        · have hle : ¬ (m : Int) ≤ 60 := by omega
          have := szL_big (l := l.drop j) (show 60 < m by omega)
          rw [heq, this]
          (simp only [e55, hj, hle, ws, wsl, opX, int, Zv.bool, intBin, reduceIte, ↓reduceIte, Nat.reduceEqDiff, Nat.reduceAdd, Nat.reduceSub, Nat.reduceLeDiff, Int.reduceLT, Int.reduceLE, Int.reduceEq, Int.reduceBEq, Int.reduceNe, Int.reduceBNe, reduceCtorEq, Nat.reduceBEq] <;> repeat' (first | refine wpG_s ?_ ?_ | refine wpC_s ?_ ?_) <;> intro hgo <;> (try simp only [decide_eq_true_eq, decide_eq_false_iff_not, Bool.not_eq_true', Bool.not_eq_false'] at hgo) <;> simp only [hgo, e55, hj, hle, ws, wsl, opX, int, Zv.bool, intBin, reduceIte, ↓reduceIte, Nat.reduceEqDiff, Nat.reduceAdd, Nat.reduceSub, Nat.reduceLeDiff, Int.reduceLT, Int.reduceLE, Int.reduceEq, Int.reduceBEq, Int.reduceNe, Int.reduceBNe, reduceCtorEq, Nat.reduceBEq])
      · have hnil : l.drop j = [] := List.drop_eq_nil_of_le (by omega)
        rw [heq, hnil, szL]
        (simp only [e55, hj, ws, wsl, opX, int, Zv.bool, intBin, reduceIte, ↓reduceIte, Nat.reduceEqDiff, Nat.reduceAdd, Nat.reduceSub, Nat.reduceLeDiff, Int.reduceLT, Int.reduceLE, Int.reduceEq, Int.reduceBEq, Int.reduceNe, Int.reduceBNe, reduceCtorEq, Nat.reduceBEq] <;> repeat' (first | refine wpG_s ?_ ?_ | refine wpC_s ?_ ?_) <;> intro hgo <;> (try simp only [decide_eq_true_eq, decide_eq_false_iff_not, Bool.not_eq_true', Bool.not_eq_false'] at hgo) <;> simp only [hgo, e55, hj, ws, wsl, opX, int, Zv.bool, intBin, reduceIte, ↓reduceIte, Nat.reduceEqDiff, Nat.reduceAdd, Nat.reduceSub, Nat.reduceLeDiff, Int.reduceLT, Int.reduceLE, Int.reduceEq, Int.reduceBEq, Int.reduceNe, Int.reduceBNe, reduceCtorEq, Nat.reduceBEq])
    · rintro e h' ⟨j, m, rfl, rfl, rfl, hjm, hm, heq⟩
      omega
termination_by v => sizeOf v
decreasing_by
  have := List.sizeOf_lt_of_mem hp
  simp only [Vl.mk.sizeOf_spec]
  omega
theorem vfew_ok (d : List Dt) (v : Vl) (h : Hp) : ∃ b, callW tab 23 [.d (eDs d), .d (eV v)] h = some (.d (.bool b), h) ∧ (b = true → Sml d) := by
  obtain ⟨b, hb, hs⟩ := small_ok d ⟨h.objs, h.next + 1⟩
  have hz : ∀ h, callW tab 55 [.d (eV v), .d (.int .i64 0), .d (.int .i64 60)] h = some (.d (.int .i64 (szP v 0)), h) := fun h => size_ok v 0 (by omega) h
  refine ⟨b && decide (szP v 0 ≤ 60), ?_, fun hh => ?_⟩
  · refine call_wp (fn := f23) rfl rfl ?_
    cases b <;> by_cases q : ((szP v 0 : Nat) : Int) ≤ 60 <;> ((simp only [e23, vls, hb, hz, q, ws, wsl, opX, int, Zv.bool, intBin, reduceIte, ↓reduceIte, Nat.reduceEqDiff, Nat.reduceAdd, Nat.reduceSub, Nat.reduceLeDiff, Int.reduceLT, Int.reduceLE, Int.reduceEq, Int.reduceBEq, Int.reduceNe, Int.reduceBNe, reduceCtorEq, Nat.reduceBEq] <;> repeat' (first | refine wpG_s ?_ ?_ | refine wpC_s ?_ ?_) <;> intro hgo <;> (try simp only [decide_eq_true_eq, decide_eq_false_iff_not, Bool.not_eq_true', Bool.not_eq_false'] at hgo) <;> simp only [hgo, e23, vls, hb, hz, q, ws, wsl, opX, int, Zv.bool, intBin, reduceIte, ↓reduceIte, Nat.reduceEqDiff, Nat.reduceAdd, Nat.reduceSub, Nat.reduceLeDiff, Int.reduceLT, Int.reduceLE, Int.reduceEq, Int.reduceBEq, Int.reduceNe, Int.reduceBNe, reduceCtorEq, Nat.reduceBEq]) <;> simp <;> omega)
  · simp only [Bool.and_eq_true] at hh
    exact hs hh.1
-- ws, wsl, opX, int, Zv.bool, intBin, reduceIte, ↓reduceIte, Nat.reduceEqDiff, Nat.reduceAdd, Nat.reduceSub, Nat.reduceLeDiff, Int.reduceLT, Int.reduceLE, Int.reduceEq, Int.reduceBEq, Int.reduceNe, Int.reduceBNe, reduceCtorEq, Nat.reduceBEq
end Zc27
