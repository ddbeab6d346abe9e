/-
  The law of two stores, in ZvVal's machine.
-/
import Derived.Test.YtlncinhieeopmaaZc55S5
set_option linter.unusedSimpArgs false
set_option maxHeartbeats 4000000
namespace Zc55
open Go Zv Zs
theorem storeTwice : ∀ x0 x1 : D, ok (EE Zc55.es) (.one (.i .u8)) x0 → ok (EE Zc55.es) (.one (.l 1)) x1 → ∃ h', callW Zc55.tab 5 [.d x0, .d x1] ⟨[], 0⟩ = some (.d (.bool true), h') := by
  intro x0 x1 h0 h1
  obtain ⟨n, rfl, hn⟩ := ok_i h0
  obtain ⟨n0, n1⟩ := u8_of hn
  obtain ⟨l, rfl, _, h2⟩ := ok_l h1
  obtain ⟨l, rfl⟩ := okEs_map (fun _ => okA) h2
  refine ⟨⟨[], 0⟩, ?_⟩
  apply call_wp (fn := f5) rfl rfl
  obtain ⟨r, hf, b, rfl, hb⟩ := few_ok l ⟨[], 0⟩
  cases b with
  | false => (simp only [e5, hf, awake, ws, wsl, opX, int, Zv.bool, intBin, reduceIte, ↓reduceIte, Nat.reduceEqDiff, Nat.reduceAdd, Nat.reduceSub, Nat.reduceLeDiff, Int.reduceLT, Int.reduceLE, Int.reduceEq, Int.reduceBEq, Int.reduceNe, Int.reduceBNe, reduceCtorEq, Nat.reduceBEq] <;> repeat' (first | refine wpG_s ?_ ?_ | refine wpC_s ?_ ?_) <;> intro hgo <;> (try simp only [decide_eq_true_eq, decide_eq_false_iff_not, Bool.not_eq_true', Bool.not_eq_false'] at hgo) <;> simp only [hgo, e5, hf, awake, ws, wsl, opX, int, Zv.bool, intBin, reduceIte, ↓reduceIte, Nat.reduceEqDiff, Nat.reduceAdd, Nat.reduceSub, Nat.reduceLeDiff, Int.reduceLT, Int.reduceLE, Int.reduceEq, Int.reduceBEq, Int.reduceNe, Int.reduceBNe, reduceCtorEq, Nat.reduceBEq])
  | true =>
    obtain ⟨hl40, hw30⟩ := hb rfl
    have L0 : Low ⟨[], 0⟩ := fun _ _ => rfl
    obtain ⟨m, hm, hm20⟩ : ∃ m : Nat, n.tmod 20 = m ∧ m ≤ 19 := by
      rw [Int.tmod_eq_emod_of_nonneg n0]
      exact ⟨(n % 20).toNat, by omega, by omega⟩
    have z20 : ((20 : Int) = 0) = False := by decide
    have wk : IntKind.i64.wrap (m : Int) = m := wrap_ok (by omega) (by omega)
    obtain ⟨⟨v, h1⟩, hnew1, hv, hR1, hL1, hnx1, _⟩ := new_ok ⟨[], 0⟩ L0 m (by omega)
    simp only at hv hR1 hL1 hnx1
    subst hv
    obtain ⟨⟨v, h2⟩, hnew2, hv, hR2, hL2, hnx2, hfr2⟩ := new_ok h1 hL1 m (by omega)
    simp only at hv hR2 hL2 hnx2 hfr2
    subst hv
    simp only [hnx1, Nat.zero_add] at hnew1 hR1 hnew2 hR2 hnx2 hfr2
    have K0 : Two h2 1 0 (2 + 1) 2 (newS m) (newS m) := ⟨⟨_, _, hR1.frame (fun k hk => hfr2 k hk.2), hR2, fun k a b => by omega, fun k hk => by omega, fun k hk => by omega⟩, hL2, by simp [newS]; omega, by simp [newS]; omega⟩
    simp only [Nat.reduceAdd] at K0 hnew2
    (simp only [e5, hf, hm, z20, wk, hnew1, hnew2, ws, wsl, opX, int, Zv.bool, intBin, reduceIte, ↓reduceIte, Nat.reduceEqDiff, Nat.reduceAdd, Nat.reduceSub, Nat.reduceLeDiff, Int.reduceLT, Int.reduceLE, Int.reduceEq, Int.reduceBEq, Int.reduceNe, Int.reduceBNe, reduceCtorEq, Nat.reduceBEq] <;> repeat' (first | refine wpG_s ?_ ?_ | refine wpC_s ?_ ?_) <;> intro hgo <;> (try simp only [decide_eq_true_eq, decide_eq_false_iff_not, Bool.not_eq_true', Bool.not_eq_false'] at hgo) <;> simp only [hgo, e5, hf, hm, z20, wk, hnew1, hnew2, ws, wsl, opX, int, Zv.bool, intBin, reduceIte, ↓reduceIte, Nat.reduceEqDiff, Nat.reduceAdd, Nat.reduceSub, Nat.reduceLeDiff, Int.reduceLT, Int.reduceLE, Int.reduceEq, Int.reduceBEq, Int.reduceNe, Int.reduceBNe, reduceCtorEq, Nat.reduceBEq])
    refine loop_wp l.length (fun i e h' => e = [(1, .d (.lst (l.map eA))), (5, .ptr 1 1 0 0), (7, .ptr 3 1 0 0), (9, .d (.int .i64 i))] ∧ ∃ S, Two h' 1 0 3 2 S S) _ ?_ ?_ l.length 0 _ _ (by omega) ⟨rfl, _, K0⟩
    · rintro i e h' hi ⟨rfl, S, K⟩
      obtain ⟨a, ha⟩ := get_of_lt hi
      have haw := hw30 a (List.mem_of_getElem? ha)
      have hto := fun h => to_ok a.words (by omega) h
      have hw := wrap_succ (show i < 2 ^ 62 by omega)
      by_cases h0 : a.op = 0
      · obtain ⟨h3, c1, K1⟩ := K.take a.tag a.words (by omega)
        obtain ⟨h4, c2, K2⟩ := K1.swap.take a.tag a.words (by omega)
        have K3 := K2.swap
        have c3 := K3.audit a.words (by omega)
        have c4 := K3.swap.audit a.words (by omega)
        have c5 := K3.left
        have c6 := K3.swap.left
        (simp only [e5, hi, iaA ha, hto, h0, c1, c2, c3, c4, c5, c6, hw, ws, wsl, opX, int, Zv.bool, intBin, reduceIte, ↓reduceIte, Nat.reduceEqDiff, Nat.reduceAdd, Nat.reduceSub, Nat.reduceLeDiff, Int.reduceLT, Int.reduceLE, Int.reduceEq, Int.reduceBEq, Int.reduceNe, Int.reduceBNe, reduceCtorEq, Nat.reduceBEq] <;> repeat' (first | refine wpG_s ?_ ?_ | refine wpC_s ?_ ?_) <;> intro hgo <;> (try simp only [decide_eq_true_eq, decide_eq_false_iff_not, Bool.not_eq_true', Bool.not_eq_false'] at hgo) <;> simp only [hgo, e5, hi, iaA ha, hto, h0, c1, c2, c3, c4, c5, c6, hw, ws, wsl, opX, int, Zv.bool, intBin, reduceIte, ↓reduceIte, Nat.reduceEqDiff, Nat.reduceAdd, Nat.reduceSub, Nat.reduceLeDiff, Int.reduceLT, Int.reduceLE, Int.reduceEq, Int.reduceBEq, Int.reduceNe, Int.reduceBNe, reduceCtorEq, Nat.reduceBEq])
        exact ⟨_, K3⟩
      · have h0' : (a.op == 0) = false := by simpa using h0
        obtain ⟨h3, c1, K1⟩ := K.give a.cell
        obtain ⟨h4, c2, K2⟩ := K1.swap.give a.cell
        have K3 := K2.swap
        have c3 := K3.audit a.words (by omega)
        have c4 := K3.swap.audit a.words (by omega)
        have c5 := K3.left
        have c6 := K3.swap.left
        (simp only [e5, hi, iaA ha, hto, h0', c1, c2, c3, c4, c5, c6, hw, ws, wsl, opX, int, Zv.bool, intBin, reduceIte, ↓reduceIte, Nat.reduceEqDiff, Nat.reduceAdd, Nat.reduceSub, Nat.reduceLeDiff, Int.reduceLT, Int.reduceLE, Int.reduceEq, Int.reduceBEq, Int.reduceNe, Int.reduceBNe, reduceCtorEq, Nat.reduceBEq] <;> repeat' (first | refine wpG_s ?_ ?_ | refine wpC_s ?_ ?_) <;> intro hgo <;> (try simp only [decide_eq_true_eq, decide_eq_false_iff_not, Bool.not_eq_true', Bool.not_eq_false'] at hgo) <;> simp only [hgo, e5, hi, iaA ha, hto, h0', c1, c2, c3, c4, c5, c6, hw, ws, wsl, opX, int, Zv.bool, intBin, reduceIte, ↓reduceIte, Nat.reduceEqDiff, Nat.reduceAdd, Nat.reduceSub, Nat.reduceLeDiff, Int.reduceLT, Int.reduceLE, Int.reduceEq, Int.reduceBEq, Int.reduceNe, Int.reduceBNe, reduceCtorEq, Nat.reduceBEq])
        exact ⟨_, K3⟩
    · rintro e h' ⟨rfl, S, K⟩
      have hfin := finS_suf (h := ⟨[], 0⟩) (h' := h') (by unfold sufOk; simp [objsBeq]) [.bool true]
      (simp only [e5, awake_any K.low, ws, wsl, opX, int, Zv.bool, intBin, reduceIte, ↓reduceIte, Nat.reduceEqDiff, Nat.reduceAdd, Nat.reduceSub, Nat.reduceLeDiff, Int.reduceLT, Int.reduceLE, Int.reduceEq, Int.reduceBEq, Int.reduceNe, Int.reduceBNe, reduceCtorEq, Nat.reduceBEq] <;> repeat' (first | refine wpG_s ?_ ?_ | refine wpC_s ?_ ?_) <;> intro hgo <;> (try simp only [decide_eq_true_eq, decide_eq_false_iff_not, Bool.not_eq_true', Bool.not_eq_false'] at hgo) <;> simp only [hgo, e5, awake_any K.low, ws, wsl, opX, int, Zv.bool, intBin, reduceIte, ↓reduceIte, Nat.reduceEqDiff, Nat.reduceAdd, Nat.reduceSub, Nat.reduceLeDiff, Int.reduceLT, Int.reduceLE, Int.reduceEq, Int.reduceBEq, Int.reduceNe, Int.reduceBNe, reduceCtorEq, Nat.reduceBEq])
      exact hfin
-- ws, wsl, opX, int, Zv.bool, intBin, reduceIte, ↓reduceIte, Nat.reduceEqDiff, Nat.reduceAdd, Nat.reduceSub, Nat.reduceLeDiff, Int.reduceLT, Int.reduceLE, Int.reduceEq, Int.reduceBEq, Int.reduceNe, Int.reduceBNe, reduceCtorEq, Nat.reduceBEq
end Zc55
