/-
  The law of the acts, in ZvVal's machine.
-/
import Derived.Test.YtlncinhieeopmaaZc55S12
set_option linter.unusedSimpArgs false
set_option maxHeartbeats 4000000
namespace Zc55
open Go Zv Zs
theorem storePlays : ∀ x0 x1 : D, ok (EE Zc55.es) (.one (.i .u8)) x0 → ok (EE Zc55.es) (.one (.l 1)) x1 → ∃ h', callW Zc55.tab 8 [.d x0, .d x1] ⟨[], 0⟩ = some (.d (.bool true), h') := by
  intro x0 x1 h0 h1
  obtain ⟨n, rfl, hn⟩ := ok_i h0
  obtain ⟨n0, n1⟩ := u8_of hn
  obtain ⟨l, rfl, _, h2⟩ := ok_l h1
  obtain ⟨l, rfl⟩ := okEs_map (fun _ => okA) h2
  refine ⟨⟨[], 0⟩, ?_⟩
  apply call_wp (fn := f8) rfl rfl
  obtain ⟨r, hf, b, rfl, hb⟩ := few_ok l ⟨[], 0⟩
  cases b with
  | false => (simp only [e8, hf, awake, ws, wsl, opX, int, Zv.bool, intBin, reduceIte, ↓reduceIte, Nat.reduceEqDiff, Nat.reduceAdd, Nat.reduceSub, Nat.reduceLeDiff, Int.reduceLT, Int.reduceLE, Int.reduceEq, Int.reduceBEq, Int.reduceNe, Int.reduceBNe, reduceCtorEq, Nat.reduceBEq] <;> repeat' (first | refine wpG_s ?_ ?_ | refine wpC_s ?_ ?_) <;> intro hgo <;> (try simp only [decide_eq_true_eq, decide_eq_false_iff_not, Bool.not_eq_true', Bool.not_eq_false'] at hgo) <;> simp only [hgo, e8, hf, awake, ws, wsl, opX, int, Zv.bool, intBin, reduceIte, ↓reduceIte, Nat.reduceEqDiff, Nat.reduceAdd, Nat.reduceSub, Nat.reduceLeDiff, Int.reduceLT, Int.reduceLE, Int.reduceEq, Int.reduceBEq, Int.reduceNe, Int.reduceBNe, reduceCtorEq, Nat.reduceBEq])
  | true =>
    obtain ⟨hl40, hw30⟩ := hb rfl
    have L0 : Low ⟨[], 0⟩ := fun _ _ => rfl
    obtain ⟨m, hm, hm20⟩ : ∃ m : Nat, n.tmod 20 = m ∧ m ≤ 19 := by
      rw [Int.tmod_eq_emod_of_nonneg n0]
      exact ⟨(n % 20).toNat, by omega, by omega⟩
    have z20 : ((20 : Int) = 0) = False := by decide
    have wk : IntKind.i64.wrap (m : Int) = m := wrap_ok (by omega) (by omega)
    obtain ⟨⟨v, h1⟩, hnew1, hv, hR1, hL1, hnx1, _⟩ := new_ok ⟨[], 0⟩ L0 m (by omega)
    simp only at hv hR1 hL1 hnx1
    subst hv
    obtain ⟨⟨v, h2⟩, hnew2, hv, hR2, hL2, hnx2, hfr2⟩ := rnew_ok h1 hL1 m (by omega)
    simp only at hv hR2 hL2 hnx2 hfr2
    subst hv
    simp only [hnx1, Nat.zero_add] at hnew1 hR1 hnew2 hR2 hnx2 hfr2
    have K0 : Mix h2 1 0 (2 + 1) 2 (newS m) (newS m) := ⟨⟨_, _, hR1.frame (fun k hk => hfr2 k hk.2), hR2, fun k a b => by omega, fun k hk => by omega, fun k hk => hk.2⟩, hL2, by simp [newS]; omega, by simp [newS]; omega⟩
    simp only [Nat.reduceAdd] at K0 hnew2
    (simp only [e8, hf, hm, z20, wk, hnew1, hnew2, ws, wsl, opX, int, Zv.bool, intBin, reduceIte, ↓reduceIte, Nat.reduceEqDiff, Nat.reduceAdd, Nat.reduceSub, Nat.reduceLeDiff, Int.reduceLT, Int.reduceLE, Int.reduceEq, Int.reduceBEq, Int.reduceNe, Int.reduceBNe, reduceCtorEq, Nat.reduceBEq] <;> repeat' (first | refine wpG_s ?_ ?_ | refine wpC_s ?_ ?_) <;> intro hgo <;> (try simp only [decide_eq_true_eq, decide_eq_false_iff_not, Bool.not_eq_true', Bool.not_eq_false'] at hgo) <;> simp only [hgo, e8, hf, hm, z20, wk, hnew1, hnew2, ws, wsl, opX, int, Zv.bool, intBin, reduceIte, ↓reduceIte, Nat.reduceEqDiff, Nat.reduceAdd, Nat.reduceSub, Nat.reduceLeDiff, Int.reduceLT, Int.reduceLE, Int.reduceEq, Int.reduceBEq, Int.reduceNe, Int.reduceBNe, reduceCtorEq, Nat.reduceBEq])
    refine loop_wp l.length (fun i e h' => e = [(1, .d (.lst (l.map eA))), (5, .ptr 1 1 0 0), (7, .ptr 3 1 0 0), (9, .d (.int .i64 i))] ∧ ∃ S, Mix h' 1 0 3 2 S S) _ ?_ ?_ l.length 0 _ _ (by omega) ⟨rfl, _, K0⟩
    · rintro i e h' hi ⟨rfl, S, K⟩
      obtain ⟨a, ha⟩ := get_of_lt hi
      have haw := hw30 a (List.mem_of_getElem? ha)
      have hw := wrap_succ (show i < 2 ^ 62 by omega)
      obtain ⟨r, c1, h3, S', rfl, K1⟩ := step_ok K a haw
      obtain ⟨O1, ⟨⟨cs, first, P, hab, _⟩, _⟩, -⟩ := K1.l
      obtain ⟨O2, ⟨⟨ds, fv, P2, F2, hab2, _⟩, _⟩, -⟩ := K1.r
      have c2 := left_ok P
      have c3 := size_ok P
      obtain ⟨e1, e2, e3⟩ := fvcells F2
      have hl : ds.length = cs.length := by
        have a1 := congrArg List.length hab
        have a2 := congrArg List.length hab2
        simp only [List.length_map] at a1 a2; omega
      (simp only [e8, hi, iaA ha, c1, c2, c3, e1, e2, e3, P2.row, hl, hw, ws, wsl, opX, int, Zv.bool, intBin, reduceIte, ↓reduceIte, Nat.reduceEqDiff, Nat.reduceAdd, Nat.reduceSub, Nat.reduceLeDiff, Int.reduceLT, Int.reduceLE, Int.reduceEq, Int.reduceBEq, Int.reduceNe, Int.reduceBNe, reduceCtorEq, Nat.reduceBEq] <;> repeat' (first | refine wpG_s ?_ ?_ | refine wpC_s ?_ ?_) <;> intro hgo <;> (try simp only [decide_eq_true_eq, decide_eq_false_iff_not, Bool.not_eq_true', Bool.not_eq_false'] at hgo) <;> simp only [hgo, e8, hi, iaA ha, c1, c2, c3, e1, e2, e3, P2.row, hl, hw, ws, wsl, opX, int, Zv.bool, intBin, reduceIte, ↓reduceIte, Nat.reduceEqDiff, Nat.reduceAdd, Nat.reduceSub, Nat.reduceLeDiff, Int.reduceLT, Int.reduceLE, Int.reduceEq, Int.reduceBEq, Int.reduceNe, Int.reduceBNe, reduceCtorEq, Nat.reduceBEq])
      exact ⟨_, K1⟩
    · rintro e h' ⟨rfl, S, K⟩
      have hfin := finS_suf (h := ⟨[], 0⟩) (h' := h') (by unfold sufOk; simp [objsBeq]) [.bool true]
      (simp only [e8, awake_any K.low, ws, wsl, opX, int, Zv.bool, intBin, reduceIte, ↓reduceIte, Nat.reduceEqDiff, Nat.reduceAdd, Nat.reduceSub, Nat.reduceLeDiff, Int.reduceLT, Int.reduceLE, Int.reduceEq, Int.reduceBEq, Int.reduceNe, Int.reduceBNe, reduceCtorEq, Nat.reduceBEq] <;> repeat' (first | refine wpG_s ?_ ?_ | refine wpC_s ?_ ?_) <;> intro hgo <;> (try simp only [decide_eq_true_eq, decide_eq_false_iff_not, Bool.not_eq_true', Bool.not_eq_false'] at hgo) <;> simp only [hgo, e8, awake_any K.low, ws, wsl, opX, int, Zv.bool, intBin, reduceIte, ↓reduceIte, Nat.reduceEqDiff, Nat.reduceAdd, Nat.reduceSub, Nat.reduceLeDiff, Int.reduceLT, Int.reduceLE, Int.reduceEq, Int.reduceBEq, Int.reduceNe, Int.reduceBNe, reduceCtorEq, Nat.reduceBEq])
      exact hfin
-- ws, wsl, opX, int, Zv.bool, intBin, reduceIte, ↓reduceIte, Nat.reduceEqDiff, Nat.reduceAdd, Nat.reduceSub, Nat.reduceLeDiff, Int.reduceLT, Int.reduceLE, Int.reduceEq, Int.reduceBEq, Int.reduceNe, Int.reduceBNe, reduceCtorEq, Nat.reduceBEq
end Zc55
