/-
  How deep patterns are, and whether they fit: of both.
-/
import Derived.Test.YtfbkbopmenilkaaZc27S3
set_option linter.unusedSimpArgs false
set_option maxHeartbeats 4000000
namespace Zc27
open Go Zv Zs

theorem idxFP (l : List Pt) (cv : V) (p : Pt → Bool) (h : Hp) (hl : l.length < 2 ^ 60) (hcv : norm cv = cv) (hc : ∀ c, c ∈ l → cW tab cv [.d (ePt c)] h = some (.d (.bool (p c)), h)) :
    callW tab 69 [.d (.lst (l.map ePt)), cv] h = some (.d (eI (idxZ p l)), h) := by
  refine call_wp (fn := f69) rfl rfl ?_
  have hloop := loop_find (T := tab) (a := f69l0) (l := l) (p := p) (f := fun n => [(0, .d (.lst (l.map ePt))), (1, cv), (7, int l.length), (8, int n)]) (h := h)
      (by intro n x hx hlt hp; have hcall := hc x (List.mem_of_getElem? hx); all_goals (apply wq_ex.1; (simp only [hlt, hp, e69, iaP hx, pts, hcall, wrap_succ (show n < 2 ^ 62 by omega), ws, wsl, opX, int, Zv.bool, intBin, reduceIte, ↓reduceIte, Nat.reduceEqDiff, Nat.reduceAdd, Nat.reduceSub, Nat.reduceLeDiff, Int.reduceLT, Int.reduceLE, Int.reduceEq, Int.reduceBEq, Int.reduceNe, Int.reduceBNe, reduceCtorEq, Nat.reduceBEq] <;> repeat' (first | refine wpG_s ?_ ?_ | refine wpC_s ?_ ?_) <;> intro hgo <;> (try simp only [decide_eq_true_eq, decide_eq_false_iff_not, Bool.not_eq_true', Bool.not_eq_false'] at hgo) <;> simp only [hgo, hlt, hp, e69, iaP hx, pts, hcall, wrap_succ (show n < 2 ^ 62 by omega), ws, wsl, opX, int, Zv.bool, intBin, reduceIte, ↓reduceIte, Nat.reduceEqDiff, Nat.reduceAdd, Nat.reduceSub, Nat.reduceLeDiff, Int.reduceLT, Int.reduceLE, Int.reduceEq, Int.reduceBEq, Int.reduceNe, Int.reduceBNe, reduceCtorEq, Nat.reduceBEq])))
      (by intro n x hx hlt hp; have hcall := hc x (List.mem_of_getElem? hx); all_goals (apply wq_ex.1; (simp only [hlt, hp, e69, iaP hx, pts, hcall, wrap_succ (show n < 2 ^ 62 by omega), ws, wsl, opX, int, Zv.bool, intBin, reduceIte, ↓reduceIte, Nat.reduceEqDiff, Nat.reduceAdd, Nat.reduceSub, Nat.reduceLeDiff, Int.reduceLT, Int.reduceLE, Int.reduceEq, Int.reduceBEq, Int.reduceNe, Int.reduceBNe, reduceCtorEq, Nat.reduceBEq] <;> repeat' (first | refine wpG_s ?_ ?_ | refine wpC_s ?_ ?_) <;> intro hgo <;> (try simp only [decide_eq_true_eq, decide_eq_false_iff_not, Bool.not_eq_true', Bool.not_eq_false'] at hgo) <;> simp only [hgo, hlt, hp, e69, iaP hx, pts, hcall, wrap_succ (show n < 2 ^ 62 by omega), ws, wsl, opX, int, Zv.bool, intBin, reduceIte, ↓reduceIte, Nat.reduceEqDiff, Nat.reduceAdd, Nat.reduceSub, Nat.reduceLeDiff, Int.reduceLT, Int.reduceLE, Int.reduceEq, Int.reduceBEq, Int.reduceNe, Int.reduceBNe, reduceCtorEq, Nat.reduceBEq]) <;> rfl))
      (by apply wq_ex.1; (simp only [e69, ws, wsl, opX, int, Zv.bool, intBin, reduceIte, ↓reduceIte, Nat.reduceEqDiff, Nat.reduceAdd, Nat.reduceSub, Nat.reduceLeDiff, Int.reduceLT, Int.reduceLE, Int.reduceEq, Int.reduceBEq, Int.reduceNe, Int.reduceBNe, reduceCtorEq, Nat.reduceBEq] <;> repeat' (first | refine wpG_s ?_ ?_ | refine wpC_s ?_ ?_) <;> intro hgo <;> (try simp only [decide_eq_true_eq, decide_eq_false_iff_not, Bool.not_eq_true', Bool.not_eq_false'] at hgo) <;> simp only [hgo, e69, ws, wsl, opX, int, Zv.bool, intBin, reduceIte, ↓reduceIte, Nat.reduceEqDiff, Nat.reduceAdd, Nat.reduceSub, Nat.reduceLeDiff, Int.reduceLT, Int.reduceLE, Int.reduceEq, Int.reduceBEq, Int.reduceNe, Int.reduceBNe, reduceCtorEq, Nat.reduceBEq]) <;> rfl)
      (by intro n x; simp) (by simp)
  simp only [int, Zv.bool, Int.cast_ofNat_Int] at hloop
  (simp only [e69, hcv, wq_of hloop, ws, wsl, opX, int, Zv.bool, intBin, reduceIte, ↓reduceIte, Nat.reduceEqDiff, Nat.reduceAdd, Nat.reduceSub, Nat.reduceLeDiff, Int.reduceLT, Int.reduceLE, Int.reduceEq, Int.reduceBEq, Int.reduceNe, Int.reduceBNe, reduceCtorEq, Nat.reduceBEq] <;> repeat' (first | refine wpG_s ?_ ?_ | refine wpC_s ?_ ?_) <;> intro hgo <;> (try simp only [decide_eq_true_eq, decide_eq_false_iff_not, Bool.not_eq_true', Bool.not_eq_false'] at hgo) <;> simp only [hgo, e69, hcv, wq_of hloop, ws, wsl, opX, int, Zv.bool, intBin, reduceIte, ↓reduceIte, Nat.reduceEqDiff, Nat.reduceAdd, Nat.reduceSub, Nat.reduceLeDiff, Int.reduceLT, Int.reduceLE, Int.reduceEq, Int.reduceBEq, Int.reduceNe, Int.reduceBNe, reduceCtorEq, Nat.reduceBEq])
  unfold idxZ
  cases fst? p 0 l with
  | none => (simp only [e69, ws, wsl, opX, int, Zv.bool, intBin, reduceIte, ↓reduceIte, Nat.reduceEqDiff, Nat.reduceAdd, Nat.reduceSub, Nat.reduceLeDiff, Int.reduceLT, Int.reduceLE, Int.reduceEq, Int.reduceBEq, Int.reduceNe, Int.reduceBNe, reduceCtorEq, Nat.reduceBEq] <;> repeat' (first | refine wpG_s ?_ ?_ | refine wpC_s ?_ ?_) <;> intro hgo <;> (try simp only [decide_eq_true_eq, decide_eq_false_iff_not, Bool.not_eq_true', Bool.not_eq_false'] at hgo) <;> simp only [hgo, e69, ws, wsl, opX, int, Zv.bool, intBin, reduceIte, ↓reduceIte, Nat.reduceEqDiff, Nat.reduceAdd, Nat.reduceSub, Nat.reduceLeDiff, Int.reduceLT, Int.reduceLE, Int.reduceEq, Int.reduceBEq, Int.reduceNe, Int.reduceBNe, reduceCtorEq, Nat.reduceBEq])
  | some n => (simp only [e69, ws, wsl, opX, int, Zv.bool, intBin, reduceIte, ↓reduceIte, Nat.reduceEqDiff, Nat.reduceAdd, Nat.reduceSub, Nat.reduceLeDiff, Int.reduceLT, Int.reduceLE, Int.reduceEq, Int.reduceBEq, Int.reduceNe, Int.reduceBNe, reduceCtorEq, Nat.reduceBEq] <;> repeat' (first | refine wpG_s ?_ ?_ | refine wpC_s ?_ ?_) <;> intro hgo <;> (try simp only [decide_eq_true_eq, decide_eq_false_iff_not, Bool.not_eq_true', Bool.not_eq_false'] at hgo) <;> simp only [hgo, e69, ws, wsl, opX, int, Zv.bool, intBin, reduceIte, ↓reduceIte, Nat.reduceEqDiff, Nat.reduceAdd, Nat.reduceSub, Nat.reduceLeDiff, Int.reduceLT, Int.reduceLE, Int.reduceEq, Int.reduceBEq, Int.reduceNe, Int.reduceBNe, reduceCtorEq, Nat.reduceBEq])
theorem conFP (l : List Pt) (cv : V) (p : Pt → Bool) (h : Hp) (hl : l.length < 2 ^ 60) (hcv : norm cv = cv) (hc : ∀ c, c ∈ l → cW tab cv [.d (ePt c)] h = some (.d (.bool (p c)), h)) :
    callW tab 36 [.d (.lst (l.map ePt)), cv] h = some (.d (.bool (l.any p)), h) := by
  refine call_wp (fn := f36) rfl rfl ?_
  have hi := idxFP l cv p h hl hcv hc
  (simp only [e36, hcv, hi, idxZ_nn, Bool.decide_eq_true, ws, wsl, opX, int, Zv.bool, intBin, reduceIte, ↓reduceIte, Nat.reduceEqDiff, Nat.reduceAdd, Nat.reduceSub, Nat.reduceLeDiff, Int.reduceLT, Int.reduceLE, Int.reduceEq, Int.reduceBEq, Int.reduceNe, Int.reduceBNe, reduceCtorEq, Nat.reduceBEq] <;> repeat' (first | refine wpG_s ?_ ?_ | refine wpC_s ?_ ?_) <;> intro hgo <;> (try simp only [decide_eq_true_eq, decide_eq_false_iff_not, Bool.not_eq_true', Bool.not_eq_false'] at hgo) <;> simp only [hgo, e36, hcv, hi, idxZ_nn, Bool.decide_eq_true, ws, wsl, opX, int, Zv.bool, intBin, reduceIte, ↓reduceIte, Nat.reduceEqDiff, Nat.reduceAdd, Nat.reduceSub, Nat.reduceLeDiff, Int.reduceLT, Int.reduceLE, Int.reduceEq, Int.reduceBEq, Int.reduceNe, Int.reduceBNe, reduceCtorEq, Nat.reduceBEq])

mutual
def deepP : Pt → Nat → Bool
  | .mk _ _ _ qs, k => decide (64 < k) || deepL qs (k + 1)
def deepL : List Pt → Nat → Bool
  | [], _ => false
  | p :: r, k => deepP p k || deepL r k
end
theorem deepL_any (k : Nat) : ∀ l : List Pt, deepL l k = l.any fun p => deepP p k
  | [] => by rw [deepL]; rfl
  | p :: r => by rw [deepL, deepL_any k r, List.any_cons]
theorem deep_ok : ∀ (p : Pt) (k : Nat), k ≤ 65 → cntP p < 2 ^ 60 → ∀ h, callW tab 38 [.d (ePt p), .d (.int .i64 (k : Int))] h = some (.d (.bool (deepP p k)), h)
  | .mk kd c m qs, k, hk, hc, h => by
    have hlen := cntL_len qs
    rw [cntP] at hc
    rw [deepP, ePt_mk]
    refine call_wp (fn := f38) rfl rfl ?_
    by_cases h6 : 64 < k
    · have hk' : (64 : Int) < (k : Int) := by omega
      have e : (decide (64 < k) || deepL qs (k + 1)) = true := by simp [h6]
      rw [e]
      (simp only [e38, hk', ws, wsl, opX, int, Zv.bool, intBin, reduceIte, ↓reduceIte, Nat.reduceEqDiff, Nat.reduceAdd, Nat.reduceSub, Nat.reduceLeDiff, Int.reduceLT, Int.reduceLE, Int.reduceEq, Int.reduceBEq, Int.reduceNe, Int.reduceBNe, reduceCtorEq, Nat.reduceBEq] <;> repeat' (first | refine wpG_s ?_ ?_ | refine wpC_s ?_ ?_) <;> intro hgo <;> (try simp only [decide_eq_true_eq, decide_eq_false_iff_not, Bool.not_eq_true', Bool.not_eq_false'] at hgo) <;> simp only [hgo, e38, hk', ws, wsl, opX, int, Zv.bool, intBin, reduceIte, ↓reduceIte, Nat.reduceEqDiff, Nat.reduceAdd, Nat.reduceSub, Nat.reduceLeDiff, Int.reduceLT, Int.reduceLE, Int.reduceEq, Int.reduceBEq, Int.reduceNe, Int.reduceBNe, reduceCtorEq, Nat.reduceBEq])
    · have hk' : ¬ (64 : Int) < (k : Int) := by omega
      have e : (decide (64 < k) || deepL qs (k + 1)) = qs.any fun p => deepP p (k + 1) := by simp [h6, deepL_any]
      rw [e]
      have hcl := conFP qs (.clo 70 [.ptr (h.next + 1) 1 0 0]) (fun p => deepP p (k + 1)) ⟨(h.next + 1, .arr 1 [.d (.int .i64 (k : Int))]) :: h.objs, h.next + 2⟩ (by omega) rfl (by
        intro p hp
        have hcp := cntL_mem hp
        have hr := fun h => deep_ok p (k + 1) (by omega) (by omega) h
        rw [cW_clo]
        simp only [Nat.reduceBEq, Bool.false_eq_true, if_false]
        refine call_wp (fn := f70) rfl rfl ?_
        have hw := wrap_succ (show k < 2 ^ 62 by omega)
        have hrow : ∀ (v : V) (nx : Nat), Hp.row ⟨(h.next + 1 + 1, .arr 4 [v]) :: (h.next + 1, .arr 1 [.d (.int .i64 (k : Int))]) :: h.objs, nx⟩ (h.next + 1) 1 = some (1, [.d (.int .i64 (k : Int))]) := fun v nx => by
          unfold Hp.row Hp.get; simp [Zv.look]
        (simp only [e70, pts, hrow, hw, hr, ws, wsl, opX, int, Zv.bool, intBin, reduceIte, ↓reduceIte, Nat.reduceEqDiff, Nat.reduceAdd, Nat.reduceSub, Nat.reduceLeDiff, Int.reduceLT, Int.reduceLE, Int.reduceEq, Int.reduceBEq, Int.reduceNe, Int.reduceBNe, reduceCtorEq, Nat.reduceBEq] <;> repeat' (first | refine wpG_s ?_ ?_ | refine wpC_s ?_ ?_) <;> intro hgo <;> (try simp only [decide_eq_true_eq, decide_eq_false_iff_not, Bool.not_eq_true', Bool.not_eq_false'] at hgo) <;> simp only [hgo, e70, pts, hrow, hw, hr, ws, wsl, opX, int, Zv.bool, intBin, reduceIte, ↓reduceIte, Nat.reduceEqDiff, Nat.reduceAdd, Nat.reduceSub, Nat.reduceLeDiff, Int.reduceLT, Int.reduceLE, Int.reduceEq, Int.reduceBEq, Int.reduceNe, Int.reduceBNe, reduceCtorEq, Nat.reduceBEq]))
      (simp only [e38, hk', hcl, ws, wsl, opX, int, Zv.bool, intBin, reduceIte, ↓reduceIte, Nat.reduceEqDiff, Nat.reduceAdd, Nat.reduceSub, Nat.reduceLeDiff, Int.reduceLT, Int.reduceLE, Int.reduceEq, Int.reduceBEq, Int.reduceNe, Int.reduceBNe, reduceCtorEq, Nat.reduceBEq] <;> repeat' (first | refine wpG_s ?_ ?_ | refine wpC_s ?_ ?_) <;> intro hgo <;> (try simp only [decide_eq_true_eq, decide_eq_false_iff_not, Bool.not_eq_true', Bool.not_eq_false'] at hgo) <;> simp only [hgo, e38, hk', hcl, ws, wsl, opX, int, Zv.bool, intBin, reduceIte, ↓reduceIte, Nat.reduceEqDiff, Nat.reduceAdd, Nat.reduceSub, Nat.reduceLeDiff, Int.reduceLT, Int.reduceLE, Int.reduceEq, Int.reduceBEq, Int.reduceNe, Int.reduceBNe, reduceCtorEq, Nat.reduceBEq])
termination_by p => cntP p
decreasing_by
  have := cntL_mem hp
  rw [cntP]
  omega
theorem rdeep_ok : ∀ (p : Pt) (k : Nat), k ≤ 65 → cntP p < 2 ^ 60 → ∀ h, callW tab 41 [.d (ePt p), .d (.int .i64 (64 - (k : Int)))] h = some (.d (.bool (deepP p k)), h)
  | .mk kd c m qs, k, hk, hc, h => by
    have hlen := cntL_len qs
    rw [cntP] at hc
    rw [deepP, ePt_mk]
    refine call_wp (fn := f41) rfl rfl ?_
    by_cases h6 : 64 < k
    · have hk' : (64 : Int) - (k : Int) < 0 := by omega
      have e : (decide (64 < k) || deepL qs (k + 1)) = true := by simp [h6]
      rw [e]
      (simp only [e41, hk', ws, wsl, opX, int, Zv.bool, intBin, reduceIte, ↓reduceIte, Nat.reduceEqDiff, Nat.reduceAdd, Nat.reduceSub, Nat.reduceLeDiff, Int.reduceLT, Int.reduceLE, Int.reduceEq, Int.reduceBEq, Int.reduceNe, Int.reduceBNe, reduceCtorEq, Nat.reduceBEq] <;> repeat' (first | refine wpG_s ?_ ?_ | refine wpC_s ?_ ?_) <;> intro hgo <;> (try simp only [decide_eq_true_eq, decide_eq_false_iff_not, Bool.not_eq_true', Bool.not_eq_false'] at hgo) <;> simp only [hgo, e41, hk', ws, wsl, opX, int, Zv.bool, intBin, reduceIte, ↓reduceIte, Nat.reduceEqDiff, Nat.reduceAdd, Nat.reduceSub, Nat.reduceLeDiff, Int.reduceLT, Int.reduceLE, Int.reduceEq, Int.reduceBEq, Int.reduceNe, Int.reduceBNe, reduceCtorEq, Nat.reduceBEq])
    · have hk' : ¬ (64 : Int) - (k : Int) < 0 := by omega
      have e : (decide (64 < k) || deepL qs (k + 1)) = qs.any fun p => deepP p (k + 1) := by simp [h6, deepL_any]
      rw [e]
      have hw : IntKind.i64.wrap (64 - (k : Int) - 1) = 64 - ((k + 1 : Nat) : Int) := by
        have : (64 : Int) - (k : Int) - 1 = 64 - ((k + 1 : Nat) : Int) := by omega
        rw [this]
        exact wrap_ok (by omega) (by omega)
      have hloop := loop_any (T := tab) (a := f41l0) (l := qs) (p := (fun p => deepP p (k + 1))) (f := fun n => [(1, .d (.int .i64 (64 - (k : Int)))), (2, .fp (.agg [.int .i64 kd, .int .i64 c, .int .i64 m, .lst (qs.map ePt)]) 0), (5, int n)]) (h := ⟨h.objs, h.next + 1⟩)
          (by intro n x hx hlt hp; (have hcp := cntL_mem (List.mem_of_getElem? hx)); (have hr := fun h => rdeep_ok x (k + 1) (by omega) (by omega) h); all_goals (apply wq_ex.1; (simp only [hlt, hp, e41, iaP hx, pts, hw, hr, wrap_succ (show n < 2 ^ 62 by omega), ws, wsl, opX, int, Zv.bool, intBin, reduceIte, ↓reduceIte, Nat.reduceEqDiff, Nat.reduceAdd, Nat.reduceSub, Nat.reduceLeDiff, Int.reduceLT, Int.reduceLE, Int.reduceEq, Int.reduceBEq, Int.reduceNe, Int.reduceBNe, reduceCtorEq, Nat.reduceBEq] <;> repeat' (first | refine wpG_s ?_ ?_ | refine wpC_s ?_ ?_) <;> intro hgo <;> (try simp only [decide_eq_true_eq, decide_eq_false_iff_not, Bool.not_eq_true', Bool.not_eq_false'] at hgo) <;> simp only [hgo, hlt, hp, e41, iaP hx, pts, hw, hr, wrap_succ (show n < 2 ^ 62 by omega), ws, wsl, opX, int, Zv.bool, intBin, reduceIte, ↓reduceIte, Nat.reduceEqDiff, Nat.reduceAdd, Nat.reduceSub, Nat.reduceLeDiff, Int.reduceLT, Int.reduceLE, Int.reduceEq, Int.reduceBEq, Int.reduceNe, Int.reduceBNe, reduceCtorEq, Nat.reduceBEq])))
          (by intro n x hx hlt hp; (have hcp := cntL_mem (List.mem_of_getElem? hx)); (have hr := fun h => rdeep_ok x (k + 1) (by omega) (by omega) h); all_goals (apply wq_ex.1; (simp only [hlt, hp, e41, iaP hx, pts, hw, hr, wrap_succ (show n < 2 ^ 62 by omega), ws, wsl, opX, int, Zv.bool, intBin, reduceIte, ↓reduceIte, Nat.reduceEqDiff, Nat.reduceAdd, Nat.reduceSub, Nat.reduceLeDiff, Int.reduceLT, Int.reduceLE, Int.reduceEq, Int.reduceBEq, Int.reduceNe, Int.reduceBNe, reduceCtorEq, Nat.reduceBEq] <;> repeat' (first | refine wpG_s ?_ ?_ | refine wpC_s ?_ ?_) <;> intro hgo <;> (try simp only [decide_eq_true_eq, decide_eq_false_iff_not, Bool.not_eq_true', Bool.not_eq_false'] at hgo) <;> simp only [hgo, hlt, hp, e41, iaP hx, pts, hw, hr, wrap_succ (show n < 2 ^ 62 by omega), ws, wsl, opX, int, Zv.bool, intBin, reduceIte, ↓reduceIte, Nat.reduceEqDiff, Nat.reduceAdd, Nat.reduceSub, Nat.reduceLeDiff, Int.reduceLT, Int.reduceLE, Int.reduceEq, Int.reduceBEq, Int.reduceNe, Int.reduceBNe, reduceCtorEq, Nat.reduceBEq]) <;> rfl))
          (by apply wq_ex.1; (simp only [e41, ws, wsl, opX, int, Zv.bool, intBin, reduceIte, ↓reduceIte, Nat.reduceEqDiff, Nat.reduceAdd, Nat.reduceSub, Nat.reduceLeDiff, Int.reduceLT, Int.reduceLE, Int.reduceEq, Int.reduceBEq, Int.reduceNe, Int.reduceBNe, reduceCtorEq, Nat.reduceBEq] <;> repeat' (first | refine wpG_s ?_ ?_ | refine wpC_s ?_ ?_) <;> intro hgo <;> (try simp only [decide_eq_true_eq, decide_eq_false_iff_not, Bool.not_eq_true', Bool.not_eq_false'] at hgo) <;> simp only [hgo, e41, ws, wsl, opX, int, Zv.bool, intBin, reduceIte, ↓reduceIte, Nat.reduceEqDiff, Nat.reduceAdd, Nat.reduceSub, Nat.reduceLeDiff, Int.reduceLT, Int.reduceLE, Int.reduceEq, Int.reduceBEq, Int.reduceNe, Int.reduceBNe, reduceCtorEq, Nat.reduceBEq]) <;> rfl)
          (by simp) (by simp)
      simp only [int, Zv.bool, Int.cast_ofNat_Int] at hloop
      (simp only [e41, hk', wq_of hloop, ws, wsl, opX, int, Zv.bool, intBin, reduceIte, ↓reduceIte, Nat.reduceEqDiff, Nat.reduceAdd, Nat.reduceSub, Nat.reduceLeDiff, Int.reduceLT, Int.reduceLE, Int.reduceEq, Int.reduceBEq, Int.reduceNe, Int.reduceBNe, reduceCtorEq, Nat.reduceBEq] <;> repeat' (first | refine wpG_s ?_ ?_ | refine wpC_s ?_ ?_) <;> intro hgo <;> (try simp only [decide_eq_true_eq, decide_eq_false_iff_not, Bool.not_eq_true', Bool.not_eq_false'] at hgo) <;> simp only [hgo, e41, hk', wq_of hloop, ws, wsl, opX, int, Zv.bool, intBin, reduceIte, ↓reduceIte, Nat.reduceEqDiff, Nat.reduceAdd, Nat.reduceSub, Nat.reduceLeDiff, Int.reduceLT, Int.reduceLE, Int.reduceEq, Int.reduceBEq, Int.reduceNe, Int.reduceBNe, reduceCtorEq, Nat.reduceBEq])
      cases qs.any fun p => deepP p (k + 1) <;> (simp only [e41, ws, wsl, opX, int, Zv.bool, intBin, reduceIte, ↓reduceIte, Nat.reduceEqDiff, Nat.reduceAdd, Nat.reduceSub, Nat.reduceLeDiff, Int.reduceLT, Int.reduceLE, Int.reduceEq, Int.reduceBEq, Int.reduceNe, Int.reduceBNe, reduceCtorEq, Nat.reduceBEq] <;> repeat' (first | refine wpG_s ?_ ?_ | refine wpC_s ?_ ?_) <;> intro hgo <;> (try simp only [decide_eq_true_eq, decide_eq_false_iff_not, Bool.not_eq_true', Bool.not_eq_false'] at hgo) <;> simp only [hgo, e41, ws, wsl, opX, int, Zv.bool, intBin, reduceIte, ↓reduceIte, Nat.reduceEqDiff, Nat.reduceAdd, Nat.reduceSub, Nat.reduceLeDiff, Int.reduceLT, Int.reduceLE, Int.reduceEq, Int.reduceBEq, Int.reduceNe, Int.reduceBNe, reduceCtorEq, Nat.reduceBEq])
termination_by p => cntP p
decreasing_by
  all_goals
    have := cntL_mem (List.mem_of_getElem? hx)
    rw [cntP]
    omega

/-! ### Fitting -/
mutual
def fitsP (d : List Dt) (t : Int) : Pt → Bool
  | .mk k c m qs => if k = 0 then decide (c = 0) && decide (m = 0) && decide (qs.length = 0) else if k = 2 then decide (t = 0) && decide (c = 0) && decide (qs.length = 0) else if k = 1 then
      (!(decide (t = 0) || !decide (m = 0) || decide (c < 0) || decide (((consOf d t).length : Int) ≤ c))) && (match (consOf d t)[c.toNat]? with
        | some y => decide (y.flds.length = qs.length) && fitsL d y.flds qs
        | none => false) else false
def fitsL (d : List Dt) : List Int → List Pt → Bool
  | f :: fs, q :: qs => fitsP d f q && fitsL d fs qs
  | _, _ => true
end
/-- The fields of a type are types. -/
theorem fld_isT27 {d : List Dt} (T : typedS d = true) {t f : Int} {c : Cn} (hc : c ∈ consOf d t) (hf : f ∈ c.flds) : isT d f = true := by
  rcases tcase d t with h0 | h0 | ⟨n, y, rfl, hy⟩
  · rw [consOf_lo h0] at hc; cases hc
  · rw [consOf_hi h0] at hc; cases hc
  · rw [consOf_at hy] at hc
    unfold typedS at T
    rw [List.all_eq_true] at T
    have := T y (List.mem_of_getElem? hy)
    rw [List.all_eq_true] at this
    have := this c hc
    rw [List.all_eq_true] at this
    exact this f hf
def badF (d : List Dt) (x : Int × Pt) : Bool := !fitsP d x.1 x.2
theorem fitsL_any (d : List Dt) : ∀ (fs : List Int) (qs : List Pt), fitsL d fs qs = !(fs.zip qs).any (badF d)
  | [], [] => by simp [fitsL]
  | [], _ :: _ => by simp [fitsL]
  | _ :: _, [] => by simp [fitsL]
  | f :: fs, q :: qs => by
    rw [fitsL, fitsL_any d fs qs, List.zip_cons_cons, List.any_cons]
    simp [badF]
theorem zip_at {α β : Type} {l : List α} {r : List β} {n : Nat} {x : α × β} (h : (l.zip r)[n]? = some x) : l[n]? = some x.1 ∧ r[n]? = some x.2 := by
  rw [List.getElem?_zip_eq_some] at h
  exact h
theorem fits_ok {d : List Dt} (B : Bd d) (T : typedS d = true) : ∀ (p : Pt) (t : Int), isT d t = true → cntP p < 2 ^ 60 → ∀ h, callW tab 39 [.d (eDs d), .d (eI t), .d (ePt p)] h = some (.d (.bool (fitsP d t p)), h)
  | .mk kd c m qs, t, hT, hc, h => by
    have hlen := cntL_len qs
    rw [cntP] at hc
    rw [fitsP, ePt_mk]
    refine call_wp (fn := f39) rfl rfl ?_
    by_cases k0 : kd = 0
    · subst k0
      rw [if_pos rfl]
      by_cases c0 : c = 0 <;> by_cases m0 : m = 0 <;> by_cases q0 : qs.length = 0 <;> (have q0' : ((qs.length : Int) == 0) = decide (qs.length = 0) := by simp [ibeq]) <;> (simp only [e39, ibeq, c0, m0, q0, q0', ws, wsl, opX, int, Zv.bool, intBin, reduceIte, ↓reduceIte, Nat.reduceEqDiff, Nat.reduceAdd, Nat.reduceSub, Nat.reduceLeDiff, Int.reduceLT, Int.reduceLE, Int.reduceEq, Int.reduceBEq, Int.reduceNe, Int.reduceBNe, reduceCtorEq, Nat.reduceBEq] <;> repeat' (first | refine wpG_s ?_ ?_ | refine wpC_s ?_ ?_) <;> intro hgo <;> (try simp only [decide_eq_true_eq, decide_eq_false_iff_not, Bool.not_eq_true', Bool.not_eq_false'] at hgo) <;> simp only [hgo, e39, ibeq, c0, m0, q0, q0', ws, wsl, opX, int, Zv.bool, intBin, reduceIte, ↓reduceIte, Nat.reduceEqDiff, Nat.reduceAdd, Nat.reduceSub, Nat.reduceLeDiff, Int.reduceLT, Int.reduceLE, Int.reduceEq, Int.reduceBEq, Int.reduceNe, Int.reduceBNe, reduceCtorEq, Nat.reduceBEq])
    · rw [if_neg k0]
      by_cases k2 : kd = 2
      · subst k2
        rw [if_pos rfl]
        by_cases c0 : c = 0 <;> by_cases t0 : t = 0 <;> by_cases q0 : qs.length = 0 <;> (have q0' : ((qs.length : Int) == 0) = decide (qs.length = 0) := by simp [ibeq]) <;> (simp only [e39, ibeq, c0, t0, q0, q0', ws, wsl, opX, int, Zv.bool, intBin, reduceIte, ↓reduceIte, Nat.reduceEqDiff, Nat.reduceAdd, Nat.reduceSub, Nat.reduceLeDiff, Int.reduceLT, Int.reduceLE, Int.reduceEq, Int.reduceBEq, Int.reduceNe, Int.reduceBNe, reduceCtorEq, Nat.reduceBEq] <;> repeat' (first | refine wpG_s ?_ ?_ | refine wpC_s ?_ ?_) <;> intro hgo <;> (try simp only [decide_eq_true_eq, decide_eq_false_iff_not, Bool.not_eq_true', Bool.not_eq_false'] at hgo) <;> simp only [hgo, e39, ibeq, c0, t0, q0, q0', ws, wsl, opX, int, Zv.bool, intBin, reduceIte, ↓reduceIte, Nat.reduceEqDiff, Nat.reduceAdd, Nat.reduceSub, Nat.reduceLeDiff, Int.reduceLT, Int.reduceLE, Int.reduceEq, Int.reduceBEq, Int.reduceNe, Int.reduceBNe, reduceCtorEq, Nat.reduceBEq])
      · rw [if_neg k2]
        by_cases k1 : kd = 1
        · subst k1
          rw [if_pos rfl]
          by_cases t0 : t = 0
          · (simp only [e39, ibeq, t0, ws, wsl, opX, int, Zv.bool, intBin, reduceIte, ↓reduceIte, Nat.reduceEqDiff, Nat.reduceAdd, Nat.reduceSub, Nat.reduceLeDiff, Int.reduceLT, Int.reduceLE, Int.reduceEq, Int.reduceBEq, Int.reduceNe, Int.reduceBNe, reduceCtorEq, Nat.reduceBEq] <;> repeat' (first | refine wpG_s ?_ ?_ | refine wpC_s ?_ ?_) <;> intro hgo <;> (try simp only [decide_eq_true_eq, decide_eq_false_iff_not, Bool.not_eq_true', Bool.not_eq_false'] at hgo) <;> simp only [hgo, e39, ibeq, t0, ws, wsl, opX, int, Zv.bool, intBin, reduceIte, ↓reduceIte, Nat.reduceEqDiff, Nat.reduceAdd, Nat.reduceSub, Nat.reduceLeDiff, Int.reduceLT, Int.reduceLE, Int.reduceEq, Int.reduceBEq, Int.reduceNe, Int.reduceBNe, reduceCtorEq, Nat.reduceBEq])
            simp
          · by_cases m0 : m = 0
            · by_cases cn : c < 0
              · (simp only [e39, ibeq, ibne, t0, m0, cn, ws, wsl, opX, int, Zv.bool, intBin, reduceIte, ↓reduceIte, Nat.reduceEqDiff, Nat.reduceAdd, Nat.reduceSub, Nat.reduceLeDiff, Int.reduceLT, Int.reduceLE, Int.reduceEq, Int.reduceBEq, Int.reduceNe, Int.reduceBNe, reduceCtorEq, Nat.reduceBEq] <;> repeat' (first | refine wpG_s ?_ ?_ | refine wpC_s ?_ ?_) <;> intro hgo <;> (try simp only [decide_eq_true_eq, decide_eq_false_iff_not, Bool.not_eq_true', Bool.not_eq_false'] at hgo) <;> simp only [hgo, e39, ibeq, ibne, t0, m0, cn, ws, wsl, opX, int, Zv.bool, intBin, reduceIte, ↓reduceIte, Nat.reduceEqDiff, Nat.reduceAdd, Nat.reduceSub, Nat.reduceLeDiff, Int.reduceLT, Int.reduceLE, Int.reduceEq, Int.reduceBEq, Int.reduceNe, Int.reduceBNe, reduceCtorEq, Nat.reduceBEq])
                simp
              · rcases tcase d t with h0 | h0 | ⟨j, y, rfl, hy⟩
                · exfalso; simp only [isT, Bool.and_eq_true, decide_eq_true_eq] at hT; omega
                · exfalso; simp only [isT, Bool.and_eq_true, decide_eq_true_eq] at hT; omega
                · have b := B.at hy
                  have hw := wrap_sub1 (n := j) (by omega)
                  rw [consOf_at hy]
                  by_cases hge : (y.cons.length : Int) ≤ c
                  · (simp only [e39, ibeq, ibne, t0, m0, cn, hw, iaD hy, hge, ws, wsl, opX, int, Zv.bool, intBin, reduceIte, ↓reduceIte, Nat.reduceEqDiff, Nat.reduceAdd, Nat.reduceSub, Nat.reduceLeDiff, Int.reduceLT, Int.reduceLE, Int.reduceEq, Int.reduceBEq, Int.reduceNe, Int.reduceBNe, reduceCtorEq, Nat.reduceBEq] <;> repeat' (first | refine wpG_s ?_ ?_ | refine wpC_s ?_ ?_) <;> intro hgo <;> (try simp only [decide_eq_true_eq, decide_eq_false_iff_not, Bool.not_eq_true', Bool.not_eq_false'] at hgo) <;> simp only [hgo, e39, ibeq, ibne, t0, m0, cn, hw, iaD hy, hge, ws, wsl, opX, int, Zv.bool, intBin, reduceIte, ↓reduceIte, Nat.reduceEqDiff, Nat.reduceAdd, Nat.reduceSub, Nat.reduceLeDiff, Int.reduceLT, Int.reduceLE, Int.reduceEq, Int.reduceBEq, Int.reduceNe, Int.reduceBNe, reduceCtorEq, Nat.reduceBEq])
                    simp
                  · obtain ⟨i, rfl⟩ : ∃ i : Nat, c = (i : Int) := ⟨c.toNat, by omega⟩
                    obtain ⟨z, hz⟩ := get_of_lt (l := y.cons) (n := i) (by omega)
                    rw [Int.toNat_natCast, hz]
                    simp only
                    have hge' : ¬ y.cons.length ≤ i := by omega
                    have bc := B.cat hy hz
                    have e0 : (decide (((j : Int) + 1) = 0) || !decide (m = 0) || decide ((i : Int) < 0) || decide ((y.cons.length : Int) ≤ (i : Int))) = false := by
                      have a1 : ¬ ((j : Int) + 1 = 0) := by omega
                      have a2 : ¬ ((i : Int) < 0) := by omega
                      have a3 : ¬ ((y.cons.length : Int) ≤ (i : Int)) := hge
                      simp [a1, a2, a3, m0]
                    rw [e0, Bool.not_false, Bool.true_and]
                    by_cases hl : z.flds.length = qs.length
                    · rw [decide_eq_true hl, Bool.true_and, fitsL_any]
                      have hl' : ((z.flds.length : Int) != (qs.length : Int)) = false := by simp [hl]
                      have hzl : (z.flds.zip qs).length = qs.length := by rw [List.length_zip]; omega
                      obtain ⟨hloopq, hloop⟩ := loop_anyq (T := tab) (a := f39l0) (l := z.flds.zip qs) (p := badF d) (f := fun n => [(0, .d (eDs d)), (7, .d (eIs z.flds)), (87, .d (ePs qs)), (88, .d (.int .i64 qs.length)), (89, int n)]) (h := ⟨h.objs, h.next + 1⟩)
                          (by intro q n x hx hlt hp; (have hxz := zip_at hx); (have hcp := cntL_mem (List.mem_of_getElem? hxz.2)); (have hfT := fld_isT27 T (t := (j : Int) + 1) (by rw [consOf_at hy]; exact List.mem_of_getElem? hz) (List.mem_of_getElem? hxz.1)); (have hr := fun h => fits_ok B T x.2 x.1 hfT (by omega) h); (have hlt' : n < qs.length := by omega); (have hpb : fitsP d x.1 x.2 = !(badF d x) := by simp [badF]); rw [hp] at hpb; all_goals ((simp only [hlt, hp, e39, iaP hxz.2, iaI hxz.1, pts, hr, hlt', hpb, wrap_succ (show n < 2 ^ 62 by omega), ws, wsl, opX, int, Zv.bool, intBin, reduceIte, ↓reduceIte, Nat.reduceEqDiff, Nat.reduceAdd, Nat.reduceSub, Nat.reduceLeDiff, Int.reduceLT, Int.reduceLE, Int.reduceEq, Int.reduceBEq, Int.reduceNe, Int.reduceBNe, reduceCtorEq, Nat.reduceBEq] <;> repeat' (first | refine wpG_s ?_ ?_ | refine wpC_s ?_ ?_) <;> intro hgo <;> (try simp only [decide_eq_true_eq, decide_eq_false_iff_not, Bool.not_eq_true', Bool.not_eq_false'] at hgo) <;> simp only [hgo, hlt, hp, e39, iaP hxz.2, iaI hxz.1, pts, hr, hlt', hpb, wrap_succ (show n < 2 ^ 62 by omega), ws, wsl, opX, int, Zv.bool, intBin, reduceIte, ↓reduceIte, Nat.reduceEqDiff, Nat.reduceAdd, Nat.reduceSub, Nat.reduceLeDiff, Int.reduceLT, Int.reduceLE, Int.reduceEq, Int.reduceBEq, Int.reduceNe, Int.reduceBNe, reduceCtorEq, Nat.reduceBEq]) <;> (first | exact ⟨_, rfl⟩ | exact ⟨_, rfl, rfl⟩ | exact ⟨_, rfl, rfl, rfl⟩)))
                          (by intro q n x hx hlt hp; (have hxz := zip_at hx); (have hcp := cntL_mem (List.mem_of_getElem? hxz.2)); (have hfT := fld_isT27 T (t := (j : Int) + 1) (by rw [consOf_at hy]; exact List.mem_of_getElem? hz) (List.mem_of_getElem? hxz.1)); (have hr := fun h => fits_ok B T x.2 x.1 hfT (by omega) h); (have hlt' : n < qs.length := by omega); (have hpb : fitsP d x.1 x.2 = !(badF d x) := by simp [badF]); rw [hp] at hpb; all_goals ((simp only [hlt, hp, e39, iaP hxz.2, iaI hxz.1, pts, hr, hlt', hpb, wrap_succ (show n < 2 ^ 62 by omega), ws, wsl, opX, int, Zv.bool, intBin, reduceIte, ↓reduceIte, Nat.reduceEqDiff, Nat.reduceAdd, Nat.reduceSub, Nat.reduceLeDiff, Int.reduceLT, Int.reduceLE, Int.reduceEq, Int.reduceBEq, Int.reduceNe, Int.reduceBNe, reduceCtorEq, Nat.reduceBEq] <;> repeat' (first | refine wpG_s ?_ ?_ | refine wpC_s ?_ ?_) <;> intro hgo <;> (try simp only [decide_eq_true_eq, decide_eq_false_iff_not, Bool.not_eq_true', Bool.not_eq_false'] at hgo) <;> simp only [hgo, hlt, hp, e39, iaP hxz.2, iaI hxz.1, pts, hr, hlt', hpb, wrap_succ (show n < 2 ^ 62 by omega), ws, wsl, opX, int, Zv.bool, intBin, reduceIte, ↓reduceIte, Nat.reduceEqDiff, Nat.reduceAdd, Nat.reduceSub, Nat.reduceLeDiff, Int.reduceLT, Int.reduceLE, Int.reduceEq, Int.reduceBEq, Int.reduceNe, Int.reduceBNe, reduceCtorEq, Nat.reduceBEq]) <;> (first | exact ⟨_, rfl⟩ | exact ⟨_, rfl, rfl⟩ | exact ⟨_, rfl, rfl, rfl⟩)))
                          (by intro q; (simp only [e39, hzl, ws, wsl, opX, int, Zv.bool, intBin, reduceIte, ↓reduceIte, Nat.reduceEqDiff, Nat.reduceAdd, Nat.reduceSub, Nat.reduceLeDiff, Int.reduceLT, Int.reduceLE, Int.reduceEq, Int.reduceBEq, Int.reduceNe, Int.reduceBNe, reduceCtorEq, Nat.reduceBEq] <;> repeat' (first | refine wpG_s ?_ ?_ | refine wpC_s ?_ ?_) <;> intro hgo <;> (try simp only [decide_eq_true_eq, decide_eq_false_iff_not, Bool.not_eq_true', Bool.not_eq_false'] at hgo) <;> simp only [hgo, e39, hzl, ws, wsl, opX, int, Zv.bool, intBin, reduceIte, ↓reduceIte, Nat.reduceEqDiff, Nat.reduceAdd, Nat.reduceSub, Nat.reduceLeDiff, Int.reduceLT, Int.reduceLE, Int.reduceEq, Int.reduceBEq, Int.reduceNe, Int.reduceBNe, reduceCtorEq, Nat.reduceBEq]) <;> (first | exact ⟨_, rfl⟩ | exact ⟨_, rfl, rfl⟩ | exact ⟨_, rfl, rfl, rfl⟩))
                          (by simp) (by simp)
                      simp only [int, Zv.bool, Int.cast_ofNat_Int] at hloop
                      (simp only [e39, ibeq, ibne, t0, m0, cn, hw, iaD hy, iaC hz, hge', hl', wq_of hloop, ws, wsl, opX, int, Zv.bool, intBin, reduceIte, ↓reduceIte, Nat.reduceEqDiff, Nat.reduceAdd, Nat.reduceSub, Nat.reduceLeDiff, Int.reduceLT, Int.reduceLE, Int.reduceEq, Int.reduceBEq, Int.reduceNe, Int.reduceBNe, reduceCtorEq, Nat.reduceBEq] <;> repeat' (first | refine wpG_s ?_ ?_ | refine wpC_s ?_ ?_) <;> intro hgo <;> (try simp only [decide_eq_true_eq, decide_eq_false_iff_not, Bool.not_eq_true', Bool.not_eq_false'] at hgo) <;> simp only [hgo, e39, ibeq, ibne, t0, m0, cn, hw, iaD hy, iaC hz, hge', hl', wq_of hloop, ws, wsl, opX, int, Zv.bool, intBin, reduceIte, ↓reduceIte, Nat.reduceEqDiff, Nat.reduceAdd, Nat.reduceSub, Nat.reduceLeDiff, Int.reduceLT, Int.reduceLE, Int.reduceEq, Int.reduceBEq, Int.reduceNe, Int.reduceBNe, reduceCtorEq, Nat.reduceBEq])
                      cases (z.flds.zip qs).any (badF d) <;> (simp only [e39, ws, wsl, opX, int, Zv.bool, intBin, reduceIte, ↓reduceIte, Nat.reduceEqDiff, Nat.reduceAdd, Nat.reduceSub, Nat.reduceLeDiff, Int.reduceLT, Int.reduceLE, Int.reduceEq, Int.reduceBEq, Int.reduceNe, Int.reduceBNe, reduceCtorEq, Nat.reduceBEq] <;> repeat' (first | refine wpG_s ?_ ?_ | refine wpC_s ?_ ?_) <;> intro hgo <;> (try simp only [decide_eq_true_eq, decide_eq_false_iff_not, Bool.not_eq_true', Bool.not_eq_false'] at hgo) <;> simp only [hgo, e39, ws, wsl, opX, int, Zv.bool, intBin, reduceIte, ↓reduceIte, Nat.reduceEqDiff, Nat.reduceAdd, Nat.reduceSub, Nat.reduceLeDiff, Int.reduceLT, Int.reduceLE, Int.reduceEq, Int.reduceBEq, Int.reduceNe, Int.reduceBNe, reduceCtorEq, Nat.reduceBEq])
                    · rw [decide_eq_false hl, Bool.false_and]
                      have hl' : ((z.flds.length : Int) != (qs.length : Int)) = true := by simp; omega
                      (simp only [e39, ibeq, ibne, t0, m0, cn, hw, iaD hy, iaC hz, hge', hl', ws, wsl, opX, int, Zv.bool, intBin, reduceIte, ↓reduceIte, Nat.reduceEqDiff, Nat.reduceAdd, Nat.reduceSub, Nat.reduceLeDiff, Int.reduceLT, Int.reduceLE, Int.reduceEq, Int.reduceBEq, Int.reduceNe, Int.reduceBNe, reduceCtorEq, Nat.reduceBEq] <;> repeat' (first | refine wpG_s ?_ ?_ | refine wpC_s ?_ ?_) <;> intro hgo <;> (try simp only [decide_eq_true_eq, decide_eq_false_iff_not, Bool.not_eq_true', Bool.not_eq_false'] at hgo) <;> simp only [hgo, e39, ibeq, ibne, t0, m0, cn, hw, iaD hy, iaC hz, hge', hl', ws, wsl, opX, int, Zv.bool, intBin, reduceIte, ↓reduceIte, Nat.reduceEqDiff, Nat.reduceAdd, Nat.reduceSub, Nat.reduceLeDiff, Int.reduceLT, Int.reduceLE, Int.reduceEq, Int.reduceBEq, Int.reduceNe, Int.reduceBNe, reduceCtorEq, Nat.reduceBEq])
            · (simp only [e39, ibeq, ibne, t0, m0, ws, wsl, opX, int, Zv.bool, intBin, reduceIte, ↓reduceIte, Nat.reduceEqDiff, Nat.reduceAdd, Nat.reduceSub, Nat.reduceLeDiff, Int.reduceLT, Int.reduceLE, Int.reduceEq, Int.reduceBEq, Int.reduceNe, Int.reduceBNe, reduceCtorEq, Nat.reduceBEq] <;> repeat' (first | refine wpG_s ?_ ?_ | refine wpC_s ?_ ?_) <;> intro hgo <;> (try simp only [decide_eq_true_eq, decide_eq_false_iff_not, Bool.not_eq_true', Bool.not_eq_false'] at hgo) <;> simp only [hgo, e39, ibeq, ibne, t0, m0, ws, wsl, opX, int, Zv.bool, intBin, reduceIte, ↓reduceIte, Nat.reduceEqDiff, Nat.reduceAdd, Nat.reduceSub, Nat.reduceLeDiff, Int.reduceLT, Int.reduceLE, Int.reduceEq, Int.reduceBEq, Int.reduceNe, Int.reduceBNe, reduceCtorEq, Nat.reduceBEq])
              simp [m0]
        · rw [if_neg k1]
          (simp only [e39, ibeq, k0, k1, k2, ws, wsl, opX, int, Zv.bool, intBin, reduceIte, ↓reduceIte, Nat.reduceEqDiff, Nat.reduceAdd, Nat.reduceSub, Nat.reduceLeDiff, Int.reduceLT, Int.reduceLE, Int.reduceEq, Int.reduceBEq, Int.reduceNe, Int.reduceBNe, reduceCtorEq, Nat.reduceBEq] <;> repeat' (first | refine wpG_s ?_ ?_ | refine wpC_s ?_ ?_) <;> intro hgo <;> (try simp only [decide_eq_true_eq, decide_eq_false_iff_not, Bool.not_eq_true', Bool.not_eq_false'] at hgo) <;> simp only [hgo, e39, ibeq, k0, k1, k2, ws, wsl, opX, int, Zv.bool, intBin, reduceIte, ↓reduceIte, Nat.reduceEqDiff, Nat.reduceAdd, Nat.reduceSub, Nat.reduceLeDiff, Int.reduceLT, Int.reduceLE, Int.reduceEq, Int.reduceBEq, Int.reduceNe, Int.reduceBNe, reduceCtorEq, Nat.reduceBEq])
termination_by p => cntP p
decreasing_by
  all_goals
    have := cntL_mem (List.mem_of_getElem? (zip_at hx).2)
    rw [cntP]
    omega
-- ws, wsl, opX, int, Zv.bool, intBin, reduceIte, ↓reduceIte, Nat.reduceEqDiff, Nat.reduceAdd, Nat.reduceSub, Nat.reduceLeDiff, Int.reduceLT, Int.reduceLE, Int.reduceEq, Int.reduceBEq, Int.reduceNe, Int.reduceBNe, reduceCtorEq, Nat.reduceBEq
end Zc27
