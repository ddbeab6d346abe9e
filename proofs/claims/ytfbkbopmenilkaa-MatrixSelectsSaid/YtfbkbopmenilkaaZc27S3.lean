/-
  Few patterns: how they are counted.
-/
import Derived.Test.YtfbkbopmenilkaaZc27S2
set_option linter.unusedSimpArgs false
set_option maxHeartbeats 4000000
namespace Zc27
open Go Zv Zs

mutual
def pcP : Pt → Nat → Nat
  | .mk _ _ _ qs, n => pcL qs (n + 1)
def pcL : List Pt → Nat → Nat
  | [], n => n
  | p :: r, n => if n ≤ 60 then pcL r (pcP p n) else n
end
mutual
theorem pcP_le : ∀ (p : Pt) (n : Nat), n ≤ 60 → n < pcP p n ∧ pcP p n ≤ 61 ∧ (pcP p n ≤ 60 → pcP p n = n + cntP p)
  | .mk k c q qs, n, h => by
    have := pcL_le qs (n + 1) (by omega)
    rw [pcP, cntP]
    exact ⟨by omega, by omega, fun h => by have := this.2.2 h; omega⟩
theorem pcL_le : ∀ (l : List Pt) (n : Nat), n ≤ 61 → n ≤ pcL l n ∧ pcL l n ≤ 61 ∧ (pcL l n ≤ 60 → pcL l n = n + cntL l)
  | [], n, h => by rw [pcL, cntL]; exact ⟨by omega, h, fun _ => rfl⟩
  | p :: r, n, h => by
    rw [pcL, cntL]
    split
    · rename_i hn
      have h1 := pcP_le p n hn
      have h2 := pcL_le r (pcP p n) h1.2.1
      exact ⟨by omega, h2.2.1, fun h => by have := h2.2.2 h; have := h1.2.2 (by omega); omega⟩
    · exact ⟨by omega, by omega, fun h => by omega⟩
end
theorem pcL_big {l : List Pt} {n : Nat} (h : 60 < n) : pcL l n = n := by
  cases l with
  | nil => rw [pcL]
  | cons p r => rw [pcL, if_neg (by omega)]
def argsP : Pt → List Pt
  | .mk _ _ _ qs => qs
theorem parts_ok : ∀ (l : List Pt) (n : Nat), n ≤ 61 → ∀ h, callW tab 29 [.d (ePs l), .d (.int .i64 n), .d (.int .i64 60)] h = some (.d (.int .i64 (pcL l n)), h)
  | l, n, hn, h => by
    have hrec : ∀ p, p ∈ l → ∀ n, n ≤ 60 → ∀ h, callW tab 29 [.d (ePs (argsP p)), .d (.int .i64 ((n + 1 : Nat) : Int)), .d (.int .i64 60)] h = some (.d (.int .i64 (pcP p n)), h) := by
      intro p hp n hn h
      have hc := cntL_mem hp
      obtain ⟨k, c, q, qs⟩ := p
      rw [cntP] at hc
      have := parts_ok qs (n + 1) (by omega) h
      have e : pcP (.mk k c q qs) n = pcL qs (n + 1) := by rw [pcP]
      show callW tab 29 [.d (ePs qs), .d (.int .i64 ((n + 1 : Nat) : Int)), .d (.int .i64 60)] h = _
      rw [this, e]
    refine call_wp (fn := f29) rfl rfl ?_
    (simp only [e29, ws, wsl, opX, int, Zv.bool, intBin, reduceIte, ↓reduceIte, Nat.reduceEqDiff, Nat.reduceAdd, Nat.reduceSub, Nat.reduceLeDiff, Int.reduceLT, Int.reduceLE, Int.reduceEq, Int.reduceBEq, Int.reduceNe, Int.reduceBNe, reduceCtorEq, Nat.reduceBEq] <;> repeat' (first | refine wpG_s ?_ ?_ | refine wpC_s ?_ ?_) <;> intro hgo <;> (try simp only [decide_eq_true_eq, decide_eq_false_iff_not, Bool.not_eq_true', Bool.not_eq_false'] at hgo) <;> simp only [hgo, e29, ws, wsl, opX, int, Zv.bool, intBin, reduceIte, ↓reduceIte, Nat.reduceEqDiff, Nat.reduceAdd, Nat.reduceSub, Nat.reduceLeDiff, Int.reduceLT, Int.reduceLE, Int.reduceEq, Int.reduceBEq, Int.reduceNe, Int.reduceBNe, reduceCtorEq, Nat.reduceBEq])
    refine loop_wp 62 (fun i e h' => ∃ (j m : Nat), h' = h ∧ e = [(0, .d (ePs l)), (1, .d (.int .i64 (m : Int))), (2, .d (.int .i64 60)), (7, .d (.int .i64 (j : Int)))] ∧ j = i ∧ j + n ≤ m + 0 ∧ m ≤ 61 ∧ pcL l n = pcL (l.drop j) m) _ ?_ ?_ 62 0 _ _ rfl ⟨0, n, rfl, rfl, rfl, by omega, hn, rfl⟩
    · rintro i e h' hi ⟨j, m, rfl, rfl, rfl, hjm, hm, heq⟩
      by_cases hj : j < l.length
      · obtain ⟨p, hp⟩ := get_of_lt hj
        have hd : l.drop j = p :: l.drop (j + 1) := by
          obtain ⟨h1, h2⟩ := List.getElem?_eq_some_iff.1 hp
          rw [List.drop_eq_getElem_cons h1, h2]
        by_cases hm6 : m ≤ 60
        · have hle : (m : Int) ≤ 60 := by omega
          have hr := hrec p (List.mem_of_getElem? hp) m hm6
          have hpc := pcP_le p m hm6
          obtain ⟨k, c, q, qs⟩ := p
          have hia := iaP hp
          rw [ePt_mk] at hia
          have hw1 := wrap_succ (show m < 2 ^ 62 by omega)
          have hr' : ∀ h, callW tab 29 [.d (.lst (qs.map ePt)), .d (.int .i64 ((m + 1 : Nat) : Int)), .d (.int .i64 60)] h = some (.d (.int .i64 (pcP (.mk k c q qs) m)), h) := hr
          (simp only [e29, hj, hle, hia, hw1, hr', wrap_succ (show j < 2 ^ 62 by omega), ws, wsl, opX, int, Zv.bool, intBin, reduceIte, ↓reduceIte, Nat.reduceEqDiff, Nat.reduceAdd, Nat.reduceSub, Nat.reduceLeDiff, Int.reduceLT, Int.reduceLE, Int.reduceEq, Int.reduceBEq, Int.reduceNe, Int.reduceBNe, reduceCtorEq, Nat.reduceBEq] <;> repeat' (first | refine wpG_s ?_ ?_ | refine wpC_s ?_ ?_) <;> intro hgo <;> (try simp only [decide_eq_true_eq, decide_eq_false_iff_not, Bool.not_eq_true', Bool.not_eq_false'] at hgo) <;> simp only [hgo, e29, hj, hle, hia, hw1, hr', wrap_succ (show j < 2 ^ 62 by omega), ws, wsl, opX, int, Zv.bool, intBin, reduceIte, ↓reduceIte, Nat.reduceEqDiff, Nat.reduceAdd, Nat.reduceSub, Nat.reduceLeDiff, Int.reduceLT, Int.reduceLE, Int.reduceEq, Int.reduceBEq, Int.reduceNe, Int.reduceBNe, reduceCtorEq, Nat.reduceBEq])
          refine ⟨j + 1, pcP (.mk k c q qs) m, by simp, rfl, by omega, hpc.2.1, ?_⟩
          rw [heq, hd, pcL, if_pos hm6]
        · have hle : ¬ (m : Int) ≤ 60 := by omega
          have := pcL_big (l := l.drop j) (show 60 < m by omega)
          rw [heq, this]
          (simp only [e29, hj, hle, ws, wsl, opX, int, Zv.bool, intBin, reduceIte, ↓reduceIte, Nat.reduceEqDiff, Nat.reduceAdd, Nat.reduceSub, Nat.reduceLeDiff, Int.reduceLT, Int.reduceLE, Int.reduceEq, Int.reduceBEq, Int.reduceNe, Int.reduceBNe, reduceCtorEq, Nat.reduceBEq] <;> repeat' (first | refine wpG_s ?_ ?_ | refine wpC_s ?_ ?_) <;> intro hgo <;> (try simp only [decide_eq_true_eq, decide_eq_false_iff_not, Bool.not_eq_true', Bool.not_eq_false'] at hgo) <;> simp only [hgo, e29, hj, hle, ws, wsl, opX, int, Zv.bool, intBin, reduceIte, ↓reduceIte, Nat.reduceEqDiff, Nat.reduceAdd, Nat.reduceSub, Nat.reduceLeDiff, Int.reduceLT, Int.reduceLE, Int.reduceEq, Int.reduceBEq, Int.reduceNe, Int.reduceBNe, reduceCtorEq, Nat.reduceBEq])
      · have hnil : l.drop j = [] := List.drop_eq_nil_of_le (by omega)
        rw [heq, hnil, pcL]
        (simp only [e29, hj, ws, wsl, opX, int, Zv.bool, intBin, reduceIte, ↓reduceIte, Nat.reduceEqDiff, Nat.reduceAdd, Nat.reduceSub, Nat.reduceLeDiff, Int.reduceLT, Int.reduceLE, Int.reduceEq, Int.reduceBEq, Int.reduceNe, Int.reduceBNe, reduceCtorEq, Nat.reduceBEq] <;> repeat' (first | refine wpG_s ?_ ?_ | refine wpC_s ?_ ?_) <;> intro hgo <;> (try simp only [decide_eq_true_eq, decide_eq_false_iff_not, Bool.not_eq_true', Bool.not_eq_false'] at hgo) <;> simp only [hgo, e29, hj, ws, wsl, opX, int, Zv.bool, intBin, reduceIte, ↓reduceIte, Nat.reduceEqDiff, Nat.reduceAdd, Nat.reduceSub, Nat.reduceLeDiff, Int.reduceLT, Int.reduceLE, Int.reduceEq, Int.reduceBEq, Int.reduceNe, Int.reduceBNe, reduceCtorEq, Nat.reduceBEq])
    · rintro e h' ⟨j, m, rfl, rfl, rfl, hjm, hm, heq⟩
      omega
termination_by l => cntL l
decreasing_by
  have := cntL_mem hp
  rw [cntP] at this
  omega
def sumC : List (List Pt) → Nat
  | [] => 0
  | r :: l => cntL r + sumC l
theorem sumC_mem : ∀ {l : List (List Pt)} {r : List Pt}, r ∈ l → cntL r ≤ sumC l
  | q :: l, r, h => by
    rw [sumC]
    rcases List.mem_cons.1 h with rfl | h
    · omega
    · have := sumC_mem h; omega
theorem fold_pc : ∀ (l : List (List Pt)) (m : Nat), m ≤ 61 → m ≤ l.foldl (fun m r => pcL r m) m ∧ l.foldl (fun m r => pcL r m) m ≤ 61 ∧ (l.foldl (fun m r => pcL r m) m ≤ 60 → l.foldl (fun m r => pcL r m) m = m + sumC l)
  | [], m, h => ⟨Nat.le_refl _, h, fun _ => rfl⟩
  | r :: l, m, h => by
    have h1 := pcL_le r m h
    have h2 := fold_pc l (pcL r m) h1.2.1
    rw [List.foldl_cons, sumC]
    exact ⟨by omega, h2.2.1, fun h => by have := h2.2.2 h; have := h1.2.2 (by omega); omega⟩
structure Few (d : List Dt) (ts : List Int) (l : List (List Pt)) : Prop where
  sml : Sml d
  ts : ts.length ≤ 10
  rows : l.length ≤ 8
  cnt : sumC l ≤ 60
theorem few_ok (d : List Dt) (ts : List Int) (l : List (List Pt)) (h : Hp) : ∃ b, callW tab 9 [.d (eDs d), .d (eIs ts), .d (eRs l)] h = some (.d (.bool b), h) ∧ (b = true → Few d ts l) := by
  obtain ⟨b, hb, hs⟩ := small_ok d h
  refine ⟨b && decide (ts.length ≤ 10) && decide (l.length ≤ 8) && decide (((l.take 10).foldl (fun m r => pcL r m) 0) ≤ 60), ?_, fun hh => ?_⟩
  · refine call_wp (fn := f9) rfl rfl ?_
    (simp only [e9, ws, wsl, opX, int, Zv.bool, intBin, reduceIte, ↓reduceIte, Nat.reduceEqDiff, Nat.reduceAdd, Nat.reduceSub, Nat.reduceLeDiff, Int.reduceLT, Int.reduceLE, Int.reduceEq, Int.reduceBEq, Int.reduceNe, Int.reduceBNe, reduceCtorEq, Nat.reduceBEq] <;> repeat' (first | refine wpG_s ?_ ?_ | refine wpC_s ?_ ?_) <;> intro hgo <;> (try simp only [decide_eq_true_eq, decide_eq_false_iff_not, Bool.not_eq_true', Bool.not_eq_false'] at hgo) <;> simp only [hgo, e9, ws, wsl, opX, int, Zv.bool, intBin, reduceIte, ↓reduceIte, Nat.reduceEqDiff, Nat.reduceAdd, Nat.reduceSub, Nat.reduceLeDiff, Int.reduceLT, Int.reduceLE, Int.reduceEq, Int.reduceBEq, Int.reduceNe, Int.reduceBNe, reduceCtorEq, Nat.reduceBEq])
    refine loop_wp (min l.length 10) (fun n e h' => h' = h ∧ e = [(0, .d (eDs d)), (1, .d (eIs ts)), (2, .d (eRs l)), (7, .d (.int .i64 (foldT (fun m r => pcL r m) 0 l n : Nat))), (8, .d (.int .i64 n))]) _ ?_ ?_ (min l.length 10) 0 _ _ (by omega) ⟨rfl, rfl⟩
    · rintro n e h' hn ⟨rfl, rfl⟩
      have hn1 : n < l.length := by omega
      have hn2 : (n : Int) < 10 := by omega
      obtain ⟨r, hr⟩ := get_of_lt hn1
      have hm := (fold_pc (l.take n) 0 (by omega)).2.1
      have hp := fun h => parts_ok r (foldT (fun m r => pcL r m) 0 l n) hm h
      have hf := foldT_succ (stp := fun m r => pcL r m) (s := 0) hr
      (simp only [e9, hn1, hn2, iaR hr, hp, hf, wrap_succ (show n < 2 ^ 62 by omega), ws, wsl, opX, int, Zv.bool, intBin, reduceIte, ↓reduceIte, Nat.reduceEqDiff, Nat.reduceAdd, Nat.reduceSub, Nat.reduceLeDiff, Int.reduceLT, Int.reduceLE, Int.reduceEq, Int.reduceBEq, Int.reduceNe, Int.reduceBNe, reduceCtorEq, Nat.reduceBEq] <;> repeat' (first | refine wpG_s ?_ ?_ | refine wpC_s ?_ ?_) <;> intro hgo <;> (try simp only [decide_eq_true_eq, decide_eq_false_iff_not, Bool.not_eq_true', Bool.not_eq_false'] at hgo) <;> simp only [hgo, e9, hn1, hn2, iaR hr, hp, hf, wrap_succ (show n < 2 ^ 62 by omega), ws, wsl, opX, int, Zv.bool, intBin, reduceIte, ↓reduceIte, Nat.reduceEqDiff, Nat.reduceAdd, Nat.reduceSub, Nat.reduceLeDiff, Int.reduceLT, Int.reduceLE, Int.reduceEq, Int.reduceBEq, Int.reduceNe, Int.reduceBNe, reduceCtorEq, Nat.reduceBEq])
    · rintro e h' ⟨rfl, rfl⟩
      have hex : (decide (min l.length 10 < l.length) && decide (((min l.length 10 : Nat) : Int) < 10)) = false := by
        by_cases h1 : l.length < 10
        · have : min l.length 10 = l.length := by omega
          rw [this]; simp
        · have : min l.length 10 = 10 := by omega
          rw [this]; simp
      have hft : foldT (fun m r => pcL r m) 0 l (min l.length 10) = (l.take 10).foldl (fun m r => pcL r m) 0 := by
        unfold foldT
        congr 1
        by_cases h1 : l.length ≤ 10
        · rw [List.take_of_length_le (by omega), List.take_of_length_le h1]
        · have : min l.length 10 = 10 := by omega
          rw [this]
      rw [hft]
      have hle : ∀ a b : Nat, decide ((a : Int) ≤ (b : Int)) = decide (a ≤ b) := fun a b => by by_cases h : a ≤ b <;> simp [h]
      by_cases hl : min l.length 10 < l.length
      · have h10 : ¬ (((min l.length 10 : Nat) : Int) < 10) := by omega
        cases b <;> by_cases q1 : (ts.length : Int) ≤ 10 <;> by_cases q2 : (l.length : Int) ≤ 8 <;> by_cases q3 : ((((l.take 10).foldl (fun m r => pcL r m) 0 : Nat)) : Int) ≤ 60 <;> ((simp only [e9, hl, h10, hb, q1, q2, q3, ws, wsl, opX, int, Zv.bool, intBin, reduceIte, ↓reduceIte, Nat.reduceEqDiff, Nat.reduceAdd, Nat.reduceSub, Nat.reduceLeDiff, Int.reduceLT, Int.reduceLE, Int.reduceEq, Int.reduceBEq, Int.reduceNe, Int.reduceBNe, reduceCtorEq, Nat.reduceBEq] <;> repeat' (first | refine wpG_s ?_ ?_ | refine wpC_s ?_ ?_) <;> intro hgo <;> (try simp only [decide_eq_true_eq, decide_eq_false_iff_not, Bool.not_eq_true', Bool.not_eq_false'] at hgo) <;> simp only [hgo, e9, hl, h10, hb, q1, q2, q3, ws, wsl, opX, int, Zv.bool, intBin, reduceIte, ↓reduceIte, Nat.reduceEqDiff, Nat.reduceAdd, Nat.reduceSub, Nat.reduceLeDiff, Int.reduceLT, Int.reduceLE, Int.reduceEq, Int.reduceBEq, Int.reduceNe, Int.reduceBNe, reduceCtorEq, Nat.reduceBEq]) <;> simp <;> omega)
      · cases b <;> by_cases q1 : (ts.length : Int) ≤ 10 <;> by_cases q2 : (l.length : Int) ≤ 8 <;> by_cases q3 : ((((l.take 10).foldl (fun m r => pcL r m) 0 : Nat)) : Int) ≤ 60 <;> ((simp only [e9, hl, hb, q1, q2, q3, ws, wsl, opX, int, Zv.bool, intBin, reduceIte, ↓reduceIte, Nat.reduceEqDiff, Nat.reduceAdd, Nat.reduceSub, Nat.reduceLeDiff, Int.reduceLT, Int.reduceLE, Int.reduceEq, Int.reduceBEq, Int.reduceNe, Int.reduceBNe, reduceCtorEq, Nat.reduceBEq] <;> repeat' (first | refine wpG_s ?_ ?_ | refine wpC_s ?_ ?_) <;> intro hgo <;> (try simp only [decide_eq_true_eq, decide_eq_false_iff_not, Bool.not_eq_true', Bool.not_eq_false'] at hgo) <;> simp only [hgo, e9, hl, hb, q1, q2, q3, ws, wsl, opX, int, Zv.bool, intBin, reduceIte, ↓reduceIte, Nat.reduceEqDiff, Nat.reduceAdd, Nat.reduceSub, Nat.reduceLeDiff, Int.reduceLT, Int.reduceLE, Int.reduceEq, Int.reduceBEq, Int.reduceNe, Int.reduceBNe, reduceCtorEq, Nat.reduceBEq]) <;> simp <;> omega)
  · simp only [Bool.and_eq_true, decide_eq_true_eq] at hh
    obtain ⟨⟨⟨h1, h2⟩, h3⟩, h4⟩ := hh
    refine ⟨hs h1, h2, h3, ?_⟩
    rw [List.take_of_length_le (by omega)] at h4
    have := (fold_pc l 0 (by omega)).2.2 h4
    omega
-- ws, wsl, opX, int, Zv.bool, intBin, reduceIte, ↓reduceIte, Nat.reduceEqDiff, Nat.reduceAdd, Nat.reduceSub, Nat.reduceLeDiff, Int.reduceLT, Int.reduceLE, Int.reduceEq, Int.reduceBEq, Int.reduceNe, Int.reduceBNe, reduceCtorEq, Nat.reduceBEq
end Zc27
