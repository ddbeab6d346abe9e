/-
  The program's store beside the reference's; one act on both.
-/
import Derived.Test.YtlncinhieeopmaaZc55S11
set_option linter.unusedSimpArgs false
set_option maxHeartbeats 4000000
namespace Zc55
open Go Zv Zs

structure Mix (h : Hp) (s c t d : Nat) (S T : St) : Prop where
  ex : ∃ O1 O2 : Nat → Prop, SR h s c O1 S ∧ RS h t d O2 T ∧ (∀ n, O1 n → ¬ O2 n) ∧ (∀ n, O1 n → n < h.next) ∧ (∀ n, O2 n → n < h.next)
  low : Low h
  ls : S.cells.length ≤ 2 ^ 20
  lt : T.cells.length ≤ 2 ^ 20
theorem Mix.l {h : Hp} {s c t d : Nat} {S T : St} (K : Mix h s c t d S T) : ∃ O1, SR h s c O1 S ∧ ∀ S' h', S'.cells.length = S.cells.length → Aft h s c O1 S' h' → Mix h' s c t d S' T := by
  obtain ⟨⟨O1, O2, h1, h2, h3, h4, h5⟩, h6, h7, h8⟩ := K
  refine ⟨O1, h1, fun S' h' hl A => ⟨⟨_, O2, A.sr, h2.frame (fun n hn => A.fr n (h5 n hn) (fun ho => h3 n ho hn)), ?_, ?_, ?_⟩, A.low, by rw [hl]; exact h7, h8⟩⟩
  · rintro n (a | a) b
    · exact h3 n a b
    · have := h5 n b; omega
  · rintro n (a | a)
    · exact Nat.lt_of_lt_of_le (h4 n a) A.nx
    · exact a.2
  · intro n hn; exact Nat.lt_of_lt_of_le (h5 n hn) A.nx
theorem Mix.r {h : Hp} {s c t d : Nat} {S T : St} (K : Mix h s c t d S T) : ∃ O2, RS h t d O2 T ∧ ∀ T' h', T'.cells.length = T.cells.length → Rft h t d O2 T' h' → Mix h' s c t d S T' := by
  obtain ⟨⟨O1, O2, h1, h2, h3, h4, h5⟩, h6, h7, h8⟩ := K
  refine ⟨O2, h2, fun T' h' hl A => ⟨⟨O1, _, h1.frame (fun n hn => A.fr n (h4 n hn) (fun ho => h3 n hn ho)), A.sr, ?_, ?_, ?_⟩, A.low, h7, by rw [hl]; exact h8⟩⟩
  · rintro n a (b | b)
    · exact h3 n a b
    · have := h4 n a; omega
  · intro n hn; exact Nat.lt_of_lt_of_le (h4 n hn) A.nx
  · rintro n (a | a)
    · exact Nat.lt_of_lt_of_le (h5 n a) A.nx
    · exact a.2
theorem Mix.up {h : Hp} {s c t d : Nat} {S T : St} (K : Mix h s c t d S T) (q : Nat) (hq : h.next ≤ q) : Mix ⟨h.objs, q⟩ s c t d S T := by
  obtain ⟨O, h1, h2⟩ := K.l
  exact h2 S _ rfl (h1.same K.low q hq)
theorem Mix.take {h : Hp} {s c t d : Nat} {S T : St} (K : Mix h s c t d S T) (tag : Int) (wl : List Wd) (hw : wl.length < 2 ^ 20) :
    ∃ h', callW tab 11 [.ptr s 1 0 0, .d (eI tag), .d (eWs wl)] h = some (.tup [.d (eI (takeS S tag wl).1.1), .d (eI (takeS S tag wl).1.2)], h') ∧ Mix h' s c t d (takeS S tag wl).2 T := by
  obtain ⟨O, h1, h2⟩ := K.l
  obtain ⟨⟨v, h'⟩, k1, k2, A⟩ := take_ok h1 K.low K.ls tag wl (by omega)
  simp only at k2 A; subst k2
  exact ⟨h', k1, h2 _ _ (takeS_len _ _ _) A⟩
theorem Mix.rtake {h : Hp} {s c t d : Nat} {S T : St} (K : Mix h s c t d S T) (tag : Int) (wl : List Wd) (hw : wl.length < 2 ^ 20) :
    ∃ h', callW tab 30 [.ptr t 1 0 0, .d (eI tag), .d (eWs wl)] h = some (.tup [.d (eI (takeS T tag wl).1.1), .d (eI (takeS T tag wl).1.2)], h') ∧ Mix h' s c t d S (takeS T tag wl).2 := by
  obtain ⟨O, h1, h2⟩ := K.r
  obtain ⟨⟨v, h'⟩, k1, k2, A⟩ := rtake_ok h1 K.low tag wl hw
  simp only at k2 A; subst k2
  exact ⟨h', k1, h2 _ _ (takeS_len _ _ _) A⟩
theorem Mix.give {h : Hp} {s c t d : Nat} {S T : St} (K : Mix h s c t d S T) (n : Int) :
    ∃ h', callW tab 13 [.ptr s 1 0 0, .d (eI n)] h = some (.d (eI (giveS S n).1), h') ∧ Mix h' s c t d (giveS S n).2 T := by
  obtain ⟨O, h1, h2⟩ := K.l
  obtain ⟨⟨v, h'⟩, k1, k2, A⟩ := give_ok h1 K.low K.ls n
  simp only at k2 A; subst k2
  exact ⟨h', k1, h2 _ _ (giveS_len _ _) A⟩
theorem Mix.rgive {h : Hp} {s c t d : Nat} {S T : St} (K : Mix h s c t d S T) (n : Int) :
    ∃ h', callW tab 31 [.ptr t 1 0 0, .d (eI n)] h = some (.d (eI (giveS T n).1), h') ∧ Mix h' s c t d S (giveS T n).2 := by
  obtain ⟨O, h1, h2⟩ := K.r
  obtain ⟨⟨v, h'⟩, k1, k2, A⟩ := rgive_ok h1 K.low K.lt n
  simp only at k2 A; subst k2
  exact ⟨h', k1, h2 _ _ (giveS_len _ _) A⟩
theorem Mix.put {h : Hp} {s c t d : Nat} {S T : St} (K : Mix h s c t d S T) (n k : Int) (w : Wd) :
    ∃ h', callW tab 24 [.ptr s 1 0 0, .d (eI n), .d (eI k), .d (eW w)] h = some (.d (eI (putS S n k w).1), h') ∧ Mix h' s c t d (putS S n k w).2 T := by
  obtain ⟨O, h1, h2⟩ := K.l
  obtain ⟨⟨v, h'⟩, k1, k2, A⟩ := put_ok h1 K.low n k w
  simp only at k2 A; subst k2
  exact ⟨h', k1, h2 _ _ (putS_len _ _ _ _) A⟩
theorem Mix.rput {h : Hp} {s c t d : Nat} {S T : St} (K : Mix h s c t d S T) (n k : Int) (w : Wd) :
    ∃ h', callW tab 33 [.ptr t 1 0 0, .d (eI n), .d (eI k), .d (eW w)] h = some (.d (eI (putS T n k w).1), h') ∧ Mix h' s c t d S (putS T n k w).2 := by
  obtain ⟨O, h1, h2⟩ := K.r
  obtain ⟨⟨v, h'⟩, k1, k2, A⟩ := rput_ok h1 K.low n k w
  simp only at k2 A; subst k2
  exact ⟨h', k1, h2 _ _ (putS_len _ _ _ _) A⟩
theorem getS_len {S : St} (K : S.Ok) (n : Int) : (getS S n).2.1.length ≤ 24 := by
  unfold getS
  split
  · simp
  · split
    · rename_i c hc; exact K.sm c (List.mem_of_getElem? hc)
    · simp
theorem step_ok {h : Hp} {s c t d : Nat} {S : St} (K : Mix h s c t d S S) (a : Act) (ha : a.words.length ≤ 30) :
    ∃ r, callW tab 23 [.ptr s 1 0 0, .ptr t 1 0 0, .d (eA a)] h = some r ∧ ∃ h' S', r = (.d (.bool true), h') ∧ Mix h' s c t d S' S' := by
  apply call_wpE (fn := f23) rfl rfl
  have K0 := K.up (h.next + 1) (Nat.le_succ _)
  have hto := fun h => to_ok a.words (by omega) h
  by_cases h0 : a.op = 0
  · obtain ⟨h1, c1, K1⟩ := K0.take a.tag a.words (by omega)
    obtain ⟨h2, c2, K2⟩ := K1.rtake a.tag a.words (by omega)
    (simp only [e23, h0, hto, c1, c2, ws, wsl, opX, int, Zv.bool, intBin, reduceIte, ↓reduceIte, Nat.reduceEqDiff, Nat.reduceAdd, Nat.reduceSub, Nat.reduceLeDiff, Int.reduceLT, Int.reduceLE, Int.reduceEq, Int.reduceBEq, Int.reduceNe, Int.reduceBNe, reduceCtorEq, Nat.reduceBEq] <;> repeat' (first | refine wpG_s ?_ ?_ | refine wpC_s ?_ ?_) <;> intro hgo <;> (try simp only [decide_eq_true_eq, decide_eq_false_iff_not, Bool.not_eq_true', Bool.not_eq_false'] at hgo) <;> simp only [hgo, e23, h0, hto, c1, c2, ws, wsl, opX, int, Zv.bool, intBin, reduceIte, ↓reduceIte, Nat.reduceEqDiff, Nat.reduceAdd, Nat.reduceSub, Nat.reduceLeDiff, Int.reduceLT, Int.reduceLE, Int.reduceEq, Int.reduceBEq, Int.reduceNe, Int.reduceBNe, reduceCtorEq, Nat.reduceBEq])
    exact ⟨_, rfl, _, _, rfl, K2⟩
  have e0 : (a.op == 0) = false := by simpa using h0
  by_cases h1 : a.op = 1
  · obtain ⟨h1', c1, K1⟩ := K0.give a.cell
    obtain ⟨h2, c2, K2⟩ := K1.rgive a.cell
    have e0 : ((1 : Int) == 0) = false := rfl
    (simp only [e23, h1, e0, c1, c2, ws, wsl, opX, int, Zv.bool, intBin, reduceIte, ↓reduceIte, Nat.reduceEqDiff, Nat.reduceAdd, Nat.reduceSub, Nat.reduceLeDiff, Int.reduceLT, Int.reduceLE, Int.reduceEq, Int.reduceBEq, Int.reduceNe, Int.reduceBNe, reduceCtorEq, Nat.reduceBEq] <;> repeat' (first | refine wpG_s ?_ ?_ | refine wpC_s ?_ ?_) <;> intro hgo <;> (try simp only [decide_eq_true_eq, decide_eq_false_iff_not, Bool.not_eq_true', Bool.not_eq_false'] at hgo) <;> simp only [hgo, e23, h1, e0, c1, c2, ws, wsl, opX, int, Zv.bool, intBin, reduceIte, ↓reduceIte, Nat.reduceEqDiff, Nat.reduceAdd, Nat.reduceSub, Nat.reduceLeDiff, Int.reduceLT, Int.reduceLE, Int.reduceEq, Int.reduceBEq, Int.reduceNe, Int.reduceBNe, reduceCtorEq, Nat.reduceBEq])
    exact ⟨_, rfl, _, _, rfl, K2⟩
  have e1 : (a.op == 1) = false := by simpa using h1
  by_cases h2 : a.op = 2
  · obtain ⟨O1, R1, -⟩ := K0.l
    obtain ⟨O2, R2, -⟩ := K0.r
    have c1 := get_ok R1 K0.low a.cell
    obtain ⟨v, c2, hv, hn⟩ := rget_ok R2 K0.low a.cell
    have hl := getS_len R1.ok a.cell
    have c3 := fun h => from_ok (getS S a.cell).2.1 (by omega) h
    have c4 := same_ok (getS S a.cell).2.1 hv (by omega)
    have e0 : ((2 : Int) == 0) = false := rfl
    have e1 : ((2 : Int) == 1) = false := rfl
    (simp only [e23, h2, e0, e1, c1, c2, hn, c3, c4, ws, wsl, opX, int, Zv.bool, intBin, reduceIte, ↓reduceIte, Nat.reduceEqDiff, Nat.reduceAdd, Nat.reduceSub, Nat.reduceLeDiff, Int.reduceLT, Int.reduceLE, Int.reduceEq, Int.reduceBEq, Int.reduceNe, Int.reduceBNe, reduceCtorEq, Nat.reduceBEq] <;> repeat' (first | refine wpG_s ?_ ?_ | refine wpC_s ?_ ?_) <;> intro hgo <;> (try simp only [decide_eq_true_eq, decide_eq_false_iff_not, Bool.not_eq_true', Bool.not_eq_false'] at hgo) <;> simp only [hgo, e23, h2, e0, e1, c1, c2, hn, c3, c4, ws, wsl, opX, int, Zv.bool, intBin, reduceIte, ↓reduceIte, Nat.reduceEqDiff, Nat.reduceAdd, Nat.reduceSub, Nat.reduceLeDiff, Int.reduceLT, Int.reduceLE, Int.reduceEq, Int.reduceBEq, Int.reduceNe, Int.reduceBNe, reduceCtorEq, Nat.reduceBEq])
    exact ⟨_, rfl, _, _, rfl, K0⟩
  have e2 : (a.op == 2) = false := by simpa using h2
  by_cases h3 : a.op = 3
  · have K0 := K.up (h.next + 2) (Nat.le_succ_of_le (Nat.le_succ _))
    have e0 : ((3 : Int) == 0) = false := rfl
    have e1 : ((3 : Int) == 1) = false := rfl
    have e2 : ((3 : Int) == 2) = false := rfl
    cases hw : a.words with
    | nil =>
      obtain ⟨h1', c1, K1⟩ := K0.put a.cell a.at_ (0, 0)
      obtain ⟨h2, c2, K2⟩ := K1.rput a.cell a.at_ (0, 0)
      (simp only [e23, h3, e0, e1, e2, hw, c1, c2, ws, wsl, opX, int, Zv.bool, intBin, reduceIte, ↓reduceIte, Nat.reduceEqDiff, Nat.reduceAdd, Nat.reduceSub, Nat.reduceLeDiff, Int.reduceLT, Int.reduceLE, Int.reduceEq, Int.reduceBEq, Int.reduceNe, Int.reduceBNe, reduceCtorEq, Nat.reduceBEq] <;> repeat' (first | refine wpG_s ?_ ?_ | refine wpC_s ?_ ?_) <;> intro hgo <;> (try simp only [decide_eq_true_eq, decide_eq_false_iff_not, Bool.not_eq_true', Bool.not_eq_false'] at hgo) <;> simp only [hgo, e23, h3, e0, e1, e2, hw, c1, c2, ws, wsl, opX, int, Zv.bool, intBin, reduceIte, ↓reduceIte, Nat.reduceEqDiff, Nat.reduceAdd, Nat.reduceSub, Nat.reduceLeDiff, Int.reduceLT, Int.reduceLE, Int.reduceEq, Int.reduceBEq, Int.reduceNe, Int.reduceBNe, reduceCtorEq, Nat.reduceBEq])
      exact ⟨_, rfl, _, _, rfl, K2⟩
    | cons w l =>
      obtain ⟨h1', c1, K1⟩ := K0.put a.cell a.at_ w
      obtain ⟨h2, c2, K2⟩ := K1.rput a.cell a.at_ w
      have hi : ia 2 (.d (.lst (eW w :: l.map eW))) (.d (.int .i64 0)) = some (.fp (eW w) 0) := iaW (l := w :: l) (n := 0) (x := w) rfl
      have hg : (0 : Int) < ((l.length + 1 : Nat) : Int) := by omega
      (simp only [e23, h3, e0, e1, e2, hw, hi, hg, c1, c2, ws, wsl, opX, int, Zv.bool, intBin, reduceIte, ↓reduceIte, Nat.reduceEqDiff, Nat.reduceAdd, Nat.reduceSub, Nat.reduceLeDiff, Int.reduceLT, Int.reduceLE, Int.reduceEq, Int.reduceBEq, Int.reduceNe, Int.reduceBNe, reduceCtorEq, Nat.reduceBEq] <;> repeat' (first | refine wpG_s ?_ ?_ | refine wpC_s ?_ ?_) <;> intro hgo <;> (try simp only [decide_eq_true_eq, decide_eq_false_iff_not, Bool.not_eq_true', Bool.not_eq_false'] at hgo) <;> simp only [hgo, e23, h3, e0, e1, e2, hw, hi, hg, c1, c2, ws, wsl, opX, int, Zv.bool, intBin, reduceIte, ↓reduceIte, Nat.reduceEqDiff, Nat.reduceAdd, Nat.reduceSub, Nat.reduceLeDiff, Int.reduceLT, Int.reduceLE, Int.reduceEq, Int.reduceBEq, Int.reduceNe, Int.reduceBNe, reduceCtorEq, Nat.reduceBEq])
      exact ⟨_, rfl, _, _, rfl, K2⟩
  have e3 : (a.op == 3) = false := by simpa using h3
  obtain ⟨O1, R1, -⟩ := K0.l
  obtain ⟨O2, R2, -⟩ := K0.r
  have c1 := audit_ok R1 K0.low K0.ls a.words (by omega)
  have c2 := raudit_ok R2 K0.low K0.lt a.words (by omega)
  rw [audit_eq R1.ok] at c2
  (simp only [e23, e0, e1, e2, e3, hto, c1, c2, ws, wsl, opX, int, Zv.bool, intBin, reduceIte, ↓reduceIte, Nat.reduceEqDiff, Nat.reduceAdd, Nat.reduceSub, Nat.reduceLeDiff, Int.reduceLT, Int.reduceLE, Int.reduceEq, Int.reduceBEq, Int.reduceNe, Int.reduceBNe, reduceCtorEq, Nat.reduceBEq] <;> repeat' (first | refine wpG_s ?_ ?_ | refine wpC_s ?_ ?_) <;> intro hgo <;> (try simp only [decide_eq_true_eq, decide_eq_false_iff_not, Bool.not_eq_true', Bool.not_eq_false'] at hgo) <;> simp only [hgo, e23, e0, e1, e2, e3, hto, c1, c2, ws, wsl, opX, int, Zv.bool, intBin, reduceIte, ↓reduceIte, Nat.reduceEqDiff, Nat.reduceAdd, Nat.reduceSub, Nat.reduceLeDiff, Int.reduceLT, Int.reduceLE, Int.reduceEq, Int.reduceBEq, Int.reduceNe, Int.reduceBNe, reduceCtorEq, Nat.reduceBEq])
  exact ⟨_, rfl, _, _, rfl, K0⟩
-- ws, wsl, opX, int, Zv.bool, intBin, reduceIte, ↓reduceIte, Nat.reduceEqDiff, Nat.reduceAdd, Nat.reduceSub, Nat.reduceLeDiff, Int.reduceLT, Int.reduceLE, Int.reduceEq, Int.reduceBEq, Int.reduceNe, Int.reduceBNe, reduceCtorEq, Nat.reduceBEq
end Zc55
