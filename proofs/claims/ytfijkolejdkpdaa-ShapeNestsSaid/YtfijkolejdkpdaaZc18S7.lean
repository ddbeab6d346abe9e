/-
  The text of a shape: the reference's.
-/
import Derived.Test.YtfijkolejdkpdaaZc18S6
set_option linter.unusedSimpArgs false
set_option maxHeartbeats 4000000
namespace Zc18
open Go Zv Zs

def sSp : ByteArray := ⟨#[32]⟩
def conN (d : List Dt) (w : Wd) : ByteArray := (((consOf d w.1)[w.2.toNat]?).map Cn.name).getD ⟨#[]⟩
def namesS (d : List Dt) (t : Int) : List ByteArray := (ofS d t).map (conN d)
def textS (d : List Dt) (t : Int) : ByteArray × Int := if checkS d ≠ 0 then (⟨#[]⟩, 3) else if isT d t = false then (⟨#[]⟩, 2) else (joinL (namesS d t) sSp, 0)
theorem conN_at {d : List Dt} {m k : Nat} {y : Dt} {c : Cn} (hy : d[m]? = some y) (hc : y.cons[k]? = some c) : conN d ((m : Int) + 1, (k : Int)) = c.name := by
  unfold conN
  rw [consOf_at hy, Int.toNat_natCast, hc]; rfl
theorem ba_assoc (a b c : ByteArray) : a ++ b ++ c = a ++ (b ++ c) := ByteArray.append_assoc
theorem bin_sadd {a b : ByteArray} (h : a.size + b.size ≤ 2 ^ 62) : bin .add (.d (.str a)) (.d (.str b)) = some (.d (.str (a ++ b))) := by
  show (if a.size + b.size ≤ 2 ^ 62 then _ else _) = _
  rw [if_pos h]
theorem joinL_size : ∀ l : List ByteArray, (∀ x, x ∈ l → x.size ≤ 60) → (joinL l sSp).size ≤ 61 * l.length
  | [], _ => by simp [joinL, ByteArray.size]
  | [x], h => by have := h x (by simp); show x.size ≤ 61 * 1; omega
  | x :: y :: l, h => by
    have h1 := h x (by simp)
    have h2 := joinL_size (y :: l) (fun z hz => h z (List.mem_cons_of_mem x hz))
    show (x ++ sSp ++ joinL (y :: l) sSp).size ≤ _
    rw [ByteArray.size_append, ByteArray.size_append, List.length_cons]
    have : sSp.size = 1 := rfl
    omega
/-- The text of the first names. -/
def pre (l : List ByteArray) (n : Nat) : ByteArray := joinL (l.take n) sSp
theorem joinL_snoc : ∀ (l : List ByteArray) (x : ByteArray), l ≠ [] → joinL (l ++ [x]) sSp = joinL l sSp ++ sSp ++ x
  | [], x, h => absurd rfl h
  | [a], x, _ => rfl
  | a :: b :: l, x, _ => by
    show a ++ sSp ++ joinL (b :: (l ++ [x])) sSp = (a ++ sSp ++ joinL (b :: l) sSp) ++ sSp ++ x
    have := joinL_snoc (b :: l) x (by simp)
    rw [show b :: (l ++ [x]) = (b :: l) ++ [x] from rfl, this]
    simp only [ba_assoc]
theorem pre_zero {l : List ByteArray} {x : ByteArray} (hx : l[0]? = some x) : pre l 1 = ⟨#[]⟩ ++ x := by
  cases l with
  | nil => cases hx
  | cons a l => cases hx; show joinL [x] sSp = _; exact (ByteArray.empty_append).symm
theorem pre_succ {l : List ByteArray} {n : Nat} {x : ByteArray} (hx : l[n]? = some x) (h0 : n ≠ 0) : pre l (n + 1) = pre l n ++ sSp ++ x := by
  have hlt := lt_of_get hx
  unfold pre
  have e : l.take (n + 1) = l.take n ++ [x] := by rw [List.take_add_one, hx]; rfl
  rw [e, joinL_snoc _ _ (by intro h; have := congrArg List.length h; rw [List.length_take, List.length_nil] at this; omega)]
theorem names_size {d : List Dt} (S : Sm d) (t : Int) : ∀ x, x ∈ namesS d t → x.size ≤ 60 := by
  intro x hx
  obtain ⟨w, hw, rfl⟩ := List.mem_map.1 hx
  obtain ⟨m, k, y, c, rfl, hy, hc⟩ := ofS_at hw
  rw [conN_at hy hc]
  exact (S.flds y (List.mem_of_getElem? hy) c (List.mem_of_getElem? hc)).2
theorem pre_size {d : List Dt} (S : Sm d) (t : Int) (n : Nat) : (pre (namesS d t) n).size ≤ 61 * n := by
  have := joinL_size ((namesS d t).take n) (fun x hx => names_size S t x (List.mem_of_mem_take hx))
  rw [List.length_take] at this
  unfold pre; omega
theorem rtext_ok {d : List Dt} (S : Sm d) (t : Int) (h : Hp) : callW tab 14 [.d (eDs d), .d (eI t)] h = some (.tup [.d (.str (textS d t).1), .d (eI (textS d t).2)], h) := by
  apply call_wp (fn := f14) rfl rfl
  have B := S.bd
  have N := S.nm
  have hch := fun hh => rcheck_ok B N hh
  have hof := fun hh => rof_ok B N t hh
  unfold textS
  by_cases hC : checkS d = 0
  · rw [if_neg (by simp [hC])]
    by_cases hT : isT d t = true
    · rw [if_neg (by simp [hT])]
      have hlen := ofS_len B t
      have hbl := B.len
      (simp only [e14, hch, hC, sisT_ok, hT, hof, ws, wsl, opX, int, Zv.bool, intBin, reduceIte, ↓reduceIte, Nat.reduceEqDiff, Nat.reduceAdd, Nat.reduceSub, Nat.reduceLeDiff, Int.reduceLT, Int.reduceLE, Int.reduceEq, Int.reduceBEq, Int.reduceNe, Int.reduceBNe, reduceCtorEq, Nat.reduceBEq] <;> repeat' (first | refine wpG_s ?_ ?_ | refine wpC_s ?_ ?_) <;> intro hgo <;> (try simp only [decide_eq_true_eq, decide_eq_false_iff_not, Bool.not_eq_true', Bool.not_eq_false'] at hgo) <;> simp only [hgo, e14, hch, hC, sisT_ok, hT, hof, ws, wsl, opX, int, Zv.bool, intBin, reduceIte, ↓reduceIte, Nat.reduceEqDiff, Nat.reduceAdd, Nat.reduceSub, Nat.reduceLeDiff, Int.reduceLT, Int.reduceLE, Int.reduceEq, Int.reduceBEq, Int.reduceNe, Int.reduceBNe, reduceCtorEq, Nat.reduceBEq])
      refine loop_wp (ofS d t).length (fun n e h' => h' = h ∧ e = [(0, .d (eDs d)), (6, .d (eWs (ofS d t))), (7, .d (.str (pre (namesS d t) n))), (8, .d (.int .i64 n))]) _ ?_ ?_ (ofS d t).length 0 _ _ (by omega) ⟨rfl, rfl⟩
      · rintro n e h' hn ⟨rfl, rfl⟩
        obtain ⟨w, hw⟩ := get_of_lt hn
        obtain ⟨m, k, y, c, rfl, hy, hc⟩ := ofS_at (List.mem_of_getElem? hw)
        have b := B.at hy
        have hwr := wrap_sub1 (n := m) (by omega)
        have hnm : (namesS d t)[n]? = some c.name := by unfold namesS; rw [List.getElem?_map, hw, Option.map_some, conN_at hy hc]
        have hnz := names_size S t _ (List.mem_of_getElem? hnm)
        have hps := pre_size S t n
        by_cases h0 : n = 0
        · subst h0
          have hp := pre_zero hnm
          have hp0 : pre (namesS d t) 0 = ⟨#[]⟩ := rfl
          have hw0 : IntKind.i64.wrap (0 + 1) = 1 := by decide
          have hi : ia 2 (.d (eWs (ofS d t))) (.d (.int .i64 0)) = some (.fp (eW ((m : Int) + 1, (k : Int))) 0) := iaW hw
          have hn' : (0 : Int) < ((ofS d t).length : Int) := by omega
          have ha : bin .add (.d (.str ⟨#[]⟩)) (.d (.str c.name)) = some (.d (.str (⟨#[]⟩ ++ c.name))) := bin_sadd (by
            have := hnz; show 0 + c.name.size ≤ 2 ^ 62; omega)
          (simp only [e14, hn', hi, hwr, iaD hy, iaC hc, hp0, hp, ha, hw0, ws, wsl, opX, int, Zv.bool, intBin, reduceIte, ↓reduceIte, Nat.reduceEqDiff, Nat.reduceAdd, Nat.reduceSub, Nat.reduceLeDiff, Int.reduceLT, Int.reduceLE, Int.reduceEq, Int.reduceBEq, Int.reduceNe, Int.reduceBNe, reduceCtorEq, Nat.reduceBEq] <;> repeat' (first | refine wpG_s ?_ ?_ | refine wpC_s ?_ ?_) <;> intro hgo <;> (try simp only [decide_eq_true_eq, decide_eq_false_iff_not, Bool.not_eq_true', Bool.not_eq_false'] at hgo) <;> simp only [hgo, e14, hn', hi, hwr, iaD hy, iaC hc, hp0, hp, ha, hw0, ws, wsl, opX, int, Zv.bool, intBin, reduceIte, ↓reduceIte, Nat.reduceEqDiff, Nat.reduceAdd, Nat.reduceSub, Nat.reduceLeDiff, Int.reduceLT, Int.reduceLE, Int.reduceEq, Int.reduceBEq, Int.reduceNe, Int.reduceBNe, reduceCtorEq, Nat.reduceBEq])
        · have hp := pre_succ hnm h0
          have h0' : (0 : Int) < (n : Int) := by omega
          have ha1 : bin .add (.d (.str (pre (namesS d t) n))) (.d (.str ⟨#[32]⟩)) = some (.d (.str (pre (namesS d t) n ++ ⟨#[32]⟩))) := bin_sadd (by
            have : (⟨#[32]⟩ : ByteArray).size = 1 := rfl
            omega)
          have ha2 : bin .add (.d (.str (pre (namesS d t) n ++ ⟨#[32]⟩))) (.d (.str c.name)) = some (.d (.str (pre (namesS d t) n ++ ⟨#[32]⟩ ++ c.name))) := bin_sadd (by
            have : (⟨#[32]⟩ : ByteArray).size = 1 := rfl
            rw [ByteArray.size_append]; omega)
          (simp only [e14, hn, h0', ha1, ha2, iaW hw, hwr, iaD hy, iaC hc, hp, sSp, wrap_succ (show n < 2 ^ 62 by omega), ws, wsl, opX, int, Zv.bool, intBin, reduceIte, ↓reduceIte, Nat.reduceEqDiff, Nat.reduceAdd, Nat.reduceSub, Nat.reduceLeDiff, Int.reduceLT, Int.reduceLE, Int.reduceEq, Int.reduceBEq, Int.reduceNe, Int.reduceBNe, reduceCtorEq, Nat.reduceBEq] <;> repeat' (first | refine wpG_s ?_ ?_ | refine wpC_s ?_ ?_) <;> intro hgo <;> (try simp only [decide_eq_true_eq, decide_eq_false_iff_not, Bool.not_eq_true', Bool.not_eq_false'] at hgo) <;> simp only [hgo, e14, hn, h0', ha1, ha2, iaW hw, hwr, iaD hy, iaC hc, hp, sSp, wrap_succ (show n < 2 ^ 62 by omega), ws, wsl, opX, int, Zv.bool, intBin, reduceIte, ↓reduceIte, Nat.reduceEqDiff, Nat.reduceAdd, Nat.reduceSub, Nat.reduceLeDiff, Int.reduceLT, Int.reduceLE, Int.reduceEq, Int.reduceBEq, Int.reduceNe, Int.reduceBNe, reduceCtorEq, Nat.reduceBEq])
      · rintro e h' ⟨rfl, rfl⟩
        have : pre (namesS d t) (ofS d t).length = joinL (namesS d t) sSp := by unfold pre; rw [List.take_of_length_le (by simp [namesS])]
        (simp only [e14, this, ws, wsl, opX, int, Zv.bool, intBin, reduceIte, ↓reduceIte, Nat.reduceEqDiff, Nat.reduceAdd, Nat.reduceSub, Nat.reduceLeDiff, Int.reduceLT, Int.reduceLE, Int.reduceEq, Int.reduceBEq, Int.reduceNe, Int.reduceBNe, reduceCtorEq, Nat.reduceBEq] <;> repeat' (first | refine wpG_s ?_ ?_ | refine wpC_s ?_ ?_) <;> intro hgo <;> (try simp only [decide_eq_true_eq, decide_eq_false_iff_not, Bool.not_eq_true', Bool.not_eq_false'] at hgo) <;> simp only [hgo, e14, this, ws, wsl, opX, int, Zv.bool, intBin, reduceIte, ↓reduceIte, Nat.reduceEqDiff, Nat.reduceAdd, Nat.reduceSub, Nat.reduceLeDiff, Int.reduceLT, Int.reduceLE, Int.reduceEq, Int.reduceBEq, Int.reduceNe, Int.reduceBNe, reduceCtorEq, Nat.reduceBEq])
    · have hT' : isT d t = false := by simpa using hT
      rw [if_pos hT']
      (simp only [e14, hch, hC, sisT_ok, hT', ws, wsl, opX, int, Zv.bool, intBin, reduceIte, ↓reduceIte, Nat.reduceEqDiff, Nat.reduceAdd, Nat.reduceSub, Nat.reduceLeDiff, Int.reduceLT, Int.reduceLE, Int.reduceEq, Int.reduceBEq, Int.reduceNe, Int.reduceBNe, reduceCtorEq, Nat.reduceBEq] <;> repeat' (first | refine wpG_s ?_ ?_ | refine wpC_s ?_ ?_) <;> intro hgo <;> (try simp only [decide_eq_true_eq, decide_eq_false_iff_not, Bool.not_eq_true', Bool.not_eq_false'] at hgo) <;> simp only [hgo, e14, hch, hC, sisT_ok, hT', ws, wsl, opX, int, Zv.bool, intBin, reduceIte, ↓reduceIte, Nat.reduceEqDiff, Nat.reduceAdd, Nat.reduceSub, Nat.reduceLeDiff, Int.reduceLT, Int.reduceLE, Int.reduceEq, Int.reduceBEq, Int.reduceNe, Int.reduceBNe, reduceCtorEq, Nat.reduceBEq])
  · rw [if_pos hC]
    have e : (checkS d != 0) = true := by simp [hC]
    (simp only [e14, hch, e, ws, wsl, opX, int, Zv.bool, intBin, reduceIte, ↓reduceIte, Nat.reduceEqDiff, Nat.reduceAdd, Nat.reduceSub, Nat.reduceLeDiff, Int.reduceLT, Int.reduceLE, Int.reduceEq, Int.reduceBEq, Int.reduceNe, Int.reduceBNe, reduceCtorEq, Nat.reduceBEq] <;> repeat' (first | refine wpG_s ?_ ?_ | refine wpC_s ?_ ?_) <;> intro hgo <;> (try simp only [decide_eq_true_eq, decide_eq_false_iff_not, Bool.not_eq_true', Bool.not_eq_false'] at hgo) <;> simp only [hgo, e14, hch, e, ws, wsl, opX, int, Zv.bool, intBin, reduceIte, ↓reduceIte, Nat.reduceEqDiff, Nat.reduceAdd, Nat.reduceSub, Nat.reduceLeDiff, Int.reduceLT, Int.reduceLE, Int.reduceEq, Int.reduceBEq, Int.reduceNe, Int.reduceBNe, reduceCtorEq, Nat.reduceBEq])
-- ws, wsl, opX, int, Zv.bool, intBin, reduceIte, ↓reduceIte, Nat.reduceEqDiff, Nat.reduceAdd, Nat.reduceSub, Nat.reduceLeDiff, Int.reduceLT, Int.reduceLE, Int.reduceEq, Int.reduceBEq, Int.reduceNe, Int.reduceBNe, reduceCtorEq, Nat.reduceBEq
end Zc18
