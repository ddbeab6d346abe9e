/-
  The reference's Reach, and Recursive.
-/
import Derived.Test.YtimjofcjjgppbaaZc17R5
set_option linter.unusedSimpArgs false
set_option maxHeartbeats 4000000
namespace Zc17
open Go Zv Zs

abbrev rV (h : Hp) (l : List Int) : V := rowV h 1 (l.map eI)
abbrev rH (h : Hp) (l : List Int) : Hp := rowH h 1 (l.map eI)

theorem row_sl (h : Hp) (l : List Int) : Sl (rH h l) (norm (rV h l)) l := by
  by_cases h0 : l = []
  · subst h0
    exact Sl.data h []
  · have e : rV h l = .own h.next 1 l.length 0 l.length := by
      unfold rV rowV; rw [if_neg (by simpa using h0), List.length_map]
    rw [e, norm_own]
    refine Sl.own ?_
    unfold rH rowH
    rw [if_neg (by simpa using h0)]
    have := row_get_alloc h 1 ((l.map eI).map V.d)
    rw [List.length_map, List.length_map] at this
    exact this
theorem row_app (h : Hp) (l : List Int) (t : Int) (hl : l.length < 2 ^ 20) : app 1 8 (rH h l) (rV h l) (.tl [.d (eI t)] (some false)) = some (rV h (l ++ [t]), rH h (l ++ [t])) := by
  have := rowD_app h (es := 1) (b := 8) (l := l.map eI) (x := eI t) rfl (by simp only [List.length_map, roomB]; omega) (fun y hy => by obtain ⟨w, _, rfl⟩ := List.mem_map.1 hy; rfl)
  rw [this]
  unfold rV rH
  rw [List.map_append]; rfl

theorem any_mem (l : List Int) (t : Int) : (l.any fun x => x == t) = decide (t ∈ l) := by
  induction l with
  | nil => simp
  | cons a l ih =>
    rw [List.any_cons, ih]
    by_cases h : a = t
    · subst h; simp
    · have h' : ¬ t = a := fun e => h e.symm
      simp [h, h']
theorem any_mem' (l : List Int) (t : Int) : (l.any fun x => t == x) = decide (t ∈ l) := by
  induction l with
  | nil => simp
  | cons a l ih => rw [List.any_cons, ih]; by_cases h : t = a <;> simp [h]

theorem rreach_ok {d : List Dt} (B : Bd d) : ∀ (k : Nat) (t : Int) (l : List Int) (h : Hp), Inv d l → d.length + 2 ≤ k + l.length →
    callW tab 48 [.d (eDs d), .d (eI t), rV h l] (rH h l) = some (rV h (reachS d k t l), rH h (reachS d k t l)) := by
  intro k
  induction k with
  | zero => intro t l h I hk; have := I.len; omega
  | succ k ih =>
    intro t l h I hk
    have hll := I.len
    have hbl := B.len
    apply call_wp (fn := f48) rfl rfl
    have hhas := has_sl (row_sl h l) (by omega) t
    rw [any_mem] at hhas
    by_cases hT : isT d t = false
    · have e : reachS d (k + 1) t l = l := by rw [reachS, if_pos (.inl hT)]
      (simp only [e48, isType_ok, hT, e, ws, wsl, opX, int, Zv.bool, intBin, reduceIte, ↓reduceIte, Nat.reduceEqDiff, Nat.reduceAdd, Nat.reduceSub, Nat.reduceLeDiff, Int.reduceLT, Int.reduceLE, Int.reduceEq, Int.reduceBEq, Int.reduceNe, Int.reduceBNe, reduceCtorEq, Nat.reduceBEq] <;> repeat' (first | refine wpG_s ?_ ?_ | refine wpC_s ?_ ?_) <;> intro hgo <;> (try simp only [decide_eq_true_eq, decide_eq_false_iff_not, Bool.not_eq_true', Bool.not_eq_false'] at hgo) <;> simp only [hgo, e48, isType_ok, hT, e, ws, wsl, opX, int, Zv.bool, intBin, reduceIte, ↓reduceIte, Nat.reduceEqDiff, Nat.reduceAdd, Nat.reduceSub, Nat.reduceLeDiff, Int.reduceLT, Int.reduceLE, Int.reduceEq, Int.reduceBEq, Int.reduceNe, Int.reduceBNe, reduceCtorEq, Nat.reduceBEq])
    · have hT : isT d t = true := by simpa using hT
      by_cases hm : t ∈ l
      · have e : reachS d (k + 1) t l = l := by rw [reachS, if_pos (.inr hm)]
        (simp only [e48, isType_ok, hT, hhas, hm, e, ws, wsl, opX, int, Zv.bool, intBin, reduceIte, ↓reduceIte, Nat.reduceEqDiff, Nat.reduceAdd, Nat.reduceSub, Nat.reduceLeDiff, Int.reduceLT, Int.reduceLE, Int.reduceEq, Int.reduceBEq, Int.reduceNe, Int.reduceBNe, reduceCtorEq, Nat.reduceBEq] <;> repeat' (first | refine wpG_s ?_ ?_ | refine wpC_s ?_ ?_) <;> intro hgo <;> (try simp only [decide_eq_true_eq, decide_eq_false_iff_not, Bool.not_eq_true', Bool.not_eq_false'] at hgo) <;> simp only [hgo, e48, isType_ok, hT, hhas, hm, e, ws, wsl, opX, int, Zv.bool, intBin, reduceIte, ↓reduceIte, Nat.reduceEqDiff, Nat.reduceAdd, Nat.reduceSub, Nat.reduceLeDiff, Int.reduceLT, Int.reduceLE, Int.reduceEq, Int.reduceBEq, Int.reduceNe, Int.reduceBNe, reduceCtorEq, Nat.reduceBEq])
      · have e : reachS d (k + 1) t l = (consOf d t).foldl (fun l c => c.flds.foldl (fun l f => reachS d k f l) l) (l ++ [t]) := by
          rw [reachS, if_neg (by simp [hT, hm])]
        have ha := row_app h l t (by omega)
        rcases tcase4 d t with h0 | rfl | h0 | ⟨m, y, rfl, hy⟩
        · rw [isT_lo h0] at hT; cases hT
        · rw [consOf_lo (show (0:Int) < 1 by decide), List.foldl_nil] at e
          (simp only [e48, isType_ok, hT, hhas, hm, e, ha, ws, wsl, opX, int, Zv.bool, intBin, reduceIte, ↓reduceIte, Nat.reduceEqDiff, Nat.reduceAdd, Nat.reduceSub, Nat.reduceLeDiff, Int.reduceLT, Int.reduceLE, Int.reduceEq, Int.reduceBEq, Int.reduceNe, Int.reduceBNe, reduceCtorEq, Nat.reduceBEq] <;> repeat' (first | refine wpG_s ?_ ?_ | refine wpC_s ?_ ?_) <;> intro hgo <;> (try simp only [decide_eq_true_eq, decide_eq_false_iff_not, Bool.not_eq_true', Bool.not_eq_false'] at hgo) <;> simp only [hgo, e48, isType_ok, hT, hhas, hm, e, ha, ws, wsl, opX, int, Zv.bool, intBin, reduceIte, ↓reduceIte, Nat.reduceEqDiff, Nat.reduceAdd, Nat.reduceSub, Nat.reduceLeDiff, Int.reduceLT, Int.reduceLE, Int.reduceEq, Int.reduceBEq, Int.reduceNe, Int.reduceBNe, reduceCtorEq, Nat.reduceBEq])
        · rw [isT_hi h0] at hT; cases hT
        · have b := B.at hy
          rw [consOf_at hy] at e
          have hw := wrap_sub1 (n := m) (by omega)
          have I1 := I.add hT hm
          have inner : ∀ (n : Nat) (c : Cn) (s : List Int), y.cons[n]? = some c → Inv d s → l.length + 1 ≤ s.length →
              ex tab (.loop f48l0) [(0, .d (eDs d)), (1, .d (eI ((m : Int) + 1))), (2, rV h s), (7, .d (.int .i64 n)), (8, .d (eIs c.flds)), (9, .d (.int .i64 0))] (rH h s) =
                some (.exit 2, [(0, .d (eDs d)), (1, .d (eI ((m : Int) + 1))), (2, rV h (c.flds.foldl (fun l f => reachS d k f l) s)), (7, .d (.int .i64 n)), (8, .d (eIs c.flds)), (9, .d (.int .i64 c.flds.length)), (51, .d (.bool false))], rH h (c.flds.foldl (fun l f => reachS d k f l) s)) := by
            intro n c s hc Is hs
            have bc := B.cat hy hc
            have := loop_fold (T := tab) (a := f48l0) (l := c.flds) (fun j s => [(0, .d (eDs d)), (1, .d (eI ((m : Int) + 1))), (2, rV h s), (7, .d (.int .i64 n)), (8, .d (eIs c.flds)), (9, int j)]) (fun _ s => rH h s) (fun _ s => Inv d s ∧ l.length + 1 ≤ s.length)
              (fun s f => reachS d k f s) (fun s => (.exit 2, [(0, .d (eDs d)), (1, .d (eI ((m : Int) + 1))), (2, rV h s), (7, .d (.int .i64 n)), (8, .d (eIs c.flds)), (9, .d (.int .i64 c.flds.length)), (51, .d (.bool false))], rH h s))
              (by
                intro j s x hx hlt ⟨Ij, hj⟩
                have hr := reachS_inv d k x s Ij
                refine ⟨?_, hr.1, by omega⟩
                apply wq_ex.1
                have hrec := ih x s h Ij (by omega)
                (simp only [e48, hlt, iaI hx, hrec, wrap_succ (show j < 2 ^ 62 by omega), ws, wsl, opX, int, Zv.bool, intBin, reduceIte, ↓reduceIte, Nat.reduceEqDiff, Nat.reduceAdd, Nat.reduceSub, Nat.reduceLeDiff, Int.reduceLT, Int.reduceLE, Int.reduceEq, Int.reduceBEq, Int.reduceNe, Int.reduceBNe, reduceCtorEq, Nat.reduceBEq] <;> repeat' (first | refine wpG_s ?_ ?_ | refine wpC_s ?_ ?_) <;> intro hgo <;> (try simp only [decide_eq_true_eq, decide_eq_false_iff_not, Bool.not_eq_true', Bool.not_eq_false'] at hgo) <;> simp only [hgo, e48, hlt, iaI hx, hrec, wrap_succ (show j < 2 ^ 62 by omega), ws, wsl, opX, int, Zv.bool, intBin, reduceIte, ↓reduceIte, Nat.reduceEqDiff, Nat.reduceAdd, Nat.reduceSub, Nat.reduceLeDiff, Int.reduceLT, Int.reduceLE, Int.reduceEq, Int.reduceBEq, Int.reduceNe, Int.reduceBNe, reduceCtorEq, Nat.reduceBEq]))
              (by
                intro s _
                apply wq_ex.1
                (simp only [e48, ws, wsl, opX, int, Zv.bool, intBin, reduceIte, ↓reduceIte, Nat.reduceEqDiff, Nat.reduceAdd, Nat.reduceSub, Nat.reduceLeDiff, Int.reduceLT, Int.reduceLE, Int.reduceEq, Int.reduceBEq, Int.reduceNe, Int.reduceBNe, reduceCtorEq, Nat.reduceBEq] <;> repeat' (first | refine wpG_s ?_ ?_ | refine wpC_s ?_ ?_) <;> intro hgo <;> (try simp only [decide_eq_true_eq, decide_eq_false_iff_not, Bool.not_eq_true', Bool.not_eq_false'] at hgo) <;> simp only [hgo, e48, ws, wsl, opX, int, Zv.bool, intBin, reduceIte, ↓reduceIte, Nat.reduceEqDiff, Nat.reduceAdd, Nat.reduceSub, Nat.reduceLeDiff, Int.reduceLT, Int.reduceLE, Int.reduceEq, Int.reduceBEq, Int.reduceNe, Int.reduceBNe, reduceCtorEq, Nat.reduceBEq]))
              (by intro s; simp) s ⟨Is, hs⟩
            simp only [int, Int.cast_ofNat_Int] at this
            exact this
          have outer := loop_fold (T := tab) (a := f48l1) (l := y.cons) (fun j s => [(0, .d (eDs d)), (1, .d (eI ((m : Int) + 1))), (2, rV h s), (7, int j)]) (fun _ s => rH h s) (fun _ s => Inv d s ∧ l.length + 1 ≤ s.length)
              (fun s c => c.flds.foldl (fun l f => reachS d k f l) s) (fun s => (.exit 0, [(0, .d (eDs d)), (1, .d (eI ((m : Int) + 1))), (2, rV h s), (7, .d (.int .i64 y.cons.length)), (35, .d (.bool false))], rH h s))
              (by
                intro j s x hx hlt ⟨Ij, hj⟩
                have hin := inner j x s hx Ij hj
                refine ⟨?_, fold_keep (P := fun s => Inv d s ∧ l.length + 1 ≤ s.length) (fun s f _ hs => ?_) ⟨Ij, hj⟩⟩
                · apply wq_ex.1
                  (simp only [e48, hlt, iaD hy, iaC hx, hw, wq_of hin, wrap_succ (show j < 2 ^ 62 by omega), ws, wsl, opX, int, Zv.bool, intBin, reduceIte, ↓reduceIte, Nat.reduceEqDiff, Nat.reduceAdd, Nat.reduceSub, Nat.reduceLeDiff, Int.reduceLT, Int.reduceLE, Int.reduceEq, Int.reduceBEq, Int.reduceNe, Int.reduceBNe, reduceCtorEq, Nat.reduceBEq] <;> repeat' (first | refine wpG_s ?_ ?_ | refine wpC_s ?_ ?_) <;> intro hgo <;> (try simp only [decide_eq_true_eq, decide_eq_false_iff_not, Bool.not_eq_true', Bool.not_eq_false'] at hgo) <;> simp only [hgo, e48, hlt, iaD hy, iaC hx, hw, wq_of hin, wrap_succ (show j < 2 ^ 62 by omega), ws, wsl, opX, int, Zv.bool, intBin, reduceIte, ↓reduceIte, Nat.reduceEqDiff, Nat.reduceAdd, Nat.reduceSub, Nat.reduceLeDiff, Int.reduceLT, Int.reduceLE, Int.reduceEq, Int.reduceBEq, Int.reduceNe, Int.reduceBNe, reduceCtorEq, Nat.reduceBEq])
                · have hr := reachS_inv d k f s hs.1
                  exact ⟨hr.1, by omega⟩)
              (by
                intro s _
                apply wq_ex.1
                (simp only [e48, iaD hy, hw, ws, wsl, opX, int, Zv.bool, intBin, reduceIte, ↓reduceIte, Nat.reduceEqDiff, Nat.reduceAdd, Nat.reduceSub, Nat.reduceLeDiff, Int.reduceLT, Int.reduceLE, Int.reduceEq, Int.reduceBEq, Int.reduceNe, Int.reduceBNe, reduceCtorEq, Nat.reduceBEq] <;> repeat' (first | refine wpG_s ?_ ?_ | refine wpC_s ?_ ?_) <;> intro hgo <;> (try simp only [decide_eq_true_eq, decide_eq_false_iff_not, Bool.not_eq_true', Bool.not_eq_false'] at hgo) <;> simp only [hgo, e48, iaD hy, hw, ws, wsl, opX, int, Zv.bool, intBin, reduceIte, ↓reduceIte, Nat.reduceEqDiff, Nat.reduceAdd, Nat.reduceSub, Nat.reduceLeDiff, Int.reduceLT, Int.reduceLE, Int.reduceEq, Int.reduceBEq, Int.reduceNe, Int.reduceBNe, reduceCtorEq, Nat.reduceBEq]))
              (by intro s; simp) (l ++ [(m : Int) + 1]) ⟨I1, by simp⟩
          simp only [int, Int.cast_ofNat_Int] at outer
          (simp only [e48, isType_ok, hT, hhas, hm, ha, e, wq_of outer, ws, wsl, opX, int, Zv.bool, intBin, reduceIte, ↓reduceIte, Nat.reduceEqDiff, Nat.reduceAdd, Nat.reduceSub, Nat.reduceLeDiff, Int.reduceLT, Int.reduceLE, Int.reduceEq, Int.reduceBEq, Int.reduceNe, Int.reduceBNe, reduceCtorEq, Nat.reduceBEq] <;> repeat' (first | refine wpG_s ?_ ?_ | refine wpC_s ?_ ?_) <;> intro hgo <;> (try simp only [decide_eq_true_eq, decide_eq_false_iff_not, Bool.not_eq_true', Bool.not_eq_false'] at hgo) <;> simp only [hgo, e48, isType_ok, hT, hhas, hm, ha, e, wq_of outer, ws, wsl, opX, int, Zv.bool, intBin, reduceIte, ↓reduceIte, Nat.reduceEqDiff, Nat.reduceAdd, Nat.reduceSub, Nat.reduceLeDiff, Int.reduceLT, Int.reduceLE, Int.reduceEq, Int.reduceBEq, Int.reduceNe, Int.reduceBNe, reduceCtorEq, Nat.reduceBEq])

/-- What is reached from a type. -/
def reach (d : List Dt) (t : Int) : List Int := reachS d (d.length + 2) t []
theorem Inv.nil (d : List Dt) : Inv d [] := ⟨List.nodup_nil, fun x hx => by cases hx⟩
theorem reach_inv (d : List Dt) (t : Int) : Inv d (reach d t) := (reachS_inv d _ t [] (Inv.nil d)).1
theorem Reach_ok {d : List Dt} (B : Bd d) (t : Int) (h : Hp) : callW tab 20 [.d (eDs d), .d (eI t)] h = some (.d (eIs (reach d t)), h) := by
  apply call_wp (fn := f20) rfl rfl
  have hr := rreach_ok B (d.length + 2) t [] h (Inv.nil d) (by simp)
  have e : (.tl [] (some true) : V) = rV h [] := rfl
  have e' : rH h [] = h := rfl
  rw [← e, e'] at hr
  have hf := finish_row (fn := f20) (h := h) (l := (reachS d (d.length + 2) t []).map eI) (es := 1) (t := 4) (e := [(4, rV h (reachS d (d.length + 2) t []))]) rfl rfl rfl
  simp only [f20, fin_s, List.map_cons, List.map_nil, get_cons, if_true] at hf
  (simp only [e20, hr, hf, reach, ws, wsl, opX, int, Zv.bool, intBin, reduceIte, ↓reduceIte, Nat.reduceEqDiff, Nat.reduceAdd, Nat.reduceSub, Nat.reduceLeDiff, Int.reduceLT, Int.reduceLE, Int.reduceEq, Int.reduceBEq, Int.reduceNe, Int.reduceBNe, reduceCtorEq, Nat.reduceBEq] <;> repeat' (first | refine wpG_s ?_ ?_ | refine wpC_s ?_ ?_) <;> intro hgo <;> (try simp only [decide_eq_true_eq, decide_eq_false_iff_not, Bool.not_eq_true', Bool.not_eq_false'] at hgo) <;> simp only [hgo, e20, hr, hf, reach, ws, wsl, opX, int, Zv.bool, intBin, reduceIte, ↓reduceIte, Nat.reduceEqDiff, Nat.reduceAdd, Nat.reduceSub, Nat.reduceLeDiff, Int.reduceLT, Int.reduceLE, Int.reduceEq, Int.reduceBEq, Int.reduceNe, Int.reduceBNe, reduceCtorEq, Nat.reduceBEq])

/-- Does a field of a type reach it? -/
def recS (d : List Dt) (t : Int) : Bool := (consOf d t).any fun c => c.flds.any fun f => decide (t ∈ reach d f)
theorem Recursive_ok {d : List Dt} (B : Bd d) (t : Int) (h : Hp) : callW tab 22 [.d (eDs d), .d (eI t)] h = some (.d (.bool (recS d t)), h) := by
  apply call_wp (fn := f22) rfl rfl
  rcases tcase4 d t with h0 | rfl | h0 | ⟨m, y, rfl, hy⟩
  · have : (t == 0) = false := by simp; omega
    (simp only [e22, recS, isType_ok, isT_lo h0, this, consOf_lo (show t < 1 by omega), List.any_nil, ws, wsl, opX, int, Zv.bool, intBin, reduceIte, ↓reduceIte, Nat.reduceEqDiff, Nat.reduceAdd, Nat.reduceSub, Nat.reduceLeDiff, Int.reduceLT, Int.reduceLE, Int.reduceEq, Int.reduceBEq, Int.reduceNe, Int.reduceBNe, reduceCtorEq, Nat.reduceBEq] <;> repeat' (first | refine wpG_s ?_ ?_ | refine wpC_s ?_ ?_) <;> intro hgo <;> (try simp only [decide_eq_true_eq, decide_eq_false_iff_not, Bool.not_eq_true', Bool.not_eq_false'] at hgo) <;> simp only [hgo, e22, recS, isType_ok, isT_lo h0, this, consOf_lo (show t < 1 by omega), List.any_nil, ws, wsl, opX, int, Zv.bool, intBin, reduceIte, ↓reduceIte, Nat.reduceEqDiff, Nat.reduceAdd, Nat.reduceSub, Nat.reduceLeDiff, Int.reduceLT, Int.reduceLE, Int.reduceEq, Int.reduceBEq, Int.reduceNe, Int.reduceBNe, reduceCtorEq, Nat.reduceBEq])
  · (simp only [e22, recS, consOf_lo (show (0:Int) < 1 by decide), List.any_nil, ws, wsl, opX, int, Zv.bool, intBin, reduceIte, ↓reduceIte, Nat.reduceEqDiff, Nat.reduceAdd, Nat.reduceSub, Nat.reduceLeDiff, Int.reduceLT, Int.reduceLE, Int.reduceEq, Int.reduceBEq, Int.reduceNe, Int.reduceBNe, reduceCtorEq, Nat.reduceBEq] <;> repeat' (first | refine wpG_s ?_ ?_ | refine wpC_s ?_ ?_) <;> intro hgo <;> (try simp only [decide_eq_true_eq, decide_eq_false_iff_not, Bool.not_eq_true', Bool.not_eq_false'] at hgo) <;> simp only [hgo, e22, recS, consOf_lo (show (0:Int) < 1 by decide), List.any_nil, ws, wsl, opX, int, Zv.bool, intBin, reduceIte, ↓reduceIte, Nat.reduceEqDiff, Nat.reduceAdd, Nat.reduceSub, Nat.reduceLeDiff, Int.reduceLT, Int.reduceLE, Int.reduceEq, Int.reduceBEq, Int.reduceNe, Int.reduceBNe, reduceCtorEq, Nat.reduceBEq])
  · have : (t == 0) = false := by simp; omega
    (simp only [e22, recS, isType_ok, isT_hi h0, this, consOf_hi h0, List.any_nil, ws, wsl, opX, int, Zv.bool, intBin, reduceIte, ↓reduceIte, Nat.reduceEqDiff, Nat.reduceAdd, Nat.reduceSub, Nat.reduceLeDiff, Int.reduceLT, Int.reduceLE, Int.reduceEq, Int.reduceBEq, Int.reduceNe, Int.reduceBNe, reduceCtorEq, Nat.reduceBEq] <;> repeat' (first | refine wpG_s ?_ ?_ | refine wpC_s ?_ ?_) <;> intro hgo <;> (try simp only [decide_eq_true_eq, decide_eq_false_iff_not, Bool.not_eq_true', Bool.not_eq_false'] at hgo) <;> simp only [hgo, e22, recS, isType_ok, isT_hi h0, this, consOf_hi h0, List.any_nil, ws, wsl, opX, int, Zv.bool, intBin, reduceIte, ↓reduceIte, Nat.reduceEqDiff, Nat.reduceAdd, Nat.reduceSub, Nat.reduceLeDiff, Int.reduceLT, Int.reduceLE, Int.reduceEq, Int.reduceBEq, Int.reduceNe, Int.reduceBNe, reduceCtorEq, Nat.reduceBEq])
  · have b := B.at hy
    have hw := wrap_sub1 (n := m) (by omega)
    have inner : ∀ (k : Nat) (c : Cn), y.cons[k]? = some c → ex tab (.loop f22l0) [(0, .d (eDs d)), (1, .d (eI ((m : Int) + 1))), (5, .d (.int .i64 k)), (6, .d (eIs c.flds)), (7, .d (.int .i64 0))] h =
        some (if (c.flds.any fun f => decide ((m : Int) + 1 ∈ reach d f)) = true then (.ret, [(4, .d (.bool true))], h) else (.exit 2, [(0, .d (eDs d)), (1, .d (eI ((m : Int) + 1))), (5, .d (.int .i64 k)), (6, .d (eIs c.flds)), (7, .d (.int .i64 c.flds.length)), (40, .d (.bool false))], h)) := by
      intro k c hc
      have bc := B.cat hy hc
      have hloop := loop_any (T := tab) (a := f22l0) (l := c.flds) (p := (fun f => decide ((m : Int) + 1 ∈ reach d f))) (f := fun n => [(0, .d (eDs d)), (1, .d (eI ((m : Int) + 1))), (5, .d (.int .i64 k)), (6, .d (eIs c.flds)), (7, int n)]) (h := h)
          (by intro n x hx hlt hp; have hh := has_sl (Sl.data h (reach d x)) (by have := (reach_inv d x).len; have := B.len; omega) ((m : Int) + 1); rw [any_mem] at hh; simp only [decide_eq_true_eq, decide_eq_false_iff_not] at hp; all_goals (apply wq_ex.1; (simp only [hlt, hp, e22, iaI hx, Reach_ok B, hh, wrap_succ (show n < 2 ^ 62 by omega), ws, wsl, opX, int, Zv.bool, intBin, reduceIte, ↓reduceIte, Nat.reduceEqDiff, Nat.reduceAdd, Nat.reduceSub, Nat.reduceLeDiff, Int.reduceLT, Int.reduceLE, Int.reduceEq, Int.reduceBEq, Int.reduceNe, Int.reduceBNe, reduceCtorEq, Nat.reduceBEq] <;> repeat' (first | refine wpG_s ?_ ?_ | refine wpC_s ?_ ?_) <;> intro hgo <;> (try simp only [decide_eq_true_eq, decide_eq_false_iff_not, Bool.not_eq_true', Bool.not_eq_false'] at hgo) <;> simp only [hgo, hlt, hp, e22, iaI hx, Reach_ok B, hh, wrap_succ (show n < 2 ^ 62 by omega), ws, wsl, opX, int, Zv.bool, intBin, reduceIte, ↓reduceIte, Nat.reduceEqDiff, Nat.reduceAdd, Nat.reduceSub, Nat.reduceLeDiff, Int.reduceLT, Int.reduceLE, Int.reduceEq, Int.reduceBEq, Int.reduceNe, Int.reduceBNe, reduceCtorEq, Nat.reduceBEq])))
          (by intro n x hx hlt hp; have hh := has_sl (Sl.data h (reach d x)) (by have := (reach_inv d x).len; have := B.len; omega) ((m : Int) + 1); rw [any_mem] at hh; simp only [decide_eq_true_eq, decide_eq_false_iff_not] at hp; all_goals (apply wq_ex.1; (simp only [hlt, hp, e22, iaI hx, Reach_ok B, hh, wrap_succ (show n < 2 ^ 62 by omega), ws, wsl, opX, int, Zv.bool, intBin, reduceIte, ↓reduceIte, Nat.reduceEqDiff, Nat.reduceAdd, Nat.reduceSub, Nat.reduceLeDiff, Int.reduceLT, Int.reduceLE, Int.reduceEq, Int.reduceBEq, Int.reduceNe, Int.reduceBNe, reduceCtorEq, Nat.reduceBEq] <;> repeat' (first | refine wpG_s ?_ ?_ | refine wpC_s ?_ ?_) <;> intro hgo <;> (try simp only [decide_eq_true_eq, decide_eq_false_iff_not, Bool.not_eq_true', Bool.not_eq_false'] at hgo) <;> simp only [hgo, hlt, hp, e22, iaI hx, Reach_ok B, hh, wrap_succ (show n < 2 ^ 62 by omega), ws, wsl, opX, int, Zv.bool, intBin, reduceIte, ↓reduceIte, Nat.reduceEqDiff, Nat.reduceAdd, Nat.reduceSub, Nat.reduceLeDiff, Int.reduceLT, Int.reduceLE, Int.reduceEq, Int.reduceBEq, Int.reduceNe, Int.reduceBNe, reduceCtorEq, Nat.reduceBEq]) <;> rfl))
          (by apply wq_ex.1; (simp only [e22, ws, wsl, opX, int, Zv.bool, intBin, reduceIte, ↓reduceIte, Nat.reduceEqDiff, Nat.reduceAdd, Nat.reduceSub, Nat.reduceLeDiff, Int.reduceLT, Int.reduceLE, Int.reduceEq, Int.reduceBEq, Int.reduceNe, Int.reduceBNe, reduceCtorEq, Nat.reduceBEq] <;> repeat' (first | refine wpG_s ?_ ?_ | refine wpC_s ?_ ?_) <;> intro hgo <;> (try simp only [decide_eq_true_eq, decide_eq_false_iff_not, Bool.not_eq_true', Bool.not_eq_false'] at hgo) <;> simp only [hgo, e22, ws, wsl, opX, int, Zv.bool, intBin, reduceIte, ↓reduceIte, Nat.reduceEqDiff, Nat.reduceAdd, Nat.reduceSub, Nat.reduceLeDiff, Int.reduceLT, Int.reduceLE, Int.reduceEq, Int.reduceBEq, Int.reduceNe, Int.reduceBNe, reduceCtorEq, Nat.reduceBEq]) <;> rfl)
          (by simp) (by simp)
      simp only [int, Zv.bool, Int.cast_ofNat_Int] at hloop
      exact hloop
    have hloop := loop_any (T := tab) (a := f22l1) (l := y.cons) (p := (fun c => c.flds.any fun f => decide ((m : Int) + 1 ∈ reach d f))) (f := fun n => [(0, .d (eDs d)), (1, .d (eI ((m : Int) + 1))), (5, int n)]) (h := h)
        (by intro n x hx hlt hp; have hin := inner n x hx; simp only [hp, if_true, if_false, Bool.false_eq_true] at hin; all_goals (apply wq_ex.1; (simp only [hlt, hp, e22, iaD hy, iaC hx, hw, wq_of hin, wrap_succ (show n < 2 ^ 62 by omega), ws, wsl, opX, int, Zv.bool, intBin, reduceIte, ↓reduceIte, Nat.reduceEqDiff, Nat.reduceAdd, Nat.reduceSub, Nat.reduceLeDiff, Int.reduceLT, Int.reduceLE, Int.reduceEq, Int.reduceBEq, Int.reduceNe, Int.reduceBNe, reduceCtorEq, Nat.reduceBEq] <;> repeat' (first | refine wpG_s ?_ ?_ | refine wpC_s ?_ ?_) <;> intro hgo <;> (try simp only [decide_eq_true_eq, decide_eq_false_iff_not, Bool.not_eq_true', Bool.not_eq_false'] at hgo) <;> simp only [hgo, hlt, hp, e22, iaD hy, iaC hx, hw, wq_of hin, wrap_succ (show n < 2 ^ 62 by omega), ws, wsl, opX, int, Zv.bool, intBin, reduceIte, ↓reduceIte, Nat.reduceEqDiff, Nat.reduceAdd, Nat.reduceSub, Nat.reduceLeDiff, Int.reduceLT, Int.reduceLE, Int.reduceEq, Int.reduceBEq, Int.reduceNe, Int.reduceBNe, reduceCtorEq, Nat.reduceBEq])))
        (by intro n x hx hlt hp; have hin := inner n x hx; simp only [hp, if_true, if_false, Bool.false_eq_true] at hin; all_goals (apply wq_ex.1; (simp only [hlt, hp, e22, iaD hy, iaC hx, hw, wq_of hin, wrap_succ (show n < 2 ^ 62 by omega), ws, wsl, opX, int, Zv.bool, intBin, reduceIte, ↓reduceIte, Nat.reduceEqDiff, Nat.reduceAdd, Nat.reduceSub, Nat.reduceLeDiff, Int.reduceLT, Int.reduceLE, Int.reduceEq, Int.reduceBEq, Int.reduceNe, Int.reduceBNe, reduceCtorEq, Nat.reduceBEq] <;> repeat' (first | refine wpG_s ?_ ?_ | refine wpC_s ?_ ?_) <;> intro hgo <;> (try simp only [decide_eq_true_eq, decide_eq_false_iff_not, Bool.not_eq_true', Bool.not_eq_false'] at hgo) <;> simp only [hgo, hlt, hp, e22, iaD hy, iaC hx, hw, wq_of hin, wrap_succ (show n < 2 ^ 62 by omega), ws, wsl, opX, int, Zv.bool, intBin, reduceIte, ↓reduceIte, Nat.reduceEqDiff, Nat.reduceAdd, Nat.reduceSub, Nat.reduceLeDiff, Int.reduceLT, Int.reduceLE, Int.reduceEq, Int.reduceBEq, Int.reduceNe, Int.reduceBNe, reduceCtorEq, Nat.reduceBEq]) <;> rfl))
        (by apply wq_ex.1; (simp only [e22, iaD hy, hw, ws, wsl, opX, int, Zv.bool, intBin, reduceIte, ↓reduceIte, Nat.reduceEqDiff, Nat.reduceAdd, Nat.reduceSub, Nat.reduceLeDiff, Int.reduceLT, Int.reduceLE, Int.reduceEq, Int.reduceBEq, Int.reduceNe, Int.reduceBNe, reduceCtorEq, Nat.reduceBEq] <;> repeat' (first | refine wpG_s ?_ ?_ | refine wpC_s ?_ ?_) <;> intro hgo <;> (try simp only [decide_eq_true_eq, decide_eq_false_iff_not, Bool.not_eq_true', Bool.not_eq_false'] at hgo) <;> simp only [hgo, e22, iaD hy, hw, ws, wsl, opX, int, Zv.bool, intBin, reduceIte, ↓reduceIte, Nat.reduceEqDiff, Nat.reduceAdd, Nat.reduceSub, Nat.reduceLeDiff, Int.reduceLT, Int.reduceLE, Int.reduceEq, Int.reduceBEq, Int.reduceNe, Int.reduceBNe, reduceCtorEq, Nat.reduceBEq]) <;> rfl)
        (by simp) (by simp)
    simp only [int, Zv.bool, Int.cast_ofNat_Int] at hloop
    (simp only [e22, recS, isType_ok, isT_at hy, consOf_at hy, wq_of hloop, ws, wsl, opX, int, Zv.bool, intBin, reduceIte, ↓reduceIte, Nat.reduceEqDiff, Nat.reduceAdd, Nat.reduceSub, Nat.reduceLeDiff, Int.reduceLT, Int.reduceLE, Int.reduceEq, Int.reduceBEq, Int.reduceNe, Int.reduceBNe, reduceCtorEq, Nat.reduceBEq] <;> repeat' (first | refine wpG_s ?_ ?_ | refine wpC_s ?_ ?_) <;> intro hgo <;> (try simp only [decide_eq_true_eq, decide_eq_false_iff_not, Bool.not_eq_true', Bool.not_eq_false'] at hgo) <;> simp only [hgo, e22, recS, isType_ok, isT_at hy, consOf_at hy, wq_of hloop, ws, wsl, opX, int, Zv.bool, intBin, reduceIte, ↓reduceIte, Nat.reduceEqDiff, Nat.reduceAdd, Nat.reduceSub, Nat.reduceLeDiff, Int.reduceLT, Int.reduceLE, Int.reduceEq, Int.reduceBEq, Int.reduceNe, Int.reduceBNe, reduceCtorEq, Nat.reduceBEq])
    cases y.cons.any (fun c => c.flds.any fun f => decide ((m : Int) + 1 ∈ reach d f)) <;> (simp only [e22, ws, wsl, opX, int, Zv.bool, intBin, reduceIte, ↓reduceIte, Nat.reduceEqDiff, Nat.reduceAdd, Nat.reduceSub, Nat.reduceLeDiff, Int.reduceLT, Int.reduceLE, Int.reduceEq, Int.reduceBEq, Int.reduceNe, Int.reduceBNe, reduceCtorEq, Nat.reduceBEq] <;> repeat' (first | refine wpG_s ?_ ?_ | refine wpC_s ?_ ?_) <;> intro hgo <;> (try simp only [decide_eq_true_eq, decide_eq_false_iff_not, Bool.not_eq_true', Bool.not_eq_false'] at hgo) <;> simp only [hgo, e22, ws, wsl, opX, int, Zv.bool, intBin, reduceIte, ↓reduceIte, Nat.reduceEqDiff, Nat.reduceAdd, Nat.reduceSub, Nat.reduceLeDiff, Int.reduceLT, Int.reduceLE, Int.reduceEq, Int.reduceBEq, Int.reduceNe, Int.reduceBNe, reduceCtorEq, Nat.reduceBEq])
-- ws, wsl, opX, int, Zv.bool, intBin, reduceIte, ↓reduceIte, Nat.reduceEqDiff, Nat.reduceAdd, Nat.reduceSub, Nat.reduceLeDiff, Int.reduceLT, Int.reduceLE, Int.reduceEq, Int.reduceBEq, Int.reduceNe, Int.reduceBNe, reduceCtorEq, Nat.reduceBEq
end Zc17
