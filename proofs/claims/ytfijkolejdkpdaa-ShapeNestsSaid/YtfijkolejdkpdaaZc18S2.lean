/-
  The reference's Contents.
-/
import Derived.Test.YtfijkolejdkpdaaZc18S1
set_option linter.unusedSimpArgs false
set_option maxHeartbeats 4000000
namespace Zc18
open Go Zv Zs

theorem rcoll_ok {d : List Dt} (B : Bd d) (T : typedS d = true) : ∀ (k : Nat) (t : Int) (l : List Int) (h : Hp), isT d t = true → Inv d l → d.length + 2 ≤ k + l.length →
    callW tab 45 [.d (eDs d), .d (eI t), rV h l] (rH h l) = some (rV h (contS d k t l), rH h (contS d k t l)) := by
  intro k
  induction k with
  | zero => intro t l h _ I hk; have := I.len; omega
  | succ k ih =>
    intro t l h hT I hk
    have hll := I.len
    have hbl := B.len
    apply call_wp (fn := f45) rfl rfl
    have hhas := has_sl (row_sl h l) (by omega) t
    rw [any_mem] at hhas
    have hfl := fun hh => rflat_ok B hT hh
    by_cases hF : flatS d t = true
    · have e : contS d (k + 1) t l = l := by rw [contS, if_pos (.inl hF)]
      (simp only [e45, hfl, hF, e, ws, wsl, opX, int, Zv.bool, intBin, reduceIte, ↓reduceIte, Nat.reduceEqDiff, Nat.reduceAdd, Nat.reduceSub, Nat.reduceLeDiff, Int.reduceLT, Int.reduceLE, Int.reduceEq, Int.reduceBEq, Int.reduceNe, Int.reduceBNe, reduceCtorEq, Nat.reduceBEq] <;> repeat' (first | refine wpG_s ?_ ?_ | refine wpC_s ?_ ?_) <;> intro hgo <;> (try simp only [decide_eq_true_eq, decide_eq_false_iff_not, Bool.not_eq_true', Bool.not_eq_false'] at hgo) <;> simp only [hgo, e45, hfl, hF, e, ws, wsl, opX, int, Zv.bool, intBin, reduceIte, ↓reduceIte, Nat.reduceEqDiff, Nat.reduceAdd, Nat.reduceSub, Nat.reduceLeDiff, Int.reduceLT, Int.reduceLE, Int.reduceEq, Int.reduceBEq, Int.reduceNe, Int.reduceBNe, reduceCtorEq, Nat.reduceBEq])
    · have hF : flatS d t = false := by simpa using hF
      by_cases hm : t ∈ l
      · have e : contS d (k + 1) t l = l := by rw [contS, if_pos (.inr hm)]
        (simp only [e45, hfl, hF, hhas, hm, e, ws, wsl, opX, int, Zv.bool, intBin, reduceIte, ↓reduceIte, Nat.reduceEqDiff, Nat.reduceAdd, Nat.reduceSub, Nat.reduceLeDiff, Int.reduceLT, Int.reduceLE, Int.reduceEq, Int.reduceBEq, Int.reduceNe, Int.reduceBNe, reduceCtorEq, Nat.reduceBEq] <;> repeat' (first | refine wpG_s ?_ ?_ | refine wpC_s ?_ ?_) <;> intro hgo <;> (try simp only [decide_eq_true_eq, decide_eq_false_iff_not, Bool.not_eq_true', Bool.not_eq_false'] at hgo) <;> simp only [hgo, e45, hfl, hF, hhas, hm, e, ws, wsl, opX, int, Zv.bool, intBin, reduceIte, ↓reduceIte, Nat.reduceEqDiff, Nat.reduceAdd, Nat.reduceSub, Nat.reduceLeDiff, Int.reduceLT, Int.reduceLE, Int.reduceEq, Int.reduceBEq, Int.reduceNe, Int.reduceBNe, reduceCtorEq, Nat.reduceBEq])
      · have e : contS d (k + 1) t l = (consOf d t).foldl (fun l c => c.flds.foldl (fun l f => contS d k f l) l) (l ++ [t]) := by
          rw [contS, if_neg (by simp [hF, hm])]
        have ha := row_app h l t (by omega)
        rcases tcase d t with h0 | h0 | ⟨m, y, rfl, hy⟩
        · unfold flatS at hF; rw [hT, consOf_lo h0] at hF; simp at hF
        · unfold flatS at hF; rw [hT, consOf_hi h0] at hF; simp at hF
        · have b := B.at hy
          have hfT : ∀ c, c ∈ y.cons → ∀ f, f ∈ c.flds → isT d f = true := fun c hc f hf => fld_isT T (t := (m : Int) + 1) (by rw [consOf_at hy]; exact hc) hf
          rw [consOf_at hy] at e
          have hw := wrap_sub1 (n := m) (by omega)
          have I1 := I.add hT hm
          have inner : ∀ (n : Nat) (c : Cn) (s : List Int), y.cons[n]? = some c → Inv d s → l.length + 1 ≤ s.length →
              ex tab (.loop f45l0) [(0, .d (eDs d)), (2, rV h s), (7, .d (eCs y.cons)), (8, .d (.int .i64 n)), (9, .d (.int .i64 0))] (rH h s) =
                some (.exit 2, [(0, .d (eDs d)), (2, rV h (c.flds.foldl (fun l f => contS d k f l) s)), (7, .d (eCs y.cons)), (8, .d (.int .i64 n)), (9, .d (.int .i64 c.flds.length)), (42, .d (.bool false))], rH h (c.flds.foldl (fun l f => contS d k f l) s)) := by
            intro n c s hc Is hs
            have bc := B.cat hy hc
            have := loop_fold (T := tab) (a := f45l0) (l := c.flds) (fun j s => [(0, .d (eDs d)), (2, rV h s), (7, .d (eCs y.cons)), (8, .d (.int .i64 n)), (9, int j)]) (fun _ s => rH h s) (fun _ s => Inv d s ∧ l.length + 1 ≤ s.length)
              (fun s f => contS d k f s) (fun s => (.exit 2, [(0, .d (eDs d)), (2, rV h s), (7, .d (eCs y.cons)), (8, .d (.int .i64 n)), (9, .d (.int .i64 c.flds.length)), (42, .d (.bool false))], rH h s))
              (by
                intro j s x hx hlt ⟨Ij, hj⟩
                have hxT := hfT c (List.mem_of_getElem? hc) x (List.mem_of_getElem? hx)
                have hr := contS_inv T k x s hxT Ij
                refine ⟨?_, hr.1, by omega⟩
                apply wq_ex.1
                have hrec := ih x s h hxT Ij (by omega)
                (simp only [e45, hlt, iaC hc, iaI hx, hrec, wrap_succ (show j < 2 ^ 62 by omega), ws, wsl, opX, int, Zv.bool, intBin, reduceIte, ↓reduceIte, Nat.reduceEqDiff, Nat.reduceAdd, Nat.reduceSub, Nat.reduceLeDiff, Int.reduceLT, Int.reduceLE, Int.reduceEq, Int.reduceBEq, Int.reduceNe, Int.reduceBNe, reduceCtorEq, Nat.reduceBEq] <;> repeat' (first | refine wpG_s ?_ ?_ | refine wpC_s ?_ ?_) <;> intro hgo <;> (try simp only [decide_eq_true_eq, decide_eq_false_iff_not, Bool.not_eq_true', Bool.not_eq_false'] at hgo) <;> simp only [hgo, e45, hlt, iaC hc, iaI hx, hrec, wrap_succ (show j < 2 ^ 62 by omega), ws, wsl, opX, int, Zv.bool, intBin, reduceIte, ↓reduceIte, Nat.reduceEqDiff, Nat.reduceAdd, Nat.reduceSub, Nat.reduceLeDiff, Int.reduceLT, Int.reduceLE, Int.reduceEq, Int.reduceBEq, Int.reduceNe, Int.reduceBNe, reduceCtorEq, Nat.reduceBEq]))
              (by
                intro s _
                apply wq_ex.1
                (simp only [e45, iaC hc, ws, wsl, opX, int, Zv.bool, intBin, reduceIte, ↓reduceIte, Nat.reduceEqDiff, Nat.reduceAdd, Nat.reduceSub, Nat.reduceLeDiff, Int.reduceLT, Int.reduceLE, Int.reduceEq, Int.reduceBEq, Int.reduceNe, Int.reduceBNe, reduceCtorEq, Nat.reduceBEq] <;> repeat' (first | refine wpG_s ?_ ?_ | refine wpC_s ?_ ?_) <;> intro hgo <;> (try simp only [decide_eq_true_eq, decide_eq_false_iff_not, Bool.not_eq_true', Bool.not_eq_false'] at hgo) <;> simp only [hgo, e45, iaC hc, ws, wsl, opX, int, Zv.bool, intBin, reduceIte, ↓reduceIte, Nat.reduceEqDiff, Nat.reduceAdd, Nat.reduceSub, Nat.reduceLeDiff, Int.reduceLT, Int.reduceLE, Int.reduceEq, Int.reduceBEq, Int.reduceNe, Int.reduceBNe, reduceCtorEq, Nat.reduceBEq]))
              (by intro s; simp) s ⟨Is, hs⟩
            simp only [int, Int.cast_ofNat_Int] at this
            exact this
          have outer := loop_fold (T := tab) (a := f45l1) (l := y.cons) (fun j s => [(0, .d (eDs d)), (2, rV h s), (7, .d (eCs y.cons)), (8, int j)]) (fun _ s => rH h s) (fun _ s => Inv d s ∧ l.length + 1 ≤ s.length)
              (fun s c => c.flds.foldl (fun l f => contS d k f l) s) (fun s => (.exit 0, [(0, .d (eDs d)), (2, rV h s), (7, .d (eCs y.cons)), (8, .d (.int .i64 y.cons.length)), (32, .d (.bool false))], rH h s))
              (by
                intro j s x hx hlt ⟨Ij, hj⟩
                have hin := inner j x s hx Ij hj
                refine ⟨?_, fold_keep (P := fun s => Inv d s ∧ l.length + 1 ≤ s.length) (fun s f hf hs => ?_) ⟨Ij, hj⟩⟩
                · apply wq_ex.1
                  (simp only [e45, hlt, wq_of hin, wrap_succ (show j < 2 ^ 62 by omega), ws, wsl, opX, int, Zv.bool, intBin, reduceIte, ↓reduceIte, Nat.reduceEqDiff, Nat.reduceAdd, Nat.reduceSub, Nat.reduceLeDiff, Int.reduceLT, Int.reduceLE, Int.reduceEq, Int.reduceBEq, Int.reduceNe, Int.reduceBNe, reduceCtorEq, Nat.reduceBEq] <;> repeat' (first | refine wpG_s ?_ ?_ | refine wpC_s ?_ ?_) <;> intro hgo <;> (try simp only [decide_eq_true_eq, decide_eq_false_iff_not, Bool.not_eq_true', Bool.not_eq_false'] at hgo) <;> simp only [hgo, e45, hlt, wq_of hin, wrap_succ (show j < 2 ^ 62 by omega), ws, wsl, opX, int, Zv.bool, intBin, reduceIte, ↓reduceIte, Nat.reduceEqDiff, Nat.reduceAdd, Nat.reduceSub, Nat.reduceLeDiff, Int.reduceLT, Int.reduceLE, Int.reduceEq, Int.reduceBEq, Int.reduceNe, Int.reduceBNe, reduceCtorEq, Nat.reduceBEq])
                · have hr := contS_inv T k f s (hfT x (List.mem_of_getElem? hx) f hf) hs.1
                  exact ⟨hr.1, by omega⟩)
              (by
                intro s _
                apply wq_ex.1
                (simp only [e45, ws, wsl, opX, int, Zv.bool, intBin, reduceIte, ↓reduceIte, Nat.reduceEqDiff, Nat.reduceAdd, Nat.reduceSub, Nat.reduceLeDiff, Int.reduceLT, Int.reduceLE, Int.reduceEq, Int.reduceBEq, Int.reduceNe, Int.reduceBNe, reduceCtorEq, Nat.reduceBEq] <;> repeat' (first | refine wpG_s ?_ ?_ | refine wpC_s ?_ ?_) <;> intro hgo <;> (try simp only [decide_eq_true_eq, decide_eq_false_iff_not, Bool.not_eq_true', Bool.not_eq_false'] at hgo) <;> simp only [hgo, e45, ws, wsl, opX, int, Zv.bool, intBin, reduceIte, ↓reduceIte, Nat.reduceEqDiff, Nat.reduceAdd, Nat.reduceSub, Nat.reduceLeDiff, Int.reduceLT, Int.reduceLE, Int.reduceEq, Int.reduceBEq, Int.reduceNe, Int.reduceBNe, reduceCtorEq, Nat.reduceBEq]))
              (by intro s; simp) (l ++ [(m : Int) + 1]) ⟨I1, by simp⟩
          simp only [int, Int.cast_ofNat_Int] at outer
          (simp only [e45, hfl, hF, hhas, hm, ha, iaD hy, hw, e, wq_of outer, ws, wsl, opX, int, Zv.bool, intBin, reduceIte, ↓reduceIte, Nat.reduceEqDiff, Nat.reduceAdd, Nat.reduceSub, Nat.reduceLeDiff, Int.reduceLT, Int.reduceLE, Int.reduceEq, Int.reduceBEq, Int.reduceNe, Int.reduceBNe, reduceCtorEq, Nat.reduceBEq] <;> repeat' (first | refine wpG_s ?_ ?_ | refine wpC_s ?_ ?_) <;> intro hgo <;> (try simp only [decide_eq_true_eq, decide_eq_false_iff_not, Bool.not_eq_true', Bool.not_eq_false'] at hgo) <;> simp only [hgo, e45, hfl, hF, hhas, hm, ha, iaD hy, hw, e, wq_of outer, ws, wsl, opX, int, Zv.bool, intBin, reduceIte, ↓reduceIte, Nat.reduceEqDiff, Nat.reduceAdd, Nat.reduceSub, Nat.reduceLeDiff, Int.reduceLT, Int.reduceLE, Int.reduceEq, Int.reduceBEq, Int.reduceNe, Int.reduceBNe, reduceCtorEq, Nat.reduceBEq])

/-- What a type contains. -/
def cont (d : List Dt) (t : Int) : List Int := contS d (d.length + 2) t []
theorem Inv.nil (d : List Dt) : Inv d [] := ⟨List.nodup_nil, fun x hx => by cases hx⟩
theorem cont_inv {d : List Dt} (T : typedS d = true) {t : Int} (hT : isT d t = true) : Inv d (cont d t) := (contS_inv T _ t [] hT (Inv.nil d)).1
theorem rcont_ok {d : List Dt} (B : Bd d) (T : typedS d = true) {t : Int} (hT : isT d t = true) (h : Hp) : callW tab 26 [.d (eDs d), .d (eI t)] h = some (.d (eIs (cont d t)), h) := by
  apply call_wp (fn := f26) rfl rfl
  have hr := rcoll_ok B T (d.length + 2) t [] h hT (Inv.nil d) (by simp)
  have e : (.tl [] (some true) : V) = rV h [] := rfl
  have e' : rH h [] = h := rfl
  rw [← e, e'] at hr
  have hf := finish_row (fn := f26) (h := h) (l := (contS d (d.length + 2) t []).map eI) (es := 1) (t := 4) (e := [(4, rV h (contS d (d.length + 2) t []))]) rfl rfl rfl
  simp only [f26, fin_s, List.map_cons, List.map_nil, get_cons, if_true] at hf
  (simp only [e26, hr, hf, cont, ws, wsl, opX, int, Zv.bool, intBin, reduceIte, ↓reduceIte, Nat.reduceEqDiff, Nat.reduceAdd, Nat.reduceSub, Nat.reduceLeDiff, Int.reduceLT, Int.reduceLE, Int.reduceEq, Int.reduceBEq, Int.reduceNe, Int.reduceBNe, reduceCtorEq, Nat.reduceBEq] <;> repeat' (first | refine wpG_s ?_ ?_ | refine wpC_s ?_ ?_) <;> intro hgo <;> (try simp only [decide_eq_true_eq, decide_eq_false_iff_not, Bool.not_eq_true', Bool.not_eq_false'] at hgo) <;> simp only [hgo, e26, hr, hf, cont, ws, wsl, opX, int, Zv.bool, intBin, reduceIte, ↓reduceIte, Nat.reduceEqDiff, Nat.reduceAdd, Nat.reduceSub, Nat.reduceLeDiff, Int.reduceLT, Int.reduceLE, Int.reduceEq, Int.reduceBEq, Int.reduceNe, Int.reduceBNe, reduceCtorEq, Nat.reduceBEq])
-- ws, wsl, opX, int, Zv.bool, intBin, reduceIte, ↓reduceIte, Nat.reduceEqDiff, Nat.reduceAdd, Nat.reduceSub, Nat.reduceLeDiff, Int.reduceLT, Int.reduceLE, Int.reduceEq, Int.reduceBEq, Int.reduceNe, Int.reduceBNe, reduceCtorEq, Nat.reduceBEq
end Zc18
