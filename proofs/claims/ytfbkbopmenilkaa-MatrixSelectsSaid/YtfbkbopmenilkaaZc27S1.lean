/-
  Patterns qs data; rows of patterns are copied qs they are.
-/
import Derived.Test.YtfbkbopmenilkaaZc27R15
set_option linter.unusedSimpArgs false
set_option maxHeartbeats 4000000
namespace Zc27
open Go Zv Zs

/-- A loop that builds a row. -/
theorem loop_row {T : Tab} {a : AC} {α : Type} {l : List α} {F : α → D} {es b : Nat} {env : Nat → V → Env} {h : Hp} {o : Out} (hc : ∀ x, (F x).cells.length = es) (hb : l.length * b ≤ roomB)
    (h1 : ∀ n x (s : List D), l[n]? = some x → n < l.length → s = (l.take n).map F → app es b (rowH h es s) (rowV h es s) (.tl [.d (F x)] (some false)) = some (rowV h es (s ++ [F x]), rowH h es (s ++ [F x])) →
      ex T a (env n (rowV h es s)) (rowH h es s) = some (.norm, env (n + 1) (rowV h es (s ++ [F x])), rowH h es (s ++ [F x])))
    (h2 : ex T a (env l.length (rowV h es (l.map F))) (rowH h es (l.map F)) = some o) (ho : o.1 ≠ .norm) :
    ex T (.loop a) (env 0 (rowV h es [])) (rowH h es []) = some o := by
  have := loop_fold (T := T) (a := a) (l := l) (fun n (s : List D) => env n (rowV h es s)) (fun _ s => rowH h es s) (fun n s => s = (l.take n).map F) (fun s x => s ++ [F x]) (fun _ => o)
    (by
      intro n s x hx hlt hs
      have hlen : s.length = n := by rw [hs, List.length_map, List.length_take]; omega
      have happ := rowD_app h (es := es) (b := b) (l := s) (x := F x) (hc x) (by rw [hlen]; exact Nat.le_trans (Nat.mul_le_mul_right b hlt) hb) (fun y hy => by rw [hs] at hy; obtain ⟨z, _, rfl⟩ := List.mem_map.1 hy; exact hc z)
      refine ⟨h1 n x s hx hlt hs happ, ?_⟩
      rw [hs, List.take_add_one, hx]
      simp)
    (by
      intro s hs
      rw [List.take_length] at hs
      subst hs
      exact h2)
    (fun _ => ho)
    [] (by simp)
  exact this
theorem finS_row (h : Hp) (es : Nat) (l : List D) : finS h (rowH h es l) [rowV h es l] = some (.d (.lst l), h) := by
  have := finish_row (fn := ⟨0, [(0, none)], true, .skip⟩) (h := h) (l := l) (es := es) (t := 0) (e := [(0, rowV h es l)]) rfl rfl rfl
  exact this

/-- A pattern: kind, constructor, number, arguments. -/
inductive Pt where
  | mk (k c n : Int) (qs : List Pt)
theorem Pt.ind {P : Pt → Prop} (H : ∀ k c n qs, (∀ p, p ∈ qs → P p) → P (.mk k c n qs)) : ∀ p, P p
  | .mk k c n qs => H k c n qs (fun p hp => Pt.ind H p)
termination_by p => sizeOf p
decreasing_by
  have := List.sizeOf_lt_of_mem hp
  simp only [Pt.mk.sizeOf_spec]
  omega
mutual
def ePt : Pt → D
  | .mk k c n qs => .agg [.int .i64 k, .int .i64 c, .int .i64 n, .lst (eL qs)]
def eL : List Pt → List D
  | [] => []
  | p :: r => ePt p :: eL r
end
theorem eL_map : ∀ l : List Pt, eL l = l.map ePt
  | [] => rfl
  | p :: r => by rw [eL, eL_map r]; rfl
theorem ePt_mk (k c n : Int) (qs : List Pt) : ePt (.mk k c n qs) = .agg [.int .i64 k, .int .i64 c, .int .i64 n, .lst (qs.map ePt)] := by rw [ePt, eL_map]
theorem ePt_cells (p : Pt) : (ePt p).cells.length = 4 := by
  cases p; rfl
theorem aggP (p : Pt) : D.agg (List.take 4 (ePt p).cells) = ePt p := by
  cases p; rfl
/-- What is known of a pattern's cells. -/
theorem pts : (∀ p, (ePt p).cells.length = 4) ∧ (∀ p, D.agg (List.take 4 (ePt p).cells) = ePt p) ∧ ((4 : Nat) ≤ 4 ↔ True) := ⟨ePt_cells, aggP, by simp⟩
abbrev ePs (l : List Pt) : D := .lst (l.map ePt)
abbrev eRs (l : List (List Pt)) : D := .lst (l.map ePs)
theorem iaP {l : List Pt} {n : Nat} {x : Pt} (hx : l[n]? = some x) : ia 4 (.d (.lst (l.map ePt))) (.d (.int .i64 (n : Int))) = some (.fp (ePt x) 0) := ia_map (f := ePt) .i64 hx (ePt_cells x)
theorem iaR {l : List (List Pt)} {n : Nat} {x : List Pt} (hx : l[n]? = some x) : ia 1 (.d (.lst (l.map ePs))) (.d (.int .i64 (n : Int))) = some (.fp (ePs x) 0) := ia_map (f := ePs) .i64 hx rfl
mutual
def cntP : Pt → Nat
  | .mk _ _ _ qs => cntL qs + 1
def cntL : List Pt → Nat
  | [] => 0
  | p :: r => cntP p + cntL r
end
theorem cntP_pos (p : Pt) : 1 ≤ cntP p := by cases p; simp [cntP]
theorem cntL_len : ∀ l : List Pt, l.length ≤ cntL l
  | [] => Nat.le_refl _
  | p :: r => by have := cntL_len r; have := cntP_pos p; rw [List.length_cons, cntL]; omega
theorem cntL_mem : ∀ {l : List Pt} {p : Pt}, p ∈ l → cntP p ≤ cntL l
  | q :: r, p, h => by
    rw [cntL]
    rcases List.mem_cons.1 h with rfl | h
    · omega
    · have := cntL_mem h; omega
theorem to_ok {qs : List Pt} (hr : ∀ h, callW tab 15 [.d (ePs qs)] h = some (.d (ePs qs), h)) (k c n : Int) (h : Hp) : callW tab 45 [.d (ePt (.mk k c n qs))] h = some (.d (ePt (.mk k c n qs)), h) := by
  rw [ePt_mk]
  refine call_wp (fn := f45) rfl rfl ?_
  (simp only [e45, hr, ws, wsl, opX, int, Zv.bool, intBin, reduceIte, ↓reduceIte, Nat.reduceEqDiff, Nat.reduceAdd, Nat.reduceSub, Nat.reduceLeDiff, Int.reduceLT, Int.reduceLE, Int.reduceEq, Int.reduceBEq, Int.reduceNe, Int.reduceBNe, reduceCtorEq, Nat.reduceBEq] <;> repeat' (first | refine wpG_s ?_ ?_ | refine wpC_s ?_ ?_) <;> intro hgo <;> (try simp only [decide_eq_true_eq, decide_eq_false_iff_not, Bool.not_eq_true', Bool.not_eq_false'] at hgo) <;> simp only [hgo, e45, hr, ws, wsl, opX, int, Zv.bool, intBin, reduceIte, ↓reduceIte, Nat.reduceEqDiff, Nat.reduceAdd, Nat.reduceSub, Nat.reduceLeDiff, Int.reduceLT, Int.reduceLE, Int.reduceEq, Int.reduceBEq, Int.reduceNe, Int.reduceBNe, reduceCtorEq, Nat.reduceBEq])
theorem row_ok : ∀ (N : Nat) (l : List Pt), cntL l ≤ N → N ≤ 1000 → ∀ h, callW tab 15 [.d (ePs l)] h = some (.d (ePs l), h)
  | N, l, hl, hN, h => by
    have hlen := cntL_len l
    refine call_wp (fn := f15) rfl rfl ?_
    have hto : ∀ p, p ∈ l → ∀ h, callW tab 45 [.d (ePt p)] h = some (.d (ePt p), h) := by
      intro p hp h
      have hc := cntL_mem hp
      obtain ⟨k, c, n, qs⟩ := p
      rw [cntP] at hc
      exact to_ok (fun h => row_ok (cntL qs) qs (Nat.le_refl _) (by omega) h) k c n h
    have hloop := loop_row (T := tab) (a := f15l0) (l := l) (F := ePt) (es := 4) (b := 48) (env := fun n r => [(0, .d (ePs l)), (3, r), (4, int n)]) (h := h)
        ePt_cells (by simp only [roomB]; omega)
        (by intro n x s hx hlt hs happ; (have ht := fun h => hto x (List.mem_of_getElem? hx) h); all_goals (apply wq_ex.1; (simp only [hlt, happ, e15, iaP hx, pts, ht, wrap_succ (show n < 2 ^ 62 by omega), ws, wsl, opX, int, Zv.bool, intBin, reduceIte, ↓reduceIte, Nat.reduceEqDiff, Nat.reduceAdd, Nat.reduceSub, Nat.reduceLeDiff, Int.reduceLT, Int.reduceLE, Int.reduceEq, Int.reduceBEq, Int.reduceNe, Int.reduceBNe, reduceCtorEq, Nat.reduceBEq] <;> repeat' (first | refine wpG_s ?_ ?_ | refine wpC_s ?_ ?_) <;> intro hgo <;> (try simp only [decide_eq_true_eq, decide_eq_false_iff_not, Bool.not_eq_true', Bool.not_eq_false'] at hgo) <;> simp only [hgo, hlt, happ, e15, iaP hx, pts, ht, wrap_succ (show n < 2 ^ 62 by omega), ws, wsl, opX, int, Zv.bool, intBin, reduceIte, ↓reduceIte, Nat.reduceEqDiff, Nat.reduceAdd, Nat.reduceSub, Nat.reduceLeDiff, Int.reduceLT, Int.reduceLE, Int.reduceEq, Int.reduceBEq, Int.reduceNe, Int.reduceBNe, reduceCtorEq, Nat.reduceBEq])))
        (by apply wq_ex.1; (simp only [e15, ws, wsl, opX, int, Zv.bool, intBin, reduceIte, ↓reduceIte, Nat.reduceEqDiff, Nat.reduceAdd, Nat.reduceSub, Nat.reduceLeDiff, Int.reduceLT, Int.reduceLE, Int.reduceEq, Int.reduceBEq, Int.reduceNe, Int.reduceBNe, reduceCtorEq, Nat.reduceBEq] <;> repeat' (first | refine wpG_s ?_ ?_ | refine wpC_s ?_ ?_) <;> intro hgo <;> (try simp only [decide_eq_true_eq, decide_eq_false_iff_not, Bool.not_eq_true', Bool.not_eq_false'] at hgo) <;> simp only [hgo, e15, ws, wsl, opX, int, Zv.bool, intBin, reduceIte, ↓reduceIte, Nat.reduceEqDiff, Nat.reduceAdd, Nat.reduceSub, Nat.reduceLeDiff, Int.reduceLT, Int.reduceLE, Int.reduceEq, Int.reduceBEq, Int.reduceNe, Int.reduceBNe, reduceCtorEq, Nat.reduceBEq]) <;> rfl)
        (by simp)
    simp only [int, Zv.bool, Int.cast_ofNat_Int, List.map_nil, rowV_nil, rowH_nil] at hloop
    (simp only [e15, wq_of hloop, finS_row, ws, wsl, opX, int, Zv.bool, intBin, reduceIte, ↓reduceIte, Nat.reduceEqDiff, Nat.reduceAdd, Nat.reduceSub, Nat.reduceLeDiff, Int.reduceLT, Int.reduceLE, Int.reduceEq, Int.reduceBEq, Int.reduceNe, Int.reduceBNe, reduceCtorEq, Nat.reduceBEq] <;> repeat' (first | refine wpG_s ?_ ?_ | refine wpC_s ?_ ?_) <;> intro hgo <;> (try simp only [decide_eq_true_eq, decide_eq_false_iff_not, Bool.not_eq_true', Bool.not_eq_false'] at hgo) <;> simp only [hgo, e15, wq_of hloop, finS_row, ws, wsl, opX, int, Zv.bool, intBin, reduceIte, ↓reduceIte, Nat.reduceEqDiff, Nat.reduceAdd, Nat.reduceSub, Nat.reduceLeDiff, Int.reduceLT, Int.reduceLE, Int.reduceEq, Int.reduceBEq, Int.reduceNe, Int.reduceBNe, reduceCtorEq, Nat.reduceBEq])
termination_by _ l => cntL l
decreasing_by
  have := cntL_mem hp
  rw [cntP] at this
  omega
theorem rows_ok (l : List (List Pt)) (hl : l.length ≤ 1000) (hc : ∀ r, r ∈ l → cntL r ≤ 1000) (h : Hp) : callW tab 12 [.d (eRs l)] h = some (.d (eRs l), h) := by
  refine call_wp (fn := f12) rfl rfl ?_
  have hloop := loop_row (T := tab) (a := f12l0) (l := l) (F := ePs) (es := 1) (b := 24) (env := fun n r => [(0, .d (eRs l)), (3, r), (4, int n)]) (h := h)
      (fun _ => rfl) (by simp only [roomB]; omega)
      (by intro n x s hx hlt hs happ; (have ht := fun h => row_ok 1000 x (hc x (List.mem_of_getElem? hx)) (Nat.le_refl _) h); all_goals (apply wq_ex.1; (simp only [hlt, happ, e12, iaR hx, ht, wrap_succ (show n < 2 ^ 62 by omega), ws, wsl, opX, int, Zv.bool, intBin, reduceIte, ↓reduceIte, Nat.reduceEqDiff, Nat.reduceAdd, Nat.reduceSub, Nat.reduceLeDiff, Int.reduceLT, Int.reduceLE, Int.reduceEq, Int.reduceBEq, Int.reduceNe, Int.reduceBNe, reduceCtorEq, Nat.reduceBEq] <;> repeat' (first | refine wpG_s ?_ ?_ | refine wpC_s ?_ ?_) <;> intro hgo <;> (try simp only [decide_eq_true_eq, decide_eq_false_iff_not, Bool.not_eq_true', Bool.not_eq_false'] at hgo) <;> simp only [hgo, hlt, happ, e12, iaR hx, ht, wrap_succ (show n < 2 ^ 62 by omega), ws, wsl, opX, int, Zv.bool, intBin, reduceIte, ↓reduceIte, Nat.reduceEqDiff, Nat.reduceAdd, Nat.reduceSub, Nat.reduceLeDiff, Int.reduceLT, Int.reduceLE, Int.reduceEq, Int.reduceBEq, Int.reduceNe, Int.reduceBNe, reduceCtorEq, Nat.reduceBEq])))
      (by apply wq_ex.1; (simp only [e12, ws, wsl, opX, int, Zv.bool, intBin, reduceIte, ↓reduceIte, Nat.reduceEqDiff, Nat.reduceAdd, Nat.reduceSub, Nat.reduceLeDiff, Int.reduceLT, Int.reduceLE, Int.reduceEq, Int.reduceBEq, Int.reduceNe, Int.reduceBNe, reduceCtorEq, Nat.reduceBEq] <;> repeat' (first | refine wpG_s ?_ ?_ | refine wpC_s ?_ ?_) <;> intro hgo <;> (try simp only [decide_eq_true_eq, decide_eq_false_iff_not, Bool.not_eq_true', Bool.not_eq_false'] at hgo) <;> simp only [hgo, e12, ws, wsl, opX, int, Zv.bool, intBin, reduceIte, ↓reduceIte, Nat.reduceEqDiff, Nat.reduceAdd, Nat.reduceSub, Nat.reduceLeDiff, Int.reduceLT, Int.reduceLE, Int.reduceEq, Int.reduceBEq, Int.reduceNe, Int.reduceBNe, reduceCtorEq, Nat.reduceBEq]) <;> rfl)
      (by simp)
  simp only [int, Zv.bool, Int.cast_ofNat_Int, List.map_nil, rowV_nil, rowH_nil] at hloop
  (simp only [e12, wq_of hloop, finS_row, ws, wsl, opX, int, Zv.bool, intBin, reduceIte, ↓reduceIte, Nat.reduceEqDiff, Nat.reduceAdd, Nat.reduceSub, Nat.reduceLeDiff, Int.reduceLT, Int.reduceLE, Int.reduceEq, Int.reduceBEq, Int.reduceNe, Int.reduceBNe, reduceCtorEq, Nat.reduceBEq] <;> repeat' (first | refine wpG_s ?_ ?_ | refine wpC_s ?_ ?_) <;> intro hgo <;> (try simp only [decide_eq_true_eq, decide_eq_false_iff_not, Bool.not_eq_true', Bool.not_eq_false'] at hgo) <;> simp only [hgo, e12, wq_of hloop, finS_row, ws, wsl, opX, int, Zv.bool, intBin, reduceIte, ↓reduceIte, Nat.reduceEqDiff, Nat.reduceAdd, Nat.reduceSub, Nat.reduceLeDiff, Int.reduceLT, Int.reduceLE, Int.reduceEq, Int.reduceBEq, Int.reduceNe, Int.reduceBNe, reduceCtorEq, Nat.reduceBEq])
-- ws, wsl, opX, int, Zv.bool, intBin, reduceIte, ↓reduceIte, Nat.reduceEqDiff, Nat.reduceAdd, Nat.reduceSub, Nat.reduceLeDiff, Int.reduceLT, Int.reduceLE, Int.reduceEq, Int.reduceBEq, Int.reduceNe, Int.reduceBNe, reduceCtorEq, Nat.reduceBEq
end Zc27
