/-
  The program's Reach.
-/
import Derived.Test.YtimjofcjjgppbaaZc17R6
set_option linter.unusedSimpArgs false
set_option maxHeartbeats 4000000
namespace Zc17
open Go Zv Zs

/-- What is entered of a list. -/
def kvOf (l : List Int) : List (D × V) := l.zipIdx.map fun q => (eI q.1, .d (.int .i64 (q.2 : Int)))
theorem kvOf_add (l : List Int) (t : Int) : kvOf (l ++ [t]) = kvOf l ++ [(eI t, .d (.int .i64 (l.length : Int)))] := by
  unfold kvOf; simp [List.zipIdx_append]
theorem kv_find (t : Int) : ∀ (l : List Int) (i : Nat), ∃ r, findK .i (eI t) ((l.zipIdx i).map fun q => (eI q.1, .d (.int .i64 (q.2 : Int)))) = some r ∧ r.isSome = decide (t ∈ l)
  | [], i => ⟨none, rfl, rfl⟩
  | x :: l, i => by
    obtain ⟨r, h1, h2⟩ := kv_find t l (i + 1)
    by_cases hx : t = x
    · subst hx
      exact ⟨some (.d (.int .i64 (i : Int))), by simp [List.zipIdx_cons, findK, keyEq], by simp⟩
    · refine ⟨r, ?_, by rw [h2]; simp [hx]⟩
      rw [List.zipIdx_cons, List.map_cons]
      have : (t == x) = false := by simp [hx]
      simp only [findK, keyEq, if_true, this]
      exact h1
theorem kv_put (t : Int) (v : V) : ∀ (l : List Int) (i : Nat), t ∉ l → putK .i (eI t) v ((l.zipIdx i).map fun q => (eI q.1, .d (.int .i64 (q.2 : Int)))) = some ((l.zipIdx i).map (fun q => (eI q.1, .d (.int .i64 (q.2 : Int)))) ++ [(eI t, v)])
  | [], i, _ => rfl
  | x :: l, i, h => by
    rw [List.zipIdx_cons, List.map_cons]
    have h1 : (t == x) = false := by simp; intro e; exact h (e ▸ List.mem_cons_self)
    simp only [putK, keyEq, if_true, h1]
    rw [kv_put t v l (i + 1) (fun e => h (List.mem_cons_of_mem x e))]
    rfl

section
variable (d : List Dt) (h : Hp)
abbrev nd : Nat := h.next
abbrev caps : List V := [.ptr (h.next + 3) 1 0 0, .ptr h.next 1 0 0, .ptr (h.next + 1) 1 0 0, .ptr (h.next + 4) 1 0 0]
/-- The heap within Reach: the row of what was reached (if there is one), the closure, the map, and the variables. -/
def HG (top : List (Nat × Ob)) (kvs : List (D × V)) (out : V) (q : Nat) : Hp :=
  ⟨top ++ (h.next + 4, .arr 1 [.clo 47 (caps h)]) :: (h.next + 3, .arr 1 [.map (h.next + 2)]) :: (h.next + 2, .mp kvs) :: (h.next + 1, .arr 1 [out]) :: (h.next, .arr 1 [.d (eDs d)]) :: h.objs, q⟩
def tp (l : List Int) : List (Nat × Ob) := if l = [] then [] else [(h.next + 5, .arr 1 ((l.map eI).map .d))]
def ov (l : List Int) : V := if l = [] then .tl [] (some true) else .own (h.next + 5) 1 l.length 0 l.length
def HR (l : List Int) (q : Nat) : Hp := HG d h (tp h l) (kvOf l) (ov h l) q

theorem look_tp {l : List Int} {r : List (Nat × Ob)} {n : Nat} (hn : n ≠ h.next + 5) : look (tp h l ++ r) n = look r n := by
  unfold tp
  split
  · rfl
  · exact look_tl _ _ hn
theorem HG_met (l kvs out q) : (HG d h (tp h l) kvs out q).row (h.next + 3) 1 = some (1, [.map (h.next + 2)]) := by
  refine row_look ?_ rfl
  unfold HG
  rw [look_tp h (by omega), look_tl _ _ (by omega), look_hd]
theorem HG_vis (l kvs out q) : (HG d h (tp h l) kvs out q).row (h.next + 4) 1 = some (1, [.clo 47 (caps h)]) := by
  refine row_look ?_ rfl
  unfold HG
  rw [look_tp h (by omega), look_hd]
theorem HG_d (l kvs out q) : (HG d h (tp h l) kvs out q).row h.next 1 = some (1, [.d (eDs d)]) := by
  refine row_look ?_ rfl
  unfold HG
  rw [look_tp h (by omega), look_tl _ _ (by omega), look_tl _ _ (by omega), look_tl _ _ (by omega), look_tl _ _ (by omega), look_hd]
theorem HG_out (l kvs out q) : (HG d h (tp h l) kvs out q).row (h.next + 1) 1 = some (1, [out]) := by
  refine row_look ?_ rfl
  unfold HG
  rw [look_tp h (by omega), look_tl _ _ (by omega), look_tl _ _ (by omega), look_tl _ _ (by omega), look_hd]
theorem HG_map (l kvs out q) : (HG d h (tp h l) kvs out q).get (h.next + 2) = some (.mp kvs) := by
  unfold Hp.get HG
  rw [look_tp h (by omega), look_tl _ _ (by omega), look_tl _ _ (by omega), look_hd]
theorem upd_hd (n : Nat) (o : Ob) (r : List (Nat × Ob)) (x : Ob) : upd ((n, o) :: r) n x = (n, x) :: r := if_pos rfl
theorem upd_tl {m n : Nat} (o : Ob) (r : List (Nat × Ob)) (x : Ob) (h : n ≠ m) : upd ((m, o) :: r) n x = (m, o) :: upd r n x := if_neg h
theorem upd_tp {l : List Int} {r : List (Nat × Ob)} {n : Nat} (x : Ob) (hn : n ≠ h.next + 5) : upd (tp h l ++ r) n x = tp h l ++ upd r n x := by
  unfold tp
  split
  · rfl
  · exact upd_tl _ _ _ hn
theorem HG_mu (l out q) {t : Int} (ht : t ∉ l) : mu .i (HG d h (tp h l) (kvOf l) out q) (.map (h.next + 2)) (.d (eI t)) (.d (.int .i64 (l.length : Int))) = some (HG d h (tp h l) (kvOf (l ++ [t])) out q) := by
  unfold mu
  simp only [HG_map, stor_d, if_true, norm_d]
  rw [show putK .i (eI t) (V.d (.int .i64 (l.length : Int))) (kvOf l) = _ from kv_put t _ l 0 ht, kvOf_add]
  simp only [Option.map_some]
  congr 1
  unfold Hp.set HG
  simp only
  rw [upd_tp h _ (by omega), upd_tl _ _ _ (by omega), upd_tl _ _ _ (by omega), upd_hd]
  rfl
theorem HG_lk (l out q) (t : Int) : ∃ v, lk .i (.d (.int .i64 0)) true (HG d h (tp h l) (kvOf l) out q) (.map (h.next + 2)) (.d (eI t)) = some (.tup [v, .d (.bool (decide (t ∈ l)))]) := by
  unfold lk
  simp only [entries, HG_map, Option.bind_some]
  obtain ⟨r, h1, h2⟩ := kv_find t l 0
  unfold kvOf
  rw [h1]
  simp only [Option.map_some, if_true, h2]
  exact ⟨_, rfl⟩
theorem HG_len (l : List Int) : lenL (ov h l) = some (.d (.int .i64 l.length)) := by
  unfold ov
  split
  · rename_i h0; subst h0; rfl
  · rfl
/-- One more in the row, and the variable behind it. -/
theorem HG_app (l : List Int) (kvs : List (D × V)) (q : Nat) (t : Int) (hl : l.length < 2 ^ 20) (hq : l = [] → q = h.next + 5) :
    ∃ H, app 1 8 (HG d h (tp h l) kvs (ov h l) q) (ov h l) (.tl [.d (eI t)] (some false)) = some (ov h (l ++ [t]), H) ∧ st 1 H (.ptr (h.next + 1) 1 0 0) (ov h (l ++ [t])) = some (HG d h (tp h (l ++ [t])) kvs (ov h (l ++ [t])) (if l = [] then q + 1 else q)) := by
  have hne : l ++ [t] ≠ [] := by simp
  have hx : allV 1 [V.d (eI t)] = true := by simp [allV, V.cells, D.cells]
  have hst : ∀ (qq : Nat), st 1 (HG d h (tp h (l ++ [t])) kvs (ov h l) qq) (.ptr (h.next + 1) 1 0 0) (ov h (l ++ [t])) = some (HG d h (tp h (l ++ [t])) kvs (ov h (l ++ [t])) qq) := by
    intro qq
    unfold st
    simp only [HG_out, Option.bind_some, List.getElem?_cons_zero]
    have e1 : stor (ov h (l ++ [t])) = true := by unfold ov; rw [if_neg hne]; rfl
    have e2 : (ov h (l ++ [t])).cells.length = 1 := by unfold ov; rw [if_neg hne]; rfl
    rw [if_pos ⟨e1, e2⟩, if_pos (by simp)]
    unfold Hp.set HG
    simp only
    rw [upd_tp h _ (by omega), upd_tl _ _ _ (by omega), upd_tl _ _ _ (by omega), upd_tl _ _ _ (by omega), upd_hd]
    rfl
  by_cases h0 : l = []
  · subst h0
    have := hq rfl
    subst this
    refine ⟨HG d h (tp h ([] ++ [t])) kvs (ov h []) (h.next + 5 + 1), ?_, hst _⟩
    unfold app
    simp only [elems, Option.bind_some, List.map_cons, List.map_nil, norm_d, hx, if_true]
    simp [ov, tp, HG, Hp.alloc, allV, roomB]
  · refine ⟨HG d h (tp h (l ++ [t])) kvs (ov h l) q, ?_, by rw [if_neg h0]; exact hst _⟩
    have hr : (HG d h (tp h l) kvs (ov h l) q).row (h.next + 5) l.length = some (1, (l.map eI).map .d) := by
      refine row_look ?_ (by simp)
      unfold HG tp
      rw [if_neg h0]
      exact look_hd ..
    unfold app
    simp only [elems, Option.bind_some, List.map_cons, List.map_nil, norm_d, hx, if_true]
    have e1 : ov h l = .own (h.next + 5) 1 l.length 0 l.length := by unfold ov; rw [if_neg h0]
    have e2 : ov h (l ++ [t]) = .own (h.next + 5) 1 (l.length + 1) 0 (l.length + 1) := by unfold ov; rw [if_neg hne]; simp
    rw [e2]
    conv => lhs; rw [show ov h l = V.own (h.next + 5) 1 l.length 0 l.length from e1]
    rw [e1] at hr
    simp only [hr, Option.bind_some, List.length_map, Nat.zero_add, Nat.le_refl, and_self, if_true, List.isEmpty_cons, Bool.false_eq_true, if_false, List.length_cons, List.length_nil]
    rw [if_neg (by omega), if_pos (by unfold roomB; omega), List.take_of_length_le (by simp)]
    congr 2
    unfold Hp.set HG tp
    simp only [if_neg h0, if_neg hne]
    show Hp.mk (upd ((h.next + 5, _) :: _) (h.next + 5) _) q = _
    rw [upd_hd]
    simp
    exact e1.symm
end

theorem HG_next (top kvs out q) (d : List Dt) (h : Hp) : (HG d h top kvs out q).next = q := rfl
theorem HG_up (top kvs out q) (d : List Dt) (h : Hp) : (⟨(HG d h top kvs out q).objs, q + 1⟩ : Hp) = HG d h top kvs out (q + 1) := rfl

/-- What a visit does, within k steps of depth. -/
def Visits (d : List Dt) (h : Hp) (k : Nat) : Prop := ∀ (t : Int) (l : List Int) (q : Nat), (l = [] → q = h.next + 5) → (l ≠ [] → h.next + 5 < q) → Inv d l → d.length + 2 ≤ k + l.length →
  ∃ q', (reachS d k t l ≠ [] → h.next + 5 < q') ∧ callW tab 47 [.d (eI t), .ptr (h.next + 3) 1 0 0, .ptr h.next 1 0 0, .ptr (h.next + 1) 1 0 0, .ptr (h.next + 4) 1 0 0] (HR d h l q) = some (.tup [], HR d h (reachS d k t l) q')

theorem visit_fields {d : List Dt} {h : Hp} {k : Nat} (V : Visits d h k) (cs : List Cn) (n : Nat) (fs : List Int) (hfs : fs.length < 2 ^ 60) (l : List Int) (hl : l ≠ []) (q : Nat) (hq : h.next + 5 < q) (I : Inv d l) (hk : d.length + 2 ≤ k + l.length) :
    wp tab (.loop f47l0) [(4, .ptr (h.next + 4) 1 0 0), (35, .d (eCs cs)), (36, .d (.int .i64 cs.length)), (37, .d (.int .i64 n)), (42, .d (eIs fs)), (43, .d (.int .i64 fs.length)), (44, .d (.int .i64 0))] (HR d h l q)
      (fun o => ∃ q', h.next + 5 < q' ∧ o = (.exit 2, [(4, .ptr (h.next + 4) 1 0 0), (35, .d (eCs cs)), (36, .d (.int .i64 cs.length)), (37, .d (.int .i64 n)), (42, .d (eIs fs)), (43, .d (.int .i64 fs.length)), (44, .d (.int .i64 fs.length)), (45, .d (.bool false))], HR d h (fs.foldl (fun l f => reachS d k f l) l) q')) := by
  refine loop_wp fs.length (fun j e h' => ∃ q', h.next + 5 < q' ∧ (Inv d (foldT (fun l f => reachS d k f l) l fs j) ∧ l.length ≤ (foldT (fun l f => reachS d k f l) l fs j).length) ∧ h' = HR d h (foldT (fun l f => reachS d k f l) l fs j) q' ∧
    e = [(4, .ptr (h.next + 4) 1 0 0), (35, .d (eCs cs)), (36, .d (.int .i64 cs.length)), (37, .d (.int .i64 n)), (42, .d (eIs fs)), (43, .d (.int .i64 fs.length)), (44, .d (.int .i64 j))]) _ ?_ ?_ fs.length 0 _ _ (by omega) ⟨q, hq, ⟨I, Nat.le_refl _⟩, rfl, rfl⟩
  · rintro j e h' hj ⟨q1, hq1, ⟨I1, hl1⟩, rfl, rfl⟩
    obtain ⟨f, hf⟩ := get_of_lt hj
    have hne : 0 < l.length := by cases l; exact absurd rfl hl; simp
    have hne1 : foldT (fun l f => reachS d k f l) l fs j ≠ [] := fun h0 => by rw [h0] at hl1; simp at hl1; exact absurd hl1 hl
    obtain ⟨q2, h2, hcall⟩ := V f _ q1 (fun h0 => absurd h0 hne1) (fun _ => hq1) I1 (by omega)
    have hr := reachS_inv d k f _ I1
    have hv : ∀ l q, Hp.row (HR d h l q) (h.next + 4) 1 = some (1, [.clo 47 (caps h)]) := fun l q => HG_vis ..
    have hw := wrap_succ (show j < 2 ^ 62 by omega)
    (simp only [e47, hj, iaI hf, hv, caps, hcall, hw, ws, wsl, opX, int, Zv.bool, intBin, reduceIte, ↓reduceIte, Nat.reduceEqDiff, Nat.reduceAdd, Nat.reduceSub, Nat.reduceLeDiff, Int.reduceLT, Int.reduceLE, Int.reduceEq, Int.reduceBEq, Int.reduceNe, Int.reduceBNe, reduceCtorEq, Nat.reduceBEq] <;> repeat' (first | refine wpG_s ?_ ?_ | refine wpC_s ?_ ?_) <;> intro hgo <;> (try simp only [decide_eq_true_eq, decide_eq_false_iff_not, Bool.not_eq_true', Bool.not_eq_false'] at hgo) <;> simp only [hgo, e47, hj, iaI hf, hv, caps, hcall, hw, ws, wsl, opX, int, Zv.bool, intBin, reduceIte, ↓reduceIte, Nat.reduceEqDiff, Nat.reduceAdd, Nat.reduceSub, Nat.reduceLeDiff, Int.reduceLT, Int.reduceLE, Int.reduceEq, Int.reduceBEq, Int.reduceNe, Int.reduceBNe, reduceCtorEq, Nat.reduceBEq])
    refine ⟨q2, h2 (fun h0 => by rw [h0] at hr; simp at hr; exact hne1 hr.2), ?_, ?_⟩
    · rw [foldT_succ hf]; exact ⟨hr.1, by omega⟩
    · rw [foldT_succ hf]
  · rintro e h' ⟨q1, hq1, ⟨I1, hl1⟩, rfl, rfl⟩
    (simp only [e47, foldT_all, ws, wsl, opX, int, Zv.bool, intBin, reduceIte, ↓reduceIte, Nat.reduceEqDiff, Nat.reduceAdd, Nat.reduceSub, Nat.reduceLeDiff, Int.reduceLT, Int.reduceLE, Int.reduceEq, Int.reduceBEq, Int.reduceNe, Int.reduceBNe, reduceCtorEq, Nat.reduceBEq] <;> repeat' (first | refine wpG_s ?_ ?_ | refine wpC_s ?_ ?_) <;> intro hgo <;> (try simp only [decide_eq_true_eq, decide_eq_false_iff_not, Bool.not_eq_true', Bool.not_eq_false'] at hgo) <;> simp only [hgo, e47, foldT_all, ws, wsl, opX, int, Zv.bool, intBin, reduceIte, ↓reduceIte, Nat.reduceEqDiff, Nat.reduceAdd, Nat.reduceSub, Nat.reduceLeDiff, Int.reduceLT, Int.reduceLE, Int.reduceEq, Int.reduceBEq, Int.reduceNe, Int.reduceBNe, reduceCtorEq, Nat.reduceBEq])
    exact ⟨q1, hq1, rfl⟩

theorem visit_cons {d : List Dt} {h : Hp} {k : Nat} (V : Visits d h k) (cs : List Cn) (hcs : cs.length < 2 ^ 60) (hfs : ∀ c, c ∈ cs → c.flds.length < 2 ^ 60) (l : List Int) (hl : l ≠ []) (q : Nat) (hq : h.next + 5 < q) (I : Inv d l) (hk : d.length + 2 ≤ k + l.length) :
    wp tab (.loop f47l1) [(4, .ptr (h.next + 4) 1 0 0), (35, .d (eCs cs)), (36, .d (.int .i64 cs.length)), (37, .d (.int .i64 0))] (HR d h l q)
      (fun o => ∃ q', h.next + 5 < q' ∧ o = (.exit 0, [(4, .ptr (h.next + 4) 1 0 0), (35, .d (eCs cs)), (36, .d (.int .i64 cs.length)), (37, .d (.int .i64 cs.length)), (38, .d (.bool false))], HR d h (cs.foldl (fun l c => c.flds.foldl (fun l f => reachS d k f l) l) l) q')) := by
  have hne : 0 < l.length := by cases l; exact absurd rfl hl; simp
  refine loop_wp cs.length (fun j e h' => ∃ q', h.next + 5 < q' ∧ (Inv d (foldT (fun l c => c.flds.foldl (fun l f => reachS d k f l) l) l cs j) ∧ l.length ≤ (foldT (fun l c => c.flds.foldl (fun l f => reachS d k f l) l) l cs j).length) ∧ h' = HR d h (foldT (fun l c => c.flds.foldl (fun l f => reachS d k f l) l) l cs j) q' ∧
    e = [(4, .ptr (h.next + 4) 1 0 0), (35, .d (eCs cs)), (36, .d (.int .i64 cs.length)), (37, .d (.int .i64 j))]) _ ?_ ?_ cs.length 0 _ _ (by omega) ⟨q, hq, ⟨I, Nat.le_refl _⟩, rfl, rfl⟩
  · rintro j e h' hj ⟨q1, hq1, ⟨I1, hl1⟩, rfl, rfl⟩
    obtain ⟨c, hc⟩ := get_of_lt hj
    have hw := wrap_succ (show j < 2 ^ 62 by omega)
    have hn : ∀ l q, (HR d h l q).next = q := fun _ _ => rfl
    have hu : ∀ l q, (⟨(HR d h l q).objs, q + 1⟩ : Hp) = HR d h l (q + 1) := fun _ _ => rfl
    (simp only [e47, hj, iaC hc, hn, hu, hw, ws, wsl, opX, int, Zv.bool, intBin, reduceIte, ↓reduceIte, Nat.reduceEqDiff, Nat.reduceAdd, Nat.reduceSub, Nat.reduceLeDiff, Int.reduceLT, Int.reduceLE, Int.reduceEq, Int.reduceBEq, Int.reduceNe, Int.reduceBNe, reduceCtorEq, Nat.reduceBEq] <;> repeat' (first | refine wpG_s ?_ ?_ | refine wpC_s ?_ ?_) <;> intro hgo <;> (try simp only [decide_eq_true_eq, decide_eq_false_iff_not, Bool.not_eq_true', Bool.not_eq_false'] at hgo) <;> simp only [hgo, e47, hj, iaC hc, hn, hu, hw, ws, wsl, opX, int, Zv.bool, intBin, reduceIte, ↓reduceIte, Nat.reduceEqDiff, Nat.reduceAdd, Nat.reduceSub, Nat.reduceLeDiff, Int.reduceLT, Int.reduceLE, Int.reduceEq, Int.reduceBEq, Int.reduceNe, Int.reduceBNe, reduceCtorEq, Nat.reduceBEq])
    have hlf := hfs c (List.mem_of_getElem? hc)
    refine wq_mono (visit_fields V cs j c.flds hlf _ (fun h0 => by rw [h0] at hl1; simp at hl1; exact absurd hl1 hl) (q1 + 1) (by omega) I1 (by omega)) ?_
    rintro o ⟨q2, hq2, rfl⟩
    (simp only [e47, hw, ws, wsl, opX, int, Zv.bool, intBin, reduceIte, ↓reduceIte, Nat.reduceEqDiff, Nat.reduceAdd, Nat.reduceSub, Nat.reduceLeDiff, Int.reduceLT, Int.reduceLE, Int.reduceEq, Int.reduceBEq, Int.reduceNe, Int.reduceBNe, reduceCtorEq, Nat.reduceBEq] <;> repeat' (first | refine wpG_s ?_ ?_ | refine wpC_s ?_ ?_) <;> intro hgo <;> (try simp only [decide_eq_true_eq, decide_eq_false_iff_not, Bool.not_eq_true', Bool.not_eq_false'] at hgo) <;> simp only [hgo, e47, hw, ws, wsl, opX, int, Zv.bool, intBin, reduceIte, ↓reduceIte, Nat.reduceEqDiff, Nat.reduceAdd, Nat.reduceSub, Nat.reduceLeDiff, Int.reduceLT, Int.reduceLE, Int.reduceEq, Int.reduceBEq, Int.reduceNe, Int.reduceBNe, reduceCtorEq, Nat.reduceBEq])
    refine ⟨q2, hq2, ?_, ?_⟩
    · rw [foldT_succ hc]
      refine fold_keep (P := fun s => Inv d s ∧ l.length ≤ s.length) (fun s f _ hs => ?_) ⟨I1, hl1⟩
      have hr := reachS_inv d k f s hs.1
      exact ⟨hr.1, by omega⟩
    · rw [foldT_succ hc]
  · rintro e h' ⟨q1, hq1, ⟨I1, hl1⟩, rfl, rfl⟩
    (simp only [e47, foldT_all, ws, wsl, opX, int, Zv.bool, intBin, reduceIte, ↓reduceIte, Nat.reduceEqDiff, Nat.reduceAdd, Nat.reduceSub, Nat.reduceLeDiff, Int.reduceLT, Int.reduceLE, Int.reduceEq, Int.reduceBEq, Int.reduceNe, Int.reduceBNe, reduceCtorEq, Nat.reduceBEq] <;> repeat' (first | refine wpG_s ?_ ?_ | refine wpC_s ?_ ?_) <;> intro hgo <;> (try simp only [decide_eq_true_eq, decide_eq_false_iff_not, Bool.not_eq_true', Bool.not_eq_false'] at hgo) <;> simp only [hgo, e47, foldT_all, ws, wsl, opX, int, Zv.bool, intBin, reduceIte, ↓reduceIte, Nat.reduceEqDiff, Nat.reduceAdd, Nat.reduceSub, Nat.reduceLeDiff, Int.reduceLT, Int.reduceLE, Int.reduceEq, Int.reduceBEq, Int.reduceNe, Int.reduceBNe, reduceCtorEq, Nat.reduceBEq])
    exact ⟨q1, hq1, rfl⟩

theorem visits {d : List Dt} (B : Bd d) (h : Hp) : ∀ k, Visits d h k := by
  intro k
  induction k with
  | zero => intro t l q _ _ I hk; have := I.len; omega
  | succ k ih =>
    intro t l q hq0 hq I hk
    have hll := I.len
    have hbl := B.len
    obtain ⟨v, hlk⟩ := HG_lk d h l (ov h l) q t
    have r1 := HG_met d h l (kvOf l) (ov h l) q
    have r2 := HG_d d h l (kvOf l) (ov h l) q
    by_cases hm : t ∈ l
    · have e : reachS d (k + 1) t l = l := by rw [reachS, if_pos (.inr hm)]
      rw [e]
      refine ⟨q, hq, ?_⟩
      · apply call_wp (fn := f47) rfl rfl
        simp only [HR]
        (simp only [e47, r1, hlk, hm, ws, wsl, opX, int, Zv.bool, intBin, reduceIte, ↓reduceIte, Nat.reduceEqDiff, Nat.reduceAdd, Nat.reduceSub, Nat.reduceLeDiff, Int.reduceLT, Int.reduceLE, Int.reduceEq, Int.reduceBEq, Int.reduceNe, Int.reduceBNe, reduceCtorEq, Nat.reduceBEq] <;> repeat' (first | refine wpG_s ?_ ?_ | refine wpC_s ?_ ?_) <;> intro hgo <;> (try simp only [decide_eq_true_eq, decide_eq_false_iff_not, Bool.not_eq_true', Bool.not_eq_false'] at hgo) <;> simp only [hgo, e47, r1, hlk, hm, ws, wsl, opX, int, Zv.bool, intBin, reduceIte, ↓reduceIte, Nat.reduceEqDiff, Nat.reduceAdd, Nat.reduceSub, Nat.reduceLeDiff, Int.reduceLT, Int.reduceLE, Int.reduceEq, Int.reduceBEq, Int.reduceNe, Int.reduceBNe, reduceCtorEq, Nat.reduceBEq])
    · by_cases hT : isT d t = false
      · have e : reachS d (k + 1) t l = l := by rw [reachS, if_pos (.inl hT)]
        rw [e]
        refine ⟨q, hq, ?_⟩
        · apply call_wp (fn := f47) rfl rfl
          simp only [HR]
          (simp only [e47, r1, r2, hlk, hm, exists_ok, hT, ws, wsl, opX, int, Zv.bool, intBin, reduceIte, ↓reduceIte, Nat.reduceEqDiff, Nat.reduceAdd, Nat.reduceSub, Nat.reduceLeDiff, Int.reduceLT, Int.reduceLE, Int.reduceEq, Int.reduceBEq, Int.reduceNe, Int.reduceBNe, reduceCtorEq, Nat.reduceBEq] <;> repeat' (first | refine wpG_s ?_ ?_ | refine wpC_s ?_ ?_) <;> intro hgo <;> (try simp only [decide_eq_true_eq, decide_eq_false_iff_not, Bool.not_eq_true', Bool.not_eq_false'] at hgo) <;> simp only [hgo, e47, r1, r2, hlk, hm, exists_ok, hT, ws, wsl, opX, int, Zv.bool, intBin, reduceIte, ↓reduceIte, Nat.reduceEqDiff, Nat.reduceAdd, Nat.reduceSub, Nat.reduceLeDiff, Int.reduceLT, Int.reduceLE, Int.reduceEq, Int.reduceBEq, Int.reduceNe, Int.reduceBNe, reduceCtorEq, Nat.reduceBEq])
      · have hT : isT d t = true := by simpa using hT
        have e : reachS d (k + 1) t l = (consOf d t).foldl (fun l c => c.flds.foldl (fun l f => reachS d k f l) l) (l ++ [t]) := by
          rw [reachS, if_neg (by simp [hT, hm])]
        obtain ⟨H, ha, hs⟩ := HG_app d h l (kvOf (l ++ [t])) q t (by omega) hq0
        have hmu := HG_mu d h l (ov h l) q hm
        have r3 := HG_out d h l (kvOf l) (ov h l) q
        have r4 := HG_out d h l (kvOf (l ++ [t])) (ov h l) q
        have r5 : ∀ q, (HR d h (l ++ [t]) q).row h.next 1 = some (1, [.d (eDs d)]) := fun q => HG_d d h (l ++ [t]) (kvOf (l ++ [t])) (ov h (l ++ [t])) q
        have hHR : ∀ q, HG d h (tp h (l ++ [t])) (kvOf (l ++ [t])) (ov h (l ++ [t])) q = HR d h (l ++ [t]) q := fun _ => rfl
        rw [hHR] at hs
        have hq2 : h.next + 5 < (if l = [] then q + 1 else q) := by
          by_cases h0 : l = []
          · rw [if_pos h0, hq0 h0]; omega
          · rw [if_neg h0]; exact hq h0
        generalize (if l = [] then q + 1 else q) = q2 at hs hq2
        have hcs := consOf_len B t
        have hcf : ∀ c, c ∈ consOf d t → c.flds.length < 2 ^ 60 := by
          rcases tcase d t with h0 | h0 | ⟨m, y, rfl, hy⟩
          · rw [consOf_lo h0]; intro c hc; cases hc
          · rw [consOf_hi h0]; intro c hc; cases hc
          · rw [consOf_at hy]; intro c hc
            have := B.flds y (List.mem_of_getElem? hy) c hc
            omega
        have loops := visit_cons ih (consOf d t) (by omega) hcf (l ++ [t]) (by simp) q2 hq2 (I.add hT hm) (by simp; omega)
        obtain ⟨o, ho, q3, hq3, rfl⟩ := loops
        refine ⟨q3, fun _ => hq3, ?_⟩
        apply call_wp (fn := f47) rfl rfl
        have hcons := fun hh => cons_ok d t hh (by omega)
        have hln := HG_len h l
        rw [e]
        have hR0 : HR d h l q = HG d h (tp h l) (kvOf l) (ov h l) q := rfl
        rw [hR0]
        have hov : ∀ l, V.cells (ov h l) = [ov h l] := fun l => by unfold ov; split <;> rfl
        (simp only [e47, r1, r2, r3, r4, r5, hlk, hm, exists_ok, hT, hln, hmu, ha, hs, hcons, hov, wq_of ho, ws, wsl, opX, int, Zv.bool, intBin, reduceIte, ↓reduceIte, Nat.reduceEqDiff, Nat.reduceAdd, Nat.reduceSub, Nat.reduceLeDiff, Int.reduceLT, Int.reduceLE, Int.reduceEq, Int.reduceBEq, Int.reduceNe, Int.reduceBNe, reduceCtorEq, Nat.reduceBEq] <;> repeat' (first | refine wpG_s ?_ ?_ | refine wpC_s ?_ ?_) <;> intro hgo <;> (try simp only [decide_eq_true_eq, decide_eq_false_iff_not, Bool.not_eq_true', Bool.not_eq_false'] at hgo) <;> simp only [hgo, e47, r1, r2, r3, r4, r5, hlk, hm, exists_ok, hT, hln, hmu, ha, hs, hcons, hov, wq_of ho, ws, wsl, opX, int, Zv.bool, intBin, reduceIte, ↓reduceIte, Nat.reduceEqDiff, Nat.reduceAdd, Nat.reduceSub, Nat.reduceLeDiff, Int.reduceLT, Int.reduceLE, Int.reduceEq, Int.reduceBEq, Int.reduceNe, Int.reduceBNe, reduceCtorEq, Nat.reduceBEq])

theorem HR_fin (d : List Dt) (h : Hp) (l : List Int) (q : Nat) : finS h (HR d h l q) [ov h l] = some (.d (eIs l), h) := by
  unfold finS
  have h1 : sufOk h.objs (HR d h l q).objs = true := by
    unfold HR HG tp
    split
    · exact suf_app [_, _, _, _, _] _
    · exact suf_app [_, _, _, _, _, _] _
  rw [if_pos h1]
  have h2 : back1 (HR d h l q) h.next (ov h l) = some (.d (eIs l)) := by
    by_cases h0 : l = []
    · subst h0; rfl
    · have hr : (HR d h l q).row (h.next + 5) l.length = some (1, (l.map eI).map .d) := by
        refine row_look ?_ (by simp)
        unfold HR HG tp
        rw [if_neg h0]
        exact look_hd ..
      unfold back1 ov
      rw [if_neg h0]
      have : deep (HR d h l q) h.next 8 (.own (h.next + 5) 1 l.length 0 l.length) = some (.lst (l.map eI)) := by
        unfold deep
        simp only [hr, Option.bind_some, List.length_map, Nat.zero_add, Nat.le_refl, if_true, List.drop_zero]
        rw [if_pos (by omega), List.take_of_length_le (by simp), deep_ds]
        rfl
      rw [this]
  simp only [List.mapM_cons, List.mapM_nil, h2]
  rfl

theorem PReach_ok {d : List Dt} (B : Bd d) (t : Int) (h : Hp) : callW tab 19 [.d (eDs d), .d (eI t)] h = some (.d (eIs (reach d t)), h) := by
  obtain ⟨q, _, hv⟩ := visits B h (d.length + 2) t [] (h.next + 5) (fun _ => rfl) (fun h => absurd rfl h) (Inv.nil d) (by simp)
  apply call_wp (fn := f19) rfl rfl
  have hv' : callW tab 47 [.d (eI t), .ptr (h.next + 1 + 1 + 1) 1 0 0, .ptr h.next 1 0 0, .ptr (h.next + 1) 1 0 0, .ptr (h.next + 1 + 1 + 1 + 1) 1 0 0]
      ⟨(h.next + 1 + 1 + 1 + 1, .arr 1 [.clo 47 [.ptr (h.next + 1 + 1 + 1) 1 0 0, .ptr h.next 1 0 0, .ptr (h.next + 1) 1 0 0, .ptr (h.next + 1 + 1 + 1 + 1) 1 0 0]]) :: (h.next + 1 + 1 + 1, .arr 1 [.map (h.next + 1 + 1)]) :: (h.next + 1 + 1, .mp []) :: (h.next + 1, .arr 1 [.tl [] (some true)]) :: (h.next, .arr 1 [.d (eDs d)]) :: h.objs, h.next + 1 + 1 + 1 + 1 + 1⟩ = some (.tup [], HR d h (reach d t) q) := hv
  have r3 : (HR d h (reach d t) q).row (h.next + 1) 1 = some (1, [ov h (reach d t)]) := HG_out ..
  have hov : ∀ l, V.cells (ov h l) = [ov h l] := fun l => by unfold ov; split <;> rfl
  (simp only [e19, hv', r3, hov, HR_fin, ws, wsl, opX, int, Zv.bool, intBin, reduceIte, ↓reduceIte, Nat.reduceEqDiff, Nat.reduceAdd, Nat.reduceSub, Nat.reduceLeDiff, Int.reduceLT, Int.reduceLE, Int.reduceEq, Int.reduceBEq, Int.reduceNe, Int.reduceBNe, reduceCtorEq, Nat.reduceBEq] <;> repeat' (first | refine wpG_s ?_ ?_ | refine wpC_s ?_ ?_) <;> intro hgo <;> (try simp only [decide_eq_true_eq, decide_eq_false_iff_not, Bool.not_eq_true', Bool.not_eq_false'] at hgo) <;> simp only [hgo, e19, hv', r3, hov, HR_fin, ws, wsl, opX, int, Zv.bool, intBin, reduceIte, ↓reduceIte, Nat.reduceEqDiff, Nat.reduceAdd, Nat.reduceSub, Nat.reduceLeDiff, Int.reduceLT, Int.reduceLE, Int.reduceEq, Int.reduceBEq, Int.reduceNe, Int.reduceBNe, reduceCtorEq, Nat.reduceBEq])

theorem PRecursive_ok {d : List Dt} (B : Bd d) (t : Int) (h : Hp) : callW tab 21 [.d (eDs d), .d (eI t)] h = some (.d (.bool (recS d t)), h) := by
  apply call_wp (fn := f21) rfl rfl
  have hbl := B.len
  have hcs := consOf_len B t
  have hcons := fun hh => cons_ok d t hh (by omega)
  have hcf : ∀ c, c ∈ consOf d t → c.flds.length < 2 ^ 60 := by
    rcases tcase d t with h0 | h0 | ⟨m, y, rfl, hy⟩
    · rw [consOf_lo h0]; intro c hc; cases hc
    · rw [consOf_hi h0]; intro c hc; cases hc
    · rw [consOf_at hy]; intro c hc
      have := B.flds y (List.mem_of_getElem? hy) c hc
      omega
  unfold recS
  generalize consOf d t = cs at hcs hcons hcf
  have inner : ∀ (q k : Nat) (c : Cn), cs[k]? = some c → ex tab (.loop f21l0) [(0, .d (eDs d)), (1, .d (eI t)), (11, .d (eCs cs)), (12, .d (.int .i64 cs.length)), (13, .d (.int .i64 k)), (18, .d (eIs c.flds)), (19, .d (.int .i64 c.flds.length)), (20, .d (.int .i64 0))] ⟨h.objs, q⟩ =
      some (if (c.flds.any fun f => decide (t ∈ reach d f)) = true then (.ret, [(4, .d (.bool true))], ⟨h.objs, q⟩) else (.exit 2, [(0, .d (eDs d)), (1, .d (eI t)), (11, .d (eCs cs)), (12, .d (.int .i64 cs.length)), (13, .d (.int .i64 k)), (18, .d (eIs c.flds)), (19, .d (.int .i64 c.flds.length)), (20, .d (.int .i64 c.flds.length)), (21, .d (.bool false))], ⟨h.objs, q⟩)) := by
    intro q k c hc
    have bc := hcf c (List.mem_of_getElem? hc)
    have hloop := loop_any (T := tab) (a := f21l0) (l := c.flds) (p := (fun f => decide (t ∈ reach d f))) (f := fun n => [(0, .d (eDs d)), (1, .d (eI t)), (11, .d (eCs cs)), (12, .d (.int .i64 cs.length)), (13, .d (.int .i64 k)), (18, .d (eIs c.flds)), (19, .d (.int .i64 c.flds.length)), (20, int n)]) (h := ⟨h.objs, q⟩)
        (by intro n x hx hlt hp; have hh := contains49 (Sl.data ⟨h.objs, q⟩ (reach d x)) rfl (by have := (reach_inv d x).len; omega) t; rw [any_mem'] at hh; simp only [decide_eq_true_eq, decide_eq_false_iff_not] at hp; all_goals (apply wq_ex.1; (simp only [hlt, hp, e21, iaI hx, PReach_ok B, hh, wrap_succ (show n < 2 ^ 62 by omega), ws, wsl, opX, int, Zv.bool, intBin, reduceIte, ↓reduceIte, Nat.reduceEqDiff, Nat.reduceAdd, Nat.reduceSub, Nat.reduceLeDiff, Int.reduceLT, Int.reduceLE, Int.reduceEq, Int.reduceBEq, Int.reduceNe, Int.reduceBNe, reduceCtorEq, Nat.reduceBEq] <;> repeat' (first | refine wpG_s ?_ ?_ | refine wpC_s ?_ ?_) <;> intro hgo <;> (try simp only [decide_eq_true_eq, decide_eq_false_iff_not, Bool.not_eq_true', Bool.not_eq_false'] at hgo) <;> simp only [hgo, hlt, hp, e21, iaI hx, PReach_ok B, hh, wrap_succ (show n < 2 ^ 62 by omega), ws, wsl, opX, int, Zv.bool, intBin, reduceIte, ↓reduceIte, Nat.reduceEqDiff, Nat.reduceAdd, Nat.reduceSub, Nat.reduceLeDiff, Int.reduceLT, Int.reduceLE, Int.reduceEq, Int.reduceBEq, Int.reduceNe, Int.reduceBNe, reduceCtorEq, Nat.reduceBEq])))
        (by intro n x hx hlt hp; have hh := contains49 (Sl.data ⟨h.objs, q⟩ (reach d x)) rfl (by have := (reach_inv d x).len; omega) t; rw [any_mem'] at hh; simp only [decide_eq_true_eq, decide_eq_false_iff_not] at hp; all_goals (apply wq_ex.1; (simp only [hlt, hp, e21, iaI hx, PReach_ok B, hh, wrap_succ (show n < 2 ^ 62 by omega), ws, wsl, opX, int, Zv.bool, intBin, reduceIte, ↓reduceIte, Nat.reduceEqDiff, Nat.reduceAdd, Nat.reduceSub, Nat.reduceLeDiff, Int.reduceLT, Int.reduceLE, Int.reduceEq, Int.reduceBEq, Int.reduceNe, Int.reduceBNe, reduceCtorEq, Nat.reduceBEq] <;> repeat' (first | refine wpG_s ?_ ?_ | refine wpC_s ?_ ?_) <;> intro hgo <;> (try simp only [decide_eq_true_eq, decide_eq_false_iff_not, Bool.not_eq_true', Bool.not_eq_false'] at hgo) <;> simp only [hgo, hlt, hp, e21, iaI hx, PReach_ok B, hh, wrap_succ (show n < 2 ^ 62 by omega), ws, wsl, opX, int, Zv.bool, intBin, reduceIte, ↓reduceIte, Nat.reduceEqDiff, Nat.reduceAdd, Nat.reduceSub, Nat.reduceLeDiff, Int.reduceLT, Int.reduceLE, Int.reduceEq, Int.reduceBEq, Int.reduceNe, Int.reduceBNe, reduceCtorEq, Nat.reduceBEq]) <;> rfl))
        (by apply wq_ex.1; (simp only [e21, ws, wsl, opX, int, Zv.bool, intBin, reduceIte, ↓reduceIte, Nat.reduceEqDiff, Nat.reduceAdd, Nat.reduceSub, Nat.reduceLeDiff, Int.reduceLT, Int.reduceLE, Int.reduceEq, Int.reduceBEq, Int.reduceNe, Int.reduceBNe, reduceCtorEq, Nat.reduceBEq] <;> repeat' (first | refine wpG_s ?_ ?_ | refine wpC_s ?_ ?_) <;> intro hgo <;> (try simp only [decide_eq_true_eq, decide_eq_false_iff_not, Bool.not_eq_true', Bool.not_eq_false'] at hgo) <;> simp only [hgo, e21, ws, wsl, opX, int, Zv.bool, intBin, reduceIte, ↓reduceIte, Nat.reduceEqDiff, Nat.reduceAdd, Nat.reduceSub, Nat.reduceLeDiff, Int.reduceLT, Int.reduceLE, Int.reduceEq, Int.reduceBEq, Int.reduceNe, Int.reduceBNe, reduceCtorEq, Nat.reduceBEq]) <;> rfl)
        (by simp) (by simp)
    simp only [int, Zv.bool, Int.cast_ofNat_Int] at hloop
    exact hloop
  obtain ⟨o, ho, hQ⟩ : wp tab (.loop f21l1) [(0, .d (eDs d)), (1, .d (eI t)), (11, .d (eCs cs)), (12, .d (.int .i64 cs.length)), (13, .d (.int .i64 0))] h
      (fun o => ∃ q, o = (if (cs.any fun c => c.flds.any fun f => decide (t ∈ reach d f)) = true then (.ret, [(4, .d (.bool true))], ⟨h.objs, q⟩) else (.exit 0, [(0, .d (eDs d)), (1, .d (eI t)), (11, .d (eCs cs)), (12, .d (.int .i64 cs.length)), (13, .d (.int .i64 cs.length)), (14, .d (.bool false))], ⟨h.objs, q⟩))) := by
    refine loop_wp cs.length (fun j e h' => (∃ q, h' = ⟨h.objs, q⟩) ∧ e = [(0, .d (eDs d)), (1, .d (eI t)), (11, .d (eCs cs)), (12, .d (.int .i64 cs.length)), (13, .d (.int .i64 j))] ∧ ∀ i c, i < j → cs[i]? = some c → (c.flds.any fun f => decide (t ∈ reach d f)) = false) _ ?_ ?_ cs.length 0 _ _ (by omega) ⟨⟨h.next, rfl⟩, rfl, fun i c hi => by omega⟩
    · rintro j e h' hj ⟨⟨q, rfl⟩, rfl, hk⟩
      obtain ⟨c, hc⟩ := get_of_lt hj
      have hin := fun q => inner q j c hc
      have hw := wrap_succ (show j < 2 ^ 62 by omega)
      cases hp : c.flds.any fun f => decide (t ∈ reach d f) with
      | true =>
        simp only [hp, if_true] at hin
        have : (cs.any fun c => c.flds.any fun f => decide (t ∈ reach d f)) = true := List.any_eq_true.2 ⟨c, List.mem_of_getElem? hc, hp⟩
        rw [this]
        (simp only [e21, hj, iaC hc, hw, fun q => wq_of (hin q), ws, wsl, opX, int, Zv.bool, intBin, reduceIte, ↓reduceIte, Nat.reduceEqDiff, Nat.reduceAdd, Nat.reduceSub, Nat.reduceLeDiff, Int.reduceLT, Int.reduceLE, Int.reduceEq, Int.reduceBEq, Int.reduceNe, Int.reduceBNe, reduceCtorEq, Nat.reduceBEq] <;> repeat' (first | refine wpG_s ?_ ?_ | refine wpC_s ?_ ?_) <;> intro hgo <;> (try simp only [decide_eq_true_eq, decide_eq_false_iff_not, Bool.not_eq_true', Bool.not_eq_false'] at hgo) <;> simp only [hgo, e21, hj, iaC hc, hw, fun q => wq_of (hin q), ws, wsl, opX, int, Zv.bool, intBin, reduceIte, ↓reduceIte, Nat.reduceEqDiff, Nat.reduceAdd, Nat.reduceSub, Nat.reduceLeDiff, Int.reduceLT, Int.reduceLE, Int.reduceEq, Int.reduceBEq, Int.reduceNe, Int.reduceBNe, reduceCtorEq, Nat.reduceBEq])
        exact ⟨_, rfl⟩
      | false =>
        simp only [hp, if_false, Bool.false_eq_true] at hin
        (simp only [e21, hj, iaC hc, hw, fun q => wq_of (hin q), ws, wsl, opX, int, Zv.bool, intBin, reduceIte, ↓reduceIte, Nat.reduceEqDiff, Nat.reduceAdd, Nat.reduceSub, Nat.reduceLeDiff, Int.reduceLT, Int.reduceLE, Int.reduceEq, Int.reduceBEq, Int.reduceNe, Int.reduceBNe, reduceCtorEq, Nat.reduceBEq] <;> repeat' (first | refine wpG_s ?_ ?_ | refine wpC_s ?_ ?_) <;> intro hgo <;> (try simp only [decide_eq_true_eq, decide_eq_false_iff_not, Bool.not_eq_true', Bool.not_eq_false'] at hgo) <;> simp only [hgo, e21, hj, iaC hc, hw, fun q => wq_of (hin q), ws, wsl, opX, int, Zv.bool, intBin, reduceIte, ↓reduceIte, Nat.reduceEqDiff, Nat.reduceAdd, Nat.reduceSub, Nat.reduceLeDiff, Int.reduceLT, Int.reduceLE, Int.reduceEq, Int.reduceBEq, Int.reduceNe, Int.reduceBNe, reduceCtorEq, Nat.reduceBEq])
        refine ⟨⟨_, rfl⟩, fun i c' hi hc' => ?_⟩
        by_cases hij : i = j
        · subst hij; rw [hc] at hc'; cases hc'; exact hp
        · exact hk i c' (by omega) hc'
    · rintro e h' ⟨⟨q, rfl⟩, rfl, hk⟩
      have : (cs.any fun c => c.flds.any fun f => decide (t ∈ reach d f)) = false := by
        rw [← Bool.not_eq_true, List.any_eq_true]
        rintro ⟨c, hc, hp⟩
        obtain ⟨i, hi1, hi2⟩ := List.getElem_of_mem hc
        rw [hk i c hi1 (by rw [List.getElem?_eq_getElem hi1, hi2])] at hp
        cases hp
      rw [this]
      (simp only [e21, ws, wsl, opX, int, Zv.bool, intBin, reduceIte, ↓reduceIte, Nat.reduceEqDiff, Nat.reduceAdd, Nat.reduceSub, Nat.reduceLeDiff, Int.reduceLT, Int.reduceLE, Int.reduceEq, Int.reduceBEq, Int.reduceNe, Int.reduceBNe, reduceCtorEq, Nat.reduceBEq] <;> repeat' (first | refine wpG_s ?_ ?_ | refine wpC_s ?_ ?_) <;> intro hgo <;> (try simp only [decide_eq_true_eq, decide_eq_false_iff_not, Bool.not_eq_true', Bool.not_eq_false'] at hgo) <;> simp only [hgo, e21, ws, wsl, opX, int, Zv.bool, intBin, reduceIte, ↓reduceIte, Nat.reduceEqDiff, Nat.reduceAdd, Nat.reduceSub, Nat.reduceLeDiff, Int.reduceLT, Int.reduceLE, Int.reduceEq, Int.reduceBEq, Int.reduceNe, Int.reduceBNe, reduceCtorEq, Nat.reduceBEq])
      exact ⟨_, rfl⟩
  obtain ⟨q, rfl⟩ := hQ
  (simp only [e21, hcons, wq_of ho, ws, wsl, opX, int, Zv.bool, intBin, reduceIte, ↓reduceIte, Nat.reduceEqDiff, Nat.reduceAdd, Nat.reduceSub, Nat.reduceLeDiff, Int.reduceLT, Int.reduceLE, Int.reduceEq, Int.reduceBEq, Int.reduceNe, Int.reduceBNe, reduceCtorEq, Nat.reduceBEq] <;> repeat' (first | refine wpG_s ?_ ?_ | refine wpC_s ?_ ?_) <;> intro hgo <;> (try simp only [decide_eq_true_eq, decide_eq_false_iff_not, Bool.not_eq_true', Bool.not_eq_false'] at hgo) <;> simp only [hgo, e21, hcons, wq_of ho, ws, wsl, opX, int, Zv.bool, intBin, reduceIte, ↓reduceIte, Nat.reduceEqDiff, Nat.reduceAdd, Nat.reduceSub, Nat.reduceLeDiff, Int.reduceLT, Int.reduceLE, Int.reduceEq, Int.reduceBEq, Int.reduceNe, Int.reduceBNe, reduceCtorEq, Nat.reduceBEq])
  cases cs.any fun c => c.flds.any fun f => decide (t ∈ reach d f) <;> (simp only [e21, ws, wsl, opX, int, Zv.bool, intBin, reduceIte, ↓reduceIte, Nat.reduceEqDiff, Nat.reduceAdd, Nat.reduceSub, Nat.reduceLeDiff, Int.reduceLT, Int.reduceLE, Int.reduceEq, Int.reduceBEq, Int.reduceNe, Int.reduceBNe, reduceCtorEq, Nat.reduceBEq] <;> repeat' (first | refine wpG_s ?_ ?_ | refine wpC_s ?_ ?_) <;> intro hgo <;> (try simp only [decide_eq_true_eq, decide_eq_false_iff_not, Bool.not_eq_true', Bool.not_eq_false'] at hgo) <;> simp only [hgo, e21, ws, wsl, opX, int, Zv.bool, intBin, reduceIte, ↓reduceIte, Nat.reduceEqDiff, Nat.reduceAdd, Nat.reduceSub, Nat.reduceLeDiff, Int.reduceLT, Int.reduceLE, Int.reduceEq, Int.reduceBEq, Int.reduceNe, Int.reduceBNe, reduceCtorEq, Nat.reduceBEq])
-- ws, wsl, opX, int, Zv.bool, intBin, reduceIte, ↓reduceIte, Nat.reduceEqDiff, Nat.reduceAdd, Nat.reduceSub, Nat.reduceLeDiff, Int.reduceLT, Int.reduceLE, Int.reduceEq, Int.reduceBEq, Int.reduceNe, Int.reduceBNe, reduceCtorEq, Nat.reduceBEq
end Zc17
