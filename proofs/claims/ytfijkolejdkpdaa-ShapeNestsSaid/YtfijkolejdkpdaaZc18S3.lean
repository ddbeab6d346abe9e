/-
  The program's contents.
-/
import Derived.Test.YtfijkolejdkpdaaZc18S2
set_option linter.unusedSimpArgs false
set_option maxHeartbeats 4000000
namespace Zc18
open Go Zv Zs

/-- What is entered of a list. -/
def kvOf (l : List Int) : List (D × V) := l.map fun q => (eI q, .d (.bool true))
theorem kvOf_add (l : List Int) (t : Int) : kvOf (l ++ [t]) = kvOf l ++ [(eI t, .d (.bool true))] := by
  unfold kvOf; simp
theorem kv_find (t : Int) : ∀ (l : List Int), findK .i (eI t) (kvOf l) = some (if t ∈ l then some (.d (.bool true)) else none)
  | [] => rfl
  | x :: l => by
    have ih := kv_find t l
    unfold kvOf at ih ⊢
    rw [List.map_cons]
    by_cases hx : t = x
    · subst hx
      simp [findK, keyEq]
    · have : (t == x) = false := by simp [hx]
      simp only [findK, keyEq, if_true, this]
      rw [ih]
      simp [hx]
theorem kv_put (t : Int) (v : V) : ∀ (l : List Int), t ∉ l → putK .i (eI t) v (kvOf l) = some (kvOf l ++ [(eI t, v)])
  | [], _ => rfl
  | x :: l, h => by
    have ih := kv_put t v l (fun e => h (List.mem_cons_of_mem x e))
    unfold kvOf at ih ⊢
    rw [List.map_cons]
    have h1 : (t == x) = false := by simp; intro e; exact h (e ▸ List.mem_cons_self)
    simp only [putK, keyEq, if_true, h1]
    rw [ih]
    rfl

section
variable (d : List Dt) (h : Hp)
abbrev nd : Nat := h.next
abbrev caps : List V := [.ptr (h.next + 3) 1 0 0, .ptr h.next 1 0 0, .ptr (h.next + 1) 1 0 0, .ptr (h.next + 4) 1 0 0]
/-- The heap within Reach: the row of what was reached (if there is one), the closure, the map, and the variables. -/
def HG (top : List (Nat × Ob)) (kvs : List (D × V)) (out : V) (q : Nat) : Hp :=
  ⟨top ++ (h.next + 4, .arr 1 [.clo 39 (caps h)]) :: (h.next + 3, .arr 1 [.map (h.next + 2)]) :: (h.next + 2, .mp kvs) :: (h.next + 1, .arr 1 [out]) :: (h.next, .arr 1 [.d (eDs d)]) :: h.objs, q⟩
def tp (l : List Int) : List (Nat × Ob) := if l = [] then [] else [(h.next + 5, .arr 1 ((l.map eI).map .d))]
def ov (l : List Int) : V := if l = [] then .tl [] (some true) else .own (h.next + 5) 1 l.length 0 l.length
def HR (l : List Int) (q : Nat) : Hp := HG d h (tp h l) (kvOf l) (ov h l) q

theorem look_tp {l : List Int} {r : List (Nat × Ob)} {n : Nat} (hn : n ≠ h.next + 5) : look (tp h l ++ r) n = look r n := by
  unfold tp
  split
  · rfl
  · exact look_tl _ _ hn
theorem HG_met (l kvs out q) : (HG d h (tp h l) kvs out q).row (h.next + 3) 1 = some (1, [.map (h.next + 2)]) := by
  refine row_look ?_ rfl
  unfold HG
  rw [look_tp h (by omega), look_tl _ _ (by omega), look_hd]
theorem HG_vis (l kvs out q) : (HG d h (tp h l) kvs out q).row (h.next + 4) 1 = some (1, [.clo 39 (caps h)]) := by
  refine row_look ?_ rfl
  unfold HG
  rw [look_tp h (by omega), look_hd]
theorem HG_d (l kvs out q) : (HG d h (tp h l) kvs out q).row h.next 1 = some (1, [.d (eDs d)]) := by
  refine row_look ?_ rfl
  unfold HG
  rw [look_tp h (by omega), look_tl _ _ (by omega), look_tl _ _ (by omega), look_tl _ _ (by omega), look_tl _ _ (by omega), look_hd]
theorem HG_out (l kvs out q) : (HG d h (tp h l) kvs out q).row (h.next + 1) 1 = some (1, [out]) := by
  refine row_look ?_ rfl
  unfold HG
  rw [look_tp h (by omega), look_tl _ _ (by omega), look_tl _ _ (by omega), look_tl _ _ (by omega), look_hd]
theorem HG_map (l kvs out q) : (HG d h (tp h l) kvs out q).get (h.next + 2) = some (.mp kvs) := by
  unfold Hp.get HG
  rw [look_tp h (by omega), look_tl _ _ (by omega), look_tl _ _ (by omega), look_hd]
theorem upd_hd (n : Nat) (o : Ob) (r : List (Nat × Ob)) (x : Ob) : upd ((n, o) :: r) n x = (n, x) :: r := if_pos rfl
theorem upd_tl {m n : Nat} (o : Ob) (r : List (Nat × Ob)) (x : Ob) (h : n ≠ m) : upd ((m, o) :: r) n x = (m, o) :: upd r n x := if_neg h
theorem upd_tp {l : List Int} {r : List (Nat × Ob)} {n : Nat} (x : Ob) (hn : n ≠ h.next + 5) : upd (tp h l ++ r) n x = tp h l ++ upd r n x := by
  unfold tp
  split
  · rfl
  · exact upd_tl _ _ _ hn
theorem HG_mu (l out q) {t : Int} (ht : t ∉ l) : mu .i (HG d h (tp h l) (kvOf l) out q) (.map (h.next + 2)) (.d (eI t)) (.d (.bool true)) = some (HG d h (tp h l) (kvOf (l ++ [t])) out q) := by
  unfold mu
  simp only [HG_map, stor_d, if_true, norm_d]
  rw [kv_put t _ l ht, kvOf_add]
  simp only [Option.map_some]
  congr 1
  unfold Hp.set HG
  simp only
  rw [upd_tp h _ (by omega), upd_tl _ _ _ (by omega), upd_tl _ _ _ (by omega), upd_hd]
theorem HG_lk (l out q) (t : Int) : lk .i (.d (.bool false)) false (HG d h (tp h l) (kvOf l) out q) (.map (h.next + 2)) (.d (eI t)) = some (.d (.bool (decide (t ∈ l)))) := by
  unfold lk
  simp only [entries, HG_map, Option.bind_some]
  rw [kv_find t l]
  by_cases hm : t ∈ l
  · simp [hm]
  · simp [hm]
theorem HG_len (l : List Int) : lenL (ov h l) = some (.d (.int .i64 l.length)) := by
  unfold ov
  split
  · rename_i h0; subst h0; rfl
  · rfl
/-- One more in the row, and the variable behind it. -/
theorem HG_app (l : List Int) (kvs : List (D × V)) (q : Nat) (t : Int) (hl : l.length < 2 ^ 20) (hq : l = [] → q = h.next + 5) :
    ∃ H, app 1 8 (HG d h (tp h l) kvs (ov h l) q) (ov h l) (.tl [.d (eI t)] (some false)) = some (ov h (l ++ [t]), H) ∧ st 1 H (.ptr (h.next + 1) 1 0 0) (ov h (l ++ [t])) = some (HG d h (tp h (l ++ [t])) kvs (ov h (l ++ [t])) (if l = [] then q + 1 else q)) := by
  have hne : l ++ [t] ≠ [] := by simp
  have hx : allV 1 [V.d (eI t)] = true := by simp [allV, V.cells, D.cells]
  have hst : ∀ (qq : Nat), st 1 (HG d h (tp h (l ++ [t])) kvs (ov h l) qq) (.ptr (h.next + 1) 1 0 0) (ov h (l ++ [t])) = some (HG d h (tp h (l ++ [t])) kvs (ov h (l ++ [t])) qq) := by
    intro qq
    unfold st
    simp only [HG_out, Option.bind_some, List.getElem?_cons_zero]
    have e1 : stor (ov h (l ++ [t])) = true := by unfold ov; rw [if_neg hne]; rfl
    have e2 : (ov h (l ++ [t])).cells.length = 1 := by unfold ov; rw [if_neg hne]; rfl
    rw [if_pos ⟨e1, e2⟩, if_pos (by simp)]
    unfold Hp.set HG
    simp only
    rw [upd_tp h _ (by omega), upd_tl _ _ _ (by omega), upd_tl _ _ _ (by omega), upd_tl _ _ _ (by omega), upd_hd]
    rfl
  by_cases h0 : l = []
  · subst h0
    have := hq rfl
    subst this
    refine ⟨HG d h (tp h ([] ++ [t])) kvs (ov h []) (h.next + 5 + 1), ?_, hst _⟩
    unfold app
    simp only [elems, Option.bind_some, List.map_cons, List.map_nil, norm_d, hx, if_true]
    simp [ov, tp, HG, Hp.alloc, allV, roomB]
  · refine ⟨HG d h (tp h (l ++ [t])) kvs (ov h l) q, ?_, by rw [if_neg h0]; exact hst _⟩
    have hr : (HG d h (tp h l) kvs (ov h l) q).row (h.next + 5) l.length = some (1, (l.map eI).map .d) := by
      refine row_look ?_ (by simp)
      unfold HG tp
      rw [if_neg h0]
      exact look_hd ..
    unfold app
    simp only [elems, Option.bind_some, List.map_cons, List.map_nil, norm_d, hx, if_true]
    have e1 : ov h l = .own (h.next + 5) 1 l.length 0 l.length := by unfold ov; rw [if_neg h0]
    have e2 : ov h (l ++ [t]) = .own (h.next + 5) 1 (l.length + 1) 0 (l.length + 1) := by unfold ov; rw [if_neg hne]; simp
    rw [e2]
    conv => lhs; rw [show ov h l = V.own (h.next + 5) 1 l.length 0 l.length from e1]
    rw [e1] at hr
    simp only [hr, Option.bind_some, List.length_map, Nat.zero_add, Nat.le_refl, and_self, if_true, List.isEmpty_cons, Bool.false_eq_true, if_false, List.length_cons, List.length_nil]
    rw [if_neg (by omega), if_pos (by unfold roomB; omega), List.take_of_length_le (by simp)]
    congr 2
    unfold Hp.set HG tp
    simp only [if_neg h0, if_neg hne]
    show Hp.mk (upd ((h.next + 5, _) :: _) (h.next + 5) _) q = _
    rw [upd_hd]
    simp
    exact e1.symm
end

theorem HG_next (top kvs out q) (d : List Dt) (h : Hp) : (HG d h top kvs out q).next = q := rfl
theorem HG_up (top kvs out q) (d : List Dt) (h : Hp) : (⟨(HG d h top kvs out q).objs, q + 1⟩ : Hp) = HG d h top kvs out (q + 1) := rfl

/-- What a visit does, within k steps of depth. -/
def Visits (d : List Dt) (h : Hp) (k : Nat) : Prop := ∀ (t : Int) (l : List Int) (q : Nat), (l = [] → q = h.next + 5) → (l ≠ [] → h.next + 5 < q) → isT d t = true → Inv d l → d.length + 2 ≤ k + l.length →
  ∃ q', (contS d k t l ≠ [] → h.next + 5 < q') ∧ callW tab 39 [.d (eI t), .ptr (h.next + 3) 1 0 0, .ptr h.next 1 0 0, .ptr (h.next + 1) 1 0 0, .ptr (h.next + 4) 1 0 0] (HR d h l q) = some (.tup [], HR d h (contS d k t l) q')

theorem visit_fields {d : List Dt} (T : typedS d = true) {h : Hp} {k : Nat} (V : Visits d h k) (cs : List Cn) (n : Nat) (fs : List Int) (hfT : ∀ f, f ∈ fs → isT d f = true) (hfs : fs.length < 2 ^ 60) (l : List Int) (hl : l ≠ []) (q : Nat) (hq : h.next + 5 < q) (I : Inv d l) (hk : d.length + 2 ≤ k + l.length) :
    wp tab (.loop f39l0) [(4, .ptr (h.next + 4) 1 0 0), (29, .d (eCs cs)), (30, .d (.int .i64 cs.length)), (31, .d (.int .i64 n)), (36, .d (eIs fs)), (37, .d (.int .i64 fs.length)), (38, .d (.int .i64 0))] (HR d h l q)
      (fun o => ∃ q', h.next + 5 < q' ∧ o = (.exit 2, [(4, .ptr (h.next + 4) 1 0 0), (29, .d (eCs cs)), (30, .d (.int .i64 cs.length)), (31, .d (.int .i64 n)), (36, .d (eIs fs)), (37, .d (.int .i64 fs.length)), (38, .d (.int .i64 fs.length)), (39, .d (.bool false))], HR d h (fs.foldl (fun l f => contS d k f l) l) q')) := by
  refine loop_wp fs.length (fun j e h' => ∃ q', h.next + 5 < q' ∧ (Inv d (foldT (fun l f => contS d k f l) l fs j) ∧ l.length ≤ (foldT (fun l f => contS d k f l) l fs j).length) ∧ h' = HR d h (foldT (fun l f => contS d k f l) l fs j) q' ∧
    e = [(4, .ptr (h.next + 4) 1 0 0), (29, .d (eCs cs)), (30, .d (.int .i64 cs.length)), (31, .d (.int .i64 n)), (36, .d (eIs fs)), (37, .d (.int .i64 fs.length)), (38, .d (.int .i64 j))]) _ ?_ ?_ fs.length 0 _ _ (by omega) ⟨q, hq, ⟨I, Nat.le_refl _⟩, rfl, rfl⟩
  · rintro j e h' hj ⟨q1, hq1, ⟨I1, hl1⟩, rfl, rfl⟩
    obtain ⟨f, hf⟩ := get_of_lt hj
    have hne : 0 < l.length := by cases l; exact absurd rfl hl; simp
    have hne1 : foldT (fun l f => contS d k f l) l fs j ≠ [] := fun h0 => by rw [h0] at hl1; simp at hl1; exact absurd hl1 hl
    have hfi := hfT f (List.mem_of_getElem? hf)
    obtain ⟨q2, h2, hcall⟩ := V f _ q1 (fun h0 => absurd h0 hne1) (fun _ => hq1) hfi I1 (by omega)
    have hr := contS_inv T k f _ hfi I1
    have hv : ∀ l q, Hp.row (HR d h l q) (h.next + 4) 1 = some (1, [.clo 39 (caps h)]) := fun l q => HG_vis ..
    have hw := wrap_succ (show j < 2 ^ 62 by omega)
    (simp only [e39, hj, iaI hf, hv, caps, hcall, hw, ws, wsl, opX, int, Zv.bool, intBin, reduceIte, ↓reduceIte, Nat.reduceEqDiff, Nat.reduceAdd, Nat.reduceSub, Nat.reduceLeDiff, Int.reduceLT, Int.reduceLE, Int.reduceEq, Int.reduceBEq, Int.reduceNe, Int.reduceBNe, reduceCtorEq, Nat.reduceBEq] <;> repeat' (first | refine wpG_s ?_ ?_ | refine wpC_s ?_ ?_) <;> intro hgo <;> (try simp only [decide_eq_true_eq, decide_eq_false_iff_not, Bool.not_eq_true', Bool.not_eq_false'] at hgo) <;> simp only [hgo, e39, hj, iaI hf, hv, caps, hcall, hw, ws, wsl, opX, int, Zv.bool, intBin, reduceIte, ↓reduceIte, Nat.reduceEqDiff, Nat.reduceAdd, Nat.reduceSub, Nat.reduceLeDiff, Int.reduceLT, Int.reduceLE, Int.reduceEq, Int.reduceBEq, Int.reduceNe, Int.reduceBNe, reduceCtorEq, Nat.reduceBEq])
    refine ⟨q2, h2 (fun h0 => by rw [h0] at hr; simp at hr; exact hne1 hr.2), ?_, ?_⟩
    · rw [foldT_succ hf]; exact ⟨hr.1, by omega⟩
    · rw [foldT_succ hf]
  · rintro e h' ⟨q1, hq1, ⟨I1, hl1⟩, rfl, rfl⟩
    (simp only [e39, foldT_all, ws, wsl, opX, int, Zv.bool, intBin, reduceIte, ↓reduceIte, Nat.reduceEqDiff, Nat.reduceAdd, Nat.reduceSub, Nat.reduceLeDiff, Int.reduceLT, Int.reduceLE, Int.reduceEq, Int.reduceBEq, Int.reduceNe, Int.reduceBNe, reduceCtorEq, Nat.reduceBEq] <;> repeat' (first | refine wpG_s ?_ ?_ | refine wpC_s ?_ ?_) <;> intro hgo <;> (try simp only [decide_eq_true_eq, decide_eq_false_iff_not, Bool.not_eq_true', Bool.not_eq_false'] at hgo) <;> simp only [hgo, e39, foldT_all, ws, wsl, opX, int, Zv.bool, intBin, reduceIte, ↓reduceIte, Nat.reduceEqDiff, Nat.reduceAdd, Nat.reduceSub, Nat.reduceLeDiff, Int.reduceLT, Int.reduceLE, Int.reduceEq, Int.reduceBEq, Int.reduceNe, Int.reduceBNe, reduceCtorEq, Nat.reduceBEq])
    exact ⟨q1, hq1, rfl⟩

theorem visit_cons {d : List Dt} (T : typedS d = true) {h : Hp} {k : Nat} (V : Visits d h k) (cs : List Cn) (hcs : cs.length < 2 ^ 60) (hfT : ∀ c, c ∈ cs → ∀ f, f ∈ c.flds → isT d f = true) (hfs : ∀ c, c ∈ cs → c.flds.length < 2 ^ 60) (l : List Int) (hl : l ≠ []) (q : Nat) (hq : h.next + 5 < q) (I : Inv d l) (hk : d.length + 2 ≤ k + l.length) :
    wp tab (.loop f39l1) [(4, .ptr (h.next + 4) 1 0 0), (29, .d (eCs cs)), (30, .d (.int .i64 cs.length)), (31, .d (.int .i64 0))] (HR d h l q)
      (fun o => ∃ q', h.next + 5 < q' ∧ o = (.exit 0, [(4, .ptr (h.next + 4) 1 0 0), (29, .d (eCs cs)), (30, .d (.int .i64 cs.length)), (31, .d (.int .i64 cs.length)), (32, .d (.bool false))], HR d h (cs.foldl (fun l c => c.flds.foldl (fun l f => contS d k f l) l) l) q')) := by
  have hne : 0 < l.length := by cases l; exact absurd rfl hl; simp
  refine loop_wp cs.length (fun j e h' => ∃ q', h.next + 5 < q' ∧ (Inv d (foldT (fun l c => c.flds.foldl (fun l f => contS d k f l) l) l cs j) ∧ l.length ≤ (foldT (fun l c => c.flds.foldl (fun l f => contS d k f l) l) l cs j).length) ∧ h' = HR d h (foldT (fun l c => c.flds.foldl (fun l f => contS d k f l) l) l cs j) q' ∧
    e = [(4, .ptr (h.next + 4) 1 0 0), (29, .d (eCs cs)), (30, .d (.int .i64 cs.length)), (31, .d (.int .i64 j))]) _ ?_ ?_ cs.length 0 _ _ (by omega) ⟨q, hq, ⟨I, Nat.le_refl _⟩, rfl, rfl⟩
  · rintro j e h' hj ⟨q1, hq1, ⟨I1, hl1⟩, rfl, rfl⟩
    obtain ⟨c, hc⟩ := get_of_lt hj
    have hw := wrap_succ (show j < 2 ^ 62 by omega)
    have hn : ∀ l q, (HR d h l q).next = q := fun _ _ => rfl
    have hu : ∀ l q, (⟨(HR d h l q).objs, q + 1⟩ : Hp) = HR d h l (q + 1) := fun _ _ => rfl
    (simp only [e39, hj, iaC hc, hn, hu, hw, ws, wsl, opX, int, Zv.bool, intBin, reduceIte, ↓reduceIte, Nat.reduceEqDiff, Nat.reduceAdd, Nat.reduceSub, Nat.reduceLeDiff, Int.reduceLT, Int.reduceLE, Int.reduceEq, Int.reduceBEq, Int.reduceNe, Int.reduceBNe, reduceCtorEq, Nat.reduceBEq] <;> repeat' (first | refine wpG_s ?_ ?_ | refine wpC_s ?_ ?_) <;> intro hgo <;> (try simp only [decide_eq_true_eq, decide_eq_false_iff_not, Bool.not_eq_true', Bool.not_eq_false'] at hgo) <;> simp only [hgo, e39, hj, iaC hc, hn, hu, hw, ws, wsl, opX, int, Zv.bool, intBin, reduceIte, ↓reduceIte, Nat.reduceEqDiff, Nat.reduceAdd, Nat.reduceSub, Nat.reduceLeDiff, Int.reduceLT, Int.reduceLE, Int.reduceEq, Int.reduceBEq, Int.reduceNe, Int.reduceBNe, reduceCtorEq, Nat.reduceBEq])
    have hlf := hfs c (List.mem_of_getElem? hc)
    refine wq_mono (visit_fields T V cs j c.flds (hfT c (List.mem_of_getElem? hc)) hlf _ (fun h0 => by rw [h0] at hl1; simp at hl1; exact absurd hl1 hl) (q1 + 1) (by omega) I1 (by omega)) ?_
    rintro o ⟨q2, hq2, rfl⟩
    (simp only [e39, hw, ws, wsl, opX, int, Zv.bool, intBin, reduceIte, ↓reduceIte, Nat.reduceEqDiff, Nat.reduceAdd, Nat.reduceSub, Nat.reduceLeDiff, Int.reduceLT, Int.reduceLE, Int.reduceEq, Int.reduceBEq, Int.reduceNe, Int.reduceBNe, reduceCtorEq, Nat.reduceBEq] <;> repeat' (first | refine wpG_s ?_ ?_ | refine wpC_s ?_ ?_) <;> intro hgo <;> (try simp only [decide_eq_true_eq, decide_eq_false_iff_not, Bool.not_eq_true', Bool.not_eq_false'] at hgo) <;> simp only [hgo, e39, hw, ws, wsl, opX, int, Zv.bool, intBin, reduceIte, ↓reduceIte, Nat.reduceEqDiff, Nat.reduceAdd, Nat.reduceSub, Nat.reduceLeDiff, Int.reduceLT, Int.reduceLE, Int.reduceEq, Int.reduceBEq, Int.reduceNe, Int.reduceBNe, reduceCtorEq, Nat.reduceBEq])
    refine ⟨q2, hq2, ?_, ?_⟩
    · rw [foldT_succ hc]
      refine fold_keep (P := fun s => Inv d s ∧ l.length ≤ s.length) (fun s f hf hs => ?_) ⟨I1, hl1⟩
      have hr := contS_inv T k f s (hfT c (List.mem_of_getElem? hc) f hf) hs.1
      exact ⟨hr.1, by omega⟩
    · rw [foldT_succ hc]
  · rintro e h' ⟨q1, hq1, ⟨I1, hl1⟩, rfl, rfl⟩
    (simp only [e39, foldT_all, ws, wsl, opX, int, Zv.bool, intBin, reduceIte, ↓reduceIte, Nat.reduceEqDiff, Nat.reduceAdd, Nat.reduceSub, Nat.reduceLeDiff, Int.reduceLT, Int.reduceLE, Int.reduceEq, Int.reduceBEq, Int.reduceNe, Int.reduceBNe, reduceCtorEq, Nat.reduceBEq] <;> repeat' (first | refine wpG_s ?_ ?_ | refine wpC_s ?_ ?_) <;> intro hgo <;> (try simp only [decide_eq_true_eq, decide_eq_false_iff_not, Bool.not_eq_true', Bool.not_eq_false'] at hgo) <;> simp only [hgo, e39, foldT_all, ws, wsl, opX, int, Zv.bool, intBin, reduceIte, ↓reduceIte, Nat.reduceEqDiff, Nat.reduceAdd, Nat.reduceSub, Nat.reduceLeDiff, Int.reduceLT, Int.reduceLE, Int.reduceEq, Int.reduceBEq, Int.reduceNe, Int.reduceBNe, reduceCtorEq, Nat.reduceBEq])
    exact ⟨q1, hq1, rfl⟩

theorem visits {d : List Dt} (B : Bd d) (T : typedS d = true) (h : Hp) : ∀ k, Visits d h k := by
  intro k
  induction k with
  | zero => intro t l q _ _ _ I hk; have := I.len; omega
  | succ k ih =>
    intro t l q hq0 hq hT I hk
    have hll := I.len
    have hbl := B.len
    have hlk := HG_lk d h l (ov h l) q t
    have r1 := HG_met d h l (kvOf l) (ov h l) q
    have r2 := HG_d d h l (kvOf l) (ov h l) q
    have hfl := fun hh => flat_ok B t hh
    by_cases hm : t ∈ l
    · have e : contS d (k + 1) t l = l := by rw [contS, if_pos (.inr hm)]
      rw [e]
      refine ⟨q, hq, ?_⟩
      · apply call_wp (fn := f39) rfl rfl
        simp only [HR]
        (simp only [e39, r1, hlk, hm, ws, wsl, opX, int, Zv.bool, intBin, reduceIte, ↓reduceIte, Nat.reduceEqDiff, Nat.reduceAdd, Nat.reduceSub, Nat.reduceLeDiff, Int.reduceLT, Int.reduceLE, Int.reduceEq, Int.reduceBEq, Int.reduceNe, Int.reduceBNe, reduceCtorEq, Nat.reduceBEq] <;> repeat' (first | refine wpG_s ?_ ?_ | refine wpC_s ?_ ?_) <;> intro hgo <;> (try simp only [decide_eq_true_eq, decide_eq_false_iff_not, Bool.not_eq_true', Bool.not_eq_false'] at hgo) <;> simp only [hgo, e39, r1, hlk, hm, ws, wsl, opX, int, Zv.bool, intBin, reduceIte, ↓reduceIte, Nat.reduceEqDiff, Nat.reduceAdd, Nat.reduceSub, Nat.reduceLeDiff, Int.reduceLT, Int.reduceLE, Int.reduceEq, Int.reduceBEq, Int.reduceNe, Int.reduceBNe, reduceCtorEq, Nat.reduceBEq])
    · by_cases hF : flatS d t = true
      · have e : contS d (k + 1) t l = l := by rw [contS, if_pos (.inl hF)]
        rw [e]
        refine ⟨q, hq, ?_⟩
        · apply call_wp (fn := f39) rfl rfl
          simp only [HR]
          (simp only [e39, r1, r2, hlk, hm, hfl, hF, ws, wsl, opX, int, Zv.bool, intBin, reduceIte, ↓reduceIte, Nat.reduceEqDiff, Nat.reduceAdd, Nat.reduceSub, Nat.reduceLeDiff, Int.reduceLT, Int.reduceLE, Int.reduceEq, Int.reduceBEq, Int.reduceNe, Int.reduceBNe, reduceCtorEq, Nat.reduceBEq] <;> repeat' (first | refine wpG_s ?_ ?_ | refine wpC_s ?_ ?_) <;> intro hgo <;> (try simp only [decide_eq_true_eq, decide_eq_false_iff_not, Bool.not_eq_true', Bool.not_eq_false'] at hgo) <;> simp only [hgo, e39, r1, r2, hlk, hm, hfl, hF, ws, wsl, opX, int, Zv.bool, intBin, reduceIte, ↓reduceIte, Nat.reduceEqDiff, Nat.reduceAdd, Nat.reduceSub, Nat.reduceLeDiff, Int.reduceLT, Int.reduceLE, Int.reduceEq, Int.reduceBEq, Int.reduceNe, Int.reduceBNe, reduceCtorEq, Nat.reduceBEq])
      · have hF : flatS d t = false := by simpa using hF
        have e : contS d (k + 1) t l = (consOf d t).foldl (fun l c => c.flds.foldl (fun l f => contS d k f l) l) (l ++ [t]) := by
          rw [contS, if_neg (by simp [hF, hm])]
        obtain ⟨H, ha, hs⟩ := HG_app d h l (kvOf (l ++ [t])) q t (by omega) hq0
        have hmu := HG_mu d h l (ov h l) q hm
        have r3 := HG_out d h l (kvOf l) (ov h l) q
        have r4 := HG_out d h l (kvOf (l ++ [t])) (ov h l) q
        have r5 : ∀ q, (HR d h (l ++ [t]) q).row h.next 1 = some (1, [.d (eDs d)]) := fun q => HG_d d h (l ++ [t]) (kvOf (l ++ [t])) (ov h (l ++ [t])) q
        have hHR : ∀ q, HG d h (tp h (l ++ [t])) (kvOf (l ++ [t])) (ov h (l ++ [t])) q = HR d h (l ++ [t]) q := fun _ => rfl
        rw [hHR] at hs
        have hq2 : h.next + 5 < (if l = [] then q + 1 else q) := by
          by_cases h0 : l = []
          · rw [if_pos h0, hq0 h0]; omega
          · rw [if_neg h0]; exact hq h0
        generalize (if l = [] then q + 1 else q) = q2 at hs hq2
        have hR0 : HR d h l q = HG d h (tp h l) (kvOf l) (ov h l) q := rfl
        have hov : ∀ l, V.cells (ov h l) = [ov h l] := fun l => by unfold ov; split <;> rfl
        rcases tcase d t with h0 | h0 | ⟨m, y, rfl, hy⟩
        · unfold flatS at hF; rw [hT, consOf_lo h0] at hF; simp at hF
        · unfold flatS at hF; rw [hT, consOf_hi h0] at hF; simp at hF
        · have b := B.at hy
          have hw := wrap_sub1 (n := m) (by omega)
          have hfT : ∀ c, c ∈ y.cons → ∀ f, f ∈ c.flds → isT d f = true := fun c hc f hf => fld_isT T (t := (m : Int) + 1) (by rw [consOf_at hy]; exact hc) hf
          rw [consOf_at hy] at e
          have loops := visit_cons T ih y.cons (by omega) hfT (fun c hc => by have := B.flds y (List.mem_of_getElem? hy) c hc; omega) (l ++ [(m : Int) + 1]) (by simp) q2 hq2 (I.add hT hm) (by simp; omega)
          obtain ⟨o, ho, q3, hq3, rfl⟩ := loops
          refine ⟨q3, fun _ => hq3, ?_⟩
          apply call_wp (fn := f39) rfl rfl
          rw [e, hR0]
          (simp only [e39, r1, r2, r3, r4, r5, hlk, hm, hfl, hF, hmu, ha, hs, hov, iaD hy, hw, wq_of ho, ws, wsl, opX, int, Zv.bool, intBin, reduceIte, ↓reduceIte, Nat.reduceEqDiff, Nat.reduceAdd, Nat.reduceSub, Nat.reduceLeDiff, Int.reduceLT, Int.reduceLE, Int.reduceEq, Int.reduceBEq, Int.reduceNe, Int.reduceBNe, reduceCtorEq, Nat.reduceBEq] <;> repeat' (first | refine wpG_s ?_ ?_ | refine wpC_s ?_ ?_) <;> intro hgo <;> (try simp only [decide_eq_true_eq, decide_eq_false_iff_not, Bool.not_eq_true', Bool.not_eq_false'] at hgo) <;> simp only [hgo, e39, r1, r2, r3, r4, r5, hlk, hm, hfl, hF, hmu, ha, hs, hov, iaD hy, hw, wq_of ho, ws, wsl, opX, int, Zv.bool, intBin, reduceIte, ↓reduceIte, Nat.reduceEqDiff, Nat.reduceAdd, Nat.reduceSub, Nat.reduceLeDiff, Int.reduceLT, Int.reduceLE, Int.reduceEq, Int.reduceBEq, Int.reduceNe, Int.reduceBNe, reduceCtorEq, Nat.reduceBEq])

theorem HR_fin (d : List Dt) (h : Hp) (l : List Int) (q : Nat) : finS h (HR d h l q) [ov h l] = some (.d (eIs l), h) := by
  unfold finS
  have h1 : sufOk h.objs (HR d h l q).objs = true := by
    unfold HR HG tp
    split
    · exact suf_app [_, _, _, _, _] _
    · exact suf_app [_, _, _, _, _, _] _
  rw [if_pos h1]
  have h2 : back1 (HR d h l q) h.next (ov h l) = some (.d (eIs l)) := by
    by_cases h0 : l = []
    · subst h0; rfl
    · have hr : (HR d h l q).row (h.next + 5) l.length = some (1, (l.map eI).map .d) := by
        refine row_look ?_ (by simp)
        unfold HR HG tp
        rw [if_neg h0]
        exact look_hd ..
      unfold back1 ov
      rw [if_neg h0]
      have : deep (HR d h l q) h.next 8 (.own (h.next + 5) 1 l.length 0 l.length) = some (.lst (l.map eI)) := by
        unfold deep
        simp only [hr, Option.bind_some, List.length_map, Nat.zero_add, Nat.le_refl, if_true, List.drop_zero]
        rw [if_pos (by omega), List.take_of_length_le (by simp), deep_ds]
        rfl
      rw [this]
  simp only [List.mapM_cons, List.mapM_nil, h2]
  rfl

theorem pcont_ok {d : List Dt} (B : Bd d) (T : typedS d = true) {t : Int} (hT : isT d t = true) (h : Hp) : callW tab 23 [.d (eDs d), .d (eI t)] h = some (.d (eIs (cont d t)), h) := by
  obtain ⟨q, _, hv⟩ := visits B T h (d.length + 2) t [] (h.next + 5) (fun _ => rfl) (fun h => absurd rfl h) hT (Inv.nil d) (by simp)
  apply call_wp (fn := f23) rfl rfl
  have hv' : callW tab 39 [.d (eI t), .ptr (h.next + 1 + 1 + 1) 1 0 0, .ptr h.next 1 0 0, .ptr (h.next + 1) 1 0 0, .ptr (h.next + 1 + 1 + 1 + 1) 1 0 0]
      ⟨(h.next + 1 + 1 + 1 + 1, .arr 1 [.clo 39 [.ptr (h.next + 1 + 1 + 1) 1 0 0, .ptr h.next 1 0 0, .ptr (h.next + 1) 1 0 0, .ptr (h.next + 1 + 1 + 1 + 1) 1 0 0]]) :: (h.next + 1 + 1 + 1, .arr 1 [.map (h.next + 1 + 1)]) :: (h.next + 1 + 1, .mp []) :: (h.next + 1, .arr 1 [.tl [] (some true)]) :: (h.next, .arr 1 [.d (eDs d)]) :: h.objs, h.next + 1 + 1 + 1 + 1 + 1⟩ = some (.tup [], HR d h (cont d t) q) := hv
  have r3 : (HR d h (cont d t) q).row (h.next + 1) 1 = some (1, [ov h (cont d t)]) := HG_out ..
  have hov : ∀ l, V.cells (ov h l) = [ov h l] := fun l => by unfold ov; split <;> rfl
  (simp only [e23, hv', r3, hov, HR_fin, ws, wsl, opX, int, Zv.bool, intBin, reduceIte, ↓reduceIte, Nat.reduceEqDiff, Nat.reduceAdd, Nat.reduceSub, Nat.reduceLeDiff, Int.reduceLT, Int.reduceLE, Int.reduceEq, Int.reduceBEq, Int.reduceNe, Int.reduceBNe, reduceCtorEq, Nat.reduceBEq] <;> repeat' (first | refine wpG_s ?_ ?_ | refine wpC_s ?_ ?_) <;> intro hgo <;> (try simp only [decide_eq_true_eq, decide_eq_false_iff_not, Bool.not_eq_true', Bool.not_eq_false'] at hgo) <;> simp only [hgo, e23, hv', r3, hov, HR_fin, ws, wsl, opX, int, Zv.bool, intBin, reduceIte, ↓reduceIte, Nat.reduceEqDiff, Nat.reduceAdd, Nat.reduceSub, Nat.reduceLeDiff, Int.reduceLT, Int.reduceLE, Int.reduceEq, Int.reduceBEq, Int.reduceNe, Int.reduceBNe, reduceCtorEq, Nat.reduceBEq])

-- ws, wsl, opX, int, Zv.bool, intBin, reduceIte, ↓reduceIte, Nat.reduceEqDiff, Nat.reduceAdd, Nat.reduceSub, Nat.reduceLeDiff, Int.reduceLT, Int.reduceLE, Int.reduceEq, Int.reduceBEq, Int.reduceNe, Int.reduceBNe, reduceCtorEq, Nat.reduceBEq
end Zc18
