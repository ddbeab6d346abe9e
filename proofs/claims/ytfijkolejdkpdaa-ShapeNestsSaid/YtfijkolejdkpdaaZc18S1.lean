/-
  What a shape contains: the reference.
-/
import Derived.Test.YtfijkolejdkpdaaZc18R15
set_option linter.unusedSimpArgs false
set_option maxHeartbeats 4000000
namespace Zc18
open Go Zv Zs

/-- A slice of whole numbers, as it is read. -/
structure Sl (h : Hp) (v : V) (l : List Int) : Prop where
  len : lenL v = some (.d (.int .i64 l.length))
  at_ : ∀ (n : Nat) (x : Int), l[n]? = some x → ∃ a, ia 1 v (.d (.int .i64 (n : Int))) = some a ∧ ld false 1 h a = some (.d (eI x))
theorem Sl.data (h : Hp) (l : List Int) : Sl h (.d (eIs l)) l := by
  refine ⟨by rw [lenL_lst, List.length_map], fun n x hx => ⟨.fp (eI x) 0, iaI hx, rfl⟩⟩
theorem Sl.own {h : Hp} {n : Nat} {l : List Int} (hr : h.row n l.length = some (1, (l.map eI).map .d)) : Sl h (.own n 1 l.length 0 l.length) l := by
  refine ⟨lenL_own .., fun k x hx => ⟨.ptr n l.length k 0, ?_, ?_⟩⟩
  · have := lt_of_get hx
    simp [ia, ixOf_nat, this]
  · rw [ld_one, hr]
    simp [hx, V.cells, D.cells]

theorem has_sl {h : Hp} {v : V} {l : List Int} (S : Sl h v l) (hl : l.length < 2 ^ 60) (t : Int) : callW tab 61 [v, .d (eI t)] h = some (.d (.bool (l.any fun x => x == t)), h) := by
  apply call_wp (fn := f61) rfl rfl
  have hloop := loop_any (T := tab) (a := f61l0) (l := l) (p := (fun x => x == t)) (f := fun n => [(0, v), (1, .d (eI t)), (5, int n)]) (h := h)
      (by intro n x hx hlt hp; obtain ⟨a, ha, hla⟩ := S.at_ n x hx; all_goals (apply wq_ex.1; (simp only [hlt, hp, e61, S.len, ha, hla, wrap_succ (show n < 2 ^ 62 by omega), ws, wsl, opX, int, Zv.bool, intBin, reduceIte, ↓reduceIte, Nat.reduceEqDiff, Nat.reduceAdd, Nat.reduceSub, Nat.reduceLeDiff, Int.reduceLT, Int.reduceLE, Int.reduceEq, Int.reduceBEq, Int.reduceNe, Int.reduceBNe, reduceCtorEq, Nat.reduceBEq] <;> repeat' (first | refine wpG_s ?_ ?_ | refine wpC_s ?_ ?_) <;> intro hgo <;> (try simp only [decide_eq_true_eq, decide_eq_false_iff_not, Bool.not_eq_true', Bool.not_eq_false'] at hgo) <;> simp only [hgo, hlt, hp, e61, S.len, ha, hla, wrap_succ (show n < 2 ^ 62 by omega), ws, wsl, opX, int, Zv.bool, intBin, reduceIte, ↓reduceIte, Nat.reduceEqDiff, Nat.reduceAdd, Nat.reduceSub, Nat.reduceLeDiff, Int.reduceLT, Int.reduceLE, Int.reduceEq, Int.reduceBEq, Int.reduceNe, Int.reduceBNe, reduceCtorEq, Nat.reduceBEq])))
      (by intro n x hx hlt hp; obtain ⟨a, ha, hla⟩ := S.at_ n x hx; all_goals (apply wq_ex.1; (simp only [hlt, hp, e61, S.len, ha, hla, wrap_succ (show n < 2 ^ 62 by omega), ws, wsl, opX, int, Zv.bool, intBin, reduceIte, ↓reduceIte, Nat.reduceEqDiff, Nat.reduceAdd, Nat.reduceSub, Nat.reduceLeDiff, Int.reduceLT, Int.reduceLE, Int.reduceEq, Int.reduceBEq, Int.reduceNe, Int.reduceBNe, reduceCtorEq, Nat.reduceBEq] <;> repeat' (first | refine wpG_s ?_ ?_ | refine wpC_s ?_ ?_) <;> intro hgo <;> (try simp only [decide_eq_true_eq, decide_eq_false_iff_not, Bool.not_eq_true', Bool.not_eq_false'] at hgo) <;> simp only [hgo, hlt, hp, e61, S.len, ha, hla, wrap_succ (show n < 2 ^ 62 by omega), ws, wsl, opX, int, Zv.bool, intBin, reduceIte, ↓reduceIte, Nat.reduceEqDiff, Nat.reduceAdd, Nat.reduceSub, Nat.reduceLeDiff, Int.reduceLT, Int.reduceLE, Int.reduceEq, Int.reduceBEq, Int.reduceNe, Int.reduceBNe, reduceCtorEq, Nat.reduceBEq]) <;> rfl))
      (by apply wq_ex.1; (simp only [e61, S.len, ws, wsl, opX, int, Zv.bool, intBin, reduceIte, ↓reduceIte, Nat.reduceEqDiff, Nat.reduceAdd, Nat.reduceSub, Nat.reduceLeDiff, Int.reduceLT, Int.reduceLE, Int.reduceEq, Int.reduceBEq, Int.reduceNe, Int.reduceBNe, reduceCtorEq, Nat.reduceBEq] <;> repeat' (first | refine wpG_s ?_ ?_ | refine wpC_s ?_ ?_) <;> intro hgo <;> (try simp only [decide_eq_true_eq, decide_eq_false_iff_not, Bool.not_eq_true', Bool.not_eq_false'] at hgo) <;> simp only [hgo, e61, S.len, ws, wsl, opX, int, Zv.bool, intBin, reduceIte, ↓reduceIte, Nat.reduceEqDiff, Nat.reduceAdd, Nat.reduceSub, Nat.reduceLeDiff, Int.reduceLT, Int.reduceLE, Int.reduceEq, Int.reduceBEq, Int.reduceNe, Int.reduceBNe, reduceCtorEq, Nat.reduceBEq]) <;> rfl)
      (by simp) (by simp)
  simp only [int, Zv.bool, Int.cast_ofNat_Int] at hloop
  (simp only [e61, wq_of hloop, ws, wsl, opX, int, Zv.bool, intBin, reduceIte, ↓reduceIte, Nat.reduceEqDiff, Nat.reduceAdd, Nat.reduceSub, Nat.reduceLeDiff, Int.reduceLT, Int.reduceLE, Int.reduceEq, Int.reduceBEq, Int.reduceNe, Int.reduceBNe, reduceCtorEq, Nat.reduceBEq] <;> repeat' (first | refine wpG_s ?_ ?_ | refine wpC_s ?_ ?_) <;> intro hgo <;> (try simp only [decide_eq_true_eq, decide_eq_false_iff_not, Bool.not_eq_true', Bool.not_eq_false'] at hgo) <;> simp only [hgo, e61, wq_of hloop, ws, wsl, opX, int, Zv.bool, intBin, reduceIte, ↓reduceIte, Nat.reduceEqDiff, Nat.reduceAdd, Nat.reduceSub, Nat.reduceLeDiff, Int.reduceLT, Int.reduceLE, Int.reduceEq, Int.reduceBEq, Int.reduceNe, Int.reduceBNe, reduceCtorEq, Nat.reduceBEq])
  cases l.any fun x => x == t <;> (simp only [e61, ws, wsl, opX, int, Zv.bool, intBin, reduceIte, ↓reduceIte, Nat.reduceEqDiff, Nat.reduceAdd, Nat.reduceSub, Nat.reduceLeDiff, Int.reduceLT, Int.reduceLE, Int.reduceEq, Int.reduceBEq, Int.reduceNe, Int.reduceBNe, reduceCtorEq, Nat.reduceBEq] <;> repeat' (first | refine wpG_s ?_ ?_ | refine wpC_s ?_ ?_) <;> intro hgo <;> (try simp only [decide_eq_true_eq, decide_eq_false_iff_not, Bool.not_eq_true', Bool.not_eq_false'] at hgo) <;> simp only [hgo, e61, ws, wsl, opX, int, Zv.bool, intBin, reduceIte, ↓reduceIte, Nat.reduceEqDiff, Nat.reduceAdd, Nat.reduceSub, Nat.reduceLeDiff, Int.reduceLT, Int.reduceLE, Int.reduceEq, Int.reduceBEq, Int.reduceNe, Int.reduceBNe, reduceCtorEq, Nat.reduceBEq])
structure Inv (d : List Dt) (l : List Int) : Prop where
  nd : l.Nodup
  ty : ∀ x, x ∈ l → isT d x = true
theorem Inv.len {d : List Dt} {l : List Int} (I : Inv d l) : l.length ≤ d.length + 1 := by
  have h1 : l.length ≤ ((List.range (d.length + 1)).map fun n : Nat => (n : Int)).length := by
    refine List.Nodup.length_le_of_subset I.nd fun x hx => ?_
    have := I.ty x hx
    simp only [isT, Bool.and_eq_true, decide_eq_true_eq] at this
    exact List.mem_map.2 ⟨x.toNat, List.mem_range.2 (by omega), by omega⟩
  simpa using h1
theorem Inv.add {d : List Dt} {l : List Int} {t : Int} (I : Inv d l) (h1 : isT d t = true) (h2 : t ∉ l) : Inv d (l ++ [t]) := by
  refine ⟨?_, fun x hx => ?_⟩
  · rw [List.nodup_append]
    exact ⟨I.nd, by simp, fun a ha b hb => by rintro rfl; simp at hb; exact h2 (hb ▸ ha)⟩
  · rcases List.mem_append.1 hx with h | h
    · exact I.ty x h
    · simp at h; subst h; exact h1
/-- Folds keep what each step keeps. -/
theorem fold_keep {α S : Type} {P : S → Prop} {stp : S → α → S} : ∀ {l : List α} {s : S}, (∀ s x, x ∈ l → P s → P (stp s x)) → P s → P (l.foldl stp s)
  | [], _, _, h => h
  | x :: l, s, H, h => fold_keep (l := l) (fun s y hy => H s y (List.mem_cons_of_mem x hy)) (H s x List.mem_cons_self h)
/-- The fields of a type are types. -/
theorem fld_isT {d : List Dt} (T : typedS d = true) {t f : Int} {c : Cn} (hc : c ∈ consOf d t) (hf : f ∈ c.flds) : isT d f = true := by
  rcases tcase d t with h0 | h0 | ⟨n, y, rfl, hy⟩
  · rw [consOf_lo h0] at hc; cases hc
  · rw [consOf_hi h0] at hc; cases hc
  · rw [consOf_at hy] at hc
    unfold typedS at T
    rw [List.all_eq_true] at T
    have := T y (List.mem_of_getElem? hy)
    rw [List.all_eq_true] at this
    have := this c hc
    rw [List.all_eq_true] at this
    exact this f hf
/-- What is contained beyond what is listed already; k bounds the depth. -/
def contS (d : List Dt) : Nat → Int → List Int → List Int
  | 0, _, l => l
  | k + 1, t, l => if flatS d t = true ∨ t ∈ l then l else (consOf d t).foldl (fun l c => c.flds.foldl (fun l f => contS d k f l) l) (l ++ [t])
theorem contS_inv {d : List Dt} (T : typedS d = true) : ∀ (k : Nat) (t : Int) (l : List Int), isT d t = true → Inv d l → Inv d (contS d k t l) ∧ l.length ≤ (contS d k t l).length
  | 0, _, _, _, I => ⟨I, Nat.le_refl _⟩
  | k + 1, t, l, h1, I => by
    unfold contS
    split
    · exact ⟨I, Nat.le_refl _⟩
    · rename_i hc
      have h2 : t ∉ l := fun h => hc (.inr h)
      refine fold_keep (P := fun s => Inv d s ∧ l.length ≤ s.length) (fun s c hc hs => ?_) ⟨I.add h1 h2, by simp⟩
      refine fold_keep (P := fun s => Inv d s ∧ l.length ≤ s.length) (fun s f hf hs => ?_) hs
      have := contS_inv T k f s (fld_isT T hc hf) hs.1
      exact ⟨this.1, by omega⟩
abbrev rV (h : Hp) (l : List Int) : V := rowV h 1 (l.map eI)
abbrev rH (h : Hp) (l : List Int) : Hp := rowH h 1 (l.map eI)

theorem row_sl (h : Hp) (l : List Int) : Sl (rH h l) (norm (rV h l)) l := by
  by_cases h0 : l = []
  · subst h0
    exact Sl.data h []
  · have e : rV h l = .own h.next 1 l.length 0 l.length := by
      unfold rV rowV; rw [if_neg (by simpa using h0), List.length_map]
    rw [e, norm_own]
    refine Sl.own ?_
    unfold rH rowH
    rw [if_neg (by simpa using h0)]
    have := row_get_alloc h 1 ((l.map eI).map V.d)
    rw [List.length_map, List.length_map] at this
    exact this
theorem row_app (h : Hp) (l : List Int) (t : Int) (hl : l.length < 2 ^ 20) : app 1 8 (rH h l) (rV h l) (.tl [.d (eI t)] (some false)) = some (rV h (l ++ [t]), rH h (l ++ [t])) := by
  have := rowD_app h (es := 1) (b := 8) (l := l.map eI) (x := eI t) rfl (by simp only [List.length_map, roomB]; omega) (fun y hy => by obtain ⟨w, _, rfl⟩ := List.mem_map.1 hy; rfl)
  rw [this]
  unfold rV rH
  rw [List.map_append]; rfl

theorem any_mem (l : List Int) (t : Int) : (l.any fun x => x == t) = decide (t ∈ l) := by
  induction l with
  | nil => simp
  | cons a l ih =>
    rw [List.any_cons, ih]
    by_cases h : a = t
    · subst h; simp
    · have h' : ¬ t = a := fun e => h e.symm
      simp [h, h']
theorem rflat_ok {d : List Dt} (B : Bd d) {t : Int} (hT : isT d t = true) (h : Hp) : callW tab 60 [.d (eDs d), .d (eI t)] h = some (.d (.bool (flatS d t)), h) := by
  apply call_wp (fn := f60) rfl rfl
  have hbl := B.len
  unfold flatS
  rw [hT, Bool.true_and]
  rcases tcase d t with h0 | h0 | ⟨m, y, rfl, hy⟩
  · have ht : t = 0 := by simp only [isT, Bool.and_eq_true, decide_eq_true_eq] at hT; omega
    subst ht
    rw [consOf_lo (by decide)]
    (simp only [e60, List.any_nil, ws, wsl, opX, int, Zv.bool, intBin, reduceIte, ↓reduceIte, Nat.reduceEqDiff, Nat.reduceAdd, Nat.reduceSub, Nat.reduceLeDiff, Int.reduceLT, Int.reduceLE, Int.reduceEq, Int.reduceBEq, Int.reduceNe, Int.reduceBNe, reduceCtorEq, Nat.reduceBEq] <;> repeat' (first | refine wpG_s ?_ ?_ | refine wpC_s ?_ ?_) <;> intro hgo <;> (try simp only [decide_eq_true_eq, decide_eq_false_iff_not, Bool.not_eq_true', Bool.not_eq_false'] at hgo) <;> simp only [hgo, e60, List.any_nil, ws, wsl, opX, int, Zv.bool, intBin, reduceIte, ↓reduceIte, Nat.reduceEqDiff, Nat.reduceAdd, Nat.reduceSub, Nat.reduceLeDiff, Int.reduceLT, Int.reduceLE, Int.reduceEq, Int.reduceBEq, Int.reduceNe, Int.reduceBNe, reduceCtorEq, Nat.reduceBEq])
  · simp only [isT, Bool.and_eq_true, decide_eq_true_eq] at hT; omega
  · rw [consOf_at hy]
    have b := B.at hy
    have hw := wrap_sub1 (n := m) (by omega)
    have e0 : (((m : Int) + 1) == 0) = false := by simp; omega
    have hloop := loop_any (T := tab) (a := f60l0) (l := y.cons) (p := hasF) (f := fun n => [(5, .d (eCs y.cons)), (6, int n)]) (h := h)
        (by intro n x hx hlt hp; unfold hasF at hp; simp only [decide_eq_true_eq, decide_eq_false_iff_not] at hp; (have hp' : ¬ (0 : Int) < (x.flds.length : Int) := by omega); all_goals (apply wq_ex.1; (simp only [hlt, hp, e60, iaC hx, wrap_succ (show n < 2 ^ 62 by omega), hp', ws, wsl, opX, int, Zv.bool, intBin, reduceIte, ↓reduceIte, Nat.reduceEqDiff, Nat.reduceAdd, Nat.reduceSub, Nat.reduceLeDiff, Int.reduceLT, Int.reduceLE, Int.reduceEq, Int.reduceBEq, Int.reduceNe, Int.reduceBNe, reduceCtorEq, Nat.reduceBEq] <;> repeat' (first | refine wpG_s ?_ ?_ | refine wpC_s ?_ ?_) <;> intro hgo <;> (try simp only [decide_eq_true_eq, decide_eq_false_iff_not, Bool.not_eq_true', Bool.not_eq_false'] at hgo) <;> simp only [hgo, hlt, hp, e60, iaC hx, wrap_succ (show n < 2 ^ 62 by omega), hp', ws, wsl, opX, int, Zv.bool, intBin, reduceIte, ↓reduceIte, Nat.reduceEqDiff, Nat.reduceAdd, Nat.reduceSub, Nat.reduceLeDiff, Int.reduceLT, Int.reduceLE, Int.reduceEq, Int.reduceBEq, Int.reduceNe, Int.reduceBNe, reduceCtorEq, Nat.reduceBEq])))
        (by intro n x hx hlt hp; unfold hasF at hp; simp only [decide_eq_true_eq, decide_eq_false_iff_not] at hp; (have hp' : (0 : Int) < (x.flds.length : Int) := by omega); all_goals (apply wq_ex.1; (simp only [hlt, hp, e60, iaC hx, wrap_succ (show n < 2 ^ 62 by omega), hp', ws, wsl, opX, int, Zv.bool, intBin, reduceIte, ↓reduceIte, Nat.reduceEqDiff, Nat.reduceAdd, Nat.reduceSub, Nat.reduceLeDiff, Int.reduceLT, Int.reduceLE, Int.reduceEq, Int.reduceBEq, Int.reduceNe, Int.reduceBNe, reduceCtorEq, Nat.reduceBEq] <;> repeat' (first | refine wpG_s ?_ ?_ | refine wpC_s ?_ ?_) <;> intro hgo <;> (try simp only [decide_eq_true_eq, decide_eq_false_iff_not, Bool.not_eq_true', Bool.not_eq_false'] at hgo) <;> simp only [hgo, hlt, hp, e60, iaC hx, wrap_succ (show n < 2 ^ 62 by omega), hp', ws, wsl, opX, int, Zv.bool, intBin, reduceIte, ↓reduceIte, Nat.reduceEqDiff, Nat.reduceAdd, Nat.reduceSub, Nat.reduceLeDiff, Int.reduceLT, Int.reduceLE, Int.reduceEq, Int.reduceBEq, Int.reduceNe, Int.reduceBNe, reduceCtorEq, Nat.reduceBEq]) <;> rfl))
        (by apply wq_ex.1; (simp only [e60, ws, wsl, opX, int, Zv.bool, intBin, reduceIte, ↓reduceIte, Nat.reduceEqDiff, Nat.reduceAdd, Nat.reduceSub, Nat.reduceLeDiff, Int.reduceLT, Int.reduceLE, Int.reduceEq, Int.reduceBEq, Int.reduceNe, Int.reduceBNe, reduceCtorEq, Nat.reduceBEq] <;> repeat' (first | refine wpG_s ?_ ?_ | refine wpC_s ?_ ?_) <;> intro hgo <;> (try simp only [decide_eq_true_eq, decide_eq_false_iff_not, Bool.not_eq_true', Bool.not_eq_false'] at hgo) <;> simp only [hgo, e60, ws, wsl, opX, int, Zv.bool, intBin, reduceIte, ↓reduceIte, Nat.reduceEqDiff, Nat.reduceAdd, Nat.reduceSub, Nat.reduceLeDiff, Int.reduceLT, Int.reduceLE, Int.reduceEq, Int.reduceBEq, Int.reduceNe, Int.reduceBNe, reduceCtorEq, Nat.reduceBEq]) <;> rfl)
        (by simp) (by simp)
    simp only [int, Zv.bool, Int.cast_ofNat_Int] at hloop
    (simp only [e60, e0, hw, iaD hy, wq_of hloop, ws, wsl, opX, int, Zv.bool, intBin, reduceIte, ↓reduceIte, Nat.reduceEqDiff, Nat.reduceAdd, Nat.reduceSub, Nat.reduceLeDiff, Int.reduceLT, Int.reduceLE, Int.reduceEq, Int.reduceBEq, Int.reduceNe, Int.reduceBNe, reduceCtorEq, Nat.reduceBEq] <;> repeat' (first | refine wpG_s ?_ ?_ | refine wpC_s ?_ ?_) <;> intro hgo <;> (try simp only [decide_eq_true_eq, decide_eq_false_iff_not, Bool.not_eq_true', Bool.not_eq_false'] at hgo) <;> simp only [hgo, e60, e0, hw, iaD hy, wq_of hloop, ws, wsl, opX, int, Zv.bool, intBin, reduceIte, ↓reduceIte, Nat.reduceEqDiff, Nat.reduceAdd, Nat.reduceSub, Nat.reduceLeDiff, Int.reduceLT, Int.reduceLE, Int.reduceEq, Int.reduceBEq, Int.reduceNe, Int.reduceBNe, reduceCtorEq, Nat.reduceBEq])
    cases y.cons.any hasF <;> (simp only [e60, ws, wsl, opX, int, Zv.bool, intBin, reduceIte, ↓reduceIte, Nat.reduceEqDiff, Nat.reduceAdd, Nat.reduceSub, Nat.reduceLeDiff, Int.reduceLT, Int.reduceLE, Int.reduceEq, Int.reduceBEq, Int.reduceNe, Int.reduceBNe, reduceCtorEq, Nat.reduceBEq] <;> repeat' (first | refine wpG_s ?_ ?_ | refine wpC_s ?_ ?_) <;> intro hgo <;> (try simp only [decide_eq_true_eq, decide_eq_false_iff_not, Bool.not_eq_true', Bool.not_eq_false'] at hgo) <;> simp only [hgo, e60, ws, wsl, opX, int, Zv.bool, intBin, reduceIte, ↓reduceIte, Nat.reduceEqDiff, Nat.reduceAdd, Nat.reduceSub, Nat.reduceLeDiff, Int.reduceLT, Int.reduceLE, Int.reduceEq, Int.reduceBEq, Int.reduceNe, Int.reduceBNe, reduceCtorEq, Nat.reduceBEq])
-- ws, wsl, opX, int, Zv.bool, intBin, reduceIte, ↓reduceIte, Nat.reduceEqDiff, Nat.reduceAdd, Nat.reduceSub, Nat.reduceLeDiff, Int.reduceLT, Int.reduceLE, Int.reduceEq, Int.reduceBEq, Int.reduceNe, Int.reduceBNe, reduceCtorEq, Nat.reduceBEq
end Zc18
