/-
  A type that contains itself.
-/
import Derived.Test.YtimjofcjjgppbaaZc17R16
set_option linter.unusedSimpArgs false
set_option maxHeartbeats 4000000
namespace Zc17
open Go Zv Zs

abbrev sEndless : ByteArray := ⟨#[69, 110, 100, 108, 101, 115, 115]⟩
abbrev sMore : ByteArray := ⟨#[77, 111, 114, 101]⟩
abbrev sStop : ByteArray := ⟨#[83, 116, 111, 112]⟩
def cM (N : Nat) : Cn := ⟨sMore, [0, ((N + 1 : Nat) : Int)]⟩
def cS : Cn := ⟨sStop, []⟩
def zX (N : Nat) : Dt := ⟨sEndless, [cM N]⟩
def zY (N : Nat) : Dt := ⟨sEndless, [cM N, cS]⟩

theorem mk_app1 {M : List Bool} (b : Bool) {n : Nat} (h : n < M.length) : mk (M ++ [b]) (n : Int) = mk M (n : Int) := by
  unfold mk
  rw [Int.toNat_natCast, List.getD_eq_getElem?_getD, List.getD_eq_getElem?_getD, List.getElem?_append_left h]
theorem mk_last (M : List Bool) (b : Bool) : mk (M ++ [b]) ((M.length : Nat) : Int) = b := by
  unfold mk
  rw [Int.toNat_natCast, List.getD_eq_getElem?_getD, List.getElem?_append_right (Nat.le_refl _)]
  simp
theorem all_congr' {α : Type} {p q : α → Bool} : ∀ {l : List α}, (∀ x, x ∈ l → p x = q x) → l.all p = l.all q
  | [], _ => rfl
  | x :: l, h => by rw [List.all_cons, List.all_cons, h x List.mem_cons_self, all_congr' fun y hy => h y (List.mem_cons_of_mem x hy)]
theorem any_congr' {α : Type} {p q : α → Bool} : ∀ {l : List α}, (∀ x, x ∈ l → p x = q x) → l.any p = l.any q
  | [], _ => rfl
  | x :: l, h => by rw [List.any_cons, List.any_cons, h x List.mem_cons_self, any_congr' fun y hy => h y (List.mem_cons_of_mem x hy)]
theorem stp_app {d : List Dt} (Ty : typedS d = true) (z : Dt) {M : List Bool} (hM : M.length = d.length + 1) (b : Bool) {i : Nat} (hi : i < d.length) : stp (d ++ [z]) (M ++ [b]) i = stp d M i ++ [b] := by
  obtain ⟨y, hy⟩ := get_of_lt hi
  have hy' : (d ++ [z])[i]? = some y := by rw [List.getElem?_append_left hi]; exact hy
  rw [stp_at hy, stp_at hy']
  have : y.cons.any (allD (M ++ [b])) = y.cons.any (allD M) := by
    refine any_congr' fun c hc => all_congr' fun f hf => ?_
    obtain ⟨n, rfl, hn⟩ := typed_at Ty (List.mem_of_getElem? hy) hc hf
    exact mk_app1 b (by omega)
  rw [this]
  split
  · rw [List.set_append_left _ _ (by omega)]
  · rfl
theorem passN_app {d : List Dt} (Ty : typedS d = true) (z : Dt) {M : List Bool} (hM : M.length = d.length + 1) (b : Bool) : ∀ n, n ≤ d.length → passN (d ++ [z]) (M ++ [b]) n = passN d M n ++ [b]
  | 0, _ => rfl
  | n + 1, h => by
    rw [passN, passN_app Ty z hM b n (by omega), stp_app Ty z (by rw [passN_len]; exact hM) b (by omega)]
    rfl
theorem pass_app {d : List Dt} (Ty : typedS d = true) (z : Dt) {M : List Bool} (hM : M.length = d.length + 1) (b : Bool) : pass (d ++ [z]) (M ++ [b]) = if z.cons.any (allD (pass d M ++ [b])) = true then pass d M ++ [true] else pass d M ++ [b] := by
  unfold pass
  rw [List.length_append]
  show stp (d ++ [z]) (passN (d ++ [z]) (M ++ [b]) d.length) d.length = _
  rw [passN_app Ty z hM b d.length (Nat.le_refl _)]
  have hz : (d ++ [z])[d.length]? = some z := by simp
  rw [stp_at hz]
  split
  · have hl : (passN d M d.length).length = d.length + 1 := by rw [passN_len]; exact hM
    rw [← hl, List.set_append_right _ _ (Nat.le_refl _)]
    simp
  · rfl
theorem marks_app (d : List Dt) (z : Dt) : marks (d ++ [z]) = marks d ++ [false] := by
  unfold marks
  rw [List.length_append, List.length_singleton, List.replicate_succ', List.cons_append]
theorem marks_len (d : List Dt) : (marks d).length = d.length + 1 := by simp [marks]
theorem iter_x {d : List Dt} (Ty : typedS d = true) : ∀ n, iter (d ++ [zX d.length]) (marks (d ++ [zX d.length])) n = iter d (marks d) n ++ [false]
  | 0 => marks_app _ _
  | n + 1 => by
    rw [iter, iter_x Ty n, pass_app Ty _ (by rw [iter_len, marks_len])]
    have hl : (pass d (iter d (marks d) n)).length = d.length + 1 := by rw [pass, passN_len, iter_len, marks_len]
    have hm := mk_last (pass d (iter d (marks d) n)) false
    rw [hl] at hm
    have : (zX d.length).cons.any (allD (pass d (iter d (marks d) n) ++ [false])) = false := by
      simp [zX, cM, allD] at hm ⊢
      intro _; exact hm
    rw [this]; rfl
theorem iter_y {d : List Dt} (Ty : typedS d = true) : ∀ n, iter (d ++ [zY d.length]) (marks (d ++ [zY d.length])) n = iter d (marks d) n ++ [decide (0 < n)]
  | 0 => marks_app _ _
  | n + 1 => by
    rw [iter, iter_y Ty n, pass_app Ty _ (by rw [iter_len, marks_len])]
    have : ∀ M, (zY d.length).cons.any (allD M) = true := by
      intro M; simp [zY, cS, allD]
    rw [this]; rfl
theorem finite_x {d : List Dt} (Ty : typedS d = true) : finiteS (d ++ [zX d.length]) = false := by
  unfold finiteS; rw [iter_x Ty]; simp
theorem finite_y {d : List Dt} (Ty : typedS d = true) (F : finiteS d = true) : finiteS (d ++ [zY d.length]) = true := by
  unfold finiteS at F ⊢
  rw [iter_y Ty, List.length_append, List.length_singleton]
  have : iter d (marks d) (d.length + 1 + 1) = iter d (marks d) (d.length + 1) := iter_fix d
  rw [this, List.all_append, F]; simp

theorem isT_app {d : List Dt} (z : Dt) {t : Int} (h : isT d t = true) : isT (d ++ [z]) t = true := by
  simp only [isT, Bool.and_eq_true, decide_eq_true_eq, List.length_append, List.length_singleton] at h ⊢
  omega
theorem typed_app {d : List Dt} (Ty : typedS d = true) (z : Dt) (hz : z.cons.all (fun c => c.flds.all (isT (d ++ [z]))) = true) : typedS (d ++ [z]) = true := by
  unfold typedS
  rw [List.all_append]
  have : d.all (fun y => y.cons.all fun c => c.flds.all (isT (d ++ [z]))) = true := by
    refine List.all_eq_true.2 fun y hy => List.all_eq_true.2 fun c hc => List.all_eq_true.2 fun f hf => isT_app z ?_
    exact List.all_eq_true.1 (List.all_eq_true.1 (List.all_eq_true.1 Ty y hy) c hc) f hf
  rw [this]; simpa using hz
theorem many_app {d : List Dt} (h : manyS d = false) (hl : d.length < 64) (z : Dt) (hz : (decide (16 < z.cons.length) || z.cons.any fun c => decide (6 < c.flds.length)) = false) : manyS (d ++ [z]) = false := by
  unfold manyS at h ⊢
  rw [Bool.or_eq_false_iff] at h
  rw [List.any_append, h.2]
  have : ¬ 64 < (d ++ [z]).length := by simp; omega
  simp only [decide_eq_false this, Bool.false_or, List.any_cons, List.any_nil, Bool.or_false]
  exact hz
theorem formed_app {d : List Dt} (h : formedS d = true) (z : Dt) (hz : badS z = false) : formedS (d ++ [z]) = true := by
  cases d with
  | nil => cases h
  | cons y ds =>
    unfold formedS at h ⊢
    simp only [Bool.and_eq_true, Bool.not_eq_true', List.cons_append] at h ⊢
    refine ⟨h.1, ?_⟩
    rw [← List.cons_append, List.any_append, h.2]
    simp [hz]
theorem coN_all (d : List Dt) : coN d d.length = d.flatMap fun y => y.cons.map Cn.name := by unfold coN; rw [List.take_length]
theorem twice_app {d : List Dt} (V : Valid d) (z : Dt) (h1 : z.name ∉ tyN d d.length) (h2 : (coN d d.length ++ z.cons.map Cn.name).Nodup) : twiceS (d ++ [z]) = false := by
  refine twice_f ?_ ?_
  · rw [tyN_all, List.map_append, ← List.cons_append, ← tyN_all]
    exact nd_add V.ty h1
  · rw [coN_all, List.flatMap_append, ← coN_all]
    simpa using h2
theorem not_type {d : List Dt} {s : ByteArray} (hs : ¬ s = sInt) (h : (typeS d s).2 = false) : s ∉ tyN d d.length := by
  unfold typeS at h
  rw [if_neg hs] at h
  cases hq : fst? (fun y : Dt => decide (y.name = s)) 0 d with
  | some q => rw [hq] at h; cases h
  | none =>
    rw [fst_none] at hq
    rw [tyN_all]
    intro hm
    rcases List.mem_cons.1 hm with h | h
    · exact hs h
    · obtain ⟨y, hy, he⟩ := List.mem_map.1 h
      have : d.any (fun y => decide (y.name = s)) = true := List.any_eq_true.2 ⟨y, hy, by simp [he]⟩
      rw [hq] at this; cases this
theorem not_con {d : List Dt} {s : ByteArray} (h : (conS d s).2.2 = false) : s ∉ coN d d.length := by
  unfold conS at h
  cases hq : fst? (fun y : Dt => y.cons.any fun c => decide (c.name = s)) 0 d with
  | some q => rw [hq] at h; cases h
  | none =>
    rw [fst_none] at hq
    rw [coN_all]
    intro hm
    obtain ⟨y, hy, he⟩ := List.mem_flatMap.1 hm
    obtain ⟨c, hc, he⟩ := List.mem_map.1 he
    have : d.any (fun y => y.cons.any fun c => decide (c.name = s)) = true := List.any_eq_true.2 ⟨y, hy, List.any_eq_true.2 ⟨c, hc, by simp [he]⟩⟩
    rw [hq] at this; cases this
theorem bad_x (n : Nat) : badS (zX n) = false := by
  have e1 : nameS sEndless = true := by decide
  have e2 : nameS sMore = true := by decide
  simp [badS, zX, cM, e1, e2]
theorem bad_y (n : Nat) : badS (zY n) = false := by
  have e1 : nameS sEndless = true := by decide
  have e2 : nameS sMore = true := by decide
  have e3 : nameS sStop = true := by decide
  simp [badS, zY, cM, cS, e1, e2, e3]
theorem check_x {d : List Dt} (V : Valid d) (hl : d.length < 64) (h1 : (typeS d sEndless).2 = false) (h2 : (conS d sMore).2.2 = false) : checkS (d ++ [zX d.length]) = 7 := by
  have a := many_app V.many hl (zX d.length) (by simp [zX, cM])
  have b := formed_app V.formed (zX d.length) (bad_x _)
  have c := twice_app V (zX d.length) (not_type (show ¬ sEndless = sInt by decide) h1) (nd_add V.co (not_con h2))
  have e : typedS (d ++ [zX d.length]) = true := typed_app V.typed _ (by simp [zX, cM, isT]; omega)
  unfold checkS
  rw [a, b, c, e, finite_x V.typed]
  simp
theorem check_y {d : List Dt} (V : Valid d) (hl : d.length < 64) (h1 : (typeS d sEndless).2 = false) (h2 : (conS d sMore).2.2 = false) (h3 : (conS d sStop).2.2 = false) : checkS (d ++ [zY d.length]) = 0 := by
  have a := many_app V.many hl (zY d.length) (by simp [zY, cM, cS])
  have b := formed_app V.formed (zY d.length) (bad_y _)
  have hne : ¬ sStop = sMore := by decide
  have n1 := nd_add V.co (not_con h2)
  have n2 : sStop ∉ coN d d.length ++ [sMore] := by
    intro hm
    rcases List.mem_append.1 hm with h | h
    · exact not_con h3 h
    · simp at h
  have n3 := nd_add n1 n2
  rw [List.append_assoc] at n3
  have c := twice_app V (zY d.length) (not_type (show ¬ sEndless = sInt by decide) h1) n3
  have e : typedS (d ++ [zY d.length]) = true := typed_app V.typed _ (by simp [zY, cM, cS, isT]; omega)
  unfold checkS
  rw [a, b, c, e, finite_y V.typed V.finite]
  simp
-- ws, wsl, opX, int, Zv.bool, intBin, reduceIte, ↓reduceIte, Nat.reduceEqDiff, Nat.reduceAdd, Nat.reduceSub, Nat.reduceLeDiff, Int.reduceLT, Int.reduceLE, Int.reduceEq, Int.reduceBEq, Int.reduceNe, Int.reduceBNe, reduceCtorEq, Nat.reduceBEq
end Zc17
