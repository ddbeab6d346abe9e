/-
  No name twice: the reference.
-/
import Derived.Test.YtfbkbopmenilkaaZc27R11
set_option linter.unusedSimpArgs false
set_option maxHeartbeats 4000000
namespace Zc27
open Go Zv Zs

abbrev eS (s : ByteArray) : D := .str s
/-- A slice of strings, as it is read. -/
structure SlS (h : Hp) (v : V) (l : List ByteArray) : Prop where
  len : lenL v = some (.d (.int .i64 l.length))
  at_ : ∀ (n : Nat) (x : ByteArray), l[n]? = some x → ∃ a, ia 1 v (.d (.int .i64 (n : Int))) = some a ∧ ld false 1 h a = some (.d (.str x))
theorem SlS.own {h : Hp} {n : Nat} {l : List ByteArray} (hr : h.row n l.length = some (1, (l.map eS).map .d)) : SlS h (.own n 1 l.length 0 l.length) l := by
  refine ⟨lenL_own .., fun k x hx => ⟨.ptr n l.length k 0, ?_, ?_⟩⟩
  · have := lt_of_get hx
    simp [ia, ixOf_nat, this]
  · rw [ld_one, hr]
    simp [hx, V.cells, D.cells]
theorem SlS.nil (h : Hp) : SlS h (.d (.lst [])) [] := ⟨rfl, fun n x hx => by simp at hx⟩
theorem in_ok {h : Hp} {v : V} {l : List ByteArray} (S : SlS h v l) (hl : l.length < 2 ^ 60) (s : ByteArray) : callW tab 95 [v, .d (.str s)] h = some (.d (.bool (decide (s ∈ l))), h) := by
  have e : decide (s ∈ l) = l.any fun x => decide (x = s) := by
    cases hq : l.any fun x => decide (x = s) with
    | true => rw [decide_eq_true_eq]; simpa using hq
    | false =>
      rw [decide_eq_false_iff_not]
      intro hm
      have : l.any (fun x => decide (x = s)) = true := List.any_eq_true.2 ⟨s, hm, by simp⟩
      rw [hq] at this; cases this
  rw [e]
  refine call_wp (fn := f95) rfl rfl ?_
  have hloop := loop_any (T := tab) (a := f95l0) (l := l) (p := (fun x => decide (x = s))) (f := fun n => [(0, v), (1, .d (.str s)), (5, int n)]) (h := h)
      (by intro n x hx hlt hp; obtain ⟨a, ha, hla⟩ := S.at_ n x hx; simp only [decide_eq_true_eq, decide_eq_false_iff_not] at hp; all_goals (apply wq_ex.1; (simp only [hlt, hp, e95, S.len, ha, hla, wrap_succ (show n < 2 ^ 62 by omega), ws, wsl, opX, int, Zv.bool, intBin, reduceIte, ↓reduceIte, Nat.reduceEqDiff, Nat.reduceAdd, Nat.reduceSub, Nat.reduceLeDiff, Int.reduceLT, Int.reduceLE, Int.reduceEq, Int.reduceBEq, Int.reduceNe, Int.reduceBNe, reduceCtorEq, Nat.reduceBEq] <;> repeat' (first | refine wpG_s ?_ ?_ | refine wpC_s ?_ ?_) <;> intro hgo <;> (try simp only [decide_eq_true_eq, decide_eq_false_iff_not, Bool.not_eq_true', Bool.not_eq_false'] at hgo) <;> simp only [hgo, hlt, hp, e95, S.len, ha, hla, wrap_succ (show n < 2 ^ 62 by omega), ws, wsl, opX, int, Zv.bool, intBin, reduceIte, ↓reduceIte, Nat.reduceEqDiff, Nat.reduceAdd, Nat.reduceSub, Nat.reduceLeDiff, Int.reduceLT, Int.reduceLE, Int.reduceEq, Int.reduceBEq, Int.reduceNe, Int.reduceBNe, reduceCtorEq, Nat.reduceBEq])))
      (by intro n x hx hlt hp; obtain ⟨a, ha, hla⟩ := S.at_ n x hx; simp only [decide_eq_true_eq, decide_eq_false_iff_not] at hp; all_goals (apply wq_ex.1; (simp only [hlt, hp, e95, S.len, ha, hla, wrap_succ (show n < 2 ^ 62 by omega), ws, wsl, opX, int, Zv.bool, intBin, reduceIte, ↓reduceIte, Nat.reduceEqDiff, Nat.reduceAdd, Nat.reduceSub, Nat.reduceLeDiff, Int.reduceLT, Int.reduceLE, Int.reduceEq, Int.reduceBEq, Int.reduceNe, Int.reduceBNe, reduceCtorEq, Nat.reduceBEq] <;> repeat' (first | refine wpG_s ?_ ?_ | refine wpC_s ?_ ?_) <;> intro hgo <;> (try simp only [decide_eq_true_eq, decide_eq_false_iff_not, Bool.not_eq_true', Bool.not_eq_false'] at hgo) <;> simp only [hgo, hlt, hp, e95, S.len, ha, hla, wrap_succ (show n < 2 ^ 62 by omega), ws, wsl, opX, int, Zv.bool, intBin, reduceIte, ↓reduceIte, Nat.reduceEqDiff, Nat.reduceAdd, Nat.reduceSub, Nat.reduceLeDiff, Int.reduceLT, Int.reduceLE, Int.reduceEq, Int.reduceBEq, Int.reduceNe, Int.reduceBNe, reduceCtorEq, Nat.reduceBEq]) <;> rfl))
      (by apply wq_ex.1; (simp only [e95, S.len, ws, wsl, opX, int, Zv.bool, intBin, reduceIte, ↓reduceIte, Nat.reduceEqDiff, Nat.reduceAdd, Nat.reduceSub, Nat.reduceLeDiff, Int.reduceLT, Int.reduceLE, Int.reduceEq, Int.reduceBEq, Int.reduceNe, Int.reduceBNe, reduceCtorEq, Nat.reduceBEq] <;> repeat' (first | refine wpG_s ?_ ?_ | refine wpC_s ?_ ?_) <;> intro hgo <;> (try simp only [decide_eq_true_eq, decide_eq_false_iff_not, Bool.not_eq_true', Bool.not_eq_false'] at hgo) <;> simp only [hgo, e95, S.len, ws, wsl, opX, int, Zv.bool, intBin, reduceIte, ↓reduceIte, Nat.reduceEqDiff, Nat.reduceAdd, Nat.reduceSub, Nat.reduceLeDiff, Int.reduceLT, Int.reduceLE, Int.reduceEq, Int.reduceBEq, Int.reduceNe, Int.reduceBNe, reduceCtorEq, Nat.reduceBEq]) <;> rfl)
      (by simp) (by simp)
  simp only [int, Zv.bool, Int.cast_ofNat_Int] at hloop
  (simp only [e95, wq_of hloop, ws, wsl, opX, int, Zv.bool, intBin, reduceIte, ↓reduceIte, Nat.reduceEqDiff, Nat.reduceAdd, Nat.reduceSub, Nat.reduceLeDiff, Int.reduceLT, Int.reduceLE, Int.reduceEq, Int.reduceBEq, Int.reduceNe, Int.reduceBNe, reduceCtorEq, Nat.reduceBEq] <;> repeat' (first | refine wpG_s ?_ ?_ | refine wpC_s ?_ ?_) <;> intro hgo <;> (try simp only [decide_eq_true_eq, decide_eq_false_iff_not, Bool.not_eq_true', Bool.not_eq_false'] at hgo) <;> simp only [hgo, e95, wq_of hloop, ws, wsl, opX, int, Zv.bool, intBin, reduceIte, ↓reduceIte, Nat.reduceEqDiff, Nat.reduceAdd, Nat.reduceSub, Nat.reduceLeDiff, Int.reduceLT, Int.reduceLE, Int.reduceEq, Int.reduceBEq, Int.reduceNe, Int.reduceBNe, reduceCtorEq, Nat.reduceBEq])
  cases l.any fun x => decide (x = s) <;> (simp only [e95, ws, wsl, opX, int, Zv.bool, intBin, reduceIte, ↓reduceIte, Nat.reduceEqDiff, Nat.reduceAdd, Nat.reduceSub, Nat.reduceLeDiff, Int.reduceLT, Int.reduceLE, Int.reduceEq, Int.reduceBEq, Int.reduceNe, Int.reduceBNe, reduceCtorEq, Nat.reduceBEq] <;> repeat' (first | refine wpG_s ?_ ?_ | refine wpC_s ?_ ?_) <;> intro hgo <;> (try simp only [decide_eq_true_eq, decide_eq_false_iff_not, Bool.not_eq_true', Bool.not_eq_false'] at hgo) <;> simp only [hgo, e95, ws, wsl, opX, int, Zv.bool, intBin, reduceIte, ↓reduceIte, Nat.reduceEqDiff, Nat.reduceAdd, Nat.reduceSub, Nat.reduceLeDiff, Int.reduceLT, Int.reduceLE, Int.reduceEq, Int.reduceBEq, Int.reduceNe, Int.reduceBNe, reduceCtorEq, Nat.reduceBEq])

section
variable (h : Hp)
def tV (T : List ByteArray) : V := .own h.next 1 T.length 0 T.length
def cV (C : List ByteArray) : V := if C = [] then .tl [] (some true) else .own (h.next + 1) 1 C.length 0 C.length
def cT (C : List ByteArray) : List (Nat × Ob) := if C = [] then [] else [(h.next + 1, .arr 1 ((C.map eS).map .d))]
def cQ (C : List ByteArray) : Nat := if C = [] then h.next + 1 else h.next + 2
def HS (T C : List ByteArray) : Hp := ⟨cT h C ++ (h.next, .arr 1 ((T.map eS).map .d)) :: h.objs, cQ h C⟩
theorem HS_T (T C) : (HS h T C).row h.next T.length = some (1, (T.map eS).map .d) := by
  refine row_look ?_ (by simp)
  unfold HS cT
  split
  · exact look_hd ..
  · show look ((h.next + 1, _) :: (h.next, _) :: h.objs) h.next = _
    rw [look_tl _ _ (by omega), look_hd]
theorem HS_C (T C) (hc : C ≠ []) : (HS h T C).row (h.next + 1) C.length = some (1, (C.map eS).map .d) := by
  refine row_look ?_ (by simp)
  unfold HS cT
  rw [if_neg hc]
  exact look_hd ..
theorem HS_sT (T C) : SlS (HS h T C) (tV h T) T := SlS.own (HS_T h T C)
theorem HS_sC (T C) : SlS (HS h T C) (norm (cV h C)) C := by
  unfold cV
  split
  · rename_i h0; subst h0; exact SlS.nil _
  · rename_i h0; exact SlS.own (HS_C h T C h0)
theorem tV_norm (T) : norm (tV h T) = tV h T := rfl
theorem cell_s (l : List ByteArray) : allV 1 ((l.map eS).map V.d) = true := by
  simp [allV, V.cells, D.cells]
theorem HS_aT (T C) (s : ByteArray) (hT : T ≠ []) (hl : T.length < 2 ^ 20) : app 1 16 (HS h T C) (tV h T) (.tl [.d (.str s)] (some false)) = some (tV h (T ++ [s]), HS h (T ++ [s]) C) := by
  unfold app
  have hx : allV 1 [V.d (.str s)] = true := cell_s [s]
  have hr := HS_T h T C
  simp only [elems, Option.bind_some, List.map_cons, List.map_nil, norm_d, hx, if_true, tV]
  have hlen : T.length + 1 ≤ 2 ^ 21 := by omega
  simp only [hr, Option.bind_some, List.length_map, Nat.zero_add, Nat.le_refl, and_self, if_true, List.isEmpty_cons, Bool.false_eq_true, if_false, List.length_cons, List.length_nil, List.length_append]
  rw [if_neg (by omega), if_pos (by unfold roomB; omega), List.take_of_length_le (by simp)]
  congr 2
  unfold HS cT Hp.set
  split
  · simp [upd]
  · simp [upd]
theorem HS_aC (T C) (s : ByteArray) (hl : C.length < 2 ^ 20) : app 1 16 (HS h T C) (cV h C) (.tl [.d (.str s)] (some false)) = some (cV h (C ++ [s]), HS h T (C ++ [s])) := by
  have hx : allV 1 [V.d (.str s)] = true := cell_s [s]
  have hne : C ++ [s] ≠ [] := by simp
  by_cases h0 : C = []
  · subst h0
    unfold app
    simp only [elems, Option.bind_some, List.map_cons, List.map_nil, norm_d, hx, if_true]
    simp [cV, HS, cT, cQ, Hp.alloc, allV, roomB]
  · have e1 : cV h C = .own (h.next + 1) 1 C.length 0 C.length := by unfold cV; rw [if_neg h0]
    have e2 : cV h (C ++ [s]) = .own (h.next + 1) 1 (C.length + 1) 0 (C.length + 1) := by unfold cV; rw [if_neg hne]; simp
    have hr := HS_C h T C h0
    rw [e1, e2]
    unfold app
    simp only [elems, Option.bind_some, List.map_cons, List.map_nil, norm_d, hx, if_true]
    simp only [hr, Option.bind_some, List.length_map, Nat.zero_add, Nat.le_refl, and_self, if_true, List.isEmpty_cons, Bool.false_eq_true, if_false, List.length_cons, List.length_nil]
    rw [if_neg (by omega), if_pos (by unfold roomB; omega), List.take_of_length_le (by simp)]
    congr 2
    unfold HS cT cQ Hp.set
    rw [if_neg h0, if_neg hne, if_neg h0, if_neg hne]
    simp [upd]
theorem HS_fin (T C) (x : D) : finS h (HS h T C) [.d x] = some (.d x, h) := by
  refine finS_suf (vs := [x]) ?_
  unfold HS cT
  split
  · exact suf_one _ _
  · exact suf_two _ _ _
end

theorem rtwice_ok {d : List Dt} (B : Bd d) (h : Hp) : callW tab 73 [.d (eDs d)] h = some (.d (.bool (twiceS d)), h) := by
  refine call_wp (fn := f73) rfl rfl ?_
  have hbl := B.len
  have ha0 : app 1 16 h (.tl [] (some true)) (.tl [.d (.str sInt)] (some false)) = some (tV h (tyN d 0), HS h (tyN d 0) (coN d 0)) := by
    unfold app
    have hx : allV 1 [V.d (.str sInt)] = true := cell_s [sInt]
    simp only [elems, Option.bind_some, List.map_cons, List.map_nil, norm_d, hx, if_true]
    simp [tyN, coN, tV, HS, cT, cQ, Hp.alloc, allV, roomB]
  have hc0 : (.tl [] (some true) : V) = cV h (coN d 0) := rfl
  have tl : ∀ n, (tyN d n).length ≤ 101 := by intro n; unfold tyN; simp; omega
  have tn : ∀ n, tyN d n ≠ [] := by intro n; simp [tyN]
  have cl : ∀ n y k, d[n]? = some y → (coK d n y k).length ≤ 3030 := by
    intro n y k hy
    have b := B.at hy
    have h1 : (coN d n).length ≤ n * 30 := by
      clear hy b
      induction n with
      | zero => simp [coN]
      | succ n ih =>
        by_cases hlt : n < d.length
        · obtain ⟨z, hz⟩ := get_of_lt hlt
          have b := B.at hz
          rw [coN_succ hz, List.length_append, List.length_map]
          omega
        · have : coN d (n + 1) = coN d n := by unfold coN; rw [List.take_of_length_le (by omega), List.take_of_length_le (by omega)]
          rw [this]; omega
    unfold coK
    rw [List.length_append, List.length_map, List.length_take]
    omega
  have inner : ∀ (m : Nat) (y : Dt), d[m]? = some y → (coN d m).Nodup → wp tab (.loop f73l0) [(0, .d (eDs d)), (3, tV h (tyN d (m + 1))), (4, cV h (coN d m)), (5, .d (.int .i64 m)), (6, .d (.int .i64 0))] (HS h (tyN d (m + 1)) (coN d m))
      (fun o => ∃ T C, (o = (.ret, [(2, .d (.bool true))], HS h T C) ∧ twiceS d = true) ∨ (o = (.exit 2, [(0, .d (eDs d)), (3, tV h (tyN d (m + 1))), (4, cV h (coN d (m + 1))), (5, .d (.int .i64 m)), (6, .d (.int .i64 y.cons.length)), (38, .d (.bool false))], HS h (tyN d (m + 1)) (coN d (m + 1))) ∧ (coN d (m + 1)).Nodup)) := by
    intro m y hy hnd
    have b := B.at hy
    refine loop_wp y.cons.length (fun k e h' => h' = HS h (tyN d (m + 1)) (coK d m y k) ∧ e = [(0, .d (eDs d)), (3, tV h (tyN d (m + 1))), (4, cV h (coK d m y k)), (5, .d (.int .i64 m)), (6, .d (.int .i64 k))] ∧ (coK d m y k).Nodup) _ ?_ ?_ y.cons.length 0 _ _ (by omega) ⟨by rw [coK_zero], by rw [coK_zero]; rfl, by rw [coK_zero]; exact hnd⟩
    · rintro k e h' hk ⟨rfl, rfl, hn⟩
      obtain ⟨c, hc⟩ := get_of_lt hk
      have hw := wrap_succ (show k < 2 ^ 62 by omega)
      have bl := cl m y k hy
      have hin := in_ok (HS_sC h (tyN d (m + 1)) (coK d m y k)) (by omega) c.name
      by_cases hm : c.name ∈ coK d m y k
      · have ht := twice_t2 hy hc hm
        (simp only [e73, hk, iaD hy, iaC hc, hin, hm, ht, ws, wsl, opX, int, Zv.bool, intBin, reduceIte, ↓reduceIte, Nat.reduceEqDiff, Nat.reduceAdd, Nat.reduceSub, Nat.reduceLeDiff, Int.reduceLT, Int.reduceLE, Int.reduceEq, Int.reduceBEq, Int.reduceNe, Int.reduceBNe, reduceCtorEq, Nat.reduceBEq] <;> repeat' (first | refine wpG_s ?_ ?_ | refine wpC_s ?_ ?_) <;> intro hgo <;> (try simp only [decide_eq_true_eq, decide_eq_false_iff_not, Bool.not_eq_true', Bool.not_eq_false'] at hgo) <;> simp only [hgo, e73, hk, iaD hy, iaC hc, hin, hm, ht, ws, wsl, opX, int, Zv.bool, intBin, reduceIte, ↓reduceIte, Nat.reduceEqDiff, Nat.reduceAdd, Nat.reduceSub, Nat.reduceLeDiff, Int.reduceLT, Int.reduceLE, Int.reduceEq, Int.reduceBEq, Int.reduceNe, Int.reduceBNe, reduceCtorEq, Nat.reduceBEq])
        exact ⟨_, _, rfl⟩
      · have hp := HS_aC h (tyN d (m + 1)) (coK d m y k) c.name (by omega)
        rw [← coK_succ hc] at hp
        (simp only [e73, hk, iaD hy, iaC hc, hin, hm, hp, hw, ws, wsl, opX, int, Zv.bool, intBin, reduceIte, ↓reduceIte, Nat.reduceEqDiff, Nat.reduceAdd, Nat.reduceSub, Nat.reduceLeDiff, Int.reduceLT, Int.reduceLE, Int.reduceEq, Int.reduceBEq, Int.reduceNe, Int.reduceBNe, reduceCtorEq, Nat.reduceBEq] <;> repeat' (first | refine wpG_s ?_ ?_ | refine wpC_s ?_ ?_) <;> intro hgo <;> (try simp only [decide_eq_true_eq, decide_eq_false_iff_not, Bool.not_eq_true', Bool.not_eq_false'] at hgo) <;> simp only [hgo, e73, hk, iaD hy, iaC hc, hin, hm, hp, hw, ws, wsl, opX, int, Zv.bool, intBin, reduceIte, ↓reduceIte, Nat.reduceEqDiff, Nat.reduceAdd, Nat.reduceSub, Nat.reduceLeDiff, Int.reduceLT, Int.reduceLE, Int.reduceEq, Int.reduceBEq, Int.reduceNe, Int.reduceBNe, reduceCtorEq, Nat.reduceBEq])
        rw [coK_succ hc]; exact nd_add hn hm
    · rintro e h' ⟨rfl, rfl, hn⟩
      rw [coK_all hy] at hn
      (simp only [e73, iaD hy, coK_all hy, ws, wsl, opX, int, Zv.bool, intBin, reduceIte, ↓reduceIte, Nat.reduceEqDiff, Nat.reduceAdd, Nat.reduceSub, Nat.reduceLeDiff, Int.reduceLT, Int.reduceLE, Int.reduceEq, Int.reduceBEq, Int.reduceNe, Int.reduceBNe, reduceCtorEq, Nat.reduceBEq] <;> repeat' (first | refine wpG_s ?_ ?_ | refine wpC_s ?_ ?_) <;> intro hgo <;> (try simp only [decide_eq_true_eq, decide_eq_false_iff_not, Bool.not_eq_true', Bool.not_eq_false'] at hgo) <;> simp only [hgo, e73, iaD hy, coK_all hy, ws, wsl, opX, int, Zv.bool, intBin, reduceIte, ↓reduceIte, Nat.reduceEqDiff, Nat.reduceAdd, Nat.reduceSub, Nat.reduceLeDiff, Int.reduceLT, Int.reduceLE, Int.reduceEq, Int.reduceBEq, Int.reduceNe, Int.reduceBNe, reduceCtorEq, Nat.reduceBEq])
      exact ⟨[], [], hn⟩
  (simp only [e73, ha0, ws, wsl, opX, int, Zv.bool, intBin, reduceIte, ↓reduceIte, Nat.reduceEqDiff, Nat.reduceAdd, Nat.reduceSub, Nat.reduceLeDiff, Int.reduceLT, Int.reduceLE, Int.reduceEq, Int.reduceBEq, Int.reduceNe, Int.reduceBNe, reduceCtorEq, Nat.reduceBEq] <;> repeat' (first | refine wpG_s ?_ ?_ | refine wpC_s ?_ ?_) <;> intro hgo <;> (try simp only [decide_eq_true_eq, decide_eq_false_iff_not, Bool.not_eq_true', Bool.not_eq_false'] at hgo) <;> simp only [hgo, e73, ha0, ws, wsl, opX, int, Zv.bool, intBin, reduceIte, ↓reduceIte, Nat.reduceEqDiff, Nat.reduceAdd, Nat.reduceSub, Nat.reduceLeDiff, Int.reduceLT, Int.reduceLE, Int.reduceEq, Int.reduceBEq, Int.reduceNe, Int.reduceBNe, reduceCtorEq, Nat.reduceBEq])
  refine loop_wp d.length (fun k e h' => h' = HS h (tyN d k) (coN d k) ∧ e = [(0, .d (eDs d)), (3, tV h (tyN d k)), (4, cV h (coN d k)), (5, .d (.int .i64 k))] ∧ (tyN d k).Nodup ∧ (coN d k).Nodup) _ ?_ ?_ d.length 0 _ _ (by omega) ⟨rfl, rfl, by simp [tyN], by simp [coN]⟩
  · rintro k e h' hk ⟨rfl, rfl, hn1, hn2⟩
    obtain ⟨y, hy⟩ := get_of_lt hk
    have hw := wrap_succ (show k < 2 ^ 62 by omega)
    have bl := tl k
    have hin := in_ok (HS_sT h (tyN d k) (coN d k)) (by omega) y.name
    by_cases hm : y.name ∈ tyN d k
    · have ht := twice_t1 hy hm
      (simp only [e73, hk, iaD hy, tV_norm, hin, hm, ht, HS_fin, ws, wsl, opX, int, Zv.bool, intBin, reduceIte, ↓reduceIte, Nat.reduceEqDiff, Nat.reduceAdd, Nat.reduceSub, Nat.reduceLeDiff, Int.reduceLT, Int.reduceLE, Int.reduceEq, Int.reduceBEq, Int.reduceNe, Int.reduceBNe, reduceCtorEq, Nat.reduceBEq] <;> repeat' (first | refine wpG_s ?_ ?_ | refine wpC_s ?_ ?_) <;> intro hgo <;> (try simp only [decide_eq_true_eq, decide_eq_false_iff_not, Bool.not_eq_true', Bool.not_eq_false'] at hgo) <;> simp only [hgo, e73, hk, iaD hy, tV_norm, hin, hm, ht, HS_fin, ws, wsl, opX, int, Zv.bool, intBin, reduceIte, ↓reduceIte, Nat.reduceEqDiff, Nat.reduceAdd, Nat.reduceSub, Nat.reduceLeDiff, Int.reduceLT, Int.reduceLE, Int.reduceEq, Int.reduceBEq, Int.reduceNe, Int.reduceBNe, reduceCtorEq, Nat.reduceBEq])
    · have hp := HS_aT h (tyN d k) (coN d k) y.name (tn k) (by omega)
      rw [← tyN_succ hy] at hp
      (simp only [e73, hk, iaD hy, tV_norm, hin, hm, hp, ws, wsl, opX, int, Zv.bool, intBin, reduceIte, ↓reduceIte, Nat.reduceEqDiff, Nat.reduceAdd, Nat.reduceSub, Nat.reduceLeDiff, Int.reduceLT, Int.reduceLE, Int.reduceEq, Int.reduceBEq, Int.reduceNe, Int.reduceBNe, reduceCtorEq, Nat.reduceBEq] <;> repeat' (first | refine wpG_s ?_ ?_ | refine wpC_s ?_ ?_) <;> intro hgo <;> (try simp only [decide_eq_true_eq, decide_eq_false_iff_not, Bool.not_eq_true', Bool.not_eq_false'] at hgo) <;> simp only [hgo, e73, hk, iaD hy, tV_norm, hin, hm, hp, ws, wsl, opX, int, Zv.bool, intBin, reduceIte, ↓reduceIte, Nat.reduceEqDiff, Nat.reduceAdd, Nat.reduceSub, Nat.reduceLeDiff, Int.reduceLT, Int.reduceLE, Int.reduceEq, Int.reduceBEq, Int.reduceNe, Int.reduceBNe, reduceCtorEq, Nat.reduceBEq])
      refine wq_mono (inner k y hy hn2) ?_
      rintro o ⟨T, C, ⟨rfl, ht⟩ | ⟨rfl, hn3⟩⟩
      · (simp only [e73, ht, HS_fin, ws, wsl, opX, int, Zv.bool, intBin, reduceIte, ↓reduceIte, Nat.reduceEqDiff, Nat.reduceAdd, Nat.reduceSub, Nat.reduceLeDiff, Int.reduceLT, Int.reduceLE, Int.reduceEq, Int.reduceBEq, Int.reduceNe, Int.reduceBNe, reduceCtorEq, Nat.reduceBEq] <;> repeat' (first | refine wpG_s ?_ ?_ | refine wpC_s ?_ ?_) <;> intro hgo <;> (try simp only [decide_eq_true_eq, decide_eq_false_iff_not, Bool.not_eq_true', Bool.not_eq_false'] at hgo) <;> simp only [hgo, e73, ht, HS_fin, ws, wsl, opX, int, Zv.bool, intBin, reduceIte, ↓reduceIte, Nat.reduceEqDiff, Nat.reduceAdd, Nat.reduceSub, Nat.reduceLeDiff, Int.reduceLT, Int.reduceLE, Int.reduceEq, Int.reduceBEq, Int.reduceNe, Int.reduceBNe, reduceCtorEq, Nat.reduceBEq])
      · (simp only [e73, hw, ws, wsl, opX, int, Zv.bool, intBin, reduceIte, ↓reduceIte, Nat.reduceEqDiff, Nat.reduceAdd, Nat.reduceSub, Nat.reduceLeDiff, Int.reduceLT, Int.reduceLE, Int.reduceEq, Int.reduceBEq, Int.reduceNe, Int.reduceBNe, reduceCtorEq, Nat.reduceBEq] <;> repeat' (first | refine wpG_s ?_ ?_ | refine wpC_s ?_ ?_) <;> intro hgo <;> (try simp only [decide_eq_true_eq, decide_eq_false_iff_not, Bool.not_eq_true', Bool.not_eq_false'] at hgo) <;> simp only [hgo, e73, hw, ws, wsl, opX, int, Zv.bool, intBin, reduceIte, ↓reduceIte, Nat.reduceEqDiff, Nat.reduceAdd, Nat.reduceSub, Nat.reduceLeDiff, Int.reduceLT, Int.reduceLE, Int.reduceEq, Int.reduceBEq, Int.reduceNe, Int.reduceBNe, reduceCtorEq, Nat.reduceBEq])
        exact ⟨by rw [tyN_succ hy]; exact nd_add hn1 hm, hn3⟩
  · rintro e h' ⟨rfl, rfl, hn1, hn2⟩
    (simp only [e73, HS_fin, twice_f hn1 hn2, ws, wsl, opX, int, Zv.bool, intBin, reduceIte, ↓reduceIte, Nat.reduceEqDiff, Nat.reduceAdd, Nat.reduceSub, Nat.reduceLeDiff, Int.reduceLT, Int.reduceLE, Int.reduceEq, Int.reduceBEq, Int.reduceNe, Int.reduceBNe, reduceCtorEq, Nat.reduceBEq] <;> repeat' (first | refine wpG_s ?_ ?_ | refine wpC_s ?_ ?_) <;> intro hgo <;> (try simp only [decide_eq_true_eq, decide_eq_false_iff_not, Bool.not_eq_true', Bool.not_eq_false'] at hgo) <;> simp only [hgo, e73, HS_fin, twice_f hn1 hn2, ws, wsl, opX, int, Zv.bool, intBin, reduceIte, ↓reduceIte, Nat.reduceEqDiff, Nat.reduceAdd, Nat.reduceSub, Nat.reduceLeDiff, Int.reduceLT, Int.reduceLE, Int.reduceEq, Int.reduceBEq, Int.reduceNe, Int.reduceBNe, reduceCtorEq, Nat.reduceBEq])
-- ws, wsl, opX, int, Zv.bool, intBin, reduceIte, ↓reduceIte, Nat.reduceEqDiff, Nat.reduceAdd, Nat.reduceSub, Nat.reduceLeDiff, Int.reduceLT, Int.reduceLE, Int.reduceEq, Int.reduceBEq, Int.reduceNe, Int.reduceBNe, reduceCtorEq, Nat.reduceBEq
end Zc27
