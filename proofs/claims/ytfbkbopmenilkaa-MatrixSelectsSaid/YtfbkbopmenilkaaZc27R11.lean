/-
  No name twice.
-/
import Derived.Test.YtfbkbopmenilkaaZc27R10
set_option linter.unusedSimpArgs false
set_option maxHeartbeats 4000000
namespace Zc27
open Go Zv Zs

instance decMem (s : ByteArray) (l : List ByteArray) : Decidable (s ∈ l) := decidable_of_iff (l.any (fun x => decide (x = s)) = true) (by simp)
def tyN (d : List Dt) (n : Nat) : List ByteArray := sInt :: (d.take n).map Dt.name
def coN (d : List Dt) (n : Nat) : List ByteArray := (d.take n).flatMap fun y => y.cons.map Cn.name
def coK (d : List Dt) (n : Nat) (y : Dt) (k : Nat) : List ByteArray := coN d n ++ (y.cons.take k).map Cn.name
def twiceS (d : List Dt) : Bool := !(decide (tyN d d.length).Nodup && decide (coN d d.length).Nodup)
theorem tyN_succ {d : List Dt} {n : Nat} {y : Dt} (hy : d[n]? = some y) : tyN d (n + 1) = tyN d n ++ [y.name] := by
  obtain ⟨hlt, rfl⟩ := List.getElem?_eq_some_iff.1 hy
  unfold tyN; rw [List.take_succ_eq_append_getElem hlt, List.map_append]; rfl
theorem coN_succ {d : List Dt} {n : Nat} {y : Dt} (hy : d[n]? = some y) : coN d (n + 1) = coN d n ++ y.cons.map Cn.name := by
  obtain ⟨hlt, rfl⟩ := List.getElem?_eq_some_iff.1 hy
  unfold coN; rw [List.take_succ_eq_append_getElem hlt, List.flatMap_append]; simp
theorem coK_zero (d : List Dt) (n : Nat) (y : Dt) : coK d n y 0 = coN d n := by simp [coK]
theorem coK_succ {d : List Dt} {n : Nat} {y : Dt} {k : Nat} {c : Cn} (hc : y.cons[k]? = some c) : coK d n y (k + 1) = coK d n y k ++ [c.name] := by
  obtain ⟨hlt, rfl⟩ := List.getElem?_eq_some_iff.1 hc
  unfold coK; rw [List.take_succ_eq_append_getElem hlt, List.map_append, List.append_assoc]; rfl
theorem coK_all {d : List Dt} {n : Nat} {y : Dt} (hy : d[n]? = some y) : coK d n y y.cons.length = coN d (n + 1) := by
  rw [coN_succ hy]; simp [coK]
theorem tyN_pre (d : List Dt) (n : Nat) : tyN d n <+: tyN d d.length := by
  unfold tyN
  rw [List.take_length]
  refine ⟨(d.drop n).map Dt.name, ?_⟩
  rw [List.cons_append, ← List.map_append, List.take_append_drop]
theorem coN_pre (d : List Dt) (n : Nat) : coN d n <+: coN d d.length := by
  unfold coN
  rw [List.take_length]
  refine ⟨(d.drop n).flatMap fun y => y.cons.map Cn.name, ?_⟩
  rw [← List.flatMap_append, List.take_append_drop]
theorem coK_pre {d : List Dt} {n : Nat} {y : Dt} (hy : d[n]? = some y) (k : Nat) : coK d n y k <+: coN d d.length := by
  refine List.IsPrefix.trans ?_ (coN_pre d (n + 1))
  rw [coN_succ hy]
  refine ⟨(y.cons.drop k).map Cn.name, ?_⟩
  unfold coK
  rw [List.append_assoc, ← List.map_append, List.take_append_drop]
theorem nd_add {l : List ByteArray} {s : ByteArray} (h : l.Nodup) (hs : s ∉ l) : (l ++ [s]).Nodup := by
  rw [List.nodup_append]
  exact ⟨h, by simp, fun a ha b hb => by rintro rfl; simp at hb; exact hs (hb ▸ ha)⟩
theorem nd_not {l m : List ByteArray} {s : ByteArray} (hs : s ∈ l) (h : l ++ [s] <+: m) : ¬ m.Nodup := by
  intro hm
  have := h.sublist.nodup hm
  rw [List.nodup_append] at this
  exact this.2.2 s hs s (by simp) rfl
theorem twice_t1 {d : List Dt} {n : Nat} {y : Dt} (hy : d[n]? = some y) (h : y.name ∈ tyN d n) : twiceS d = true := by
  have := nd_not h (tyN_succ hy ▸ tyN_pre d (n + 1))
  simp [twiceS, this]
theorem twice_t2 {d : List Dt} {n k : Nat} {y : Dt} {c : Cn} (hy : d[n]? = some y) (hc : y.cons[k]? = some c) (h : c.name ∈ coK d n y k) : twiceS d = true := by
  have := nd_not h (coK_succ (d := d) (n := n) hc ▸ coK_pre hy (k + 1))
  simp [twiceS, this]
theorem twice_f {d : List Dt} (h1 : (tyN d d.length).Nodup) (h2 : (coN d d.length).Nodup) : twiceS d = false := by
  simp [twiceS, h1, h2]

/-! ### The program: two maps -/
def kvS (l : List ByteArray) : List (D × V) := l.map fun s => (.str s, .d (.bool true))
theorem kvS_find (s : ByteArray) : ∀ l : List ByteArray, findK .s (.str s) (kvS l) = some (if s ∈ l then some (.d (.bool true)) else none)
  | [] => rfl
  | x :: l => by
    unfold kvS
    rw [List.map_cons]
    by_cases h : s = x
    · subst h; simp [findK, keyEq]
    · simp only [findK, keyEq, h, decide_false, List.mem_cons, false_or]
      exact kvS_find s l
theorem kvS_put (s : ByteArray) : ∀ l : List ByteArray, s ∉ l → putK .s (.str s) (.d (.bool true)) (kvS l) = some (kvS (l ++ [s]))
  | [], _ => rfl
  | x :: l, hs => by
    have h : ¬ s = x := fun e => hs (e ▸ List.mem_cons_self)
    have ih := kvS_put s l (fun e => hs (List.mem_cons_of_mem x e))
    unfold kvS at ih ⊢
    rw [List.map_cons]
    simp only [putK, keyEq, h, decide_false, ih, Option.map_some, List.cons_append, List.map_cons]
section
variable (h : Hp)
def HM (T C : List ByteArray) (q : Nat) : Hp := ⟨(h.next + 1, .mp (kvS C)) :: (h.next, .mp (kvS T)) :: h.objs, q⟩
theorem HM_T (T C q) (s : ByteArray) : lk .s (.d (.bool false)) false (HM h T C q) (.map h.next) (.d (.str s)) = some (.d (.bool (decide (s ∈ T)))) := by
  have : (HM h T C q).get h.next = some (.mp (kvS T)) := by
    unfold Hp.get HM; rw [look_tl _ _ (by omega), look_hd]
  unfold lk
  simp only [entries, this, Option.bind_some, kvS_find, Option.map_some]
  by_cases hs : s ∈ T <;> simp [hs]
theorem HM_C (T C q) (s : ByteArray) : lk .s (.d (.bool false)) false (HM h T C q) (.map (h.next + 1)) (.d (.str s)) = some (.d (.bool (decide (s ∈ C)))) := by
  have : (HM h T C q).get (h.next + 1) = some (.mp (kvS C)) := by
    unfold Hp.get HM; rw [look_hd]
  unfold lk
  simp only [entries, this, Option.bind_some, kvS_find, Option.map_some]
  by_cases hs : s ∈ C <;> simp [hs]
theorem HM_Tp (T C q) {s : ByteArray} (hs : s ∉ T) : mu .s (HM h T C q) (.map h.next) (.d (.str s)) (.d (.bool true)) = some (HM h (T ++ [s]) C q) := by
  have : (HM h T C q).get h.next = some (.mp (kvS T)) := by
    unfold Hp.get HM; rw [look_tl _ _ (by omega), look_hd]
  unfold mu
  simp only [this, stor_d, if_true, norm_d, kvS_put s T hs, Option.map_some]
  unfold Hp.set HM
  simp [upd]
theorem HM_Cp (T C q) {s : ByteArray} (hs : s ∉ C) : mu .s (HM h T C q) (.map (h.next + 1)) (.d (.str s)) (.d (.bool true)) = some (HM h T (C ++ [s]) q) := by
  have : (HM h T C q).get (h.next + 1) = some (.mp (kvS C)) := by
    unfold Hp.get HM; rw [look_hd]
  unfold mu
  simp only [this, stor_d, if_true, norm_d, kvS_put s C hs, Option.map_some]
  unfold Hp.set HM
  simp [upd]
end
theorem HM_next (h : Hp) (T C q) : (HM h T C q).next = q := rfl
theorem HM_up (h : Hp) (T C q) : (⟨(HM h T C q).objs, q + 1⟩ : Hp) = HM h T C (q + 1) := rfl
theorem HM_fin (h : Hp) (T C q) (x : D) : finS h (HM h T C q) [.d x] = some (.d x, h) := finS1cc ..

theorem ptwice_ok {d : List Dt} (B : Bd d) (h : Hp) : callW tab 64 [.d (eDs d)] h = some (.d (.bool (twiceS d)), h) := by
  refine call_wp (fn := f64) rfl rfl ?_
  have hbl := B.len
  have hmu0 : mu .s ⟨(h.next, .mp []) :: h.objs, h.next + 1⟩ (.map h.next) (.d (.str sInt)) (.d (.bool true)) = some ⟨(h.next, .mp (kvS (tyN d 0))) :: h.objs, h.next + 1⟩ := by
    simp [mu, Hp.get, Zv.look, putK, stor, norm_d, Hp.set, upd, kvS, tyN]
  have hH : (⟨(h.next + 1, .mp []) :: (h.next, .mp (kvS (tyN d 0))) :: h.objs, h.next + 1 + 1⟩ : Hp) = HM h (tyN d 0) (coN d 0) (h.next + 2) := rfl
  (simp only [e64, hmu0, hH, ws, wsl, opX, int, Zv.bool, intBin, reduceIte, ↓reduceIte, Nat.reduceEqDiff, Nat.reduceAdd, Nat.reduceSub, Nat.reduceLeDiff, Int.reduceLT, Int.reduceLE, Int.reduceEq, Int.reduceBEq, Int.reduceNe, Int.reduceBNe, reduceCtorEq, Nat.reduceBEq] <;> repeat' (first | refine wpG_s ?_ ?_ | refine wpC_s ?_ ?_) <;> intro hgo <;> (try simp only [decide_eq_true_eq, decide_eq_false_iff_not, Bool.not_eq_true', Bool.not_eq_false'] at hgo) <;> simp only [hgo, e64, hmu0, hH, ws, wsl, opX, int, Zv.bool, intBin, reduceIte, ↓reduceIte, Nat.reduceEqDiff, Nat.reduceAdd, Nat.reduceSub, Nat.reduceLeDiff, Int.reduceLT, Int.reduceLE, Int.reduceEq, Int.reduceBEq, Int.reduceNe, Int.reduceBNe, reduceCtorEq, Nat.reduceBEq])
  have inner : ∀ (m : Nat) (y : Dt) (q : Nat), d[m]? = some y → (coN d m).Nodup → wp tab (.loop f64l0) [(3, .map h.next), (4, .map (h.next + 1)), (12, .d (eDs d)), (13, .d (.int .i64 d.length)), (14, .d (.int .i64 m)), (26, .d (eCs y.cons)), (27, .d (.int .i64 y.cons.length)), (28, .d (.int .i64 0))] (HM h (tyN d (m + 1)) (coN d m) q)
      (fun o => ∃ T C q', (o = (.ret, [(2, .d (.bool true))], HM h T C q') ∧ twiceS d = true) ∨ (o = (.exit 2, [(3, .map h.next), (4, .map (h.next + 1)), (12, .d (eDs d)), (13, .d (.int .i64 d.length)), (14, .d (.int .i64 m)), (26, .d (eCs y.cons)), (27, .d (.int .i64 y.cons.length)), (28, .d (.int .i64 y.cons.length)), (29, .d (.bool false))], HM h (tyN d (m + 1)) (coN d (m + 1)) q') ∧ (coN d (m + 1)).Nodup)) := by
    intro m y q hy hnd
    have b := B.at hy
    refine loop_wp y.cons.length (fun k e h' => (∃ q, h' = HM h (tyN d (m + 1)) (coK d m y k) q) ∧ e = [(3, .map h.next), (4, .map (h.next + 1)), (12, .d (eDs d)), (13, .d (.int .i64 d.length)), (14, .d (.int .i64 m)), (26, .d (eCs y.cons)), (27, .d (.int .i64 y.cons.length)), (28, .d (.int .i64 k))] ∧ (coK d m y k).Nodup) _ ?_ ?_ y.cons.length 0 _ _ (by omega) ⟨⟨q, by rw [coK_zero]⟩, rfl, by rw [coK_zero]; exact hnd⟩
    · rintro k e h' hk ⟨⟨q, rfl⟩, rfl, hn⟩
      obtain ⟨c, hc⟩ := get_of_lt hk
      have hw := wrap_succ (show k < 2 ^ 62 by omega)
      by_cases hm : c.name ∈ coK d m y k
      · have ht := twice_t2 hy hc hm
        (simp only [e64, hk, iaC hc, HM_next, HM_up, HM_C, hm, ht, ws, wsl, opX, int, Zv.bool, intBin, reduceIte, ↓reduceIte, Nat.reduceEqDiff, Nat.reduceAdd, Nat.reduceSub, Nat.reduceLeDiff, Int.reduceLT, Int.reduceLE, Int.reduceEq, Int.reduceBEq, Int.reduceNe, Int.reduceBNe, reduceCtorEq, Nat.reduceBEq] <;> repeat' (first | refine wpG_s ?_ ?_ | refine wpC_s ?_ ?_) <;> intro hgo <;> (try simp only [decide_eq_true_eq, decide_eq_false_iff_not, Bool.not_eq_true', Bool.not_eq_false'] at hgo) <;> simp only [hgo, e64, hk, iaC hc, HM_next, HM_up, HM_C, hm, ht, ws, wsl, opX, int, Zv.bool, intBin, reduceIte, ↓reduceIte, Nat.reduceEqDiff, Nat.reduceAdd, Nat.reduceSub, Nat.reduceLeDiff, Int.reduceLT, Int.reduceLE, Int.reduceEq, Int.reduceBEq, Int.reduceNe, Int.reduceBNe, reduceCtorEq, Nat.reduceBEq])
        exact ⟨_, _, _, rfl⟩
      · have hp := fun q => HM_Cp h (tyN d (m + 1)) (coK d m y k) q hm
        (simp only [e64, hk, iaC hc, HM_next, HM_up, HM_C, hm, hp, hw, ws, wsl, opX, int, Zv.bool, intBin, reduceIte, ↓reduceIte, Nat.reduceEqDiff, Nat.reduceAdd, Nat.reduceSub, Nat.reduceLeDiff, Int.reduceLT, Int.reduceLE, Int.reduceEq, Int.reduceBEq, Int.reduceNe, Int.reduceBNe, reduceCtorEq, Nat.reduceBEq] <;> repeat' (first | refine wpG_s ?_ ?_ | refine wpC_s ?_ ?_) <;> intro hgo <;> (try simp only [decide_eq_true_eq, decide_eq_false_iff_not, Bool.not_eq_true', Bool.not_eq_false'] at hgo) <;> simp only [hgo, e64, hk, iaC hc, HM_next, HM_up, HM_C, hm, hp, hw, ws, wsl, opX, int, Zv.bool, intBin, reduceIte, ↓reduceIte, Nat.reduceEqDiff, Nat.reduceAdd, Nat.reduceSub, Nat.reduceLeDiff, Int.reduceLT, Int.reduceLE, Int.reduceEq, Int.reduceBEq, Int.reduceNe, Int.reduceBNe, reduceCtorEq, Nat.reduceBEq])
        exact ⟨⟨_, by rw [coK_succ hc]⟩, by rw [coK_succ hc]; exact nd_add hn hm⟩
    · rintro e h' ⟨⟨q, rfl⟩, rfl, hn⟩
      (simp only [e64, ws, wsl, opX, int, Zv.bool, intBin, reduceIte, ↓reduceIte, Nat.reduceEqDiff, Nat.reduceAdd, Nat.reduceSub, Nat.reduceLeDiff, Int.reduceLT, Int.reduceLE, Int.reduceEq, Int.reduceBEq, Int.reduceNe, Int.reduceBNe, reduceCtorEq, Nat.reduceBEq] <;> repeat' (first | refine wpG_s ?_ ?_ | refine wpC_s ?_ ?_) <;> intro hgo <;> (try simp only [decide_eq_true_eq, decide_eq_false_iff_not, Bool.not_eq_true', Bool.not_eq_false'] at hgo) <;> simp only [hgo, e64, ws, wsl, opX, int, Zv.bool, intBin, reduceIte, ↓reduceIte, Nat.reduceEqDiff, Nat.reduceAdd, Nat.reduceSub, Nat.reduceLeDiff, Int.reduceLT, Int.reduceLE, Int.reduceEq, Int.reduceBEq, Int.reduceNe, Int.reduceBNe, reduceCtorEq, Nat.reduceBEq])
      rw [coK_all hy] at hn ⊢
      exact ⟨[], [], _, rfl, hn⟩
  refine loop_wp d.length (fun k e h' => (∃ q, h' = HM h (tyN d k) (coN d k) q) ∧ e = [(3, .map h.next), (4, .map (h.next + 1)), (12, .d (eDs d)), (13, .d (.int .i64 d.length)), (14, .d (.int .i64 k))] ∧ (tyN d k).Nodup ∧ (coN d k).Nodup) _ ?_ ?_ d.length 0 _ _ (by omega) ⟨⟨_, rfl⟩, rfl, by simp [tyN], by simp [coN]⟩
  · rintro k e h' hk ⟨⟨q, rfl⟩, rfl, hn1, hn2⟩
    obtain ⟨y, hy⟩ := get_of_lt hk
    have hw := wrap_succ (show k < 2 ^ 62 by omega)
    by_cases hm : y.name ∈ tyN d k
    · have ht := twice_t1 hy hm
      (simp only [e64, hk, iaD hy, HM_next, HM_up, HM_T, hm, ht, HM_fin, ws, wsl, opX, int, Zv.bool, intBin, reduceIte, ↓reduceIte, Nat.reduceEqDiff, Nat.reduceAdd, Nat.reduceSub, Nat.reduceLeDiff, Int.reduceLT, Int.reduceLE, Int.reduceEq, Int.reduceBEq, Int.reduceNe, Int.reduceBNe, reduceCtorEq, Nat.reduceBEq] <;> repeat' (first | refine wpG_s ?_ ?_ | refine wpC_s ?_ ?_) <;> intro hgo <;> (try simp only [decide_eq_true_eq, decide_eq_false_iff_not, Bool.not_eq_true', Bool.not_eq_false'] at hgo) <;> simp only [hgo, e64, hk, iaD hy, HM_next, HM_up, HM_T, hm, ht, HM_fin, ws, wsl, opX, int, Zv.bool, intBin, reduceIte, ↓reduceIte, Nat.reduceEqDiff, Nat.reduceAdd, Nat.reduceSub, Nat.reduceLeDiff, Int.reduceLT, Int.reduceLE, Int.reduceEq, Int.reduceBEq, Int.reduceNe, Int.reduceBNe, reduceCtorEq, Nat.reduceBEq])
    · have hp := fun q => HM_Tp h (tyN d k) (coN d k) q hm
      (simp only [e64, hk, iaD hy, HM_next, HM_up, HM_T, hm, hp, ws, wsl, opX, int, Zv.bool, intBin, reduceIte, ↓reduceIte, Nat.reduceEqDiff, Nat.reduceAdd, Nat.reduceSub, Nat.reduceLeDiff, Int.reduceLT, Int.reduceLE, Int.reduceEq, Int.reduceBEq, Int.reduceNe, Int.reduceBNe, reduceCtorEq, Nat.reduceBEq] <;> repeat' (first | refine wpG_s ?_ ?_ | refine wpC_s ?_ ?_) <;> intro hgo <;> (try simp only [decide_eq_true_eq, decide_eq_false_iff_not, Bool.not_eq_true', Bool.not_eq_false'] at hgo) <;> simp only [hgo, e64, hk, iaD hy, HM_next, HM_up, HM_T, hm, hp, ws, wsl, opX, int, Zv.bool, intBin, reduceIte, ↓reduceIte, Nat.reduceEqDiff, Nat.reduceAdd, Nat.reduceSub, Nat.reduceLeDiff, Int.reduceLT, Int.reduceLE, Int.reduceEq, Int.reduceBEq, Int.reduceNe, Int.reduceBNe, reduceCtorEq, Nat.reduceBEq])
      rw [← tyN_succ hy]
      refine wq_mono (inner k y _ hy hn2) ?_
      rintro o ⟨T, C, q', ⟨rfl, ht⟩ | ⟨rfl, hn3⟩⟩
      · (simp only [e64, ht, HM_fin, ws, wsl, opX, int, Zv.bool, intBin, reduceIte, ↓reduceIte, Nat.reduceEqDiff, Nat.reduceAdd, Nat.reduceSub, Nat.reduceLeDiff, Int.reduceLT, Int.reduceLE, Int.reduceEq, Int.reduceBEq, Int.reduceNe, Int.reduceBNe, reduceCtorEq, Nat.reduceBEq] <;> repeat' (first | refine wpG_s ?_ ?_ | refine wpC_s ?_ ?_) <;> intro hgo <;> (try simp only [decide_eq_true_eq, decide_eq_false_iff_not, Bool.not_eq_true', Bool.not_eq_false'] at hgo) <;> simp only [hgo, e64, ht, HM_fin, ws, wsl, opX, int, Zv.bool, intBin, reduceIte, ↓reduceIte, Nat.reduceEqDiff, Nat.reduceAdd, Nat.reduceSub, Nat.reduceLeDiff, Int.reduceLT, Int.reduceLE, Int.reduceEq, Int.reduceBEq, Int.reduceNe, Int.reduceBNe, reduceCtorEq, Nat.reduceBEq])
      · (simp only [e64, hw, ws, wsl, opX, int, Zv.bool, intBin, reduceIte, ↓reduceIte, Nat.reduceEqDiff, Nat.reduceAdd, Nat.reduceSub, Nat.reduceLeDiff, Int.reduceLT, Int.reduceLE, Int.reduceEq, Int.reduceBEq, Int.reduceNe, Int.reduceBNe, reduceCtorEq, Nat.reduceBEq] <;> repeat' (first | refine wpG_s ?_ ?_ | refine wpC_s ?_ ?_) <;> intro hgo <;> (try simp only [decide_eq_true_eq, decide_eq_false_iff_not, Bool.not_eq_true', Bool.not_eq_false'] at hgo) <;> simp only [hgo, e64, hw, ws, wsl, opX, int, Zv.bool, intBin, reduceIte, ↓reduceIte, Nat.reduceEqDiff, Nat.reduceAdd, Nat.reduceSub, Nat.reduceLeDiff, Int.reduceLT, Int.reduceLE, Int.reduceEq, Int.reduceBEq, Int.reduceNe, Int.reduceBNe, reduceCtorEq, Nat.reduceBEq])
        exact ⟨⟨_, rfl⟩, by rw [tyN_succ hy]; exact nd_add hn1 hm, hn3⟩
  · rintro e h' ⟨⟨q, rfl⟩, rfl, hn1, hn2⟩
    (simp only [e64, HM_fin, twice_f hn1 hn2, ws, wsl, opX, int, Zv.bool, intBin, reduceIte, ↓reduceIte, Nat.reduceEqDiff, Nat.reduceAdd, Nat.reduceSub, Nat.reduceLeDiff, Int.reduceLT, Int.reduceLE, Int.reduceEq, Int.reduceBEq, Int.reduceNe, Int.reduceBNe, reduceCtorEq, Nat.reduceBEq] <;> repeat' (first | refine wpG_s ?_ ?_ | refine wpC_s ?_ ?_) <;> intro hgo <;> (try simp only [decide_eq_true_eq, decide_eq_false_iff_not, Bool.not_eq_true', Bool.not_eq_false'] at hgo) <;> simp only [hgo, e64, HM_fin, twice_f hn1 hn2, ws, wsl, opX, int, Zv.bool, intBin, reduceIte, ↓reduceIte, Nat.reduceEqDiff, Nat.reduceAdd, Nat.reduceSub, Nat.reduceLeDiff, Int.reduceLT, Int.reduceLE, Int.reduceEq, Int.reduceBEq, Int.reduceNe, Int.reduceBNe, reduceCtorEq, Nat.reduceBEq])
-- ws, wsl, opX, int, Zv.bool, intBin, reduceIte, ↓reduceIte, Nat.reduceEqDiff, Nat.reduceAdd, Nat.reduceSub, Nat.reduceLeDiff, Int.reduceLT, Int.reduceLE, Int.reduceEq, Int.reduceBEq, Int.reduceNe, Int.reduceBNe, reduceCtorEq, Nat.reduceBEq
end Zc27
