/-
  The reference's store in memory.
-/
import Derived.Test.YtlncinhieeopmaaZc55S6
set_option linter.unusedSimpArgs false
set_option maxHeartbeats 4000000
namespace Zc55
open Go Zv Zs

inductive RW where
  | fresh
  | tl (nl : Option Bool)
  | row (n : Nat)
structure RC where
  used : Bool
  tag : Int
  words : List Wd
  wh : RW
def rwV (c : RC) : V := match c.wh with
  | .fresh => .d (.lst [])
  | .tl nl => .tl [] nl
  | .row n => .own n 2 c.words.length 0 c.words.length
def rcV (c : RC) : V := mkAgg [.d (.bool c.used), .d (eI c.tag), rwV c]
def rab (c : RC) : ACl := (c.used, c.tag, c.words)
theorem rcV_cells (c : RC) : (rcV c).cells = [.d (.bool c.used), .d (eI c.tag), rwV c] := by
  unfold rcV rwV
  cases c.wh <;> rfl
theorem rwV_stor (c : RC) : stor (rwV c) = true := by unfold rwV; cases c.wh <;> rfl
theorem rwV_cells (c : RC) : (rwV c).cells = [rwV c] := by unfold rwV; cases c.wh <;> rfl
abbrev nI (i : Nat) : V := .d (eI i)
/-- The free cells, as they are read. -/
def FV (g : Nat → Option Ob) (nt nc : Nat) (O : Nat → Prop) (v : V) (fr : List Nat) : Prop :=
  (∃ nl, v = .tl (fr.map nI) nl) ∨ ∃ nf tot off els, v = .own nf 1 tot off fr.length ∧ g nf = some (.arr 1 els) ∧ els.length = tot ∧ off + fr.length ≤ tot ∧ (els.drop off).take fr.length = fr.map nI ∧ O nf ∧ nf ≠ nt ∧ nf ≠ nc
structure RP (g : Nat → Option Ob) (nt nc : Nat) (cs : List RC) (fv : V) : Prop where
  s : g nt = some (.arr 2 [.agg [.own nc 3 cs.length 0 cs.length, fv]])
  c : g nc = some (.arr 3 (cs.map rcV))
  w : ∀ (i : Nat) c n, cs[i]? = some c → c.wh = .row n → g n = some (.arr 2 ((c.words.map eW).map .d)) ∧ n ≠ nt ∧ n ≠ nc
  e : ∀ c, c ∈ cs → (∀ n, c.wh ≠ .row n) → c.words = []
  ne : nt ≠ nc
structure RS (h : Hp) (nt nc : Nat) (O : Nat → Prop) (S : St) : Prop where
  ex : ∃ cs fv, RP h.get nt nc cs fv ∧ FV h.get nt nc O fv S.free ∧ cs.map rab = S.cells ∧ (∀ c, c ∈ cs → ∀ n, c.wh = .row n → O n)
  ok : S.Ok
  os : O nt ∧ O nc
theorem FV.mono {g g' : Nat → Option Ob} {nt nc : Nat} {O O' : Nat → Prop} {v : V} {fr : List Nat} (F : FV g nt nc O v fr) (H : ∀ n o, g n = some o → O n → n ≠ nt → n ≠ nc → g' n = g n) (HO : ∀ n, O n → O' n) : FV g' nt nc O' v fr := by
  rcases F with h | ⟨nf, tot, off, els, h1, h2, h3, h4, h5, h6, h7, h8⟩
  · exact .inl h
  · exact .inr ⟨nf, tot, off, els, h1, by rw [H nf _ h2 h6 h7 h8]; exact h2, h3, h4, h5, HO _ h6, h7, h8⟩
theorem RS.frame {h h' : Hp} {nt nc : Nat} {O : Nat → Prop} {S : St} (R : RS h nt nc O S) (H : ∀ n, O n → h'.get n = h.get n) : RS h' nt nc O S := by
  obtain ⟨⟨cs, fv, P, F, h2, h4⟩, h5, h6⟩ := R
  refine ⟨⟨cs, fv, ⟨by rw [H _ h6.1]; exact P.s, by rw [H _ h6.2]; exact P.c, fun i c n hc hw => ?_, P.e, P.ne⟩, F.mono (fun n _ _ hn _ _ => H n hn) (fun _ h => h), h2, h4⟩, h5, h6⟩
  rw [H n (h4 c (List.mem_of_getElem? hc) n hw)]; exact P.w i c n hc hw
theorem RS.wide {h : Hp} {nt nc : Nat} {O O' : Nat → Prop} {S : St} (R : RS h nt nc O S) (H : ∀ n, O n → O' n) : RS h nt nc O' S := by
  obtain ⟨⟨cs, fv, P, F, h2, h4⟩, h5, h6⟩ := R
  exact ⟨⟨cs, fv, P, F.mono (fun _ _ _ _ _ _ => rfl) H, h2, fun c hc n hw => H n (h4 c hc n hw)⟩, h5, H _ h6.1, H _ h6.2⟩
structure Rft (h : Hp) (nt nc : Nat) (O : Nat → Prop) (S' : St) (h' : Hp) : Prop where
  sr : RS h' nt nc (fun n => O n ∨ (h.next ≤ n ∧ n < h'.next)) S'
  fr : ∀ n, n < h.next → ¬ O n → h'.get n = h.get n
  low : Low h'
  nx : h.next ≤ h'.next
theorem RS.same {h : Hp} {nt nc : Nat} {O : Nat → Prop} {S : St} (R : RS h nt nc O S) (L : Low h) (q : Nat) (hq : h.next ≤ q) : Rft h nt nc O S ⟨h.objs, q⟩ :=
  ⟨(R.frame (h' := ⟨h.objs, q⟩) (fun _ _ => rfl)).wide fun _ h => .inl h, fun _ _ _ => rfl, fun m hm => L m (Nat.le_trans hq hm), hq⟩
theorem RP.row {h : Hp} {nt nc : Nat} {cs : List RC} {fv : V} (P : RP h.get nt nc cs fv) : h.row nt 1 = some (2, [.agg [.own nc 3 cs.length 0 cs.length, fv]]) := by
  rw [row_lk, P.s]; rfl
theorem RP.cells {h : Hp} {nt nc : Nat} {cs : List RC} {fv : V} (P : RP h.get nt nc cs fv) : h.row nc cs.length = some (3, cs.map rcV) := by
  rw [row_lk, P.c, rowOf_arr, if_pos (by simp)]
theorem RP.words {h : Hp} {nt nc : Nat} {cs : List RC} {fv : V} (R : RP h.get nt nc cs fv) {i : Nat} {c : RC} (hc : cs[i]? = some c) : SlW h (norm (rwV c)) c.words ∧ SlW h (rwV c) c.words := by
  have he := R.e c (List.mem_of_getElem? hc)
  have nilS : ∀ nl, SlW h (.tl [] nl) [] := fun nl => ⟨rfl, rfl, fun n x hx => by simp at hx⟩
  unfold rwV
  cases hw : c.wh with
  | fresh => have := he (by rw [hw]; intro n h; cases h); rw [this]; exact ⟨SlW.data h [], SlW.data h []⟩
  | tl nl => have := he (by rw [hw]; intro n h; cases h); rw [this]; exact ⟨SlW.data h [], nilS nl⟩
  | row n => exact ⟨SlW.own (R.w i c n hc hw).1, SlW.own (R.w i c n hc hw).1⟩

theorem fvcells {g : Nat → Option Ob} {nt nc : Nat} {O : Nat → Prop} {v : V} {fr : List Nat} (F : FV g nt nc O v fr) : v.cells = [v] ∧ stor v = true ∧ lenL v = some (.d (.int .i64 fr.length)) := by
  rcases F with ⟨nl, rfl⟩ | ⟨nf, tot, off, els, rfl, _⟩
  · exact ⟨rfl, rfl, by simp [lenL, int]⟩
  · exact ⟨rfl, rfl, rfl⟩

theorem rused_ok {h : Hp} {nt nc : Nat} {cs : List RC} {fv : V} (R : RP h.get nt nc cs fv) (n : Int) : callW tab 38 [.ptr nt 1 0 0, .d (eI n)] h = some (.d (.bool (usedA (cs.map rab) n)), h) := by
  apply call_wp (fn := f38) rfl rfl
  rcases ncase cs n with h0 | h0 | ⟨m, c, rfl, hc⟩
  · have : ¬ 0 ≤ n := by omega
    have hu : usedA (cs.map rab) n = false := by unfold usedA; rw [decide_eq_false this]; rfl
    (simp only [e38, this, hu, ws, wsl, opX, int, Zv.bool, intBin, reduceIte, ↓reduceIte, Nat.reduceEqDiff, Nat.reduceAdd, Nat.reduceSub, Nat.reduceLeDiff, Int.reduceLT, Int.reduceLE, Int.reduceEq, Int.reduceBEq, Int.reduceNe, Int.reduceBNe, reduceCtorEq, Nat.reduceBEq] <;> repeat' (first | refine wpG_s ?_ ?_ | refine wpC_s ?_ ?_) <;> intro hgo <;> (try simp only [decide_eq_true_eq, decide_eq_false_iff_not, Bool.not_eq_true', Bool.not_eq_false'] at hgo) <;> simp only [hgo, e38, this, hu, ws, wsl, opX, int, Zv.bool, intBin, reduceIte, ↓reduceIte, Nat.reduceEqDiff, Nat.reduceAdd, Nat.reduceSub, Nat.reduceLeDiff, Int.reduceLT, Int.reduceLE, Int.reduceEq, Int.reduceBEq, Int.reduceNe, Int.reduceBNe, reduceCtorEq, Nat.reduceBEq])
  · have h1 : 0 ≤ n := by omega
    have h2 : ¬ n < cs.length := by omega
    have hu : usedA (cs.map rab) n = false := by unfold usedA; rw [List.getElem?_eq_none (by rw [List.length_map]; omega), Bool.and_false]
    (simp only [e38, h1, h2, R.row, hu, ws, wsl, opX, int, Zv.bool, intBin, reduceIte, ↓reduceIte, Nat.reduceEqDiff, Nat.reduceAdd, Nat.reduceSub, Nat.reduceLeDiff, Int.reduceLT, Int.reduceLE, Int.reduceEq, Int.reduceBEq, Int.reduceNe, Int.reduceBNe, reduceCtorEq, Nat.reduceBEq] <;> repeat' (first | refine wpG_s ?_ ?_ | refine wpC_s ?_ ?_) <;> intro hgo <;> (try simp only [decide_eq_true_eq, decide_eq_false_iff_not, Bool.not_eq_true', Bool.not_eq_false'] at hgo) <;> simp only [hgo, e38, h1, h2, R.row, hu, ws, wsl, opX, int, Zv.bool, intBin, reduceIte, ↓reduceIte, Nat.reduceEqDiff, Nat.reduceAdd, Nat.reduceSub, Nat.reduceLeDiff, Int.reduceLT, Int.reduceLE, Int.reduceEq, Int.reduceBEq, Int.reduceNe, Int.reduceBNe, reduceCtorEq, Nat.reduceBEq])
  · have hlt := lt_of_get hc
    have hu : usedA (cs.map rab) (m : Int) = c.used := by unfold usedA; rw [Int.toNat_natCast, List.getElem?_map, hc, decide_eq_true (by omega)]; rfl
    (simp only [e38, hlt, R.row, R.cells, ia_own (es := 3) (n := nc) (tot := cs.length) .i64 hlt, List.getElem?_map, hc, rcV_cells, hu, ws, wsl, opX, int, Zv.bool, intBin, reduceIte, ↓reduceIte, Nat.reduceEqDiff, Nat.reduceAdd, Nat.reduceSub, Nat.reduceLeDiff, Int.reduceLT, Int.reduceLE, Int.reduceEq, Int.reduceBEq, Int.reduceNe, Int.reduceBNe, reduceCtorEq, Nat.reduceBEq] <;> repeat' (first | refine wpG_s ?_ ?_ | refine wpC_s ?_ ?_) <;> intro hgo <;> (try simp only [decide_eq_true_eq, decide_eq_false_iff_not, Bool.not_eq_true', Bool.not_eq_false'] at hgo) <;> simp only [hgo, e38, hlt, R.row, R.cells, ia_own (es := 3) (n := nc) (tot := cs.length) .i64 hlt, List.getElem?_map, hc, rcV_cells, hu, ws, wsl, opX, int, Zv.bool, intBin, reduceIte, ↓reduceIte, Nat.reduceEqDiff, Nat.reduceAdd, Nat.reduceSub, Nat.reduceLeDiff, Int.reduceLT, Int.reduceLE, Int.reduceEq, Int.reduceBEq, Int.reduceNe, Int.reduceBNe, reduceCtorEq, Nat.reduceBEq])
theorem rwords_ok {h : Hp} {nt nc : Nat} {cs : List RC} {fv : V} (R : RP h.get nt nc cs fv) (l : List Wd) (hl : l.length < 2 ^ 60) : callW tab 35 [.ptr nt 1 0 0, .d (eWs l)] h = some (.d (eI (wErr (usedA (cs.map rab)) l)), h) := by
  apply call_wp (fn := f35) rfl rfl
  have hloop := loop_any (T := tab) (a := f35l0) (l := l) (p := (fun w => !formedS w)) (f := fun n => [(0, .ptr nt 1 0 0), (1, .d (eWs l)), (5, int n)]) (h := h)
      (by intro n x hx hlt hp; simp only [Bool.not_eq_true', Bool.not_eq_false'] at hp; all_goals (apply wq_ex.1; (simp only [hlt, hp, e35, iaW hx, rform_ok, wrap_succ (show n < 2 ^ 62 by omega), ws, wsl, opX, int, Zv.bool, intBin, reduceIte, ↓reduceIte, Nat.reduceEqDiff, Nat.reduceAdd, Nat.reduceSub, Nat.reduceLeDiff, Int.reduceLT, Int.reduceLE, Int.reduceEq, Int.reduceBEq, Int.reduceNe, Int.reduceBNe, reduceCtorEq, Nat.reduceBEq] <;> repeat' (first | refine wpG_s ?_ ?_ | refine wpC_s ?_ ?_) <;> intro hgo <;> (try simp only [decide_eq_true_eq, decide_eq_false_iff_not, Bool.not_eq_true', Bool.not_eq_false'] at hgo) <;> simp only [hgo, hlt, hp, e35, iaW hx, rform_ok, wrap_succ (show n < 2 ^ 62 by omega), ws, wsl, opX, int, Zv.bool, intBin, reduceIte, ↓reduceIte, Nat.reduceEqDiff, Nat.reduceAdd, Nat.reduceSub, Nat.reduceLeDiff, Int.reduceLT, Int.reduceLE, Int.reduceEq, Int.reduceBEq, Int.reduceNe, Int.reduceBNe, reduceCtorEq, Nat.reduceBEq])))
      (by intro n x hx hlt hp; simp only [Bool.not_eq_true', Bool.not_eq_false'] at hp; all_goals (apply wq_ex.1; (simp only [hlt, hp, e35, iaW hx, rform_ok, wrap_succ (show n < 2 ^ 62 by omega), ws, wsl, opX, int, Zv.bool, intBin, reduceIte, ↓reduceIte, Nat.reduceEqDiff, Nat.reduceAdd, Nat.reduceSub, Nat.reduceLeDiff, Int.reduceLT, Int.reduceLE, Int.reduceEq, Int.reduceBEq, Int.reduceNe, Int.reduceBNe, reduceCtorEq, Nat.reduceBEq] <;> repeat' (first | refine wpG_s ?_ ?_ | refine wpC_s ?_ ?_) <;> intro hgo <;> (try simp only [decide_eq_true_eq, decide_eq_false_iff_not, Bool.not_eq_true', Bool.not_eq_false'] at hgo) <;> simp only [hgo, hlt, hp, e35, iaW hx, rform_ok, wrap_succ (show n < 2 ^ 62 by omega), ws, wsl, opX, int, Zv.bool, intBin, reduceIte, ↓reduceIte, Nat.reduceEqDiff, Nat.reduceAdd, Nat.reduceSub, Nat.reduceLeDiff, Int.reduceLT, Int.reduceLE, Int.reduceEq, Int.reduceBEq, Int.reduceNe, Int.reduceBNe, reduceCtorEq, Nat.reduceBEq]) <;> rfl))
      (by apply wq_ex.1; (simp only [e35, ws, wsl, opX, int, Zv.bool, intBin, reduceIte, ↓reduceIte, Nat.reduceEqDiff, Nat.reduceAdd, Nat.reduceSub, Nat.reduceLeDiff, Int.reduceLT, Int.reduceLE, Int.reduceEq, Int.reduceBEq, Int.reduceNe, Int.reduceBNe, reduceCtorEq, Nat.reduceBEq] <;> repeat' (first | refine wpG_s ?_ ?_ | refine wpC_s ?_ ?_) <;> intro hgo <;> (try simp only [decide_eq_true_eq, decide_eq_false_iff_not, Bool.not_eq_true', Bool.not_eq_false'] at hgo) <;> simp only [hgo, e35, ws, wsl, opX, int, Zv.bool, intBin, reduceIte, ↓reduceIte, Nat.reduceEqDiff, Nat.reduceAdd, Nat.reduceSub, Nat.reduceLeDiff, Int.reduceLT, Int.reduceLE, Int.reduceEq, Int.reduceBEq, Int.reduceNe, Int.reduceBNe, reduceCtorEq, Nat.reduceBEq]) <;> rfl)
      (by simp) (by simp)
  simp only [int, Zv.bool, Int.cast_ofNat_Int] at hloop
  have hu := fun n => rused_ok R n
  have hloop2 := loop_any (T := tab) (a := f35l1) (l := l) (p := (fun w => decide (w.1 = 2) && !usedA (cs.map rab) w.2)) (f := fun n => [(0, .ptr nt 1 0 0), (1, .d (eWs l)), (6, int n)]) (h := h)
      (by intro n x hx hlt hp; by_cases h2 : x.1 = 2; all_goals cases hus : usedA (cs.map rab) x.2; all_goals simp only [h2, hus, decide_true, decide_false, Bool.not_true, Bool.not_false, Bool.and_true, Bool.and_false, Bool.true_and, Bool.false_and, Bool.true_eq_false, Bool.false_eq_true] at hp; all_goals (apply wq_ex.1; (simp only [hlt, hp, e35, iaW hx, hu, hus, ibeq, h2, wrap_succ (show n < 2 ^ 62 by omega), ws, wsl, opX, int, Zv.bool, intBin, reduceIte, ↓reduceIte, Nat.reduceEqDiff, Nat.reduceAdd, Nat.reduceSub, Nat.reduceLeDiff, Int.reduceLT, Int.reduceLE, Int.reduceEq, Int.reduceBEq, Int.reduceNe, Int.reduceBNe, reduceCtorEq, Nat.reduceBEq] <;> repeat' (first | refine wpG_s ?_ ?_ | refine wpC_s ?_ ?_) <;> intro hgo <;> (try simp only [decide_eq_true_eq, decide_eq_false_iff_not, Bool.not_eq_true', Bool.not_eq_false'] at hgo) <;> simp only [hgo, hlt, hp, e35, iaW hx, hu, hus, ibeq, h2, wrap_succ (show n < 2 ^ 62 by omega), ws, wsl, opX, int, Zv.bool, intBin, reduceIte, ↓reduceIte, Nat.reduceEqDiff, Nat.reduceAdd, Nat.reduceSub, Nat.reduceLeDiff, Int.reduceLT, Int.reduceLE, Int.reduceEq, Int.reduceBEq, Int.reduceNe, Int.reduceBNe, reduceCtorEq, Nat.reduceBEq])))
      (by intro n x hx hlt hp; by_cases h2 : x.1 = 2; all_goals cases hus : usedA (cs.map rab) x.2; all_goals simp only [h2, hus, decide_true, decide_false, Bool.not_true, Bool.not_false, Bool.and_true, Bool.and_false, Bool.true_and, Bool.false_and, Bool.true_eq_false, Bool.false_eq_true] at hp; all_goals (apply wq_ex.1; (simp only [hlt, hp, e35, iaW hx, hu, hus, ibeq, h2, wrap_succ (show n < 2 ^ 62 by omega), ws, wsl, opX, int, Zv.bool, intBin, reduceIte, ↓reduceIte, Nat.reduceEqDiff, Nat.reduceAdd, Nat.reduceSub, Nat.reduceLeDiff, Int.reduceLT, Int.reduceLE, Int.reduceEq, Int.reduceBEq, Int.reduceNe, Int.reduceBNe, reduceCtorEq, Nat.reduceBEq] <;> repeat' (first | refine wpG_s ?_ ?_ | refine wpC_s ?_ ?_) <;> intro hgo <;> (try simp only [decide_eq_true_eq, decide_eq_false_iff_not, Bool.not_eq_true', Bool.not_eq_false'] at hgo) <;> simp only [hgo, hlt, hp, e35, iaW hx, hu, hus, ibeq, h2, wrap_succ (show n < 2 ^ 62 by omega), ws, wsl, opX, int, Zv.bool, intBin, reduceIte, ↓reduceIte, Nat.reduceEqDiff, Nat.reduceAdd, Nat.reduceSub, Nat.reduceLeDiff, Int.reduceLT, Int.reduceLE, Int.reduceEq, Int.reduceBEq, Int.reduceNe, Int.reduceBNe, reduceCtorEq, Nat.reduceBEq]) <;> rfl))
      (by apply wq_ex.1; (simp only [e35, ws, wsl, opX, int, Zv.bool, intBin, reduceIte, ↓reduceIte, Nat.reduceEqDiff, Nat.reduceAdd, Nat.reduceSub, Nat.reduceLeDiff, Int.reduceLT, Int.reduceLE, Int.reduceEq, Int.reduceBEq, Int.reduceNe, Int.reduceBNe, reduceCtorEq, Nat.reduceBEq] <;> repeat' (first | refine wpG_s ?_ ?_ | refine wpC_s ?_ ?_) <;> intro hgo <;> (try simp only [decide_eq_true_eq, decide_eq_false_iff_not, Bool.not_eq_true', Bool.not_eq_false'] at hgo) <;> simp only [hgo, e35, ws, wsl, opX, int, Zv.bool, intBin, reduceIte, ↓reduceIte, Nat.reduceEqDiff, Nat.reduceAdd, Nat.reduceSub, Nat.reduceLeDiff, Int.reduceLT, Int.reduceLE, Int.reduceEq, Int.reduceBEq, Int.reduceNe, Int.reduceBNe, reduceCtorEq, Nat.reduceBEq]) <;> rfl)
      (by simp) (by simp)
  simp only [int, Zv.bool, Int.cast_ofNat_Int] at hloop2
  (simp only [e35, wq_of hloop, ws, wsl, opX, int, Zv.bool, intBin, reduceIte, ↓reduceIte, Nat.reduceEqDiff, Nat.reduceAdd, Nat.reduceSub, Nat.reduceLeDiff, Int.reduceLT, Int.reduceLE, Int.reduceEq, Int.reduceBEq, Int.reduceNe, Int.reduceBNe, reduceCtorEq, Nat.reduceBEq] <;> repeat' (first | refine wpG_s ?_ ?_ | refine wpC_s ?_ ?_) <;> intro hgo <;> (try simp only [decide_eq_true_eq, decide_eq_false_iff_not, Bool.not_eq_true', Bool.not_eq_false'] at hgo) <;> simp only [hgo, e35, wq_of hloop, ws, wsl, opX, int, Zv.bool, intBin, reduceIte, ↓reduceIte, Nat.reduceEqDiff, Nat.reduceAdd, Nat.reduceSub, Nat.reduceLeDiff, Int.reduceLT, Int.reduceLE, Int.reduceEq, Int.reduceBEq, Int.reduceNe, Int.reduceBNe, reduceCtorEq, Nat.reduceBEq])
  unfold wErr
  cases l.any fun w => !formedS w with
  | true => (simp only [e35, ws, wsl, opX, int, Zv.bool, intBin, reduceIte, ↓reduceIte, Nat.reduceEqDiff, Nat.reduceAdd, Nat.reduceSub, Nat.reduceLeDiff, Int.reduceLT, Int.reduceLE, Int.reduceEq, Int.reduceBEq, Int.reduceNe, Int.reduceBNe, reduceCtorEq, Nat.reduceBEq] <;> repeat' (first | refine wpG_s ?_ ?_ | refine wpC_s ?_ ?_) <;> intro hgo <;> (try simp only [decide_eq_true_eq, decide_eq_false_iff_not, Bool.not_eq_true', Bool.not_eq_false'] at hgo) <;> simp only [hgo, e35, ws, wsl, opX, int, Zv.bool, intBin, reduceIte, ↓reduceIte, Nat.reduceEqDiff, Nat.reduceAdd, Nat.reduceSub, Nat.reduceLeDiff, Int.reduceLT, Int.reduceLE, Int.reduceEq, Int.reduceBEq, Int.reduceNe, Int.reduceBNe, reduceCtorEq, Nat.reduceBEq])
  | false =>
    (simp only [e35, wq_of hloop2, ws, wsl, opX, int, Zv.bool, intBin, reduceIte, ↓reduceIte, Nat.reduceEqDiff, Nat.reduceAdd, Nat.reduceSub, Nat.reduceLeDiff, Int.reduceLT, Int.reduceLE, Int.reduceEq, Int.reduceBEq, Int.reduceNe, Int.reduceBNe, reduceCtorEq, Nat.reduceBEq] <;> repeat' (first | refine wpG_s ?_ ?_ | refine wpC_s ?_ ?_) <;> intro hgo <;> (try simp only [decide_eq_true_eq, decide_eq_false_iff_not, Bool.not_eq_true', Bool.not_eq_false'] at hgo) <;> simp only [hgo, e35, wq_of hloop2, ws, wsl, opX, int, Zv.bool, intBin, reduceIte, ↓reduceIte, Nat.reduceEqDiff, Nat.reduceAdd, Nat.reduceSub, Nat.reduceLeDiff, Int.reduceLT, Int.reduceLE, Int.reduceEq, Int.reduceBEq, Int.reduceNe, Int.reduceBNe, reduceCtorEq, Nat.reduceBEq])
    cases l.any fun w => decide (w.1 = 2) && !usedA (cs.map rab) w.2 <;> (simp only [e35, ws, wsl, opX, int, Zv.bool, intBin, reduceIte, ↓reduceIte, Nat.reduceEqDiff, Nat.reduceAdd, Nat.reduceSub, Nat.reduceLeDiff, Int.reduceLT, Int.reduceLE, Int.reduceEq, Int.reduceBEq, Int.reduceNe, Int.reduceBNe, reduceCtorEq, Nat.reduceBEq] <;> repeat' (first | refine wpG_s ?_ ?_ | refine wpC_s ?_ ?_) <;> intro hgo <;> (try simp only [decide_eq_true_eq, decide_eq_false_iff_not, Bool.not_eq_true', Bool.not_eq_false'] at hgo) <;> simp only [hgo, e35, ws, wsl, opX, int, Zv.bool, intBin, reduceIte, ↓reduceIte, Nat.reduceEqDiff, Nat.reduceAdd, Nat.reduceSub, Nat.reduceLeDiff, Int.reduceLT, Int.reduceLE, Int.reduceEq, Int.reduceBEq, Int.reduceNe, Int.reduceBNe, reduceCtorEq, Nat.reduceBEq])
theorem rstate_ok {h : Hp} {nt nc : Nat} {cs : List RC} {fv : V} (R : RP h.get nt nc cs fv) (n : Int) : callW tab 36 [.ptr nt 1 0 0, .d (eI n)] h = some (.d (eI (sErrA (cs.map rab) n)), h) := by
  apply call_wp (fn := f36) rfl rfl
  unfold sErrA
  rcases ncase cs n with h0 | h0 | ⟨m, c, rfl, hc⟩
  · (simp only [e36, h0, ws, wsl, opX, int, Zv.bool, intBin, reduceIte, ↓reduceIte, Nat.reduceEqDiff, Nat.reduceAdd, Nat.reduceSub, Nat.reduceLeDiff, Int.reduceLT, Int.reduceLE, Int.reduceEq, Int.reduceBEq, Int.reduceNe, Int.reduceBNe, reduceCtorEq, Nat.reduceBEq] <;> repeat' (first | refine wpG_s ?_ ?_ | refine wpC_s ?_ ?_) <;> intro hgo <;> (try simp only [decide_eq_true_eq, decide_eq_false_iff_not, Bool.not_eq_true', Bool.not_eq_false'] at hgo) <;> simp only [hgo, e36, h0, ws, wsl, opX, int, Zv.bool, intBin, reduceIte, ↓reduceIte, Nat.reduceEqDiff, Nat.reduceAdd, Nat.reduceSub, Nat.reduceLeDiff, Int.reduceLT, Int.reduceLE, Int.reduceEq, Int.reduceBEq, Int.reduceNe, Int.reduceBNe, reduceCtorEq, Nat.reduceBEq])
  · have h1 : ¬ n < 0 := by omega
    have h2 : (cs.map rab)[n.toNat]? = none := List.getElem?_eq_none (by rw [List.length_map]; omega)
    (simp only [e36, h1, h0, R.row, h2, ws, wsl, opX, int, Zv.bool, intBin, reduceIte, ↓reduceIte, Nat.reduceEqDiff, Nat.reduceAdd, Nat.reduceSub, Nat.reduceLeDiff, Int.reduceLT, Int.reduceLE, Int.reduceEq, Int.reduceBEq, Int.reduceNe, Int.reduceBNe, reduceCtorEq, Nat.reduceBEq] <;> repeat' (first | refine wpG_s ?_ ?_ | refine wpC_s ?_ ?_) <;> intro hgo <;> (try simp only [decide_eq_true_eq, decide_eq_false_iff_not, Bool.not_eq_true', Bool.not_eq_false'] at hgo) <;> simp only [hgo, e36, h1, h0, R.row, h2, ws, wsl, opX, int, Zv.bool, intBin, reduceIte, ↓reduceIte, Nat.reduceEqDiff, Nat.reduceAdd, Nat.reduceSub, Nat.reduceLeDiff, Int.reduceLT, Int.reduceLE, Int.reduceEq, Int.reduceBEq, Int.reduceNe, Int.reduceBNe, reduceCtorEq, Nat.reduceBEq])
  · have hlt := lt_of_get hc
    have h1 : ¬ cs.length ≤ m := by omega
    (simp only [e36, h1, R.row, R.cells, ia_own (es := 3) (n := nc) (tot := cs.length) .i64 hlt, List.getElem?_map, hc, rcV_cells, rab, Int.toNat_natCast, ws, wsl, opX, int, Zv.bool, intBin, reduceIte, ↓reduceIte, Nat.reduceEqDiff, Nat.reduceAdd, Nat.reduceSub, Nat.reduceLeDiff, Int.reduceLT, Int.reduceLE, Int.reduceEq, Int.reduceBEq, Int.reduceNe, Int.reduceBNe, reduceCtorEq, Nat.reduceBEq] <;> repeat' (first | refine wpG_s ?_ ?_ | refine wpC_s ?_ ?_) <;> intro hgo <;> (try simp only [decide_eq_true_eq, decide_eq_false_iff_not, Bool.not_eq_true', Bool.not_eq_false'] at hgo) <;> simp only [hgo, e36, h1, R.row, R.cells, ia_own (es := 3) (n := nc) (tot := cs.length) .i64 hlt, List.getElem?_map, hc, rcV_cells, rab, Int.toNat_natCast, ws, wsl, opX, int, Zv.bool, intBin, reduceIte, ↓reduceIte, Nat.reduceEqDiff, Nat.reduceAdd, Nat.reduceSub, Nat.reduceLeDiff, Int.reduceLT, Int.reduceLE, Int.reduceEq, Int.reduceBEq, Int.reduceNe, Int.reduceBNe, reduceCtorEq, Nat.reduceBEq])

theorem aggW (x y : Wd) : aggBin [.i, .i] .neq (.d (eW x)) (.d (eW y)) = some (.d (.bool (!decide (x = y)))) := by
  obtain ⟨a, b⟩ := x
  obtain ⟨c, d⟩ := y
  simp only [aggBin, D.eqs, keyEq, if_true, ibeq, Bool.and_true, Prod.mk.injEq]
  congr 3
  by_cases h1 : a = c <;> by_cases h2 : b = d <;> simp [h1, h2]
theorem same_ok {h : Hp} {v : V} {b : List Wd} (a : List Wd) (S : SlW h v b) (ha : a.length < 2 ^ 60) : callW tab 19 [.d (eWs a), v] h = some (.d (.bool (decide (a = b))), h) := by
  apply call_wp (fn := f19) rfl rfl
  by_cases hlen : a.length = b.length
  · skip
    have hloop := loop_any (T := tab) (a := f19l0) (l := a.zip b) (p := (fun q => !decide (q.1 = q.2))) (f := fun n => [(0, .d (eWs a)), (1, v), (5, int n)]) (h := h)
        (by intro n x hx hlt hp; have hx' := List.getElem?_zip_eq_some.1 hx; have h5 := lt_of_get hx'.1; obtain ⟨y, hy, hly⟩ := S.at_ n x.2 hx'.2; simp only [Bool.not_eq_true', Bool.not_eq_false', decide_eq_true_eq, decide_eq_false_iff_not] at hp; all_goals (apply wq_ex.1; (simp only [hlt, hp, e19, iaW hx'.1, hy, hly, aggW, h5, wrap_succ (show n < 2 ^ 62 by omega), ws, wsl, opX, int, Zv.bool, intBin, reduceIte, ↓reduceIte, Nat.reduceEqDiff, Nat.reduceAdd, Nat.reduceSub, Nat.reduceLeDiff, Int.reduceLT, Int.reduceLE, Int.reduceEq, Int.reduceBEq, Int.reduceNe, Int.reduceBNe, reduceCtorEq, Nat.reduceBEq] <;> repeat' (first | refine wpG_s ?_ ?_ | refine wpC_s ?_ ?_) <;> intro hgo <;> (try simp only [decide_eq_true_eq, decide_eq_false_iff_not, Bool.not_eq_true', Bool.not_eq_false'] at hgo) <;> simp only [hgo, hlt, hp, e19, iaW hx'.1, hy, hly, aggW, h5, wrap_succ (show n < 2 ^ 62 by omega), ws, wsl, opX, int, Zv.bool, intBin, reduceIte, ↓reduceIte, Nat.reduceEqDiff, Nat.reduceAdd, Nat.reduceSub, Nat.reduceLeDiff, Int.reduceLT, Int.reduceLE, Int.reduceEq, Int.reduceBEq, Int.reduceNe, Int.reduceBNe, reduceCtorEq, Nat.reduceBEq])))
        (by intro n x hx hlt hp; have hx' := List.getElem?_zip_eq_some.1 hx; have h5 := lt_of_get hx'.1; obtain ⟨y, hy, hly⟩ := S.at_ n x.2 hx'.2; simp only [Bool.not_eq_true', Bool.not_eq_false', decide_eq_true_eq, decide_eq_false_iff_not] at hp; all_goals (apply wq_ex.1; (simp only [hlt, hp, e19, iaW hx'.1, hy, hly, aggW, h5, wrap_succ (show n < 2 ^ 62 by omega), ws, wsl, opX, int, Zv.bool, intBin, reduceIte, ↓reduceIte, Nat.reduceEqDiff, Nat.reduceAdd, Nat.reduceSub, Nat.reduceLeDiff, Int.reduceLT, Int.reduceLE, Int.reduceEq, Int.reduceBEq, Int.reduceNe, Int.reduceBNe, reduceCtorEq, Nat.reduceBEq] <;> repeat' (first | refine wpG_s ?_ ?_ | refine wpC_s ?_ ?_) <;> intro hgo <;> (try simp only [decide_eq_true_eq, decide_eq_false_iff_not, Bool.not_eq_true', Bool.not_eq_false'] at hgo) <;> simp only [hgo, hlt, hp, e19, iaW hx'.1, hy, hly, aggW, h5, wrap_succ (show n < 2 ^ 62 by omega), ws, wsl, opX, int, Zv.bool, intBin, reduceIte, ↓reduceIte, Nat.reduceEqDiff, Nat.reduceAdd, Nat.reduceSub, Nat.reduceLeDiff, Int.reduceLT, Int.reduceLE, Int.reduceEq, Int.reduceBEq, Int.reduceNe, Int.reduceBNe, reduceCtorEq, Nat.reduceBEq]) <;> rfl))
        (by apply wq_ex.1; (simp only [e19, show (a.zip b).length = a.length by simp [hlen], ws, wsl, opX, int, Zv.bool, intBin, reduceIte, ↓reduceIte, Nat.reduceEqDiff, Nat.reduceAdd, Nat.reduceSub, Nat.reduceLeDiff, Int.reduceLT, Int.reduceLE, Int.reduceEq, Int.reduceBEq, Int.reduceNe, Int.reduceBNe, reduceCtorEq, Nat.reduceBEq] <;> repeat' (first | refine wpG_s ?_ ?_ | refine wpC_s ?_ ?_) <;> intro hgo <;> (try simp only [decide_eq_true_eq, decide_eq_false_iff_not, Bool.not_eq_true', Bool.not_eq_false'] at hgo) <;> simp only [hgo, e19, show (a.zip b).length = a.length by simp [hlen], ws, wsl, opX, int, Zv.bool, intBin, reduceIte, ↓reduceIte, Nat.reduceEqDiff, Nat.reduceAdd, Nat.reduceSub, Nat.reduceLeDiff, Int.reduceLT, Int.reduceLE, Int.reduceEq, Int.reduceBEq, Int.reduceNe, Int.reduceBNe, reduceCtorEq, Nat.reduceBEq]) <;> rfl)
        (by simp) (by simp)
    simp only [int, Zv.bool, Int.cast_ofNat_Int] at hloop
    have e : ((a.length : Int) != (b.length : Int)) = false := by simp [hlen]
    (simp only [e19, wq_of hloop, S.len, e, ws, wsl, opX, int, Zv.bool, intBin, reduceIte, ↓reduceIte, Nat.reduceEqDiff, Nat.reduceAdd, Nat.reduceSub, Nat.reduceLeDiff, Int.reduceLT, Int.reduceLE, Int.reduceEq, Int.reduceBEq, Int.reduceNe, Int.reduceBNe, reduceCtorEq, Nat.reduceBEq] <;> repeat' (first | refine wpG_s ?_ ?_ | refine wpC_s ?_ ?_) <;> intro hgo <;> (try simp only [decide_eq_true_eq, decide_eq_false_iff_not, Bool.not_eq_true', Bool.not_eq_false'] at hgo) <;> simp only [hgo, e19, wq_of hloop, S.len, e, ws, wsl, opX, int, Zv.bool, intBin, reduceIte, ↓reduceIte, Nat.reduceEqDiff, Nat.reduceAdd, Nat.reduceSub, Nat.reduceLeDiff, Int.reduceLT, Int.reduceLE, Int.reduceEq, Int.reduceBEq, Int.reduceNe, Int.reduceBNe, reduceCtorEq, Nat.reduceBEq])
    have key : ∀ (l m : List Wd), l.length = m.length → ((l.zip m).any fun q => !decide (q.1 = q.2)) = !decide (l = m) := by
      intro l
      induction l with
      | nil => intro m hm; cases m <;> simp_all
      | cons a l ih =>
        intro m hm
        cases m with
        | nil => simp at hm
        | cons b m =>
          simp only [List.zip_cons_cons, List.any_cons, ih m (by simpa using hm), List.cons.injEq]
          by_cases h1 : a = b <;> by_cases h2 : l = m <;> simp [h1, h2]
    rw [key a b hlen]
    by_cases h1 : a = b
    · (simp only [e19, h1, ws, wsl, opX, int, Zv.bool, intBin, reduceIte, ↓reduceIte, Nat.reduceEqDiff, Nat.reduceAdd, Nat.reduceSub, Nat.reduceLeDiff, Int.reduceLT, Int.reduceLE, Int.reduceEq, Int.reduceBEq, Int.reduceNe, Int.reduceBNe, reduceCtorEq, Nat.reduceBEq] <;> repeat' (first | refine wpG_s ?_ ?_ | refine wpC_s ?_ ?_) <;> intro hgo <;> (try simp only [decide_eq_true_eq, decide_eq_false_iff_not, Bool.not_eq_true', Bool.not_eq_false'] at hgo) <;> simp only [hgo, e19, h1, ws, wsl, opX, int, Zv.bool, intBin, reduceIte, ↓reduceIte, Nat.reduceEqDiff, Nat.reduceAdd, Nat.reduceSub, Nat.reduceLeDiff, Int.reduceLT, Int.reduceLE, Int.reduceEq, Int.reduceBEq, Int.reduceNe, Int.reduceBNe, reduceCtorEq, Nat.reduceBEq])
    · (simp only [e19, h1, ws, wsl, opX, int, Zv.bool, intBin, reduceIte, ↓reduceIte, Nat.reduceEqDiff, Nat.reduceAdd, Nat.reduceSub, Nat.reduceLeDiff, Int.reduceLT, Int.reduceLE, Int.reduceEq, Int.reduceBEq, Int.reduceNe, Int.reduceBNe, reduceCtorEq, Nat.reduceBEq] <;> repeat' (first | refine wpG_s ?_ ?_ | refine wpC_s ?_ ?_) <;> intro hgo <;> (try simp only [decide_eq_true_eq, decide_eq_false_iff_not, Bool.not_eq_true', Bool.not_eq_false'] at hgo) <;> simp only [hgo, e19, h1, ws, wsl, opX, int, Zv.bool, intBin, reduceIte, ↓reduceIte, Nat.reduceEqDiff, Nat.reduceAdd, Nat.reduceSub, Nat.reduceLeDiff, Int.reduceLT, Int.reduceLE, Int.reduceEq, Int.reduceBEq, Int.reduceNe, Int.reduceBNe, reduceCtorEq, Nat.reduceBEq])
  · have e : ((a.length : Int) != (b.length : Int)) = true := by simp; omega
    have h1 : ¬ a = b := fun h => hlen (by rw [h])
    (simp only [e19, e, h1, S.len, ws, wsl, opX, int, Zv.bool, intBin, reduceIte, ↓reduceIte, Nat.reduceEqDiff, Nat.reduceAdd, Nat.reduceSub, Nat.reduceLeDiff, Int.reduceLT, Int.reduceLE, Int.reduceEq, Int.reduceBEq, Int.reduceNe, Int.reduceBNe, reduceCtorEq, Nat.reduceBEq] <;> repeat' (first | refine wpG_s ?_ ?_ | refine wpC_s ?_ ?_) <;> intro hgo <;> (try simp only [decide_eq_true_eq, decide_eq_false_iff_not, Bool.not_eq_true', Bool.not_eq_false'] at hgo) <;> simp only [hgo, e19, e, h1, S.len, ws, wsl, opX, int, Zv.bool, intBin, reduceIte, ↓reduceIte, Nat.reduceEqDiff, Nat.reduceAdd, Nat.reduceSub, Nat.reduceLeDiff, Int.reduceLT, Int.reduceLE, Int.reduceEq, Int.reduceBEq, Int.reduceNe, Int.reduceBNe, reduceCtorEq, Nat.reduceBEq])

theorem rget_ok {h : Hp} {nt nc : Nat} {O : Nat → Prop} {S : St} (R : RS h nt nc O S) (L : Low h) (n : Int) :
    ∃ v, callW tab 32 [.ptr nt 1 0 0, .d (eI n)] h = some (.tup [.d (eI (getS S n).1), v, .d (eI (getS S n).2.2)], h) ∧ SlW h v (getS S n).2.1 ∧ norm v = v := by
  obtain ⟨⟨cs, fv, P, F, hab, hown⟩, hok, hos⟩ := R
  have hst := rstate_ok P n
  rw [hab] at hst
  unfold getS
  by_cases h0 : sErrA S.cells n = 0
  · rw [h0] at hst
    obtain ⟨i, a, rfl, ha, hu⟩ := sErrA_ok h0
    obtain ⟨c, hc⟩ := get_of_lt (l := cs) (n := i) (by have := lt_of_get ha; rw [← hab, List.length_map] at this; exact this)
    have hlt := lt_of_get hc
    have hac : a = rab c := by rw [← hab, List.getElem?_map, hc] at ha; cases ha; rfl
    rw [if_neg (by rw [h0]; simp)]
    simp only [Int.toNat_natCast, ha, hac, rab]
    have hb : finS h h [.d (eI c.tag), rwV c, .d (.int .i64 0)] = some (.tup [.d (eI c.tag), norm (rwV c), .d (.int .i64 0)], h) := by
      unfold finS
      rw [if_pos (suf_refl _)]
      have : back1 h h.next (rwV c) = some (norm (rwV c)) := by
        unfold rwV
        cases hw : c.wh with
        | fresh => rfl
        | tl nl => rfl
        | row m =>
          have := low_lt L (P.w i c m hc hw).1
          unfold back1
          have hd : deep h h.next 8 (.own m 2 c.words.length 0 c.words.length) = none := by
            unfold deep
            simp only
            rw [if_neg (by omega)]
          rw [hd]
          simp [old, this, norm, toD]
      simp only [List.mapM_cons, List.mapM_nil, back_d, this]
      rfl
    have hn2 : norm (norm (rwV c)) = norm (rwV c) := by unfold rwV; cases c.wh <;> rfl
    refine ⟨norm (rwV c), ?_, (P.words hc).1, hn2⟩
    apply call_wp (fn := f32) rfl rfl
    (simp only [e32, hst, P.row, P.cells, ia_own (es := 3) (n := nc) (tot := cs.length) .i64 hlt, List.getElem?_map, hc, rcV_cells, hb, ws, wsl, opX, int, Zv.bool, intBin, reduceIte, ↓reduceIte, Nat.reduceEqDiff, Nat.reduceAdd, Nat.reduceSub, Nat.reduceLeDiff, Int.reduceLT, Int.reduceLE, Int.reduceEq, Int.reduceBEq, Int.reduceNe, Int.reduceBNe, reduceCtorEq, Nat.reduceBEq] <;> repeat' (first | refine wpG_s ?_ ?_ | refine wpC_s ?_ ?_) <;> intro hgo <;> (try simp only [decide_eq_true_eq, decide_eq_false_iff_not, Bool.not_eq_true', Bool.not_eq_false'] at hgo) <;> simp only [hgo, e32, hst, P.row, P.cells, ia_own (es := 3) (n := nc) (tot := cs.length) .i64 hlt, List.getElem?_map, hc, rcV_cells, hb, ws, wsl, opX, int, Zv.bool, intBin, reduceIte, ↓reduceIte, Nat.reduceEqDiff, Nat.reduceAdd, Nat.reduceSub, Nat.reduceLeDiff, Int.reduceLT, Int.reduceLE, Int.reduceEq, Int.reduceBEq, Int.reduceNe, Int.reduceBNe, reduceCtorEq, Nat.reduceBEq])
  · rw [if_pos h0]
    refine ⟨.d (.lst []), ?_, SlW.data h [], rfl⟩
    have e2 : (sErrA S.cells n != 0) = true := by simp [h0]
    have hfn : ∀ e, finS h h [.d (.int .i64 0), .tl [] (some true), .d (.int .i64 e)] = some (.tup [.d (.int .i64 0), .d (.lst []), .d (.int .i64 e)], h) := by
      intro e; unfold finS; rw [if_pos (suf_refl _)]; rfl
    apply call_wp (fn := f32) rfl rfl
    (simp only [e32, hst, e2, hfn, ws, wsl, opX, int, Zv.bool, intBin, reduceIte, ↓reduceIte, Nat.reduceEqDiff, Nat.reduceAdd, Nat.reduceSub, Nat.reduceLeDiff, Int.reduceLT, Int.reduceLE, Int.reduceEq, Int.reduceBEq, Int.reduceNe, Int.reduceBNe, reduceCtorEq, Nat.reduceBEq] <;> repeat' (first | refine wpG_s ?_ ?_ | refine wpC_s ?_ ?_) <;> intro hgo <;> (try simp only [decide_eq_true_eq, decide_eq_false_iff_not, Bool.not_eq_true', Bool.not_eq_false'] at hgo) <;> simp only [hgo, e32, hst, e2, hfn, ws, wsl, opX, int, Zv.bool, intBin, reduceIte, ↓reduceIte, Nat.reduceEqDiff, Nat.reduceAdd, Nat.reduceSub, Nat.reduceLeDiff, Int.reduceLT, Int.reduceLE, Int.reduceEq, Int.reduceBEq, Int.reduceNe, Int.reduceBNe, reduceCtorEq, Nat.reduceBEq])
-- ws, wsl, opX, int, Zv.bool, intBin, reduceIte, ↓reduceIte, Nat.reduceEqDiff, Nat.reduceAdd, Nat.reduceSub, Nat.reduceLeDiff, Int.reduceLT, Int.reduceLE, Int.reduceEq, Int.reduceBEq, Int.reduceNe, Int.reduceBNe, reduceCtorEq, Nat.reduceBEq
end Zc55
