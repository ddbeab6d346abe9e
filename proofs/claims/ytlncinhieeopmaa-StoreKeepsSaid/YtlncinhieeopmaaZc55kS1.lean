/-
  Words, the program's store in memory, and what reads it.
-/
import Derived.Test.YtlncinhieeopmaaTypesK
import Derived.Test.YtlncinhieeopmaaZc55kX
import Derived.Test.YtlncinhieeopmaaZvHeap
import Derived.Test.YtlncinhieeopmaaZvShift
import Derived.KernelRfl
set_option linter.unusedSimpArgs false
set_option maxHeartbeats 4000000
namespace Zc55k
open Go Zv Zs

abbrev Wd := Int × Int
abbrev eI (n : Int) : D := .int .i64 n
abbrev eW (w : Wd) : D := .agg [.int .i64 w.1, .int .i64 w.2]
abbrev eWs (l : List Wd) : D := .lst (l.map eW)
theorem iaW {l : List Wd} {n : Nat} {x : Wd} (hx : l[n]? = some x) : ia 2 (.d (.lst (l.map eW))) (.d (.int .i64 (n : Int))) = some (.fp (eW x) 0) := ia_map (f := eW) .i64 hx rfl
theorem lt_of_get {α : Type} {l : List α} {n : Nat} {x : α} (h : l[n]? = some x) : n < l.length := (List.getElem?_eq_some_iff.1 h).1
theorem get_of_lt {α : Type} {l : List α} {n : Nat} (h : n < l.length) : ∃ x, l[n]? = some x := ⟨l[n], List.getElem?_eq_getElem h⟩

def formedS (w : Wd) : Bool := if w.1 = 0 then true else if w.1 = 2 then true else if w.1 = 1 then decide (0 ≤ w.2) else if w.1 = 3 then decide (w.2 = 0) else false
theorem formed_ok (w : Wd) (h : Hp) : callW tab 26 [.d (eW w)] h = some (.d (.bool (formedS w)), h) := by
  apply call_wp (fn := f26) rfl rfl
  unfold formedS
  by_cases h0 : w.1 = 0
  · (simp only [e26, ibeq, h0, ws, wsl, opX, int, Zv.bool, intBin, reduceIte, ↓reduceIte, Nat.reduceEqDiff, Nat.reduceAdd, Nat.reduceSub, Nat.reduceLeDiff, Int.reduceLT, Int.reduceLE, Int.reduceEq, Int.reduceBEq, Int.reduceNe, Int.reduceBNe, reduceCtorEq, Nat.reduceBEq] <;> repeat' (first | refine wpG_s ?_ ?_ | refine wpC_s ?_ ?_) <;> intro hgo <;> (try simp only [decide_eq_true_eq, decide_eq_false_iff_not, Bool.not_eq_true', Bool.not_eq_false'] at hgo) <;> simp only [hgo, e26, ibeq, h0, ws, wsl, opX, int, Zv.bool, intBin, reduceIte, ↓reduceIte, Nat.reduceEqDiff, Nat.reduceAdd, Nat.reduceSub, Nat.reduceLeDiff, Int.reduceLT, Int.reduceLE, Int.reduceEq, Int.reduceBEq, Int.reduceNe, Int.reduceBNe, reduceCtorEq, Nat.reduceBEq])
  · by_cases h2 : w.1 = 2
    · (simp only [e26, ibeq, h2, ws, wsl, opX, int, Zv.bool, intBin, reduceIte, ↓reduceIte, Nat.reduceEqDiff, Nat.reduceAdd, Nat.reduceSub, Nat.reduceLeDiff, Int.reduceLT, Int.reduceLE, Int.reduceEq, Int.reduceBEq, Int.reduceNe, Int.reduceBNe, reduceCtorEq, Nat.reduceBEq] <;> repeat' (first | refine wpG_s ?_ ?_ | refine wpC_s ?_ ?_) <;> intro hgo <;> (try simp only [decide_eq_true_eq, decide_eq_false_iff_not, Bool.not_eq_true', Bool.not_eq_false'] at hgo) <;> simp only [hgo, e26, ibeq, h2, ws, wsl, opX, int, Zv.bool, intBin, reduceIte, ↓reduceIte, Nat.reduceEqDiff, Nat.reduceAdd, Nat.reduceSub, Nat.reduceLeDiff, Int.reduceLT, Int.reduceLE, Int.reduceEq, Int.reduceBEq, Int.reduceNe, Int.reduceBNe, reduceCtorEq, Nat.reduceBEq])
    · by_cases h1 : w.1 = 1
      · (simp only [e26, ibeq, h1, ws, wsl, opX, int, Zv.bool, intBin, reduceIte, ↓reduceIte, Nat.reduceEqDiff, Nat.reduceAdd, Nat.reduceSub, Nat.reduceLeDiff, Int.reduceLT, Int.reduceLE, Int.reduceEq, Int.reduceBEq, Int.reduceNe, Int.reduceBNe, reduceCtorEq, Nat.reduceBEq] <;> repeat' (first | refine wpG_s ?_ ?_ | refine wpC_s ?_ ?_) <;> intro hgo <;> (try simp only [decide_eq_true_eq, decide_eq_false_iff_not, Bool.not_eq_true', Bool.not_eq_false'] at hgo) <;> simp only [hgo, e26, ibeq, h1, ws, wsl, opX, int, Zv.bool, intBin, reduceIte, ↓reduceIte, Nat.reduceEqDiff, Nat.reduceAdd, Nat.reduceSub, Nat.reduceLeDiff, Int.reduceLT, Int.reduceLE, Int.reduceEq, Int.reduceBEq, Int.reduceNe, Int.reduceBNe, reduceCtorEq, Nat.reduceBEq])
      · by_cases h3 : w.1 = 3
        · (simp only [e26, ibeq, h3, ws, wsl, opX, int, Zv.bool, intBin, reduceIte, ↓reduceIte, Nat.reduceEqDiff, Nat.reduceAdd, Nat.reduceSub, Nat.reduceLeDiff, Int.reduceLT, Int.reduceLE, Int.reduceEq, Int.reduceBEq, Int.reduceNe, Int.reduceBNe, reduceCtorEq, Nat.reduceBEq] <;> repeat' (first | refine wpG_s ?_ ?_ | refine wpC_s ?_ ?_) <;> intro hgo <;> (try simp only [decide_eq_true_eq, decide_eq_false_iff_not, Bool.not_eq_true', Bool.not_eq_false'] at hgo) <;> simp only [hgo, e26, ibeq, h3, ws, wsl, opX, int, Zv.bool, intBin, reduceIte, ↓reduceIte, Nat.reduceEqDiff, Nat.reduceAdd, Nat.reduceSub, Nat.reduceLeDiff, Int.reduceLT, Int.reduceLE, Int.reduceEq, Int.reduceBEq, Int.reduceNe, Int.reduceBNe, reduceCtorEq, Nat.reduceBEq])
        · (simp only [e26, ibeq, h0, h1, h2, h3, ws, wsl, opX, int, Zv.bool, intBin, reduceIte, ↓reduceIte, Nat.reduceEqDiff, Nat.reduceAdd, Nat.reduceSub, Nat.reduceLeDiff, Int.reduceLT, Int.reduceLE, Int.reduceEq, Int.reduceBEq, Int.reduceNe, Int.reduceBNe, reduceCtorEq, Nat.reduceBEq] <;> repeat' (first | refine wpG_s ?_ ?_ | refine wpC_s ?_ ?_) <;> intro hgo <;> (try simp only [decide_eq_true_eq, decide_eq_false_iff_not, Bool.not_eq_true', Bool.not_eq_false'] at hgo) <;> simp only [hgo, e26, ibeq, h0, h1, h2, h3, ws, wsl, opX, int, Zv.bool, intBin, reduceIte, ↓reduceIte, Nat.reduceEqDiff, Nat.reduceAdd, Nat.reduceSub, Nat.reduceLeDiff, Int.reduceLT, Int.reduceLE, Int.reduceEq, Int.reduceBEq, Int.reduceNe, Int.reduceBNe, reduceCtorEq, Nat.reduceBEq])
theorem rform_ok (w : Wd) (h : Hp) : callW tab 37 [.d (eW w)] h = some (.d (.bool (formedS w)), h) := by
  apply call_wp (fn := f37) rfl rfl
  unfold formedS
  by_cases h0 : w.1 = 0
  · (simp only [e37, ibeq, h0, ws, wsl, opX, int, Zv.bool, intBin, reduceIte, ↓reduceIte, Nat.reduceEqDiff, Nat.reduceAdd, Nat.reduceSub, Nat.reduceLeDiff, Int.reduceLT, Int.reduceLE, Int.reduceEq, Int.reduceBEq, Int.reduceNe, Int.reduceBNe, reduceCtorEq, Nat.reduceBEq] <;> repeat' (first | refine wpG_s ?_ ?_ | refine wpC_s ?_ ?_) <;> intro hgo <;> (try simp only [decide_eq_true_eq, decide_eq_false_iff_not, Bool.not_eq_true', Bool.not_eq_false'] at hgo) <;> simp only [hgo, e37, ibeq, h0, ws, wsl, opX, int, Zv.bool, intBin, reduceIte, ↓reduceIte, Nat.reduceEqDiff, Nat.reduceAdd, Nat.reduceSub, Nat.reduceLeDiff, Int.reduceLT, Int.reduceLE, Int.reduceEq, Int.reduceBEq, Int.reduceNe, Int.reduceBNe, reduceCtorEq, Nat.reduceBEq])
  · by_cases h2 : w.1 = 2
    · (simp only [e37, ibeq, h2, ws, wsl, opX, int, Zv.bool, intBin, reduceIte, ↓reduceIte, Nat.reduceEqDiff, Nat.reduceAdd, Nat.reduceSub, Nat.reduceLeDiff, Int.reduceLT, Int.reduceLE, Int.reduceEq, Int.reduceBEq, Int.reduceNe, Int.reduceBNe, reduceCtorEq, Nat.reduceBEq] <;> repeat' (first | refine wpG_s ?_ ?_ | refine wpC_s ?_ ?_) <;> intro hgo <;> (try simp only [decide_eq_true_eq, decide_eq_false_iff_not, Bool.not_eq_true', Bool.not_eq_false'] at hgo) <;> simp only [hgo, e37, ibeq, h2, ws, wsl, opX, int, Zv.bool, intBin, reduceIte, ↓reduceIte, Nat.reduceEqDiff, Nat.reduceAdd, Nat.reduceSub, Nat.reduceLeDiff, Int.reduceLT, Int.reduceLE, Int.reduceEq, Int.reduceBEq, Int.reduceNe, Int.reduceBNe, reduceCtorEq, Nat.reduceBEq])
    · by_cases h1 : w.1 = 1
      · (simp only [e37, ibeq, h1, ws, wsl, opX, int, Zv.bool, intBin, reduceIte, ↓reduceIte, Nat.reduceEqDiff, Nat.reduceAdd, Nat.reduceSub, Nat.reduceLeDiff, Int.reduceLT, Int.reduceLE, Int.reduceEq, Int.reduceBEq, Int.reduceNe, Int.reduceBNe, reduceCtorEq, Nat.reduceBEq] <;> repeat' (first | refine wpG_s ?_ ?_ | refine wpC_s ?_ ?_) <;> intro hgo <;> (try simp only [decide_eq_true_eq, decide_eq_false_iff_not, Bool.not_eq_true', Bool.not_eq_false'] at hgo) <;> simp only [hgo, e37, ibeq, h1, ws, wsl, opX, int, Zv.bool, intBin, reduceIte, ↓reduceIte, Nat.reduceEqDiff, Nat.reduceAdd, Nat.reduceSub, Nat.reduceLeDiff, Int.reduceLT, Int.reduceLE, Int.reduceEq, Int.reduceBEq, Int.reduceNe, Int.reduceBNe, reduceCtorEq, Nat.reduceBEq])
      · by_cases h3 : w.1 = 3
        · (simp only [e37, ibeq, h3, ws, wsl, opX, int, Zv.bool, intBin, reduceIte, ↓reduceIte, Nat.reduceEqDiff, Nat.reduceAdd, Nat.reduceSub, Nat.reduceLeDiff, Int.reduceLT, Int.reduceLE, Int.reduceEq, Int.reduceBEq, Int.reduceNe, Int.reduceBNe, reduceCtorEq, Nat.reduceBEq] <;> repeat' (first | refine wpG_s ?_ ?_ | refine wpC_s ?_ ?_) <;> intro hgo <;> (try simp only [decide_eq_true_eq, decide_eq_false_iff_not, Bool.not_eq_true', Bool.not_eq_false'] at hgo) <;> simp only [hgo, e37, ibeq, h3, ws, wsl, opX, int, Zv.bool, intBin, reduceIte, ↓reduceIte, Nat.reduceEqDiff, Nat.reduceAdd, Nat.reduceSub, Nat.reduceLeDiff, Int.reduceLT, Int.reduceLE, Int.reduceEq, Int.reduceBEq, Int.reduceNe, Int.reduceBNe, reduceCtorEq, Nat.reduceBEq])
        · (simp only [e37, ibeq, h0, h1, h2, h3, ws, wsl, opX, int, Zv.bool, intBin, reduceIte, ↓reduceIte, Nat.reduceEqDiff, Nat.reduceAdd, Nat.reduceSub, Nat.reduceLeDiff, Int.reduceLT, Int.reduceLE, Int.reduceEq, Int.reduceBEq, Int.reduceNe, Int.reduceBNe, reduceCtorEq, Nat.reduceBEq] <;> repeat' (first | refine wpG_s ?_ ?_ | refine wpC_s ?_ ?_) <;> intro hgo <;> (try simp only [decide_eq_true_eq, decide_eq_false_iff_not, Bool.not_eq_true', Bool.not_eq_false'] at hgo) <;> simp only [hgo, e37, ibeq, h0, h1, h2, h3, ws, wsl, opX, int, Zv.bool, intBin, reduceIte, ↓reduceIte, Nat.reduceEqDiff, Nat.reduceAdd, Nat.reduceSub, Nat.reduceLeDiff, Int.reduceLT, Int.reduceLE, Int.reduceEq, Int.reduceBEq, Int.reduceNe, Int.reduceBNe, reduceCtorEq, Nat.reduceBEq])

/-- Where a cell's words are. -/
inductive WH where
  | fresh
  | nil
  | row (n : Nat)
structure PC where
  used : Bool
  tag : Int
  words : List Wd
  next : Int
  wh : WH
def wV (c : PC) : V := match c.wh with
  | .fresh => .d (.lst [])
  | .nil => .tl [] (some true)
  | .row n => .own n 2 c.words.length 0 c.words.length
def cV (c : PC) : V := mkAgg [.d (.bool c.used), .d (eI c.tag), wV c, .d (eI c.next)]
theorem cV_cells (c : PC) : (cV c).cells = [.d (.bool c.used), .d (eI c.tag), wV c, .d (eI c.next)] := by
  unfold cV wV
  cases c.wh <;> rfl
theorem wV_stor (c : PC) : stor (wV c) = true := by unfold wV; cases c.wh <;> rfl
theorem wV_cells (c : PC) : (wV c).cells = [wV c] := by unfold wV; cases c.wh <;> rfl
/-- The program's store, by what stands under which name. -/
structure PR (g : Nat → Option Ob) (ns nc : Nat) (cs : List PC) (first left : Int) : Prop where
  s : g ns = some (.arr 3 [.agg [.own nc 4 cs.length 0 cs.length, .d (eI first), .d (eI left)]])
  c : g nc = some (.arr 4 (cs.map cV))
  w : ∀ (i : Nat) c n, cs[i]? = some c → c.wh = .row n → g n = some (.arr 2 ((c.words.map eW).map .d))
  e : ∀ c, c ∈ cs → (∀ n, c.wh ≠ .row n) → c.words = []
  d : ∀ (i j : Nat) c c' n, cs[i]? = some c → cs[j]? = some c' → c.wh = .row n → c'.wh = .row n → i = j
  ne : ns ≠ nc
  wn : ∀ (i : Nat) c n, cs[i]? = some c → c.wh = .row n → n ≠ ns ∧ n ≠ nc
theorem PR.row {h : Hp} {ns nc : Nat} {cs : List PC} {first left : Int} (R : PR h.get ns nc cs first left) : h.row ns 1 = some (3, [.agg [.own nc 4 cs.length 0 cs.length, .d (eI first), .d (eI left)]]) := by
  rw [row_lk, R.s]; rfl
theorem PR.cells {h : Hp} {ns nc : Nat} {cs : List PC} {first left : Int} (R : PR h.get ns nc cs first left) : h.row nc cs.length = some (4, cs.map cV) := by
  rw [row_lk, R.c, rowOf_arr, if_pos (by simp)]
/-- A slice of words, as it is read. -/
structure SlW (h : Hp) (v : V) (l : List Wd) : Prop where
  len : lenL v = some (.d (.int .i64 l.length))
  els : elems h v = some ((l.map eW).map .d)
  at_ : ∀ (n : Nat) (x : Wd), l[n]? = some x → ∃ a, ia 2 v (.d (.int .i64 (n : Int))) = some a ∧ ld true 2 h a = some (.d (eW x))
theorem SlW.data (h : Hp) (l : List Wd) : SlW h (.d (eWs l)) l := by
  refine ⟨by rw [lenL_lst, List.length_map], rfl, fun n x hx => ⟨.fp (eW x) 0, iaW hx, rfl⟩⟩
theorem SlW.own {h : Hp} {n : Nat} {l : List Wd} (hg : h.get n = some (.arr 2 ((l.map eW).map .d))) : SlW h (.own n 2 l.length 0 l.length) l := by
  have hr : h.row n l.length = some (2, (l.map eW).map .d) := by rw [row_lk, hg, rowOf_arr, if_pos (by simp)]
  refine ⟨lenL_own .., ?_, fun k x hx => ⟨.ptr n l.length k 0, ?_, ?_⟩⟩
  · simp only [elems, hr, Option.bind_some, List.length_map, Nat.zero_add, Nat.le_refl, if_true, List.drop_zero]
    rw [List.take_of_length_le (by simp)]
  · have := lt_of_get hx
    simp [ia, ixOf_nat, this]
  · simp [ld, hr, hx]
theorem PR.words {h : Hp} {ns nc : Nat} {cs : List PC} {first left : Int} (R : PR h.get ns nc cs first left) {i : Nat} {c : PC} (hc : cs[i]? = some c) : SlW h (norm (wV c)) c.words ∧ SlW h (wV c) c.words := by
  have he := R.e c (List.mem_of_getElem? hc)
  have nilS : SlW h (.tl [] (some true)) [] := ⟨rfl, rfl, fun n x hx => by simp at hx⟩
  unfold wV
  cases hw : c.wh with
  | fresh => have := he (by rw [hw]; intro n h; cases h); rw [this]; exact ⟨SlW.data h [], SlW.data h []⟩
  | nil => have := he (by rw [hw]; intro n h; cases h); rw [this]; exact ⟨SlW.data h [], nilS⟩
  | row n => exact ⟨SlW.own (R.w i c n hc hw), SlW.own (R.w i c n hc hw)⟩

/-- A cell, without where it is. -/
abbrev ACl := Bool × Int × List Wd
def ab (c : PC) : ACl := (c.used, c.tag, c.words)
def usedA (A : List ACl) (n : Int) : Bool := decide (0 ≤ n) && (match A[n.toNat]? with
  | some c => c.1
  | none => false)
def usedS (cs : List PC) (n : Int) : Bool := usedA (cs.map ab) n
theorem ncase {α : Type} (l : List α) (k : Int) : k < 0 ∨ (l.length : Int) ≤ k ∨ ∃ n : Nat, ∃ y, k = (n : Int) ∧ l[n]? = some y := by
  by_cases h0 : k < 0
  · exact .inl h0
  · by_cases h1 : (l.length : Int) ≤ k
    · exact .inr (.inl h1)
    · obtain ⟨y, hy⟩ := get_of_lt (l := l) (n := k.toNat) (by omega)
      exact .inr (.inr ⟨k.toNat, y, by omega, hy⟩)
theorem usedS_lo {cs : List PC} {n : Int} (h : n < 0) : usedS cs n = false := by unfold usedS usedA; rw [decide_eq_false (by omega)]; rfl
theorem usedS_hi {cs : List PC} {n : Int} (h : (cs.length : Int) ≤ n) : usedS cs n = false := by
  unfold usedS usedA; rw [List.getElem?_eq_none (by rw [List.length_map]; omega), Bool.and_false]
theorem usedS_at {cs : List PC} {n : Nat} {c : PC} (h : cs[n]? = some c) : usedS cs n = c.used := by
  unfold usedS usedA; rw [Int.toNat_natCast, List.getElem?_map, h, decide_eq_true (by omega)]; rfl
theorem ia_own {es n tot len j : Nat} (k : IntKind) (h : j < len) : ia es (.own n es tot 0 len) (.d (.int k (j : Int))) = some (.ptr n tot j 0) := by
  simp [ia, ixOf_nat, h]
theorem used_ok {h : Hp} {ns nc : Nat} {cs : List PC} {first left : Int} (R : PR h.get ns nc cs first left) (n : Int) : callW tab 28 [.ptr ns 1 0 0, .d (eI n)] h = some (.d (.bool (usedS cs n)), h) := by
  apply call_wp (fn := f28) rfl rfl
  rcases ncase cs n with h0 | h0 | ⟨m, c, rfl, hc⟩
  · have : ¬ 0 ≤ n := by omega
    (simp only [e28, this, usedS_lo h0, ws, wsl, opX, int, Zv.bool, intBin, reduceIte, ↓reduceIte, Nat.reduceEqDiff, Nat.reduceAdd, Nat.reduceSub, Nat.reduceLeDiff, Int.reduceLT, Int.reduceLE, Int.reduceEq, Int.reduceBEq, Int.reduceNe, Int.reduceBNe, reduceCtorEq, Nat.reduceBEq] <;> repeat' (first | refine wpG_s ?_ ?_ | refine wpC_s ?_ ?_) <;> intro hgo <;> (try simp only [decide_eq_true_eq, decide_eq_false_iff_not, Bool.not_eq_true', Bool.not_eq_false'] at hgo) <;> simp only [hgo, e28, this, usedS_lo h0, ws, wsl, opX, int, Zv.bool, intBin, reduceIte, ↓reduceIte, Nat.reduceEqDiff, Nat.reduceAdd, Nat.reduceSub, Nat.reduceLeDiff, Int.reduceLT, Int.reduceLE, Int.reduceEq, Int.reduceBEq, Int.reduceNe, Int.reduceBNe, reduceCtorEq, Nat.reduceBEq])
  · have h1 : 0 ≤ n := by omega
    have h2 : ¬ n < cs.length := by omega
    (simp only [e28, h1, h2, R.row, usedS_hi h0, ws, wsl, opX, int, Zv.bool, intBin, reduceIte, ↓reduceIte, Nat.reduceEqDiff, Nat.reduceAdd, Nat.reduceSub, Nat.reduceLeDiff, Int.reduceLT, Int.reduceLE, Int.reduceEq, Int.reduceBEq, Int.reduceNe, Int.reduceBNe, reduceCtorEq, Nat.reduceBEq] <;> repeat' (first | refine wpG_s ?_ ?_ | refine wpC_s ?_ ?_) <;> intro hgo <;> (try simp only [decide_eq_true_eq, decide_eq_false_iff_not, Bool.not_eq_true', Bool.not_eq_false'] at hgo) <;> simp only [hgo, e28, h1, h2, R.row, usedS_hi h0, ws, wsl, opX, int, Zv.bool, intBin, reduceIte, ↓reduceIte, Nat.reduceEqDiff, Nat.reduceAdd, Nat.reduceSub, Nat.reduceLeDiff, Int.reduceLT, Int.reduceLE, Int.reduceEq, Int.reduceBEq, Int.reduceNe, Int.reduceBNe, reduceCtorEq, Nat.reduceBEq])
  · have hlt := lt_of_get hc
    (simp only [e28, hlt, R.row, R.cells, ia_own (es := 4) (n := nc) (tot := cs.length) .i64 hlt, List.getElem?_map, hc, cV_cells, usedS_at hc, ws, wsl, opX, int, Zv.bool, intBin, reduceIte, ↓reduceIte, Nat.reduceEqDiff, Nat.reduceAdd, Nat.reduceSub, Nat.reduceLeDiff, Int.reduceLT, Int.reduceLE, Int.reduceEq, Int.reduceBEq, Int.reduceNe, Int.reduceBNe, reduceCtorEq, Nat.reduceBEq] <;> repeat' (first | refine wpG_s ?_ ?_ | refine wpC_s ?_ ?_) <;> intro hgo <;> (try simp only [decide_eq_true_eq, decide_eq_false_iff_not, Bool.not_eq_true', Bool.not_eq_false'] at hgo) <;> simp only [hgo, e28, hlt, R.row, R.cells, ia_own (es := 4) (n := nc) (tot := cs.length) .i64 hlt, List.getElem?_map, hc, cV_cells, usedS_at hc, ws, wsl, opX, int, Zv.bool, intBin, reduceIte, ↓reduceIte, Nat.reduceEqDiff, Nat.reduceAdd, Nat.reduceSub, Nat.reduceLeDiff, Int.reduceLT, Int.reduceLE, Int.reduceEq, Int.reduceBEq, Int.reduceNe, Int.reduceBNe, reduceCtorEq, Nat.reduceBEq])

/-- What is wrong with words. -/
def wErr (U : Int → Bool) (l : List Wd) : Int := if l.any (fun w => !formedS w) = true then 3 else if l.any (fun w => decide (w.1 = 2) && !U w.2) = true then 9 else 0
theorem words_ok {h : Hp} {ns nc : Nat} {cs : List PC} {first left : Int} (R : PR h.get ns nc cs first left) (l : List Wd) (hl : l.length < 2 ^ 60) {v : V} (SW : ∀ q, SlW ⟨h.objs, q⟩ v l) (hv : norm v = v) : callW tab 25 [.ptr ns 1 0 0, v] h = some (.d (eI (wErr (usedS cs) l)), h) := by
  apply call_wp (fn := f25) rfl rfl
  have sl := (SW h.next).len
  obtain ⟨hloopq, hloop⟩ := loop_anyq (T := tab) (a := f25l0) (l := l) (p := (fun w => !formedS w)) (f := fun n => [(0, .ptr ns 1 0 0), (1, v), (9, v), (10, int l.length), (11, int n)]) (h := h)
      (by intro q n x hx hlt hp; obtain ⟨y, hy, hly⟩ := (SW q).at_ n x hx; simp only [Bool.not_eq_true', Bool.not_eq_false'] at hp; all_goals ((simp only [hlt, hp, e25, hy, hly, formed_ok, wrap_succ (show n < 2 ^ 62 by omega), ws, wsl, opX, int, Zv.bool, intBin, reduceIte, ↓reduceIte, Nat.reduceEqDiff, Nat.reduceAdd, Nat.reduceSub, Nat.reduceLeDiff, Int.reduceLT, Int.reduceLE, Int.reduceEq, Int.reduceBEq, Int.reduceNe, Int.reduceBNe, reduceCtorEq, Nat.reduceBEq] <;> repeat' (first | refine wpG_s ?_ ?_ | refine wpC_s ?_ ?_) <;> intro hgo <;> (try simp only [decide_eq_true_eq, decide_eq_false_iff_not, Bool.not_eq_true', Bool.not_eq_false'] at hgo) <;> simp only [hgo, hlt, hp, e25, hy, hly, formed_ok, wrap_succ (show n < 2 ^ 62 by omega), ws, wsl, opX, int, Zv.bool, intBin, reduceIte, ↓reduceIte, Nat.reduceEqDiff, Nat.reduceAdd, Nat.reduceSub, Nat.reduceLeDiff, Int.reduceLT, Int.reduceLE, Int.reduceEq, Int.reduceBEq, Int.reduceNe, Int.reduceBNe, reduceCtorEq, Nat.reduceBEq]) <;> (first | exact ⟨_, rfl⟩ | exact ⟨_, rfl, rfl⟩ | exact ⟨_, rfl, rfl, rfl⟩)))
      (by intro q n x hx hlt hp; obtain ⟨y, hy, hly⟩ := (SW q).at_ n x hx; simp only [Bool.not_eq_true', Bool.not_eq_false'] at hp; all_goals ((simp only [hlt, hp, e25, hy, hly, formed_ok, wrap_succ (show n < 2 ^ 62 by omega), ws, wsl, opX, int, Zv.bool, intBin, reduceIte, ↓reduceIte, Nat.reduceEqDiff, Nat.reduceAdd, Nat.reduceSub, Nat.reduceLeDiff, Int.reduceLT, Int.reduceLE, Int.reduceEq, Int.reduceBEq, Int.reduceNe, Int.reduceBNe, reduceCtorEq, Nat.reduceBEq] <;> repeat' (first | refine wpG_s ?_ ?_ | refine wpC_s ?_ ?_) <;> intro hgo <;> (try simp only [decide_eq_true_eq, decide_eq_false_iff_not, Bool.not_eq_true', Bool.not_eq_false'] at hgo) <;> simp only [hgo, hlt, hp, e25, hy, hly, formed_ok, wrap_succ (show n < 2 ^ 62 by omega), ws, wsl, opX, int, Zv.bool, intBin, reduceIte, ↓reduceIte, Nat.reduceEqDiff, Nat.reduceAdd, Nat.reduceSub, Nat.reduceLeDiff, Int.reduceLT, Int.reduceLE, Int.reduceEq, Int.reduceBEq, Int.reduceNe, Int.reduceBNe, reduceCtorEq, Nat.reduceBEq]) <;> (first | exact ⟨_, rfl⟩ | exact ⟨_, rfl, rfl⟩ | exact ⟨_, rfl, rfl, rfl⟩)))
      (by intro q; (simp only [e25, ws, wsl, opX, int, Zv.bool, intBin, reduceIte, ↓reduceIte, Nat.reduceEqDiff, Nat.reduceAdd, Nat.reduceSub, Nat.reduceLeDiff, Int.reduceLT, Int.reduceLE, Int.reduceEq, Int.reduceBEq, Int.reduceNe, Int.reduceBNe, reduceCtorEq, Nat.reduceBEq] <;> repeat' (first | refine wpG_s ?_ ?_ | refine wpC_s ?_ ?_) <;> intro hgo <;> (try simp only [decide_eq_true_eq, decide_eq_false_iff_not, Bool.not_eq_true', Bool.not_eq_false'] at hgo) <;> simp only [hgo, e25, ws, wsl, opX, int, Zv.bool, intBin, reduceIte, ↓reduceIte, Nat.reduceEqDiff, Nat.reduceAdd, Nat.reduceSub, Nat.reduceLeDiff, Int.reduceLT, Int.reduceLE, Int.reduceEq, Int.reduceBEq, Int.reduceNe, Int.reduceBNe, reduceCtorEq, Nat.reduceBEq]) <;> (first | exact ⟨_, rfl⟩ | exact ⟨_, rfl, rfl⟩ | exact ⟨_, rfl, rfl, rfl⟩))
      (by simp) (by simp)
  simp only [int, Zv.bool, Int.cast_ofNat_Int] at hloop
  have hu : ∀ q n, callW tab 28 [.ptr ns 1 0 0, .d (eI n)] ⟨h.objs, q⟩ = some (.d (.bool (usedS cs n)), ⟨h.objs, q⟩) := fun q n => used_ok (h := ⟨h.objs, q⟩) R n
  obtain ⟨hloop2q, hloop2⟩ := loop_anyq (T := tab) (a := f25l1) (l := l) (p := (fun w => decide (w.1 = 2) && !usedS cs w.2)) (f := fun n => [(0, .ptr ns 1 0 0), (19, v), (20, int l.length), (21, int n)]) (h := ⟨h.objs, hloopq⟩)
      (by intro q n x hx hlt hp; obtain ⟨y, hy, hly⟩ := (SW q).at_ n x hx; by_cases h2 : x.1 = 2; all_goals cases hus : usedS cs x.2; all_goals simp only [h2, hus, decide_true, decide_false, Bool.not_true, Bool.not_false, Bool.and_true, Bool.and_false, Bool.true_and, Bool.false_and, Bool.true_eq_false, Bool.false_eq_true] at hp; all_goals ((simp only [hlt, hp, e25, hy, hly, hu, hus, ibeq, h2, wrap_succ (show n < 2 ^ 62 by omega), ws, wsl, opX, int, Zv.bool, intBin, reduceIte, ↓reduceIte, Nat.reduceEqDiff, Nat.reduceAdd, Nat.reduceSub, Nat.reduceLeDiff, Int.reduceLT, Int.reduceLE, Int.reduceEq, Int.reduceBEq, Int.reduceNe, Int.reduceBNe, reduceCtorEq, Nat.reduceBEq] <;> repeat' (first | refine wpG_s ?_ ?_ | refine wpC_s ?_ ?_) <;> intro hgo <;> (try simp only [decide_eq_true_eq, decide_eq_false_iff_not, Bool.not_eq_true', Bool.not_eq_false'] at hgo) <;> simp only [hgo, hlt, hp, e25, hy, hly, hu, hus, ibeq, h2, wrap_succ (show n < 2 ^ 62 by omega), ws, wsl, opX, int, Zv.bool, intBin, reduceIte, ↓reduceIte, Nat.reduceEqDiff, Nat.reduceAdd, Nat.reduceSub, Nat.reduceLeDiff, Int.reduceLT, Int.reduceLE, Int.reduceEq, Int.reduceBEq, Int.reduceNe, Int.reduceBNe, reduceCtorEq, Nat.reduceBEq]) <;> (first | exact ⟨_, rfl⟩ | exact ⟨_, rfl, rfl⟩ | exact ⟨_, rfl, rfl, rfl⟩)))
      (by intro q n x hx hlt hp; obtain ⟨y, hy, hly⟩ := (SW q).at_ n x hx; by_cases h2 : x.1 = 2; all_goals cases hus : usedS cs x.2; all_goals simp only [h2, hus, decide_true, decide_false, Bool.not_true, Bool.not_false, Bool.and_true, Bool.and_false, Bool.true_and, Bool.false_and, Bool.true_eq_false, Bool.false_eq_true] at hp; all_goals ((simp only [hlt, hp, e25, hy, hly, hu, hus, ibeq, h2, wrap_succ (show n < 2 ^ 62 by omega), ws, wsl, opX, int, Zv.bool, intBin, reduceIte, ↓reduceIte, Nat.reduceEqDiff, Nat.reduceAdd, Nat.reduceSub, Nat.reduceLeDiff, Int.reduceLT, Int.reduceLE, Int.reduceEq, Int.reduceBEq, Int.reduceNe, Int.reduceBNe, reduceCtorEq, Nat.reduceBEq] <;> repeat' (first | refine wpG_s ?_ ?_ | refine wpC_s ?_ ?_) <;> intro hgo <;> (try simp only [decide_eq_true_eq, decide_eq_false_iff_not, Bool.not_eq_true', Bool.not_eq_false'] at hgo) <;> simp only [hgo, hlt, hp, e25, hy, hly, hu, hus, ibeq, h2, wrap_succ (show n < 2 ^ 62 by omega), ws, wsl, opX, int, Zv.bool, intBin, reduceIte, ↓reduceIte, Nat.reduceEqDiff, Nat.reduceAdd, Nat.reduceSub, Nat.reduceLeDiff, Int.reduceLT, Int.reduceLE, Int.reduceEq, Int.reduceBEq, Int.reduceNe, Int.reduceBNe, reduceCtorEq, Nat.reduceBEq]) <;> (first | exact ⟨_, rfl⟩ | exact ⟨_, rfl, rfl⟩ | exact ⟨_, rfl, rfl, rfl⟩)))
      (by intro q; (simp only [e25, ws, wsl, opX, int, Zv.bool, intBin, reduceIte, ↓reduceIte, Nat.reduceEqDiff, Nat.reduceAdd, Nat.reduceSub, Nat.reduceLeDiff, Int.reduceLT, Int.reduceLE, Int.reduceEq, Int.reduceBEq, Int.reduceNe, Int.reduceBNe, reduceCtorEq, Nat.reduceBEq] <;> repeat' (first | refine wpG_s ?_ ?_ | refine wpC_s ?_ ?_) <;> intro hgo <;> (try simp only [decide_eq_true_eq, decide_eq_false_iff_not, Bool.not_eq_true', Bool.not_eq_false'] at hgo) <;> simp only [hgo, e25, ws, wsl, opX, int, Zv.bool, intBin, reduceIte, ↓reduceIte, Nat.reduceEqDiff, Nat.reduceAdd, Nat.reduceSub, Nat.reduceLeDiff, Int.reduceLT, Int.reduceLE, Int.reduceEq, Int.reduceBEq, Int.reduceNe, Int.reduceBNe, reduceCtorEq, Nat.reduceBEq]) <;> (first | exact ⟨_, rfl⟩ | exact ⟨_, rfl, rfl⟩ | exact ⟨_, rfl, rfl, rfl⟩))
      (by simp) (by simp)
  simp only [int, Zv.bool, Int.cast_ofNat_Int] at hloop2
  (simp only [e25, sl, wq_of hloop, ws, wsl, opX, int, Zv.bool, intBin, reduceIte, ↓reduceIte, Nat.reduceEqDiff, Nat.reduceAdd, Nat.reduceSub, Nat.reduceLeDiff, Int.reduceLT, Int.reduceLE, Int.reduceEq, Int.reduceBEq, Int.reduceNe, Int.reduceBNe, reduceCtorEq, Nat.reduceBEq] <;> repeat' (first | refine wpG_s ?_ ?_ | refine wpC_s ?_ ?_) <;> intro hgo <;> (try simp only [decide_eq_true_eq, decide_eq_false_iff_not, Bool.not_eq_true', Bool.not_eq_false'] at hgo) <;> simp only [hgo, e25, sl, wq_of hloop, ws, wsl, opX, int, Zv.bool, intBin, reduceIte, ↓reduceIte, Nat.reduceEqDiff, Nat.reduceAdd, Nat.reduceSub, Nat.reduceLeDiff, Int.reduceLT, Int.reduceLE, Int.reduceEq, Int.reduceBEq, Int.reduceNe, Int.reduceBNe, reduceCtorEq, Nat.reduceBEq])
  unfold wErr
  cases l.any fun w => !formedS w with
  | true => (simp only [e25, ws, wsl, opX, int, Zv.bool, intBin, reduceIte, ↓reduceIte, Nat.reduceEqDiff, Nat.reduceAdd, Nat.reduceSub, Nat.reduceLeDiff, Int.reduceLT, Int.reduceLE, Int.reduceEq, Int.reduceBEq, Int.reduceNe, Int.reduceBNe, reduceCtorEq, Nat.reduceBEq] <;> repeat' (first | refine wpG_s ?_ ?_ | refine wpC_s ?_ ?_) <;> intro hgo <;> (try simp only [decide_eq_true_eq, decide_eq_false_iff_not, Bool.not_eq_true', Bool.not_eq_false'] at hgo) <;> simp only [hgo, e25, ws, wsl, opX, int, Zv.bool, intBin, reduceIte, ↓reduceIte, Nat.reduceEqDiff, Nat.reduceAdd, Nat.reduceSub, Nat.reduceLeDiff, Int.reduceLT, Int.reduceLE, Int.reduceEq, Int.reduceBEq, Int.reduceNe, Int.reduceBNe, reduceCtorEq, Nat.reduceBEq])
  | false =>
    (simp only [e25, sl, wq_of hloop2, ws, wsl, opX, int, Zv.bool, intBin, reduceIte, ↓reduceIte, Nat.reduceEqDiff, Nat.reduceAdd, Nat.reduceSub, Nat.reduceLeDiff, Int.reduceLT, Int.reduceLE, Int.reduceEq, Int.reduceBEq, Int.reduceNe, Int.reduceBNe, reduceCtorEq, Nat.reduceBEq] <;> repeat' (first | refine wpG_s ?_ ?_ | refine wpC_s ?_ ?_) <;> intro hgo <;> (try simp only [decide_eq_true_eq, decide_eq_false_iff_not, Bool.not_eq_true', Bool.not_eq_false'] at hgo) <;> simp only [hgo, e25, sl, wq_of hloop2, ws, wsl, opX, int, Zv.bool, intBin, reduceIte, ↓reduceIte, Nat.reduceEqDiff, Nat.reduceAdd, Nat.reduceSub, Nat.reduceLeDiff, Int.reduceLT, Int.reduceLE, Int.reduceEq, Int.reduceBEq, Int.reduceNe, Int.reduceBNe, reduceCtorEq, Nat.reduceBEq])
    cases l.any fun w => decide (w.1 = 2) && !usedS cs w.2 <;> (simp only [e25, ws, wsl, opX, int, Zv.bool, intBin, reduceIte, ↓reduceIte, Nat.reduceEqDiff, Nat.reduceAdd, Nat.reduceSub, Nat.reduceLeDiff, Int.reduceLT, Int.reduceLE, Int.reduceEq, Int.reduceBEq, Int.reduceNe, Int.reduceBNe, reduceCtorEq, Nat.reduceBEq] <;> repeat' (first | refine wpG_s ?_ ?_ | refine wpC_s ?_ ?_) <;> intro hgo <;> (try simp only [decide_eq_true_eq, decide_eq_false_iff_not, Bool.not_eq_true', Bool.not_eq_false'] at hgo) <;> simp only [hgo, e25, ws, wsl, opX, int, Zv.bool, intBin, reduceIte, ↓reduceIte, Nat.reduceEqDiff, Nat.reduceAdd, Nat.reduceSub, Nat.reduceLeDiff, Int.reduceLT, Int.reduceLE, Int.reduceEq, Int.reduceBEq, Int.reduceNe, Int.reduceBNe, reduceCtorEq, Nat.reduceBEq])

/-- What is wrong with the index of a cell. -/
def sErrA (A : List ACl) (n : Int) : Int := if n < 0 then 2 else match A[n.toNat]? with
  | some c => if c.1 = true then 0 else 23
  | none => 2
def sErr (cs : List PC) (n : Int) : Int := sErrA (cs.map ab) n
theorem sErr_lo {cs : List PC} {n : Int} (h : n < 0) : sErr cs n = 2 := by unfold sErr sErrA; rw [if_pos h]
theorem sErr_hi {cs : List PC} {n : Int} (h : (cs.length : Int) ≤ n) : sErr cs n = 2 := by
  unfold sErr sErrA; rw [List.getElem?_eq_none (by rw [List.length_map]; omega)]; simp
theorem sErr_at {cs : List PC} {n : Nat} {c : PC} (h : cs[n]? = some c) : sErr cs n = if c.used = true then 0 else 23 := by
  unfold sErr sErrA; rw [Int.toNat_natCast, List.getElem?_map, h, if_neg (by omega)]; rfl
theorem state_ok {h : Hp} {ns nc : Nat} {cs : List PC} {first left : Int} (R : PR h.get ns nc cs first left) (n : Int) : callW tab 29 [.ptr ns 1 0 0, .d (eI n)] h = some (.d (eI (sErr cs n)), h) := by
  apply call_wp (fn := f29) rfl rfl
  rcases ncase cs n with h0 | h0 | ⟨m, c, rfl, hc⟩
  · (simp only [e29, h0, sErr_lo h0, ws, wsl, opX, int, Zv.bool, intBin, reduceIte, ↓reduceIte, Nat.reduceEqDiff, Nat.reduceAdd, Nat.reduceSub, Nat.reduceLeDiff, Int.reduceLT, Int.reduceLE, Int.reduceEq, Int.reduceBEq, Int.reduceNe, Int.reduceBNe, reduceCtorEq, Nat.reduceBEq] <;> repeat' (first | refine wpG_s ?_ ?_ | refine wpC_s ?_ ?_) <;> intro hgo <;> (try simp only [decide_eq_true_eq, decide_eq_false_iff_not, Bool.not_eq_true', Bool.not_eq_false'] at hgo) <;> simp only [hgo, e29, h0, sErr_lo h0, ws, wsl, opX, int, Zv.bool, intBin, reduceIte, ↓reduceIte, Nat.reduceEqDiff, Nat.reduceAdd, Nat.reduceSub, Nat.reduceLeDiff, Int.reduceLT, Int.reduceLE, Int.reduceEq, Int.reduceBEq, Int.reduceNe, Int.reduceBNe, reduceCtorEq, Nat.reduceBEq])
  · have h1 : ¬ n < 0 := by omega
    (simp only [e29, h1, h0, R.row, sErr_hi h0, ws, wsl, opX, int, Zv.bool, intBin, reduceIte, ↓reduceIte, Nat.reduceEqDiff, Nat.reduceAdd, Nat.reduceSub, Nat.reduceLeDiff, Int.reduceLT, Int.reduceLE, Int.reduceEq, Int.reduceBEq, Int.reduceNe, Int.reduceBNe, reduceCtorEq, Nat.reduceBEq] <;> repeat' (first | refine wpG_s ?_ ?_ | refine wpC_s ?_ ?_) <;> intro hgo <;> (try simp only [decide_eq_true_eq, decide_eq_false_iff_not, Bool.not_eq_true', Bool.not_eq_false'] at hgo) <;> simp only [hgo, e29, h1, h0, R.row, sErr_hi h0, ws, wsl, opX, int, Zv.bool, intBin, reduceIte, ↓reduceIte, Nat.reduceEqDiff, Nat.reduceAdd, Nat.reduceSub, Nat.reduceLeDiff, Int.reduceLT, Int.reduceLE, Int.reduceEq, Int.reduceBEq, Int.reduceNe, Int.reduceBNe, reduceCtorEq, Nat.reduceBEq])
  · have hlt := lt_of_get hc
    have h1 : ¬ cs.length ≤ m := by omega
    (simp only [e29, h1, R.row, R.cells, ia_own (es := 4) (n := nc) (tot := cs.length) .i64 hlt, List.getElem?_map, hc, cV_cells, sErr_at hc, ws, wsl, opX, int, Zv.bool, intBin, reduceIte, ↓reduceIte, Nat.reduceEqDiff, Nat.reduceAdd, Nat.reduceSub, Nat.reduceLeDiff, Int.reduceLT, Int.reduceLE, Int.reduceEq, Int.reduceBEq, Int.reduceNe, Int.reduceBNe, reduceCtorEq, Nat.reduceBEq] <;> repeat' (first | refine wpG_s ?_ ?_ | refine wpC_s ?_ ?_) <;> intro hgo <;> (try simp only [decide_eq_true_eq, decide_eq_false_iff_not, Bool.not_eq_true', Bool.not_eq_false'] at hgo) <;> simp only [hgo, e29, h1, R.row, R.cells, ia_own (es := 4) (n := nc) (tot := cs.length) .i64 hlt, List.getElem?_map, hc, cV_cells, sErr_at hc, ws, wsl, opX, int, Zv.bool, intBin, reduceIte, ↓reduceIte, Nat.reduceEqDiff, Nat.reduceAdd, Nat.reduceSub, Nat.reduceLeDiff, Int.reduceLT, Int.reduceLE, Int.reduceEq, Int.reduceBEq, Int.reduceNe, Int.reduceBNe, reduceCtorEq, Nat.reduceBEq])
theorem left_ok {h : Hp} {ns nc : Nat} {cs : List PC} {first left : Int} (R : PR h.get ns nc cs first left) : callW tab 15 [.ptr ns 1 0 0] h = some (.d (eI left), h) := by
  apply call_wp (fn := f15) rfl rfl
  (simp only [e15, R.row, ws, wsl, opX, int, Zv.bool, intBin, reduceIte, ↓reduceIte, Nat.reduceEqDiff, Nat.reduceAdd, Nat.reduceSub, Nat.reduceLeDiff, Int.reduceLT, Int.reduceLE, Int.reduceEq, Int.reduceBEq, Int.reduceNe, Int.reduceBNe, reduceCtorEq, Nat.reduceBEq] <;> repeat' (first | refine wpG_s ?_ ?_ | refine wpC_s ?_ ?_) <;> intro hgo <;> (try simp only [decide_eq_true_eq, decide_eq_false_iff_not, Bool.not_eq_true', Bool.not_eq_false'] at hgo) <;> simp only [hgo, e15, R.row, ws, wsl, opX, int, Zv.bool, intBin, reduceIte, ↓reduceIte, Nat.reduceEqDiff, Nat.reduceAdd, Nat.reduceSub, Nat.reduceLeDiff, Int.reduceLT, Int.reduceLE, Int.reduceEq, Int.reduceBEq, Int.reduceNe, Int.reduceBNe, reduceCtorEq, Nat.reduceBEq])
theorem size_ok {h : Hp} {ns nc : Nat} {cs : List PC} {first left : Int} (R : PR h.get ns nc cs first left) : callW tab 21 [.ptr ns 1 0 0] h = some (.d (eI cs.length), h) := by
  apply call_wp (fn := f21) rfl rfl
  (simp only [e21, R.row, ws, wsl, opX, int, Zv.bool, intBin, reduceIte, ↓reduceIte, Nat.reduceEqDiff, Nat.reduceAdd, Nat.reduceSub, Nat.reduceLeDiff, Int.reduceLT, Int.reduceLE, Int.reduceEq, Int.reduceBEq, Int.reduceNe, Int.reduceBNe, reduceCtorEq, Nat.reduceBEq] <;> repeat' (first | refine wpG_s ?_ ?_ | refine wpC_s ?_ ?_) <;> intro hgo <;> (try simp only [decide_eq_true_eq, decide_eq_false_iff_not, Bool.not_eq_true', Bool.not_eq_false'] at hgo) <;> simp only [hgo, e21, R.row, ws, wsl, opX, int, Zv.bool, intBin, reduceIte, ↓reduceIte, Nat.reduceEqDiff, Nat.reduceAdd, Nat.reduceSub, Nat.reduceLeDiff, Int.reduceLT, Int.reduceLE, Int.reduceEq, Int.reduceBEq, Int.reduceNe, Int.reduceBNe, reduceCtorEq, Nat.reduceBEq])
-- ws, wsl, opX, int, Zv.bool, intBin, reduceIte, ↓reduceIte, Nat.reduceEqDiff, Nat.reduceAdd, Nat.reduceSub, Nat.reduceLeDiff, Int.reduceLT, Int.reduceLE, Int.reduceEq, Int.reduceBEq, Int.reduceNe, Int.reduceBNe, reduceCtorEq, Nat.reduceBEq
end Zc55k
