/-
  Parts of the proof.
-/
import Derived.Test.YthhjecfimfookaaZxBody
section
set_option linter.unusedSimpArgs false
set_option linter.unusedVariables false
set_option linter.unusedSimpArgs false
set_option maxHeartbeats 4000000
namespace Zc56
open Go Zv Zs

theorem frz_3 (n es nx : Nat) (o p : Ob) (x : D) (l : List (Nat × Ob)) (off : Nat) : Zv.frz ⟨(n + 1 + 1, o) :: (n + 1, p) :: (n, .arr es [.d x]) :: l, nx⟩ (.ptr n 1 0 off) = some (.fp x off, ⟨(n + 1 + 1, o) :: (n + 1, p) :: l, nx⟩) := by
  have hr : Hp.row ⟨(n + 1 + 1, o) :: (n + 1, p) :: (n, .arr es [.d x]) :: l, nx⟩ n 1 = some (es, [.d x]) := by
    unfold Hp.row Hp.get
    rw [look_tl _ _ (by omega), look_tl _ _ (by omega), look_hd]; rfl
  simp only [Zv.frz, hr, Option.bind_some, List.getElem?_cons_zero, Option.map_some, toD]
  congr 2
  unfold Hp.kill
  simp only [del]
  rw [if_neg (by omega), if_neg (by omega), if_pos trivial]
theorem ldk_self (ag : Bool) (sz : Nat) (h : Hp) (n t1 i1 o1 t2 i2 o2 : Nat) : ldk ag sz h (.ptr n t1 i1 o1) (.ptr n t2 i2 o2) = ld ag sz h (.ptr n t2 i2 o2) := if_pos rfl
theorem sameAt_hd (n : Nat) (o : Ob) (l l' : List (Nat × Ob)) (nx nx' t i f : Nat) : sameAt ⟨(n, o) :: l, nx⟩ ⟨(n, o) :: l', nx'⟩ (.ptr n t i f) = true := by
  show (match Hp.get ⟨(n, o) :: l, nx⟩ n, Hp.get ⟨(n, o) :: l', nx'⟩ n with
    | some a, some b => Ob.beq a b
    | _, _ => false) = true
  have h1 : Hp.get ⟨(n, o) :: l, nx⟩ n = some o := if_pos rfl
  have h2 : Hp.get ⟨(n, o) :: l', nx'⟩ n = some o := if_pos rfl
  rw [h1, h2]
  exact Ob.beq_refl o
theorem ready_nil (d : List Dt) (t : Int) (h : Hp) : callW tab 39 [.d .nilp, .d (eDs d), .d (eI t)] h = some (.d (eI 23), h) := by
  refine call_wp (fn := f39) rfl rfl ?_
  simp only [e39, wz, opX, intBin, ↓reduceIte, simprocAttr]
abbrev w0 : D := .agg [eI 0, eI 0]
theorem put_nil (d : List Dt) (t n c : Int) (l : List D) (h : Hp) : ∃ o q, callW tab 16 [.d .nilp, .d (eDs d), .d (eI t), .d (.agg [eI n, eI c, .lst l])] h = some (.tup [.d w0, .d (eI 23)], ⟨(h.next + 1 + 1, o) :: (h.next + 1, q) :: h.objs, h.next + 1 + 1 + 1⟩) := by
  refine ⟨.arr 1 [.d (eI 23)], .arr 2 [.d w0], ?_⟩
  refine call_wpB (fn := f16) rfl rfl ?_
  have r := ready_nil d t
  simp only [e16, b16, wqB_seq, seqB_n, seqB_r, r, frz_3, wz, opX, intBin, ↓reduceIte, simprocAttr]
theorem word_ok (a b : Int) (h : Hp) : callW tab 18 [.d (.agg [eI a, eI b])] h = some (.d (.agg [eI a, eI b]), h) := by
  refine call_wp (fn := f18) rfl rfl ?_
  simp only [e18, wz, opX, intBin, ↓reduceIte, simprocAttr]
theorem frz_4 (n es nx : Nat) (o p q : Ob) (x : D) (l : List (Nat × Ob)) (off : Nat) : Zv.frz ⟨(n + 1 + 1 + 1, o) :: (n + 1 + 1, p) :: (n + 1, q) :: (n, .arr es [.d x]) :: l, nx⟩ (.ptr n 1 0 off) = some (.fp x off, ⟨(n + 1 + 1 + 1, o) :: (n + 1 + 1, p) :: (n + 1, q) :: l, nx⟩) := by
  have hr : Hp.row ⟨(n + 1 + 1 + 1, o) :: (n + 1 + 1, p) :: (n + 1, q) :: (n, .arr es [.d x]) :: l, nx⟩ n 1 = some (es, [.d x]) := by
    unfold Hp.row Hp.get
    rw [look_tl _ _ (by omega), look_tl _ _ (by omega), look_tl _ _ (by omega), look_hd]; rfl
  simp only [Zv.frz, hr, Option.bind_some, List.getElem?_cons_zero, Option.map_some, toD]
  congr 2
  unfold Hp.kill
  simp only [del]
  rw [if_neg (by omega), if_neg (by omega), if_neg (by omega), if_pos trivial]
theorem row_tl {m n : Nat} (o : Ob) (l : List (Nat × Ob)) (nx tot : Nat) (h : n ≠ m) : Hp.row ⟨(m, o) :: l, nx⟩ n tot = Hp.row ⟨l, nx⟩ n tot := by
  unfold Hp.row Hp.get
  rw [look_tl _ _ h]
theorem row_1 (n : Nat) (o : Ob) (l : List (Nat × Ob)) (nx tot : Nat) : Hp.row ⟨(n + 1, o) :: l, nx⟩ n tot = Hp.row ⟨l, nx⟩ n tot := row_tl _ _ _ _ (by omega)
theorem row_2 (n : Nat) (o : Ob) (l : List (Nat × Ob)) (nx tot : Nat) : Hp.row ⟨(n + 1 + 1, o) :: l, nx⟩ n tot = Hp.row ⟨l, nx⟩ n tot := row_tl _ _ _ _ (by omega)
theorem row_3 (n : Nat) (o : Ob) (l : List (Nat × Ob)) (nx tot : Nat) : Hp.row ⟨(n + 1 + 1 + 1, o) :: l, nx⟩ n tot = Hp.row ⟨l, nx⟩ n tot := row_tl _ _ _ _ (by omega)
theorem row_4 (n : Nat) (o : Ob) (l : List (Nat × Ob)) (nx tot : Nat) : Hp.row ⟨(n + 1 + 1 + 1 + 1, o) :: l, nx⟩ n tot = Hp.row ⟨l, nx⟩ n tot := row_tl _ _ _ _ (by omega)
theorem row_5 (n : Nat) (o : Ob) (l : List (Nat × Ob)) (nx tot : Nat) : Hp.row ⟨(n + 1 + 1 + 1 + 1 + 1, o) :: l, nx⟩ n tot = Hp.row ⟨l, nx⟩ n tot := row_tl _ _ _ _ (by omega)
theorem set_tl {m n : Nat} (o x : Ob) (l : List (Nat × Ob)) (nx : Nat) (h : n ≠ m) : Hp.set ⟨(m, o) :: l, nx⟩ n x = ⟨(m, o) :: (Hp.set ⟨l, nx⟩ n x).objs, nx⟩ := by
  rw [set_cons, if_neg h]
theorem set_1 (n : Nat) (o x : Ob) (l : List (Nat × Ob)) (nx : Nat) : Hp.set ⟨(n + 1, o) :: l, nx⟩ n x = ⟨(n + 1, o) :: (Hp.set ⟨l, nx⟩ n x).objs, nx⟩ := set_tl _ _ _ _ (by omega)
theorem set_2 (n : Nat) (o x : Ob) (l : List (Nat × Ob)) (nx : Nat) : Hp.set ⟨(n + 1 + 1, o) :: l, nx⟩ n x = ⟨(n + 1 + 1, o) :: (Hp.set ⟨l, nx⟩ n x).objs, nx⟩ := set_tl _ _ _ _ (by omega)
theorem set_3 (n : Nat) (o x : Ob) (l : List (Nat × Ob)) (nx : Nat) : Hp.set ⟨(n + 1 + 1 + 1, o) :: l, nx⟩ n x = ⟨(n + 1 + 1 + 1, o) :: (Hp.set ⟨l, nx⟩ n x).objs, nx⟩ := set_tl _ _ _ _ (by omega)
theorem finS_any {h h' : Hp} {vs ws : List V} (hs : sufOk h.objs h'.objs = true) (hb : vs.mapM (back1 h' h.next) = some ws) : finS h h' vs = some (resV ws, h) := by
  unfold finS; rw [if_pos hs, hb]; rfl
theorem cells_nilp : D.cells .nilp = [.nilp] := rfl
abbrev v0 : D := .agg [eI 0, eI 0, .lst []]
theorem read_nil (d : List Dt) (t a b : Int) (h : Hp) : callW tab 42 [.d .nilp, .d (eDs d), .d (eI t), .d (.agg [eI a, eI b])] h = some (.tup [.d v0, .d (.lst []), .d (eI 23)], h) := by
  refine call_wpB (fn := f42) rfl rfl ?_
  have r := ready_nil d t
  simp only [e42, b42, wqB_seq, seqB_n, seqB_r, r, frz_4, row_1, row_2, row_3, row_4, row_5, set_1, set_2, set_3, Zv.st, Zv.ld, cells_nilp, List.set_cons_zero, Zv.partV, wz, opX, intBin, ↓reduceIte, simprocAttr]
  refine finS_any (ws := [.d v0, .d (.lst []), .d (eI 23)]) ?_ ?_
  · exact suf_app [_, _, _, _, _] h.objs
  · rfl
theorem Read_nil (d : List Dt) (t a b : Int) (h : Hp) : callW tab 17 [.d .nilp, .d (eDs d), .d (eI t), .d (.agg [eI a, eI b])] h = some (.tup [.d v0, .d (eI 23)], h) := by
  refine call_wp (fn := f17) rfl rfl ?_
  have r := read_nil d t a b
  simp only [e17, r, wz, opX, intBin, ↓reduceIte, simprocAttr]
theorem Drop_nil (d : List Dt) (t a b : Int) (h : Hp) : callW tab 20 [.d .nilp, .d (eDs d), .d (eI t), .d (.agg [eI a, eI b])] h = some (.tup [.d (eI 0), .d (eI 23)], ⟨h.objs, h.next + 1 + 1⟩) := by
  refine call_wp (fn := f20) rfl rfl ?_
  have r := read_nil d t a b
  simp only [e20, r, wz, opX, intBin, ↓reduceIte, simprocAttr]
theorem Copy_nil (d : List Dt) (t a b : Int) (h : Hp) : ∃ o p, callW tab 19 [.d .nilp, .d (eDs d), .d (eI t), .d (.agg [eI a, eI b])] h = some (.tup [.d w0, .d (eI 23)], ⟨(h.next + 1 + 1, o) :: (h.next + 1, p) :: h.objs, h.next + 1 + 1 + 1 + 1⟩) := by
  refine ⟨.arr 1 [.d (eI 23)], .arr 2 [.d w0], ?_⟩
  refine call_wpB (fn := f19) rfl rfl ?_
  have r := read_nil d t a b
  simp only [e19, b19, wqB_seq, seqB_n, seqB_r, r, frz_3, ldk_self, sameAt_hd, Zv.st, row_1, row_2, set_1, set_2, List.set_cons_zero, wz, opX, intBin, ↓reduceIte, simprocAttr]
end Zc56
end
section
set_option linter.unusedSimpArgs false
set_option linter.unusedVariables false
set_option linter.unusedSimpArgs false
set_option maxHeartbeats 4000000
namespace Zc56
open Go Zv Zs
theorem okW {x : D} (h : ok (EE es) (.st [.i .i64, .i .i64]) x) : ∃ a b, x = .agg [eI a, eI b] := by
  obtain ⟨l, rfl, h1⟩ := ok_st h
  obtain ⟨y, r, rfl, ha, h1⟩ := okCs_cons h1
  obtain ⟨z, r, rfl, hb, h1⟩ := okCs_cons h1
  obtain rfl := okCs_nil h1
  obtain ⟨a, rfl⟩ := okI ha
  obtain ⟨b, rfl⟩ := okI hb
  exact ⟨a, b, rfl⟩
theorem loadNil : ∀ x0 x1 x2 : D, ok (EE Zc56.es) (.one (.l 0)) x0 → ok (EE Zc56.es) (.one (.i .i64)) x1 → ok (EE Zc56.es) (.st [.i .i64, .i .i64]) x2 → ∃ h', callW Zc56.tab 4 [.d x0, .d x1, .d x2] ⟨[], 0⟩ = some (.d (.bool true), h') := by
  intro x0 x1 x2 h0 h1 h2
  obtain ⟨d, rfl⟩ := okDs h0
  obtain ⟨t, rfl⟩ := okI h1
  obtain ⟨a, b, rfl⟩ := okW h2
  refine ⟨⟨[], 0⟩, ?_⟩
  refine call_wp (fn := f4) rfl rfl ?_
  obtain ⟨v, hs, -⟩ := small_ok d ⟨[], 1⟩
  have aw : ∀ b, Low b → callW tab 10 [] b = some (.d (.bool true), b) := fun b L => awake_any L
  cases v with
  | true =>
    obtain ⟨o1, q1, p1⟩ := put_nil d t 0 0 [] ⟨[], 1⟩
    replace p1 : callW tab 16 [.d .nilp, .d (eDs d), .d (eI t), .d v0] ⟨[], 1⟩ = some (.tup [.d w0, .d (eI 23)], ⟨[(3, o1), (2, q1)], 4⟩) := p1
    have p2 := Read_nil d t a b ⟨[(3, o1), (2, q1)], 5⟩
    have p5 := word_ok a b
    obtain ⟨o2, q2, p3⟩ := Copy_nil d t a b ⟨[(3, o1), (2, q1)], 6⟩
    replace p3 : callW tab 19 [.d .nilp, .d (eDs d), .d (eI t), .d (.agg [eI a, eI b])] ⟨[(3, o1), (2, q1)], 6⟩ = some (.tup [.d w0, .d (eI 23)], ⟨[(8, o2), (7, q2), (3, o1), (2, q1)], 10⟩) := p3
    have p4 : callW tab 20 [.d .nilp, .d (eDs d), .d (eI t), .d (.agg [eI a, eI b])] ⟨[(8, o2), (7, q2), (3, o1), (2, q1)], 11⟩ = some (.tup [.d (eI 0), .d (eI 23)], ⟨[(8, o2), (7, q2), (3, o1), (2, q1)], 13⟩) := Drop_nil d t a b ⟨[(8, o2), (7, q2), (3, o1), (2, q1)], 11⟩
    have w := aw ⟨[(8, o2), (7, q2), (3, o1), (2, q1)], 13⟩ (low_cons (low_cons (low_cons (low_cons (fun _ _ => rfl) (by omega)) (by omega)) (by omega)) (by omega))
    have nv : norm (.agg [.d (.int .i64 0), .d (.int .i64 0), .tl [] (some true)]) = .d v0 := rfl
    simp only [e4, hs, nv, p1, p2, p3, p4, p5, w, wz, opX, intBin, ↓reduceIte, simprocAttr]
    refine finS_any (ws := [.d (.bool true)]) ?_ ?_
    · exact suf_app [_, _, _, _] []
    · rfl
  | false =>
    have w := aw ⟨[], 1⟩ (fun _ _ => rfl)
    simp only [e4, hs, w, wz, opX, intBin, ↓reduceIte, simprocAttr]
end Zc56
end
