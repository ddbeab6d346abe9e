/-
  Parts of the proof.
-/
import Derived.Test.YtfbkbopmenilkaaZc27R14
section
set_option linter.unusedSimpArgs false
set_option linter.unusedVariables false
set_option linter.unusedSimpArgs false
set_option maxHeartbeats 4000000
namespace Zc27
open Go Zv Zs

theorem typed_any (d : List Dt) : typedS d = !d.any fun y => y.cons.any fun c => c.flds.any fun f => !isT d f := by
  unfold typedS
  simp only [List.not_any_eq_all_not, Bool.not_not]
theorem rtyped_ok {d : List Dt} (B : Bd d) (h : Hp) : callW tab 74 [.d (eDs d)] h = some (.d (.bool (typedS d)), h) := by
  refine call_wp (fn := f74) rfl rfl ?_
  have hbl := B.len
  have l0 : ∀ (m k : Nat) (y : Dt) (c : Cn), d[m]? = some y → y.cons[k]? = some c → ex tab (.loop f74l0) [(0, .d (eDs d)), (3, .d (.int .i64 m)), (4, .d (.int .i64 k)), (5, .d (eIs c.flds)), (6, .d (.int .i64 0))] h =
      some (if (c.flds.any fun f => !isT d f) = true then (.ret, [(2, .d (.bool false))], h) else (.exit 4, [(0, .d (eDs d)), (3, .d (.int .i64 m)), (4, .d (.int .i64 k)), (5, .d (eIs c.flds)), (6, .d (.int .i64 c.flds.length)), (35, .d (.bool false))], h)) := by
    intro m k y c hy hc
    have bc := B.cat hy hc
    have hloop := loop_any (T := tab) (a := f74l0) (l := c.flds) (p := (fun f => !isT d f)) (f := fun n => [(0, .d (eDs d)), (3, .d (.int .i64 m)), (4, .d (.int .i64 k)), (5, .d (eIs c.flds)), (6, int n)]) (h := h)
        (by intro n x hx hlt hp; simp only [Bool.not_eq_true', Bool.not_eq_false'] at hp; all_goals (apply wq_ex.1; (simp only [hlt, hp, e74, iaI hx, isType_ok, wrap_succ (show n < 2 ^ 62 by omega), wz, opX, intBin, ↓reduceIte, simprocAttr] <;> repeat' (first | refine wpG_s ?_ ?_ | refine wpC_s ?_ ?_) <;> intro hgo <;> (try simp only [dq] at hgo) <;> simp only [hgo, hlt, hp, e74, iaI hx, isType_ok, wrap_succ (show n < 2 ^ 62 by omega), wz, opX, intBin, ↓reduceIte, simprocAttr])))
        (by intro n x hx hlt hp; simp only [Bool.not_eq_true', Bool.not_eq_false'] at hp; all_goals (apply wq_ex.1; (simp only [hlt, hp, e74, iaI hx, isType_ok, wrap_succ (show n < 2 ^ 62 by omega), wz, opX, intBin, ↓reduceIte, simprocAttr] <;> repeat' (first | refine wpG_s ?_ ?_ | refine wpC_s ?_ ?_) <;> intro hgo <;> (try simp only [dq] at hgo) <;> simp only [hgo, hlt, hp, e74, iaI hx, isType_ok, wrap_succ (show n < 2 ^ 62 by omega), wz, opX, intBin, ↓reduceIte, simprocAttr]) <;> rfl))
        (by apply wq_ex.1; (simp only [e74, wz, opX, intBin, ↓reduceIte, simprocAttr] <;> repeat' (first | refine wpG_s ?_ ?_ | refine wpC_s ?_ ?_) <;> intro hgo <;> (try simp only [dq] at hgo) <;> simp only [hgo, e74, wz, opX, intBin, ↓reduceIte, simprocAttr]) <;> rfl)
        (by simp) (by simp)
    simp only [int, Zv.bool, Int.cast_ofNat_Int] at hloop
    exact hloop
  have l1 : ∀ (m : Nat) (y : Dt), d[m]? = some y → ex tab (.loop f74l1) [(0, .d (eDs d)), (3, .d (.int .i64 m)), (4, .d (.int .i64 0))] h =
      some (if (y.cons.any fun c => c.flds.any fun f => !isT d f) = true then (.ret, [(2, .d (.bool false))], h) else (.exit 2, [(0, .d (eDs d)), (3, .d (.int .i64 m)), (4, .d (.int .i64 y.cons.length)), (20, .d (.bool false))], h)) := by
    intro m y hy
    have b := B.at hy
    have hloop := loop_any (T := tab) (a := f74l1) (l := y.cons) (p := (fun c => c.flds.any fun f => !isT d f)) (f := fun n => [(0, .d (eDs d)), (3, .d (.int .i64 m)), (4, int n)]) (h := h)
        (by intro n x hx hlt hp; have hin := l0 m n y x hy hx; simp only [hp, if_true, if_false, Bool.false_eq_true] at hin; all_goals (apply wq_ex.1; (simp only [hlt, hp, e74, iaD hy, iaC hx, wq_of hin, wrap_succ (show n < 2 ^ 62 by omega), wz, opX, intBin, ↓reduceIte, simprocAttr] <;> repeat' (first | refine wpG_s ?_ ?_ | refine wpC_s ?_ ?_) <;> intro hgo <;> (try simp only [dq] at hgo) <;> simp only [hgo, hlt, hp, e74, iaD hy, iaC hx, wq_of hin, wrap_succ (show n < 2 ^ 62 by omega), wz, opX, intBin, ↓reduceIte, simprocAttr])))
        (by intro n x hx hlt hp; have hin := l0 m n y x hy hx; simp only [hp, if_true, if_false, Bool.false_eq_true] at hin; all_goals (apply wq_ex.1; (simp only [hlt, hp, e74, iaD hy, iaC hx, wq_of hin, wrap_succ (show n < 2 ^ 62 by omega), wz, opX, intBin, ↓reduceIte, simprocAttr] <;> repeat' (first | refine wpG_s ?_ ?_ | refine wpC_s ?_ ?_) <;> intro hgo <;> (try simp only [dq] at hgo) <;> simp only [hgo, hlt, hp, e74, iaD hy, iaC hx, wq_of hin, wrap_succ (show n < 2 ^ 62 by omega), wz, opX, intBin, ↓reduceIte, simprocAttr]) <;> rfl))
        (by apply wq_ex.1; (simp only [e74, iaD hy, wz, opX, intBin, ↓reduceIte, simprocAttr] <;> repeat' (first | refine wpG_s ?_ ?_ | refine wpC_s ?_ ?_) <;> intro hgo <;> (try simp only [dq] at hgo) <;> simp only [hgo, e74, iaD hy, wz, opX, intBin, ↓reduceIte, simprocAttr]) <;> rfl)
        (by simp) (by simp)
    simp only [int, Zv.bool, Int.cast_ofNat_Int] at hloop
    exact hloop
  have hloop := loop_any (T := tab) (a := f74l2) (l := d) (p := (fun y => y.cons.any fun c => c.flds.any fun f => !isT d f)) (f := fun n => [(0, .d (eDs d)), (3, int n)]) (h := h)
      (by intro n x hx hlt hp; have hin := l1 n x hx; simp only [hp, if_true, if_false, Bool.false_eq_true] at hin; all_goals (apply wq_ex.1; (simp only [hlt, hp, e74, wq_of hin, wrap_succ (show n < 2 ^ 62 by omega), wz, opX, intBin, ↓reduceIte, simprocAttr] <;> repeat' (first | refine wpG_s ?_ ?_ | refine wpC_s ?_ ?_) <;> intro hgo <;> (try simp only [dq] at hgo) <;> simp only [hgo, hlt, hp, e74, wq_of hin, wrap_succ (show n < 2 ^ 62 by omega), wz, opX, intBin, ↓reduceIte, simprocAttr])))
      (by intro n x hx hlt hp; have hin := l1 n x hx; simp only [hp, if_true, if_false, Bool.false_eq_true] at hin; all_goals (apply wq_ex.1; (simp only [hlt, hp, e74, wq_of hin, wrap_succ (show n < 2 ^ 62 by omega), wz, opX, intBin, ↓reduceIte, simprocAttr] <;> repeat' (first | refine wpG_s ?_ ?_ | refine wpC_s ?_ ?_) <;> intro hgo <;> (try simp only [dq] at hgo) <;> simp only [hgo, hlt, hp, e74, wq_of hin, wrap_succ (show n < 2 ^ 62 by omega), wz, opX, intBin, ↓reduceIte, simprocAttr]) <;> rfl))
      (by apply wq_ex.1; (simp only [e74, wz, opX, intBin, ↓reduceIte, simprocAttr] <;> repeat' (first | refine wpG_s ?_ ?_ | refine wpC_s ?_ ?_) <;> intro hgo <;> (try simp only [dq] at hgo) <;> simp only [hgo, e74, wz, opX, intBin, ↓reduceIte, simprocAttr]) <;> rfl)
      (by simp) (by simp)
  simp only [int, Zv.bool, Int.cast_ofNat_Int] at hloop
  (simp only [e74, typed_any, wq_of hloop, wz, opX, intBin, ↓reduceIte, simprocAttr] <;> repeat' (first | refine wpG_s ?_ ?_ | refine wpC_s ?_ ?_) <;> intro hgo <;> (try simp only [dq] at hgo) <;> simp only [hgo, e74, typed_any, wq_of hloop, wz, opX, intBin, ↓reduceIte, simprocAttr])
  cases d.any fun y => y.cons.any fun c => c.flds.any fun f => !isT d f <;> (simp only [e74, wz, opX, intBin, ↓reduceIte, simprocAttr] <;> repeat' (first | refine wpG_s ?_ ?_ | refine wpC_s ?_ ?_) <;> intro hgo <;> (try simp only [dq] at hgo) <;> simp only [hgo, e74, wz, opX, intBin, ↓reduceIte, simprocAttr])

def checkS (d : List Dt) : Int := if manyS d = true then 6 else if formedS d = false then 3 else if twiceS d = true then 8 else if typedS d = false then 10 else if finiteS d = false then 7 else 0
theorem rcheck_ok {d : List Dt} (B : Bd d) (N : Nm d) (h : Hp) : callW tab 40 [.d (eDs d)] h = some (.d (eI (checkS d)), h) := by
  refine call_wp (fn := f40) rfl rfl ?_
  unfold checkS
  cases h1 : manyS d with
  | true => (simp only [e40, rmany_ok B, h1, wz, opX, intBin, ↓reduceIte, simprocAttr] <;> repeat' (first | refine wpG_s ?_ ?_ | refine wpC_s ?_ ?_) <;> intro hgo <;> (try simp only [dq] at hgo) <;> simp only [hgo, e40, rmany_ok B, h1, wz, opX, intBin, ↓reduceIte, simprocAttr])
  | false =>
    cases h2 : formedS d with
    | false => (simp only [e40, rmany_ok B, h1, rformed_ok B N, h2, wz, opX, intBin, ↓reduceIte, simprocAttr] <;> repeat' (first | refine wpG_s ?_ ?_ | refine wpC_s ?_ ?_) <;> intro hgo <;> (try simp only [dq] at hgo) <;> simp only [hgo, e40, rmany_ok B, h1, rformed_ok B N, h2, wz, opX, intBin, ↓reduceIte, simprocAttr])
    | true =>
      cases h3 : twiceS d with
      | true => (simp only [e40, rmany_ok B, h1, rformed_ok B N, h2, rtwice_ok B, h3, wz, opX, intBin, ↓reduceIte, simprocAttr] <;> repeat' (first | refine wpG_s ?_ ?_ | refine wpC_s ?_ ?_) <;> intro hgo <;> (try simp only [dq] at hgo) <;> simp only [hgo, e40, rmany_ok B, h1, rformed_ok B N, h2, rtwice_ok B, h3, wz, opX, intBin, ↓reduceIte, simprocAttr])
      | false =>
        cases h4 : typedS d with
        | false => (simp only [e40, rmany_ok B, h1, rformed_ok B N, h2, rtwice_ok B, h3, rtyped_ok B, h4, wz, opX, intBin, ↓reduceIte, simprocAttr] <;> repeat' (first | refine wpG_s ?_ ?_ | refine wpC_s ?_ ?_) <;> intro hgo <;> (try simp only [dq] at hgo) <;> simp only [hgo, e40, rmany_ok B, h1, rformed_ok B N, h2, rtwice_ok B, h3, rtyped_ok B, h4, wz, opX, intBin, ↓reduceIte, simprocAttr])
        | true =>
          cases h5 : finiteS d with
          | false => (simp only [e40, rmany_ok B, h1, rformed_ok B N, h2, rtwice_ok B, h3, rtyped_ok B, h4, rfinite_ok B h4, h5, wz, opX, intBin, ↓reduceIte, simprocAttr] <;> repeat' (first | refine wpG_s ?_ ?_ | refine wpC_s ?_ ?_) <;> intro hgo <;> (try simp only [dq] at hgo) <;> simp only [hgo, e40, rmany_ok B, h1, rformed_ok B N, h2, rtwice_ok B, h3, rtyped_ok B, h4, rfinite_ok B h4, h5, wz, opX, intBin, ↓reduceIte, simprocAttr])
          | true => (simp only [e40, rmany_ok B, h1, rformed_ok B N, h2, rtwice_ok B, h3, rtyped_ok B, h4, rfinite_ok B h4, h5, wz, opX, intBin, ↓reduceIte, simprocAttr] <;> repeat' (first | refine wpG_s ?_ ?_ | refine wpC_s ?_ ?_) <;> intro hgo <;> (try simp only [dq] at hgo) <;> simp only [hgo, e40, rmany_ok B, h1, rformed_ok B N, h2, rtwice_ok B, h3, rtyped_ok B, h4, rfinite_ok B h4, h5, wz, opX, intBin, ↓reduceIte, simprocAttr])

theorem check1_ok (d : List Dt) (t : Int) (a : Nat) (h : Hp) (hr : h.row a 1 = some (1, [.d (eDs d)])) : callW tab 65 [.d (eI t), .ptr a 1 0 0] h = some (.d (.bool (!isT d t)), h) := by
  refine call_wp (fn := f65) rfl rfl ?_
  (simp only [e65, hr, exists_ok, wz, opX, intBin, ↓reduceIte, simprocAttr] <;> repeat' (first | refine wpG_s ?_ ?_ | refine wpC_s ?_ ?_) <;> intro hgo <;> (try simp only [dq] at hgo) <;> simp only [hgo, e65, hr, exists_ok, wz, opX, intBin, ↓reduceIte, simprocAttr])
theorem pcheck_ok {d : List Dt} (B : Bd d) (N : Nm d) (h : Hp) : callW tab 33 [.d (eDs d)] h = some (.d (eI (checkS d)), h) := by
  refine call_wp (fn := f33) rfl rfl ?_
  have hbl := B.len
  unfold checkS
  cases h1 : manyS d with
  | true => (simp only [e33, many_ok B, h1, wz, opX, intBin, ↓reduceIte, simprocAttr] <;> repeat' (first | refine wpG_s ?_ ?_ | refine wpC_s ?_ ?_) <;> intro hgo <;> (try simp only [dq] at hgo) <;> simp only [hgo, e33, many_ok B, h1, wz, opX, intBin, ↓reduceIte, simprocAttr])
  | false =>
    cases h2 : formedS d with
    | false => (simp only [e33, many_ok B, h1, pformed_ok B N, h2, wz, opX, intBin, ↓reduceIte, simprocAttr] <;> repeat' (first | refine wpG_s ?_ ?_ | refine wpC_s ?_ ?_) <;> intro hgo <;> (try simp only [dq] at hgo) <;> simp only [hgo, e33, many_ok B, h1, pformed_ok B N, h2, wz, opX, intBin, ↓reduceIte, simprocAttr])
    | true =>
      cases h3 : twiceS d with
      | true => (simp only [e33, many_ok B, h1, pformed_ok B N, h2, ptwice_ok B, h3, wz, opX, intBin, ↓reduceIte, simprocAttr] <;> repeat' (first | refine wpG_s ?_ ?_ | refine wpC_s ?_ ?_) <;> intro hgo <;> (try simp only [dq] at hgo) <;> simp only [hgo, e33, many_ok B, h1, pformed_ok B N, h2, ptwice_ok B, h3, wz, opX, intBin, ↓reduceIte, simprocAttr])
      | false =>
        have l0 : ∀ (q m : Nat) (y : Dt), d[m]? = some y → ∃ q', ex tab (.loop f33l0) [(1, .ptr h.next 1 0 0), (14, .d (eDs d)), (15, .d (.int .i64 d.length)), (16, .d (.int .i64 m)), (21, .d (eCs y.cons)), (22, .d (.int .i64 y.cons.length)), (23, .d (.int .i64 0))] ⟨(h.next, .arr 1 [.d (eDs d)]) :: h.objs, q⟩ =
            some (if (y.cons.any fun c => c.flds.any fun f => !isT d f) = true then (.ret, [(2, .d (eI 10))], ⟨(h.next, .arr 1 [.d (eDs d)]) :: h.objs, q'⟩) else (.exit 2, [(1, .ptr h.next 1 0 0), (14, .d (eDs d)), (15, .d (.int .i64 d.length)), (16, .d (.int .i64 m)), (21, .d (eCs y.cons)), (22, .d (.int .i64 y.cons.length)), (23, .d (.int .i64 y.cons.length)), (24, .d (.bool false))], ⟨(h.next, .arr 1 [.d (eDs d)]) :: h.objs, q'⟩)) := by
          intro q m y hy
          have b := B.at hy
          obtain ⟨hloopq, hloop⟩ := loop_anyq (T := tab) (a := f33l0) (l := y.cons) (p := (fun c => c.flds.any fun f => !isT d f)) (f := fun n => [(1, .ptr h.next 1 0 0), (14, .d (eDs d)), (15, .d (.int .i64 d.length)), (16, .d (.int .i64 m)), (21, .d (eCs y.cons)), (22, .d (.int .i64 y.cons.length)), (23, int n)]) (h := ⟨(h.next, .arr 1 [.d (eDs d)]) :: h.objs, q⟩)
              (by intro q n x hx hlt hp; have bc := B.cat hy hx; have hcf := conFT x.flds (.clo 65 [.ptr h.next 1 0 0]) (fun f => !isT d f) ⟨(h.next, .arr 1 [.d (eDs d)]) :: h.objs, q + 1⟩ (by omega) rfl (fun f _ => check1_ok d f h.next _ (row_hd ..)); all_goals ((simp only [hlt, hp, e33, iaC hx, hcf, wrap_succ (show n < 2 ^ 62 by omega), wz, opX, intBin, ↓reduceIte, simprocAttr] <;> repeat' (first | refine wpG_s ?_ ?_ | refine wpC_s ?_ ?_) <;> intro hgo <;> (try simp only [dq] at hgo) <;> simp only [hgo, hlt, hp, e33, iaC hx, hcf, wrap_succ (show n < 2 ^ 62 by omega), wz, opX, intBin, ↓reduceIte, simprocAttr]) <;> (first | exact ⟨_, rfl⟩ | exact ⟨_, rfl, rfl⟩ | exact ⟨_, rfl, rfl, rfl⟩)))
              (by intro q n x hx hlt hp; have bc := B.cat hy hx; have hcf := conFT x.flds (.clo 65 [.ptr h.next 1 0 0]) (fun f => !isT d f) ⟨(h.next, .arr 1 [.d (eDs d)]) :: h.objs, q + 1⟩ (by omega) rfl (fun f _ => check1_ok d f h.next _ (row_hd ..)); all_goals ((simp only [hlt, hp, e33, iaC hx, hcf, wrap_succ (show n < 2 ^ 62 by omega), wz, opX, intBin, ↓reduceIte, simprocAttr] <;> repeat' (first | refine wpG_s ?_ ?_ | refine wpC_s ?_ ?_) <;> intro hgo <;> (try simp only [dq] at hgo) <;> simp only [hgo, hlt, hp, e33, iaC hx, hcf, wrap_succ (show n < 2 ^ 62 by omega), wz, opX, intBin, ↓reduceIte, simprocAttr]) <;> (first | exact ⟨_, rfl⟩ | exact ⟨_, rfl, rfl⟩ | exact ⟨_, rfl, rfl, rfl⟩)))
              (by intro q; (simp only [e33, wz, opX, intBin, ↓reduceIte, simprocAttr] <;> repeat' (first | refine wpG_s ?_ ?_ | refine wpC_s ?_ ?_) <;> intro hgo <;> (try simp only [dq] at hgo) <;> simp only [hgo, e33, wz, opX, intBin, ↓reduceIte, simprocAttr]) <;> (first | exact ⟨_, rfl⟩ | exact ⟨_, rfl, rfl⟩ | exact ⟨_, rfl, rfl, rfl⟩))
              (by simp) (by simp)
          simp only [int, Zv.bool, Int.cast_ofNat_Int] at hloop
          exact ⟨_, hloop⟩
        obtain ⟨hloopq, hloop⟩ := loop_anyq (T := tab) (a := f33l1) (l := d) (p := (fun y => y.cons.any fun c => c.flds.any fun f => !isT d f)) (f := fun n => [(1, .ptr h.next 1 0 0), (14, .d (eDs d)), (15, .d (.int .i64 d.length)), (16, int n)]) (h := ⟨(h.next, .arr 1 [.d (eDs d)]) :: h.objs, h.next + 1⟩)
            (by intro q n x hx hlt hp; obtain ⟨q', hin⟩ := l0 (q + 1) n x hx; simp only [hp, if_true, if_false, Bool.false_eq_true] at hin; all_goals ((simp only [hlt, hp, e33, iaD hx, wq_of hin, wrap_succ (show n < 2 ^ 62 by omega), wz, opX, intBin, ↓reduceIte, simprocAttr] <;> repeat' (first | refine wpG_s ?_ ?_ | refine wpC_s ?_ ?_) <;> intro hgo <;> (try simp only [dq] at hgo) <;> simp only [hgo, hlt, hp, e33, iaD hx, wq_of hin, wrap_succ (show n < 2 ^ 62 by omega), wz, opX, intBin, ↓reduceIte, simprocAttr]) <;> (first | exact ⟨_, rfl⟩ | exact ⟨_, rfl, rfl⟩ | exact ⟨_, rfl, rfl, rfl⟩)))
            (by intro q n x hx hlt hp; obtain ⟨q', hin⟩ := l0 (q + 1) n x hx; simp only [hp, if_true, if_false, Bool.false_eq_true] at hin; all_goals ((simp only [hlt, hp, e33, iaD hx, wq_of hin, wrap_succ (show n < 2 ^ 62 by omega), wz, opX, intBin, ↓reduceIte, simprocAttr] <;> repeat' (first | refine wpG_s ?_ ?_ | refine wpC_s ?_ ?_) <;> intro hgo <;> (try simp only [dq] at hgo) <;> simp only [hgo, hlt, hp, e33, iaD hx, wq_of hin, wrap_succ (show n < 2 ^ 62 by omega), wz, opX, intBin, ↓reduceIte, simprocAttr]) <;> (first | exact ⟨_, rfl⟩ | exact ⟨_, rfl, rfl⟩ | exact ⟨_, rfl, rfl, rfl⟩)))
            (by intro q; (simp only [e33, wz, opX, intBin, ↓reduceIte, simprocAttr] <;> repeat' (first | refine wpG_s ?_ ?_ | refine wpC_s ?_ ?_) <;> intro hgo <;> (try simp only [dq] at hgo) <;> simp only [hgo, e33, wz, opX, intBin, ↓reduceIte, simprocAttr]) <;> (first | exact ⟨_, rfl⟩ | exact ⟨_, rfl, rfl⟩ | exact ⟨_, rfl, rfl, rfl⟩))
            (by simp) (by simp)
        simp only [int, Zv.bool, Int.cast_ofNat_Int] at hloop
        have hty := typed_any d
        cases h4 : typedS d with
        | false =>
          have h4' : (d.any fun y => y.cons.any fun c => c.flds.any fun f => !isT d f) = true := by rw [h4] at hty; simpa using hty.symm
          rw [h4', if_pos rfl] at hloop
          (simp only [e33, many_ok B, h1, pformed_ok B N, h2, ptwice_ok B, h3, wq_of hloop, wz, opX, intBin, ↓reduceIte, simprocAttr] <;> repeat' (first | refine wpG_s ?_ ?_ | refine wpC_s ?_ ?_) <;> intro hgo <;> (try simp only [dq] at hgo) <;> simp only [hgo, e33, many_ok B, h1, pformed_ok B N, h2, ptwice_ok B, h3, wq_of hloop, wz, opX, intBin, ↓reduceIte, simprocAttr])
        | true =>
          have h4' : (d.any fun y => y.cons.any fun c => c.flds.any fun f => !isT d f) = false := by rw [h4] at hty; simpa using hty.symm
          rw [h4', if_neg (by simp)] at hloop
          cases h5 : finiteS d with
          | false => (simp only [e33, many_ok B, h1, pformed_ok B N, h2, ptwice_ok B, h3, wq_of hloop, pfinite_ok B h4, h5, wz, opX, intBin, ↓reduceIte, simprocAttr] <;> repeat' (first | refine wpG_s ?_ ?_ | refine wpC_s ?_ ?_) <;> intro hgo <;> (try simp only [dq] at hgo) <;> simp only [hgo, e33, many_ok B, h1, pformed_ok B N, h2, ptwice_ok B, h3, wq_of hloop, pfinite_ok B h4, h5, wz, opX, intBin, ↓reduceIte, simprocAttr])
          | true => (simp only [e33, many_ok B, h1, pformed_ok B N, h2, ptwice_ok B, h3, wq_of hloop, pfinite_ok B h4, h5, wz, opX, intBin, ↓reduceIte, simprocAttr] <;> repeat' (first | refine wpG_s ?_ ?_ | refine wpC_s ?_ ?_) <;> intro hgo <;> (try simp only [dq] at hgo) <;> simp only [hgo, e33, many_ok B, h1, pformed_ok B N, h2, ptwice_ok B, h3, wq_of hloop, pfinite_ok B h4, h5, wz, opX, intBin, ↓reduceIte, simprocAttr])
end Zc27
end
section
set_option linter.unusedSimpArgs false
set_option linter.unusedVariables false
namespace Zs
open Go Zv

end Zs
end
section
set_option linter.unusedSimpArgs false
set_option linter.unusedVariables false
set_option linter.unusedSimpArgs false
namespace Zs
open Go Zv

def rowN (m es : Nat) (s : List D) : V := if s = [] then .tl [] (some true) else .own m es s.length 0 s.length
def rowQ (h : Hp) (m es : Nat) (s : List D) (q : Nat) : Hp := ⟨if s = [] then h.objs else (m, .arr es (s.map .d)) :: h.objs, q⟩
theorem rowQ_next (h : Hp) (m es : Nat) (s : List D) (q : Nat) : (rowQ h m es s q).next = q := rfl
theorem rowQ_mk (h : Hp) (m es : Nat) (s : List D) (q n : Nat) : (⟨(rowQ h m es s q).objs, n⟩ : Hp) = rowQ h m es s n := rfl
def nmQ (s : List D) (m q : Nat) : Nat := if s = [] then q else m
def nqQ (s : List D) (q : Nat) : Nat := if s = [] then q + 1 else q
theorem nqQ_le (s : List D) (q : Nat) : q ≤ nqQ s q := by unfold nqQ; split <;> omega
theorem nmQ_lt {s : List D} {m q : Nat} (h : s ≠ [] → m < q) : nmQ s m q < nqQ s q := by
  unfold nmQ nqQ
  split
  · omega
  · rename_i hs; exact h hs
theorem rowQ_row (h : Hp) (m es : Nat) {s : List D} (hs : s ≠ []) (q : Nat) : (rowQ h m es s q).row m s.length = some (es, s.map .d) := by
  unfold rowQ Hp.row Hp.get
  rw [if_neg hs]
  simp only [Zv.look, if_true, List.length_map]
theorem rowQ_app (h : Hp) {m es b q : Nat} {s : List D} {x : D} {nl : Option Bool} (hx : x.cells.length = es) (hlen : (s.length + 1) * b ≤ roomB) (hl : ∀ y, y ∈ s → y.cells.length = es) :
    app es b (rowQ h m es s q) (rowN m es s) (.tl [.d x] nl) = some (rowN (nmQ s m q) es (s ++ [x]), rowQ h (nmQ s m q) es (s ++ [x]) (nqQ s q)) := by
  have hxs : allV es [V.d x] = true := by simp [allV, V.cells, hx]
  have hne : s ++ [x] ≠ [] := by simp
  unfold app
  simp only [elems, Option.bind_some, List.map_cons, List.map_nil, norm_d, hxs, if_true]
  by_cases h0 : s = []
  · subst h0
    simp [rowN, rowQ, allV, nmQ, nqQ, Hp.alloc]
    simpa using hlen
  · have hr := rowQ_row h m es h0 q
    rw [show rowN m es s = .own m es s.length 0 s.length from if_neg h0]
    simp only [hr, Option.bind_some, List.length_map, Nat.zero_add, Nat.le_refl, and_self, if_true, List.isEmpty_cons, Bool.false_eq_true, if_false, List.length_cons, List.length_nil]
    rw [if_neg (by omega), if_pos hlen, List.take_of_length_le (by simp)]
    simp only [rowN, rowQ, nmQ, nqQ, hne, h0, if_false, List.length_append, List.length_cons, List.length_nil, List.map_append, List.map_cons, List.map_nil, Nat.zero_add, Hp.set, upd, if_true]
theorem rowQ_suf (h : Hp) (m es : Nat) (s : List D) (q : Nat) : sufOk h.objs (rowQ h m es s q).objs = true := by
  unfold rowQ
  split
  · exact suf_refl _
  · exact suf_one _ _
theorem rowQ_deep (h : Hp) {m es n0 : Nat} (s : List D) (q : Nat) (hm : s ≠ [] → n0 ≤ m) : deep (rowQ h m es s q) n0 8 (rowN m es s) = some (.lst s) := by
  by_cases hl : s = []
  · subst hl; rfl
  · have hr := rowQ_row h m es hl q
    rw [show rowN m es s = .own m es s.length 0 s.length from if_neg hl]
    unfold deep
    simp only [hm hl, if_true, hr, Option.bind_some, List.length_map, Nat.zero_add, Nat.le_refl, List.drop_zero]
    rw [List.take_of_length_le (by simp), deep_ds]
    rfl
theorem finS_rowQ {h : Hp} {m es : Nat} {s : List D} {q : Nat} (hm : s ≠ [] → h.next ≤ m) : finS h (rowQ h m es s q) [rowN m es s] = some (.d (.lst s), h) := by
  rw [finS, if_pos (rowQ_suf h m es s q)]
  simp only [List.mapM_cons, List.mapM_nil, back1, rowQ_deep h s q hm]
  rfl

theorem lenL_rowN (m es : Nat) (s : List D) : lenL (rowN m es s) = some (.d (.int .i64 (s.length : Int))) := by
  unfold rowN
  split
  · rename_i h; subst h; rfl
  · rfl
/-- What such a loop builds. -/
def accG {α β : Type} (G : List β → α → Option β) (s : List β) (x : α) : List β := match G s x with
  | none => s
  | some y => s ++ [y]
def accL {α β : Type} (G : List β → α → Option β) (l : List α) : List β := l.foldl (accG G) []
theorem accL_snoc {α β : Type} (G : List β → α → Option β) (l : List α) (x : α) : accL G (l ++ [x]) = accG G (accL G l) x := by
  rw [accL, List.foldl_append]; rfl
theorem accL_fm {α β : Type} (F : α → Option β) (l : List α) : accL (fun _ => F) l = l.filterMap F := by
  have : ∀ (l : List α) (s : List β), l.foldl (accG fun _ => F) s = s ++ l.filterMap F := by
    intro l
    induction l with
    | nil => intro s; simp
    | cons x r ih =>
      intro s
      rw [List.foldl_cons, List.filterMap_cons]
      cases hf : F x with
      | none => rw [ih]; simp only [accG, hf]
      | some y => rw [ih]; simp only [accG, hf, List.append_assoc, List.singleton_append]
  exact (this l []).trans (List.nil_append _)

/-- A loop that builds a row. -/
theorem loop_acc {T : Tab} {a : AC} {α β : Type} {l : List α} (G : List β → α → Option β) (enc : β → D) (es b : Nat) (env : Nat → V → Env) {h : Hp} {n0 : Nat} {x1 : Ex} {e1 : V → Env} (hn0 : n0 ≤ h.next)
    (hc : ∀ y, (enc y).cells.length = es) (hb : l.length * b ≤ roomB)
    (h0 : ∀ n x s m q, l[n]? = some x → n < l.length → s = accL G (l.take n) → s.length ≤ n → G s x = none → wp T a (env n (rowN m es (s.map enc))) (rowQ h m es (s.map enc) q) (fun o => ∃ q', o = (.norm, env (n + 1) (rowN m es (s.map enc)), rowQ h m es (s.map enc) q') ∧ q ≤ q'))
    (h1 : ∀ n x y s m q, l[n]? = some x → n < l.length → s = accL G (l.take n) → s.length ≤ n → G s x = some y → (∀ q, app es b (rowQ h m es (s.map enc) q) (rowN m es (s.map enc)) (.tl [.d (enc y)] (some false)) = some (rowN (nmQ (s.map enc) m q) es (s.map enc ++ [enc y]), rowQ h (nmQ (s.map enc) m q) es (s.map enc ++ [enc y]) (nqQ (s.map enc) q))) →
      wp T a (env n (rowN m es (s.map enc))) (rowQ h m es (s.map enc) q) (fun o => ∃ q' q'', o = (.norm, env (n + 1) (rowN (nmQ (s.map enc) m q') es (s.map enc ++ [enc y])), rowQ h (nmQ (s.map enc) m q') es (s.map enc ++ [enc y]) q'') ∧ q ≤ q' ∧ nqQ (s.map enc) q' ≤ q''))
    (h2 : ∀ m q, wp T a (env l.length (rowN m es ((accL G l).map enc))) (rowQ h m es ((accL G l).map enc) q) (fun o => ∃ q', o = (x1, e1 (rowN m es ((accL G l).map enc)), rowQ h m es ((accL G l).map enc) q') ∧ q ≤ q')) (ho : x1 ≠ .norm) :
    ∃ m q, ((accL G l).map enc ≠ [] → n0 ≤ m ∧ m < q) ∧ h.next ≤ q ∧ ex T (.loop a) (env 0 (.tl [] (some true))) h = some (x1, e1 (rowN m es ((accL G l).map enc)), rowQ h m es ((accL G l).map enc) q) := by
  obtain ⟨o, g1, m, q, g2, g3, g4⟩ : wp T (.loop a) (env 0 (.tl [] (some true))) h (fun o => ∃ m q, ((accL G l).map enc ≠ [] → n0 ≤ m ∧ m < q) ∧ h.next ≤ q ∧ o = (x1, e1 (rowN m es ((accL G l).map enc)), rowQ h m es ((accL G l).map enc) q)) := by
    refine loop_wp l.length (fun n e h' => ∃ s m q, s = accL G (l.take n) ∧ s.length ≤ n ∧ (s.map enc ≠ [] → n0 ≤ m ∧ m < q) ∧ h.next ≤ q ∧ h' = rowQ h m es (s.map enc) q ∧ e = env n (rowN m es (s.map enc))) _ ?_ ?_ l.length 0 _ _ (by omega) ⟨[], 0, h.next, by simp [accL], by simp, by simp, Nat.le_refl _, rfl, rfl⟩
    · rintro n e h' hn ⟨s, m, q, hs, hsl, hm, hq, rfl, rfl⟩
      have hx' : l[n]? = some l[n] := List.getElem?_eq_getElem hn
      have hstep : accL G (l.take (n + 1)) = accG G s l[n] := by
        rw [hs, List.take_add_one, hx']; exact accL_snoc G _ _
      cases hg : G s l[n] with
      | none =>
        obtain ⟨o, hw, q', rfl, hle⟩ := h0 n _ s m q hx' hn hs hsl hg
        exact ⟨_, hw, .inl ⟨rfl, s, m, q', by rw [hstep, accG, hg], by omega, fun h => ⟨(hm h).1, by have := (hm h).2; omega⟩, by omega, rfl, rfl⟩⟩
      | some y =>
        have hroom : ((s.map enc).length + 1) * b ≤ roomB := Nat.le_trans (Nat.mul_le_mul_right b (by rw [List.length_map]; omega)) hb
        obtain ⟨o, hw, q', q'', rfl, hle, hle2⟩ := h1 n _ y s m q hx' hn hs hsl hg (fun q => rowQ_app h (hc y) hroom (fun z hz => by obtain ⟨w, _, rfl⟩ := List.mem_map.1 hz; exact hc w))
        refine ⟨_, hw, .inl ⟨rfl, s ++ [y], nmQ (s.map enc) m q', q'', by rw [hstep, accG, hg], by simp; omega, fun _ => ⟨?_, ?_⟩, ?_, by simp only [List.map_append, List.map_cons, List.map_nil], by simp only [List.map_append, List.map_cons, List.map_nil]⟩⟩
        · unfold nmQ
          split
          · omega
          · rename_i h; exact (hm h).1
        · have := nmQ_lt (s := s.map enc) (m := m) (q := q') (fun h => by have := (hm h).2; omega)
          omega
        · have := nqQ_le (s.map enc) q'; omega
    · rintro e h' ⟨s, m, q, hs, hsl, hm, hq, rfl, rfl⟩
      rw [List.take_length] at hs
      subst hs
      obtain ⟨o, hw, q', rfl, hle⟩ := h2 m q
      exact ⟨_, hw, ho, m, q', fun h => ⟨(hm h).1, by have := (hm h).2; omega⟩, by omega, rfl⟩
  exact ⟨m, q, g2, g3, by rw [g1, g4]⟩

/-! ### Rows that are put together, then frozen -/
theorem norm_map_d (l : List D) : (l.map V.d).map norm = l.map V.d := by
  rw [List.map_map]; rfl
theorem allV_d {es : Nat} {l : List D} (hl : ∀ y, y ∈ l → y.cells.length = es) : allV es (l.map .d) = true := by
  unfold allV
  refine List.all_eq_true.2 fun x hx => ?_
  obtain ⟨y, hy, rfl⟩ := List.mem_map.1 hx
  simp [V.cells, hl y hy]
theorem own_app {es b m q : Nat} {o : List (Nat × Ob)} {l r : List D} (hr : ∀ y, y ∈ r → y.cells.length = es) (hb : (l.length + r.length) * b ≤ roomB) :
    app es b ⟨(m, .arr es (l.map .d)) :: o, q⟩ (.own m es l.length 0 l.length) (.d (.lst r)) = some (.own m es (l ++ r).length 0 (l ++ r).length, ⟨(m, .arr es ((l ++ r).map .d)) :: o, q⟩) := by
  have hrow : (⟨(m, .arr es (l.map V.d)) :: o, q⟩ : Hp).row m l.length = some (es, l.map .d) := by rw [row_cons]; simp
  unfold app
  simp only [elems, Option.bind_some, norm_map_d, allV_d hr, if_true, hrow, List.length_map, Nat.zero_add, Nat.le_refl, and_self]
  by_cases h0 : r = []
  · subst h0; simp
  · have hp : 0 < r.length := List.length_pos_iff.2 h0
    have he : (r.map V.d).isEmpty = false := by cases r with | nil => exact absurd rfl h0 | cons => rfl
    rw [he]
    simp only [Bool.false_eq_true, if_false]
    rw [if_neg (by omega), if_pos hb]
    simp only [if_true, List.take_of_length_le (show (l.map V.d).length ≤ l.length by simp), List.length_append, List.map_append, Hp.set, upd]
theorem own_frz {es m q : Nat} {o : List (Nat × Ob)} {l : List D} : frz ⟨(m, .arr es (l.map .d)) :: o, q⟩ (.own m es l.length 0 l.length) = some (.d (.lst l), ⟨o, q⟩) := by
  have hrow : (⟨(m, .arr es (l.map V.d)) :: o, q⟩ : Hp).row m l.length = some (es, l.map .d) := by rw [row_cons]; simp
  unfold frz
  simp only [hrow, Option.bind_some, List.length_map, Nat.zero_add, Nat.le_refl, if_true, List.drop_zero, List.take_of_length_le (show (l.map V.d).length ≤ l.length by simp), toDs_map, Option.map_some, Hp.kill, del]
/-- A row that is nil or not, where it is empty; an object where it is not. -/
def cloV (nl : Option Bool) (n es : Nat) (l : List D) : V := if l = [] then .tl [] nl else .own n es l.length 0 l.length
def cloO (o : List (Nat × Ob)) (n es : Nat) (l : List D) : Hp := ⟨if l = [] then o else (n, .arr es (l.map .d)) :: o, if l = [] then n else n + 1⟩
theorem cloO_nil (o : List (Nat × Ob)) (n es : Nat) : cloO o n es [] = ⟨o, n⟩ := rfl
theorem clo_app {nl : Option Bool} {es b n : Nat} {o : List (Nat × Ob)} {l r : List D} (hl : ∀ y, y ∈ l → y.cells.length = es) (hr : ∀ y, y ∈ r → y.cells.length = es) (hb : (l.length + r.length) * b ≤ roomB) :
    app es b (cloO o n es l) (cloV nl n es l) (.d (.lst r)) = some (cloV nl n es (l ++ r), cloO o n es (l ++ r)) := by
  by_cases h0 : l = []
  · subst h0
    by_cases h1 : r = []
    · subst h1; rfl
    · have hp : 0 < r.length := List.length_pos_iff.2 h1
      have he : (r.map V.d).isEmpty = false := by cases r with | nil => exact absurd rfl h1 | cons => rfl
      simp only [cloV, cloO, if_true, List.nil_append, h1, if_false]
      unfold app
      simp only [elems, Option.bind_some, norm_map_d, allV_d hr, if_true, he, Bool.false_eq_true, if_false, List.length_nil, Nat.zero_add, List.length_map, List.nil_append]
      rw [if_pos ⟨by simpa using hb, rfl⟩]
      rfl
  · have hlr : l ++ r ≠ [] := by simp [h0]
    simp only [cloV, cloO, h0, hlr, if_false]
    exact own_app hr hb
theorem tl_app {nl : Option Bool} {es b : Nat} {h : Hp} {r : List D} (hr : ∀ y, y ∈ r → y.cells.length = es) (hb : r.length * b ≤ roomB) :
    app es b h (.tl [] nl) (.d (.lst r)) = some (cloV nl h.next es r, cloO h.objs h.next es r) :=
  clo_app (o := h.objs) (n := h.next) (l := []) (by simp) hr (by simpa using hb)
theorem clo_frz {nl : Option Bool} {es n : Nat} {o : List (Nat × Ob)} {l : List D} : frz (cloO o n es l) (cloV nl n es l) = some (.d (.lst l), ⟨o, if l = [] then n else n + 1⟩) := by
  by_cases h0 : l = []
  · subst h0; rfl
  · simp only [cloV, cloO, h0, if_false]
    exact own_frz
theorem finS_clo {h : Hp} {nl : Option Bool} {es n : Nat} {l : List D} (hn : h.next ≤ n) : finS h (cloO h.objs n es l) [cloV nl n es l] = some (.d (.lst l), h) := by
  by_cases h0 : l = []
  · subst h0
    rw [cloO_nil, finS, if_pos (suf_refl _)]
    rfl
  · have := finS_rowQ (h := h) (m := n) (es := es) (s := l) (q := n + 1) (fun _ => hn)
    unfold rowQ rowN at this
    unfold cloV cloO
    simp only [h0, if_false] at this ⊢
    exact this

/-! ### Tests that may be unknown -/
theorem ex_ambU {T : Tab} {p a b r : AC} {c : Opd} {e e1 : Env} {h h1 : Hp} {o q z : Out} (hp : ex T p e h = some (.norm, e1, h1)) (hc : e1.ev c = .ub) (ho : ex T (.seq a r) e1 h1 = some o) (hq : ex T (.seq b r) e1 h1 = some q)
    (hz : outJoin o q = some z) : ex T (.amb p c a b r) e h = some z := by
  show (ex T p e h).bind (nxt (ambB c (ex T a) (ex T b) (ex T r))) = some z
  rw [hp, Option.bind_some, nxt_n]
  unfold ambB
  rw [hc]
  rw [ex_seq] at ho hq
  simp only [ho, hq, Option.bind_some, hz]
theorem ex_ambD {T : Tab} {p a b r : AC} {c : Opd} {e e1 : Env} {h h1 : Hp} {o : Out} (t : Bool) (hp : ex T p e h = some (.norm, e1, h1)) (hc : e1.ev c = .d (.bool t)) (ho : ex T (.seq (if t = true then a else b) r) e1 h1 = some o) : ex T (.amb p c a b r) e h = some o := by
  show (ex T p e h).bind (nxt (ambB c (ex T a) (ex T b) (ex T r))) = some o
  rw [hp, Option.bind_some, nxt_n]
  unfold ambB
  rw [hc]
  rw [ex_seq] at ho
  cases t <;> exact ho

/-- A loop over numbers that may be left early, and then with other objects. -/
theorem loop_anyO {T : Tab} {a : AC} {K : Nat} {p : Nat → Bool} {f : Nat → Env} {O O2 : List (Nat × Ob)} {x1 x2 : Ex} {e2 : Env} {q0 : Nat}
    (hs : ∀ q n, n < K → p n = false → wp T a (f n) ⟨O, q⟩ (fun o => ∃ q', o = (.norm, f (n + 1), ⟨O, q'⟩) ∧ q ≤ q'))
    (hx : ∀ q n, n < K → p n = true → wp T a (f n) ⟨O, q⟩ (fun o => ∃ e q', o = (x1, e, ⟨O2, q'⟩) ∧ q ≤ q'))
    (hN : ∀ q, wp T a (f K) ⟨O, q⟩ (fun o => ∃ q', o = (x2, e2, ⟨O, q'⟩) ∧ q ≤ q')) (ho : x1 ≠ .norm) (hoN : x2 ≠ .norm) :
    ∃ e q', q0 ≤ q' ∧ ex T (.loop a) (f 0) ⟨O, q0⟩ = some (if (List.range K).any p = true then (x1, e, ⟨O2, q'⟩) else (x2, e2, ⟨O, q'⟩)) := by
  obtain ⟨o, h1, e, q, hqq, h2⟩ : wp T (.loop a) (f 0) ⟨O, q0⟩ (fun o => ∃ e q', q0 ≤ q' ∧ o = if (List.range K).any p = true then (x1, e, ⟨O2, q'⟩) else (x2, e2, ⟨O, q'⟩)) := by
    refine loop_wp K (fun n e h' => (∃ q, q0 ≤ q ∧ h' = ⟨O, q⟩) ∧ e = f n ∧ ∀ i, i < n → p i = false) _ ?_ ?_ K 0 _ _ (by omega) ⟨⟨q0, Nat.le_refl _, rfl⟩, rfl, fun i hi => by omega⟩
    · rintro n e h' hn ⟨⟨q, hqn, rfl⟩, rfl, hk⟩
      cases hp : p n with
      | true =>
        obtain ⟨o, hq, e, q', rfl, hle⟩ := hx q n hn hp
        have : (List.range K).any p = true := List.any_eq_true.2 ⟨n, List.mem_range.2 hn, hp⟩
        rw [this]
        exact ⟨_, hq, .inr ⟨ho, e, q', Nat.le_trans hqn hle, rfl⟩⟩
      | false =>
        obtain ⟨o, hq, q', rfl, hle⟩ := hs q n hn hp
        refine ⟨_, hq, .inl ⟨rfl, ⟨q', Nat.le_trans hqn hle, rfl⟩, rfl, fun i hi => ?_⟩⟩
        by_cases hij : i = n
        · subst hij; exact hp
        · exact hk i (by omega)
    · rintro e h' ⟨⟨q, hqn, rfl⟩, rfl, hk⟩
      have : (List.range K).any p = false := by
        rw [← Bool.not_eq_true, List.any_eq_true]
        rintro ⟨x, hx, hp⟩
        rw [hk x (List.mem_range.1 hx)] at hp
        cases hp
      rw [this]
      obtain ⟨o, hq, q', rfl, hle⟩ := hN q
      exact ⟨_, hq, hoN, f 0, q', Nat.le_trans hqn hle, rfl⟩
  exact ⟨e, q, hqq, by rw [h1, h2]⟩
end Zs
end
section
set_option linter.unusedSimpArgs false
set_option linter.unusedVariables false
set_option linter.unusedSimpArgs false
set_option maxHeartbeats 4000000
namespace Zc27
open Go Zv Zs

/-- A loop that builds a row. -/
theorem loop_row {T : Tab} {a : AC} {α : Type} {l : List α} {F : α → D} {es b : Nat} {env : Nat → V → Env} {h : Hp} {o : Out} (hc : ∀ x, (F x).cells.length = es) (hb : l.length * b ≤ roomB)
    (h1 : ∀ n x (s : List D), l[n]? = some x → n < l.length → s = (l.take n).map F → app es b (rowH h es s) (rowV h es s) (.tl [.d (F x)] (some false)) = some (rowV h es (s ++ [F x]), rowH h es (s ++ [F x])) →
      ex T a (env n (rowV h es s)) (rowH h es s) = some (.norm, env (n + 1) (rowV h es (s ++ [F x])), rowH h es (s ++ [F x])))
    (h2 : ex T a (env l.length (rowV h es (l.map F))) (rowH h es (l.map F)) = some o) (ho : o.1 ≠ .norm) :
    ex T (.loop a) (env 0 (rowV h es [])) (rowH h es []) = some o := by
  have := loop_fold (T := T) (a := a) (l := l) (fun n (s : List D) => env n (rowV h es s)) (fun _ s => rowH h es s) (fun n s => s = (l.take n).map F) (fun s x => s ++ [F x]) (fun _ => o)
    (by
      intro n s x hx hlt hs
      have hlen : s.length = n := by rw [hs, List.length_map, List.length_take]; omega
      have happ := rowD_app h (es := es) (b := b) (l := s) (x := F x) (hc x) (by rw [hlen]; exact Nat.le_trans (Nat.mul_le_mul_right b hlt) hb) (fun y hy => by rw [hs] at hy; obtain ⟨z, _, rfl⟩ := List.mem_map.1 hy; exact hc z)
      refine ⟨h1 n x s hx hlt hs happ, ?_⟩
      rw [hs, List.take_add_one, hx]
      simp)
    (by
      intro s hs
      rw [List.take_length] at hs
      subst hs
      exact h2)
    (fun _ => ho)
    [] (by simp)
  exact this
theorem finS_row (h : Hp) (es : Nat) (l : List D) : finS h (rowH h es l) [rowV h es l] = some (.d (.lst l), h) := by
  have := finish_row (fn := ⟨0, [(0, none)], true, .skip⟩) (h := h) (l := l) (es := es) (t := 0) (e := [(0, rowV h es l)]) rfl rfl rfl
  exact this

/-- A pattern: kind, constructor, number, arguments. -/
inductive Pt where
  | mk (k c n : Int) (qs : List Pt)
mutual
def ePt : Pt → D
  | .mk k c n qs => .agg [.int .i64 k, .int .i64 c, .int .i64 n, .lst (eL qs)]
def eL : List Pt → List D
  | [] => []
  | p :: r => ePt p :: eL r
end
theorem eL_map : ∀ l : List Pt, eL l = l.map ePt
  | [] => rfl
  | p :: r => by rw [eL, eL_map r]; rfl
theorem ePt_mk (k c n : Int) (qs : List Pt) : ePt (.mk k c n qs) = .agg [.int .i64 k, .int .i64 c, .int .i64 n, .lst (qs.map ePt)] := by rw [ePt, eL_map]
theorem ePt_cells (p : Pt) : (ePt p).cells.length = 4 := by
  cases p; rfl
theorem aggP (p : Pt) : D.agg (List.take 4 (ePt p).cells) = ePt p := by
  cases p; rfl
/-- What is known of a pattern's cells. -/
theorem pts : (∀ p, (ePt p).cells.length = 4) ∧ (∀ p, D.agg (List.take 4 (ePt p).cells) = ePt p) ∧ ((4 : Nat) ≤ 4 ↔ True) := ⟨ePt_cells, aggP, by simp⟩
abbrev ePs (l : List Pt) : D := .lst (l.map ePt)
abbrev eRs (l : List (List Pt)) : D := .lst (l.map ePs)
theorem iaP {l : List Pt} {n : Nat} {x : Pt} (hx : l[n]? = some x) : ia 4 (.d (.lst (l.map ePt))) (.d (.int .i64 (n : Int))) = some (.fp (ePt x) 0) := ia_map (f := ePt) .i64 hx (ePt_cells x)
theorem iaR {l : List (List Pt)} {n : Nat} {x : List Pt} (hx : l[n]? = some x) : ia 1 (.d (.lst (l.map ePs))) (.d (.int .i64 (n : Int))) = some (.fp (ePs x) 0) := ia_map (f := ePs) .i64 hx rfl
mutual
def cntP : Pt → Nat
  | .mk _ _ _ qs => cntL qs + 1
def cntL : List Pt → Nat
  | [] => 0
  | p :: r => cntP p + cntL r
end
theorem cntP_pos (p : Pt) : 1 ≤ cntP p := by cases p; simp [cntP]
theorem cntL_len : ∀ l : List Pt, l.length ≤ cntL l
  | [] => Nat.le_refl _
  | p :: r => by have := cntL_len r; have := cntP_pos p; rw [List.length_cons, cntL]; omega
theorem cntL_mem : ∀ {l : List Pt} {p : Pt}, p ∈ l → cntP p ≤ cntL l
  | q :: r, p, h => by
    rw [cntL]
    rcases List.mem_cons.1 h with rfl | h
    · omega
    · have := cntL_mem h; omega
theorem to_ok {qs : List Pt} (hr : ∀ h, callW tab 15 [.d (ePs qs)] h = some (.d (ePs qs), h)) (k c n : Int) (h : Hp) : callW tab 45 [.d (ePt (.mk k c n qs))] h = some (.d (ePt (.mk k c n qs)), h) := by
  rw [ePt_mk]
  refine call_wp (fn := f45) rfl rfl ?_
  (simp only [e45, hr, wz, opX, intBin, ↓reduceIte, simprocAttr] <;> repeat' (first | refine wpG_s ?_ ?_ | refine wpC_s ?_ ?_) <;> intro hgo <;> (try simp only [dq] at hgo) <;> simp only [hgo, e45, hr, wz, opX, intBin, ↓reduceIte, simprocAttr])
theorem row_ok : ∀ (N : Nat) (l : List Pt), cntL l ≤ N → N ≤ 1000 → ∀ h, callW tab 15 [.d (ePs l)] h = some (.d (ePs l), h)
  | N, l, hl, hN, h => by
    have hlen := cntL_len l
    refine call_wp (fn := f15) rfl rfl ?_
    have hto : ∀ p, p ∈ l → ∀ h, callW tab 45 [.d (ePt p)] h = some (.d (ePt p), h) := by
      intro p hp h
      have hc := cntL_mem hp
      obtain ⟨k, c, n, qs⟩ := p
      rw [cntP] at hc
      exact to_ok (fun h => row_ok (cntL qs) qs (Nat.le_refl _) (by omega) h) k c n h
    have hloop := loop_row (T := tab) (a := f15l0) (l := l) (F := ePt) (es := 4) (b := 48) (env := fun n r => [(0, .d (ePs l)), (3, r), (4, int n)]) (h := h)
        ePt_cells (by simp only [roomB]; omega)
        (by intro n x s hx hlt hs happ; (have ht := fun h => hto x (List.mem_of_getElem? hx) h); all_goals (apply wq_ex.1; (simp only [hlt, happ, e15, iaP hx, pts, ht, wrap_succ (show n < 2 ^ 62 by omega), wz, opX, intBin, ↓reduceIte, simprocAttr] <;> repeat' (first | refine wpG_s ?_ ?_ | refine wpC_s ?_ ?_) <;> intro hgo <;> (try simp only [dq] at hgo) <;> simp only [hgo, hlt, happ, e15, iaP hx, pts, ht, wrap_succ (show n < 2 ^ 62 by omega), wz, opX, intBin, ↓reduceIte, simprocAttr])))
        (by apply wq_ex.1; (simp only [e15, wz, opX, intBin, ↓reduceIte, simprocAttr] <;> repeat' (first | refine wpG_s ?_ ?_ | refine wpC_s ?_ ?_) <;> intro hgo <;> (try simp only [dq] at hgo) <;> simp only [hgo, e15, wz, opX, intBin, ↓reduceIte, simprocAttr]) <;> rfl)
        (by simp)
    simp only [int, Zv.bool, Int.cast_ofNat_Int, List.map_nil, rowV_nil, rowH_nil] at hloop
    (simp only [e15, wq_of hloop, finS_row, wz, opX, intBin, ↓reduceIte, simprocAttr] <;> repeat' (first | refine wpG_s ?_ ?_ | refine wpC_s ?_ ?_) <;> intro hgo <;> (try simp only [dq] at hgo) <;> simp only [hgo, e15, wq_of hloop, finS_row, wz, opX, intBin, ↓reduceIte, simprocAttr])
termination_by _ l => cntL l
decreasing_by
  have := cntL_mem hp
  rw [cntP] at this
  omega
theorem rowV_clo (h : Hp) (es : Nat) (l : List D) : rowV h es l = cloV (some true) h.next es l := rfl
theorem rowH_clo (h : Hp) (es : Nat) (l : List D) : rowH h es l = cloO h.objs h.next es l := by
  unfold rowH cloO
  split <;> rfl
theorem rows_ok (l : List (List Pt)) (hl : l.length ≤ 1000) (hc : ∀ r, r ∈ l → cntL r ≤ 1000) (h : Hp) : callW tab 12 [.d (eRs l)] h = some (cloV (some true) h.next 1 (l.map ePs), cloO h.objs h.next 1 (l.map ePs)) := by
  refine call_wp (fn := f12) rfl rfl ?_
  have hloop := loop_row (T := tab) (a := f12l0) (l := l) (F := ePs) (es := 1) (b := 24) (env := fun n r => [(0, .d (eRs l)), (3, r), (4, int n)]) (h := h)
      (fun _ => rfl) (by simp only [roomB]; omega)
      (by intro n x s hx hlt hs happ; (have ht := fun h => row_ok 1000 x (hc x (List.mem_of_getElem? hx)) (Nat.le_refl _) h); all_goals (apply wq_ex.1; (simp only [hlt, happ, e12, iaR hx, ht, wrap_succ (show n < 2 ^ 62 by omega), wz, opX, intBin, ↓reduceIte, simprocAttr] <;> repeat' (first | refine wpG_s ?_ ?_ | refine wpC_s ?_ ?_) <;> intro hgo <;> (try simp only [dq] at hgo) <;> simp only [hgo, hlt, happ, e12, iaR hx, ht, wrap_succ (show n < 2 ^ 62 by omega), wz, opX, intBin, ↓reduceIte, simprocAttr])))
      (by apply wq_ex.1; (simp only [e12, wz, opX, intBin, ↓reduceIte, simprocAttr] <;> repeat' (first | refine wpG_s ?_ ?_ | refine wpC_s ?_ ?_) <;> intro hgo <;> (try simp only [dq] at hgo) <;> simp only [hgo, e12, wz, opX, intBin, ↓reduceIte, simprocAttr]) <;> rfl)
      (by simp)
  simp only [int, Zv.bool, Int.cast_ofNat_Int, List.map_nil, rowV_nil, rowH_nil] at hloop
  (simp only [e12, wq_of hloop, rowV_clo, rowH_clo, wz, opX, intBin, ↓reduceIte, simprocAttr] <;> repeat' (first | refine wpG_s ?_ ?_ | refine wpC_s ?_ ?_) <;> intro hgo <;> (try simp only [dq] at hgo) <;> simp only [hgo, e12, wq_of hloop, rowV_clo, rowH_clo, wz, opX, intBin, ↓reduceIte, simprocAttr])
end Zc27
end
section
set_option linter.unusedSimpArgs false
set_option linter.unusedVariables false
set_option linter.unusedSimpArgs false
set_option maxHeartbeats 4000000
namespace Zc27
open Go Zv Zs

def smC (c : Cn) : Prop := c.name.size ≤ 40 ∧ c.flds.length ≤ 8
def smD (y : Dt) : Prop := y.name.size ≤ 40 ∧ y.cons.length ≤ 8 ∧ ∀ c, c ∈ y.cons → smC c
structure Sml (d : List Dt) : Prop where
  len : d.length ≤ 10
  ds : ∀ y, y ∈ d → smD y
theorem mem_get {α : Type} {l : List α} {x : α} (h : x ∈ l) : ∃ k, k < l.length ∧ l[k]? = some x := by
  obtain ⟨k, hk1, hk2⟩ := List.getElem_of_mem h
  exact ⟨k, hk1, by rw [List.getElem?_eq_getElem hk1, hk2]⟩
theorem small_in {d : List Dt} {y : Dt} {j : Nat} (hy : d[j]? = some y) (hj : j < 10) (hc : y.cons.length ≤ 8) (h : Hp) :
    wp tab (.loop f30l0) [(0, .d (eDs d)), (3, .d (.int .i64 (j : Int))), (4, .d (.int .i64 0))] h
      (fun o => o = (.ret, [(2, .d (.bool false))], h) ∨ (o = (.exit 2, [(0, .d (eDs d)), (3, .d (.int .i64 (j : Int))), (4, .d (.int .i64 y.cons.length)), (38, .d (.bool false))], h) ∧ ∀ c, c ∈ y.cons → smC c)) := by
  refine loop_wp y.cons.length (fun n e h' => h' = h ∧ e = [(0, .d (eDs d)), (3, .d (.int .i64 (j : Int))), (4, .d (.int .i64 n))] ∧ ∀ c k, y.cons[k]? = some c → k < n → smC c) _ ?_ ?_ y.cons.length 0 _ _ (by omega) ⟨rfl, rfl, fun c k _ hk => by omega⟩
  · rintro n e h' hn ⟨rfl, rfl, hk⟩
    obtain ⟨c, hcn⟩ := get_of_lt hn
    by_cases h1 : (40 : Int) < (c.name.size : Int)
    · (simp only [e30, iaD hy, iaC hcn, hn, h1, wz, opX, intBin, ↓reduceIte, simprocAttr] <;> repeat' (first | refine wpG_s ?_ ?_ | refine wpC_s ?_ ?_) <;> intro hgo <;> (try simp only [dq] at hgo) <;> simp only [hgo, e30, iaD hy, iaC hcn, hn, h1, wz, opX, intBin, ↓reduceIte, simprocAttr])
    · by_cases h2 : (8 : Int) < (c.flds.length : Int)
      · (simp only [e30, iaD hy, iaC hcn, hn, h1, h2, wz, opX, intBin, ↓reduceIte, simprocAttr] <;> repeat' (first | refine wpG_s ?_ ?_ | refine wpC_s ?_ ?_) <;> intro hgo <;> (try simp only [dq] at hgo) <;> simp only [hgo, e30, iaD hy, iaC hcn, hn, h1, h2, wz, opX, intBin, ↓reduceIte, simprocAttr])
      · (simp only [e30, iaD hy, iaC hcn, hn, h1, h2, wrap_succ (show n < 2 ^ 62 by omega), wz, opX, intBin, ↓reduceIte, simprocAttr] <;> repeat' (first | refine wpG_s ?_ ?_ | refine wpC_s ?_ ?_) <;> intro hgo <;> (try simp only [dq] at hgo) <;> simp only [hgo, e30, iaD hy, iaC hcn, hn, h1, h2, wrap_succ (show n < 2 ^ 62 by omega), wz, opX, intBin, ↓reduceIte, simprocAttr])
        intro c' k hc' hkn
        by_cases hkk : k = n
        · subst hkk; rw [hcn] at hc'; cases hc'; exact ⟨by omega, by omega⟩
        · exact hk c' k hc' (by omega)
  · rintro e h' ⟨rfl, rfl, hk⟩
    (simp only [e30, iaD hy, wz, opX, intBin, ↓reduceIte, simprocAttr] <;> repeat' (first | refine wpG_s ?_ ?_ | refine wpC_s ?_ ?_) <;> intro hgo <;> (try simp only [dq] at hgo) <;> simp only [hgo, e30, iaD hy, wz, opX, intBin, ↓reduceIte, simprocAttr])
    intro c hc
    obtain ⟨k, h1, h2⟩ := mem_get hc
    exact hk c k h2 h1
theorem small_ok (d : List Dt) (h : Hp) : ∃ b, callW tab 30 [.d (eDs d)] h = some (.d (.bool b), h) ∧ (b = true → Sml d) := by
  obtain ⟨r, h1, b, rfl, h2⟩ : ∃ r, callW tab 30 [.d (eDs d)] h = some r ∧ ∃ b, r = (.d (.bool b), h) ∧ (b = true → Sml d) := by
    refine call_wpE (fn := f30) rfl rfl ?_
    (simp only [e30, wz, opX, intBin, ↓reduceIte, simprocAttr] <;> repeat' (first | refine wpG_s ?_ ?_ | refine wpC_s ?_ ?_) <;> intro hgo <;> (try simp only [dq] at hgo) <;> simp only [hgo, e30, wz, opX, intBin, ↓reduceIte, simprocAttr])
    refine loop_wp (min d.length 10) (fun n e h' => h' = h ∧ e = [(0, .d (eDs d)), (3, .d (.int .i64 n))] ∧ ∀ y k, d[k]? = some y → k < n → smD y) _ ?_ ?_ (min d.length 10) 0 _ _ (by omega) ⟨rfl, rfl, fun c k _ hk => by omega⟩
    · rintro n e h' hn ⟨rfl, rfl, hk⟩
      have hn1 : n < d.length := by omega
      have hn2 : (n : Int) < 10 := by omega
      obtain ⟨y, hy⟩ := get_of_lt hn1
      by_cases h1 : (40 : Int) < (y.name.size : Int)
      · (simp only [e30, iaD hy, hn1, hn2, h1, wz, opX, intBin, ↓reduceIte, simprocAttr] <;> repeat' (first | refine wpG_s ?_ ?_ | refine wpC_s ?_ ?_) <;> intro hgo <;> (try simp only [dq] at hgo) <;> simp only [hgo, e30, iaD hy, hn1, hn2, h1, wz, opX, intBin, ↓reduceIte, simprocAttr])
        exact ⟨_, rfl, false, rfl, fun h => (by cases h)⟩
      · by_cases h2 : (8 : Int) < (y.cons.length : Int)
        · (simp only [e30, iaD hy, hn1, hn2, h1, h2, wz, opX, intBin, ↓reduceIte, simprocAttr] <;> repeat' (first | refine wpG_s ?_ ?_ | refine wpC_s ?_ ?_) <;> intro hgo <;> (try simp only [dq] at hgo) <;> simp only [hgo, e30, iaD hy, hn1, hn2, h1, h2, wz, opX, intBin, ↓reduceIte, simprocAttr])
          exact ⟨_, rfl, false, rfl, fun h => (by cases h)⟩
        · (simp only [e30, iaD hy, hn1, hn2, h1, h2, wz, opX, intBin, ↓reduceIte, simprocAttr] <;> repeat' (first | refine wpG_s ?_ ?_ | refine wpC_s ?_ ?_) <;> intro hgo <;> (try simp only [dq] at hgo) <;> simp only [hgo, e30, iaD hy, hn1, hn2, h1, h2, wz, opX, intBin, ↓reduceIte, simprocAttr])
          refine wq_mono (small_in hy (by omega) (by omega) h') ?_
          rintro o (rfl | ⟨rfl, hall⟩)
          · (simp only [e30, wz, opX, intBin, ↓reduceIte, simprocAttr] <;> repeat' (first | refine wpG_s ?_ ?_ | refine wpC_s ?_ ?_) <;> intro hgo <;> (try simp only [dq] at hgo) <;> simp only [hgo, e30, wz, opX, intBin, ↓reduceIte, simprocAttr])
            exact ⟨_, rfl, false, rfl, fun h => (by cases h)⟩
          · (simp only [e30, wrap_succ (show n < 2 ^ 62 by omega), wz, opX, intBin, ↓reduceIte, simprocAttr] <;> repeat' (first | refine wpG_s ?_ ?_ | refine wpC_s ?_ ?_) <;> intro hgo <;> (try simp only [dq] at hgo) <;> simp only [hgo, e30, wrap_succ (show n < 2 ^ 62 by omega), wz, opX, intBin, ↓reduceIte, simprocAttr])
            intro y' k hy' hkn
            by_cases hkk : k = n
            · subst hkk; rw [hy] at hy'; cases hy'; exact ⟨by omega, by omega, hall⟩
            · exact hk y' k hy' (by omega)
    · rintro e h' ⟨rfl, rfl, hk⟩
      by_cases h3 : d.length < 10
      · have e1 : min d.length 10 = d.length := by omega
        rw [e1]
        have hle : (d.length : Int) ≤ 10 := by omega
        (simp only [e30, hle, wz, opX, intBin, ↓reduceIte, simprocAttr] <;> repeat' (first | refine wpG_s ?_ ?_ | refine wpC_s ?_ ?_) <;> intro hgo <;> (try simp only [dq] at hgo) <;> simp only [hgo, e30, hle, wz, opX, intBin, ↓reduceIte, simprocAttr])
        refine ⟨_, rfl, true, rfl, fun _ => ⟨by omega, fun y hy => ?_⟩⟩
        obtain ⟨k, k1, k2⟩ := mem_get hy
        exact hk y k k2 (by omega)
      · have e1 : min d.length 10 = 10 := by omega
        rw [e1]
        have hnl : ¬ ((10 : Int) < 10) := by omega
        by_cases h4 : (10 : Int) < (d.length : Int)
        · have hnle : ¬ (d.length : Int) ≤ 10 := by omega
          (simp only [e30, h4, hnle, wz, opX, intBin, ↓reduceIte, simprocAttr] <;> repeat' (first | refine wpG_s ?_ ?_ | refine wpC_s ?_ ?_) <;> intro hgo <;> (try simp only [dq] at hgo) <;> simp only [hgo, e30, h4, hnle, wz, opX, intBin, ↓reduceIte, simprocAttr])
          exact ⟨_, rfl, false, rfl, fun h => (by cases h)⟩
        · have hle : (d.length : Int) ≤ 10 := by omega
          (simp only [e30, h4, hle, wz, opX, intBin, ↓reduceIte, simprocAttr] <;> repeat' (first | refine wpG_s ?_ ?_ | refine wpC_s ?_ ?_) <;> intro hgo <;> (try simp only [dq] at hgo) <;> simp only [hgo, e30, h4, hle, wz, opX, intBin, ↓reduceIte, simprocAttr])
          refine ⟨_, rfl, true, rfl, fun _ => ⟨by omega, fun y hy => ?_⟩⟩
          obtain ⟨k, k1, k2⟩ := mem_get hy
          exact hk y k k2 (by omega)
  exact ⟨b, h1, h2⟩
end Zc27
end
section
set_option linter.unusedSimpArgs false
set_option linter.unusedVariables false
set_option linter.unusedSimpArgs false
set_option maxHeartbeats 4000000
namespace Zc27
open Go Zv Zs

mutual
def pcP : Pt → Nat → Nat
  | .mk _ _ _ qs, n => pcL qs (n + 1)
def pcL : List Pt → Nat → Nat
  | [], n => n
  | p :: r, n => if n ≤ 60 then pcL r (pcP p n) else n
end
mutual
theorem pcP_le : ∀ (p : Pt) (n : Nat), n ≤ 60 → n < pcP p n ∧ pcP p n ≤ 61 ∧ (pcP p n ≤ 60 → pcP p n = n + cntP p)
  | .mk k c q qs, n, h => by
    have := pcL_le qs (n + 1) (by omega)
    rw [pcP, cntP]
    exact ⟨by omega, by omega, fun h => by have := this.2.2 h; omega⟩
theorem pcL_le : ∀ (l : List Pt) (n : Nat), n ≤ 61 → n ≤ pcL l n ∧ pcL l n ≤ 61 ∧ (pcL l n ≤ 60 → pcL l n = n + cntL l)
  | [], n, h => by rw [pcL, cntL]; exact ⟨by omega, h, fun _ => rfl⟩
  | p :: r, n, h => by
    rw [pcL, cntL]
    split
    · rename_i hn
      have h1 := pcP_le p n hn
      have h2 := pcL_le r (pcP p n) h1.2.1
      exact ⟨by omega, h2.2.1, fun h => by have := h2.2.2 h; have := h1.2.2 (by omega); omega⟩
    · exact ⟨by omega, by omega, fun h => by omega⟩
end
theorem pcL_big {l : List Pt} {n : Nat} (h : 60 < n) : pcL l n = n := by
  cases l with
  | nil => rw [pcL]
  | cons p r => rw [pcL, if_neg (by omega)]
def argsP : Pt → List Pt
  | .mk _ _ _ qs => qs
theorem parts_ok : ∀ (l : List Pt) (n : Nat), n ≤ 61 → ∀ h, callW tab 29 [.d (ePs l), .d (.int .i64 n), .d (.int .i64 60)] h = some (.d (.int .i64 (pcL l n)), h)
  | l, n, hn, h => by
    have hrec : ∀ p, p ∈ l → ∀ n, n ≤ 60 → ∀ h, callW tab 29 [.d (ePs (argsP p)), .d (.int .i64 ((n + 1 : Nat) : Int)), .d (.int .i64 60)] h = some (.d (.int .i64 (pcP p n)), h) := by
      intro p hp n hn h
      have hc := cntL_mem hp
      obtain ⟨k, c, q, qs⟩ := p
      rw [cntP] at hc
      have := parts_ok qs (n + 1) (by omega) h
      have e : pcP (.mk k c q qs) n = pcL qs (n + 1) := by rw [pcP]
      show callW tab 29 [.d (ePs qs), .d (.int .i64 ((n + 1 : Nat) : Int)), .d (.int .i64 60)] h = _
      rw [this, e]
    refine call_wp (fn := f29) rfl rfl ?_
    (simp only [e29, wz, opX, intBin, ↓reduceIte, simprocAttr] <;> repeat' (first | refine wpG_s ?_ ?_ | refine wpC_s ?_ ?_) <;> intro hgo <;> (try simp only [dq] at hgo) <;> simp only [hgo, e29, wz, opX, intBin, ↓reduceIte, simprocAttr])
    refine loop_wp 62 (fun i e h' => ∃ (j m : Nat), h' = h ∧ e = [(0, .d (ePs l)), (1, .d (.int .i64 (m : Int))), (2, .d (.int .i64 60)), (7, .d (.int .i64 (j : Int)))] ∧ j = i ∧ j + n ≤ m + 0 ∧ m ≤ 61 ∧ pcL l n = pcL (l.drop j) m) _ ?_ ?_ 62 0 _ _ rfl ⟨0, n, rfl, rfl, rfl, by omega, hn, rfl⟩
    · rintro i e h' hi ⟨j, m, rfl, rfl, rfl, hjm, hm, heq⟩
      by_cases hj : j < l.length
      · obtain ⟨p, hp⟩ := get_of_lt hj
        have hd : l.drop j = p :: l.drop (j + 1) := by
          obtain ⟨h1, h2⟩ := List.getElem?_eq_some_iff.1 hp
          rw [List.drop_eq_getElem_cons h1, h2]
        by_cases hm6 : m ≤ 60
        · have hle : (m : Int) ≤ 60 := by omega
          have hr := hrec p (List.mem_of_getElem? hp) m hm6
          have hpc := pcP_le p m hm6
          obtain ⟨k, c, q, qs⟩ := p
          have hia := iaP hp
          rw [ePt_mk] at hia
          have hw1 := wrap_succ (show m < 2 ^ 62 by omega)
          have hr' : ∀ h, callW tab 29 [.d (.lst (qs.map ePt)), .d (.int .i64 ((m + 1 : Nat) : Int)), .d (.int .i64 60)] h = some (.d (.int .i64 (pcP (.mk k c q qs) m)), h) := hr
          (simp only [e29, hj, hle, hia, hw1, hr', wrap_succ (show j < 2 ^ 62 by omega), wz, opX, intBin, ↓reduceIte, simprocAttr] <;> repeat' (first | refine wpG_s ?_ ?_ | refine wpC_s ?_ ?_) <;> intro hgo <;> (try simp only [dq] at hgo) <;> simp only [hgo, e29, hj, hle, hia, hw1, hr', wrap_succ (show j < 2 ^ 62 by omega), wz, opX, intBin, ↓reduceIte, simprocAttr])
          refine ⟨j + 1, pcP (.mk k c q qs) m, by simp, rfl, by omega, hpc.2.1, ?_⟩
          rw [heq, hd, pcL, if_pos hm6]
        · have hle : ¬ (m : Int) ≤ 60 := by omega
          have := pcL_big (l := l.drop j) (show 60 < m by omega)
          rw [heq, this]
          (simp only [e29, hj, hle, wz, opX, intBin, ↓reduceIte, simprocAttr] <;> repeat' (first | refine wpG_s ?_ ?_ | refine wpC_s ?_ ?_) <;> intro hgo <;> (try simp only [dq] at hgo) <;> simp only [hgo, e29, hj, hle, wz, opX, intBin, ↓reduceIte, simprocAttr])
      · have hnil : l.drop j = [] := List.drop_eq_nil_of_le (by omega)
        rw [heq, hnil, pcL]
        (simp only [e29, hj, wz, opX, intBin, ↓reduceIte, simprocAttr] <;> repeat' (first | refine wpG_s ?_ ?_ | refine wpC_s ?_ ?_) <;> intro hgo <;> (try simp only [dq] at hgo) <;> simp only [hgo, e29, hj, wz, opX, intBin, ↓reduceIte, simprocAttr])
    · rintro e h' ⟨j, m, rfl, rfl, rfl, hjm, hm, heq⟩
      omega
termination_by l => cntL l
decreasing_by
  have := cntL_mem hp
  rw [cntP] at this
  omega
def sumC : List (List Pt) → Nat
  | [] => 0
  | r :: l => cntL r + sumC l
theorem sumC_mem : ∀ {l : List (List Pt)} {r : List Pt}, r ∈ l → cntL r ≤ sumC l
  | q :: l, r, h => by
    rw [sumC]
    rcases List.mem_cons.1 h with rfl | h
    · omega
    · have := sumC_mem h; omega
theorem fold_pc : ∀ (l : List (List Pt)) (m : Nat), m ≤ 61 → m ≤ l.foldl (fun m r => pcL r m) m ∧ l.foldl (fun m r => pcL r m) m ≤ 61 ∧ (l.foldl (fun m r => pcL r m) m ≤ 60 → l.foldl (fun m r => pcL r m) m = m + sumC l)
  | [], m, h => ⟨Nat.le_refl _, h, fun _ => rfl⟩
  | r :: l, m, h => by
    have h1 := pcL_le r m h
    have h2 := fold_pc l (pcL r m) h1.2.1
    rw [List.foldl_cons, sumC]
    exact ⟨by omega, h2.2.1, fun h => by have := h2.2.2 h; have := h1.2.2 (by omega); omega⟩
structure Few (d : List Dt) (ts : List Int) (l : List (List Pt)) : Prop where
  sml : Sml d
  ts : ts.length ≤ 10
  rows : l.length ≤ 8
  cnt : sumC l ≤ 60
theorem few_ok (d : List Dt) (ts : List Int) (l : List (List Pt)) (h : Hp) : ∃ b, callW tab 9 [.d (eDs d), .d (eIs ts), .d (eRs l)] h = some (.d (.bool b), h) ∧ (b = true → Few d ts l) := by
  obtain ⟨b, hb, hs⟩ := small_ok d h
  refine ⟨b && decide (ts.length ≤ 10) && decide (l.length ≤ 8) && decide (((l.take 10).foldl (fun m r => pcL r m) 0) ≤ 60), ?_, fun hh => ?_⟩
  · refine call_wp (fn := f9) rfl rfl ?_
    (simp only [e9, wz, opX, intBin, ↓reduceIte, simprocAttr] <;> repeat' (first | refine wpG_s ?_ ?_ | refine wpC_s ?_ ?_) <;> intro hgo <;> (try simp only [dq] at hgo) <;> simp only [hgo, e9, wz, opX, intBin, ↓reduceIte, simprocAttr])
    refine loop_wp (min l.length 10) (fun n e h' => h' = h ∧ e = [(0, .d (eDs d)), (1, .d (eIs ts)), (2, .d (eRs l)), (7, .d (.int .i64 (foldT (fun m r => pcL r m) 0 l n : Nat))), (8, .d (.int .i64 n))]) _ ?_ ?_ (min l.length 10) 0 _ _ (by omega) ⟨rfl, rfl⟩
    · rintro n e h' hn ⟨rfl, rfl⟩
      have hn1 : n < l.length := by omega
      have hn2 : (n : Int) < 10 := by omega
      obtain ⟨r, hr⟩ := get_of_lt hn1
      have hm := (fold_pc (l.take n) 0 (by omega)).2.1
      have hp := fun h => parts_ok r (foldT (fun m r => pcL r m) 0 l n) hm h
      have hf := foldT_succ (stp := fun m r => pcL r m) (s := 0) hr
      (simp only [e9, hn1, hn2, iaR hr, hp, hf, wrap_succ (show n < 2 ^ 62 by omega), wz, opX, intBin, ↓reduceIte, simprocAttr] <;> repeat' (first | refine wpG_s ?_ ?_ | refine wpC_s ?_ ?_) <;> intro hgo <;> (try simp only [dq] at hgo) <;> simp only [hgo, e9, hn1, hn2, iaR hr, hp, hf, wrap_succ (show n < 2 ^ 62 by omega), wz, opX, intBin, ↓reduceIte, simprocAttr])
    · rintro e h' ⟨rfl, rfl⟩
      have hex : (decide (min l.length 10 < l.length) && decide (((min l.length 10 : Nat) : Int) < 10)) = false := by
        by_cases h1 : l.length < 10
        · have : min l.length 10 = l.length := by omega
          rw [this]; simp
        · have : min l.length 10 = 10 := by omega
          rw [this]; simp
      have hft : foldT (fun m r => pcL r m) 0 l (min l.length 10) = (l.take 10).foldl (fun m r => pcL r m) 0 := by
        unfold foldT
        congr 1
        by_cases h1 : l.length ≤ 10
        · rw [List.take_of_length_le (by omega), List.take_of_length_le h1]
        · have : min l.length 10 = 10 := by omega
          rw [this]
      rw [hft]
      have hle : ∀ a b : Nat, decide ((a : Int) ≤ (b : Int)) = decide (a ≤ b) := fun a b => by by_cases h : a ≤ b <;> simp [h]
      by_cases hl : min l.length 10 < l.length
      · have h10 : ¬ (((min l.length 10 : Nat) : Int) < 10) := by omega
        cases b <;> by_cases q1 : (ts.length : Int) ≤ 10 <;> by_cases q2 : (l.length : Int) ≤ 8 <;> by_cases q3 : ((((l.take 10).foldl (fun m r => pcL r m) 0 : Nat)) : Int) ≤ 60 <;> ((simp only [e9, hl, h10, hb, q1, q2, q3, wz, opX, intBin, ↓reduceIte, simprocAttr] <;> repeat' (first | refine wpG_s ?_ ?_ | refine wpC_s ?_ ?_) <;> intro hgo <;> (try simp only [dq] at hgo) <;> simp only [hgo, e9, hl, h10, hb, q1, q2, q3, wz, opX, intBin, ↓reduceIte, simprocAttr]) <;> simp <;> omega)
      · cases b <;> by_cases q1 : (ts.length : Int) ≤ 10 <;> by_cases q2 : (l.length : Int) ≤ 8 <;> by_cases q3 : ((((l.take 10).foldl (fun m r => pcL r m) 0 : Nat)) : Int) ≤ 60 <;> ((simp only [e9, hl, hb, q1, q2, q3, wz, opX, intBin, ↓reduceIte, simprocAttr] <;> repeat' (first | refine wpG_s ?_ ?_ | refine wpC_s ?_ ?_) <;> intro hgo <;> (try simp only [dq] at hgo) <;> simp only [hgo, e9, hl, hb, q1, q2, q3, wz, opX, intBin, ↓reduceIte, simprocAttr]) <;> simp <;> omega)
  · simp only [Bool.and_eq_true, decide_eq_true_eq] at hh
    obtain ⟨⟨⟨h1, h2⟩, h3⟩, h4⟩ := hh
    refine ⟨hs h1, h2, h3, ?_⟩
    rw [List.take_of_length_le (by omega)] at h4
    have := (fold_pc l 0 (by omega)).2.2 h4
    omega
end Zc27
end
section
set_option linter.unusedSimpArgs false
set_option linter.unusedVariables false
set_option linter.unusedSimpArgs false
set_option maxHeartbeats 4000000
namespace Zc27
open Go Zv Zs

theorem idxFP (l : List Pt) (cv : V) (p : Pt → Bool) (h : Hp) (hl : l.length < 2 ^ 60) (hcv : norm cv = cv) (hc : ∀ c, c ∈ l → cW tab cv [.d (ePt c)] h = some (.d (.bool (p c)), h)) :
    callW tab 69 [.d (.lst (l.map ePt)), cv] h = some (.d (eI (idxZ p l)), h) := by
  refine call_wp (fn := f69) rfl rfl ?_
  have hloop := loop_find (T := tab) (a := f69l0) (l := l) (p := p) (f := fun n => [(0, .d (.lst (l.map ePt))), (1, cv), (7, int l.length), (8, int n)]) (h := h)
      (by intro n x hx hlt hp; have hcall := hc x (List.mem_of_getElem? hx); all_goals (apply wq_ex.1; (simp only [hlt, hp, e69, iaP hx, pts, hcall, wrap_succ (show n < 2 ^ 62 by omega), wz, opX, intBin, ↓reduceIte, simprocAttr] <;> repeat' (first | refine wpG_s ?_ ?_ | refine wpC_s ?_ ?_) <;> intro hgo <;> (try simp only [dq] at hgo) <;> simp only [hgo, hlt, hp, e69, iaP hx, pts, hcall, wrap_succ (show n < 2 ^ 62 by omega), wz, opX, intBin, ↓reduceIte, simprocAttr])))
      (by intro n x hx hlt hp; have hcall := hc x (List.mem_of_getElem? hx); all_goals (apply wq_ex.1; (simp only [hlt, hp, e69, iaP hx, pts, hcall, wrap_succ (show n < 2 ^ 62 by omega), wz, opX, intBin, ↓reduceIte, simprocAttr] <;> repeat' (first | refine wpG_s ?_ ?_ | refine wpC_s ?_ ?_) <;> intro hgo <;> (try simp only [dq] at hgo) <;> simp only [hgo, hlt, hp, e69, iaP hx, pts, hcall, wrap_succ (show n < 2 ^ 62 by omega), wz, opX, intBin, ↓reduceIte, simprocAttr]) <;> rfl))
      (by apply wq_ex.1; (simp only [e69, wz, opX, intBin, ↓reduceIte, simprocAttr] <;> repeat' (first | refine wpG_s ?_ ?_ | refine wpC_s ?_ ?_) <;> intro hgo <;> (try simp only [dq] at hgo) <;> simp only [hgo, e69, wz, opX, intBin, ↓reduceIte, simprocAttr]) <;> rfl)
      (by intro n x; simp) (by simp)
  simp only [int, Zv.bool, Int.cast_ofNat_Int] at hloop
  (simp only [e69, hcv, wq_of hloop, wz, opX, intBin, ↓reduceIte, simprocAttr] <;> repeat' (first | refine wpG_s ?_ ?_ | refine wpC_s ?_ ?_) <;> intro hgo <;> (try simp only [dq] at hgo) <;> simp only [hgo, e69, hcv, wq_of hloop, wz, opX, intBin, ↓reduceIte, simprocAttr])
  unfold idxZ
  cases fst? p 0 l with
  | none => (simp only [e69, wz, opX, intBin, ↓reduceIte, simprocAttr] <;> repeat' (first | refine wpG_s ?_ ?_ | refine wpC_s ?_ ?_) <;> intro hgo <;> (try simp only [dq] at hgo) <;> simp only [hgo, e69, wz, opX, intBin, ↓reduceIte, simprocAttr])
  | some n => (simp only [e69, wz, opX, intBin, ↓reduceIte, simprocAttr] <;> repeat' (first | refine wpG_s ?_ ?_ | refine wpC_s ?_ ?_) <;> intro hgo <;> (try simp only [dq] at hgo) <;> simp only [hgo, e69, wz, opX, intBin, ↓reduceIte, simprocAttr])
theorem conFP (l : List Pt) (cv : V) (p : Pt → Bool) (h : Hp) (hl : l.length < 2 ^ 60) (hcv : norm cv = cv) (hc : ∀ c, c ∈ l → cW tab cv [.d (ePt c)] h = some (.d (.bool (p c)), h)) :
    callW tab 36 [.d (.lst (l.map ePt)), cv] h = some (.d (.bool (l.any p)), h) := by
  refine call_wp (fn := f36) rfl rfl ?_
  have hi := idxFP l cv p h hl hcv hc
  (simp only [e36, hcv, hi, idxZ_nn, Bool.decide_eq_true, wz, opX, intBin, ↓reduceIte, simprocAttr] <;> repeat' (first | refine wpG_s ?_ ?_ | refine wpC_s ?_ ?_) <;> intro hgo <;> (try simp only [dq] at hgo) <;> simp only [hgo, e36, hcv, hi, idxZ_nn, Bool.decide_eq_true, wz, opX, intBin, ↓reduceIte, simprocAttr])

mutual
def deepP : Pt → Nat → Bool
  | .mk _ _ _ qs, k => decide (64 < k) || deepL qs (k + 1)
def deepL : List Pt → Nat → Bool
  | [], _ => false
  | p :: r, k => deepP p k || deepL r k
end
theorem deepL_any (k : Nat) : ∀ l : List Pt, deepL l k = l.any fun p => deepP p k
  | [] => by rw [deepL]; rfl
  | p :: r => by rw [deepL, deepL_any k r, List.any_cons]
theorem deep_ok : ∀ (p : Pt) (k : Nat), k ≤ 65 → cntP p < 2 ^ 60 → ∀ h, callW tab 38 [.d (ePt p), .d (.int .i64 (k : Int))] h = some (.d (.bool (deepP p k)), h)
  | .mk kd c m qs, k, hk, hc, h => by
    have hlen := cntL_len qs
    rw [cntP] at hc
    rw [deepP, ePt_mk]
    refine call_wp (fn := f38) rfl rfl ?_
    by_cases h6 : 64 < k
    · have hk' : (64 : Int) < (k : Int) := by omega
      have e : (decide (64 < k) || deepL qs (k + 1)) = true := by simp [h6]
      rw [e]
      (simp only [e38, hk', wz, opX, intBin, ↓reduceIte, simprocAttr] <;> repeat' (first | refine wpG_s ?_ ?_ | refine wpC_s ?_ ?_) <;> intro hgo <;> (try simp only [dq] at hgo) <;> simp only [hgo, e38, hk', wz, opX, intBin, ↓reduceIte, simprocAttr])
    · have hk' : ¬ (64 : Int) < (k : Int) := by omega
      have e : (decide (64 < k) || deepL qs (k + 1)) = qs.any fun p => deepP p (k + 1) := by simp [h6, deepL_any]
      rw [e]
      have hcl := conFP qs (.clo 70 [.ptr (h.next + 1) 1 0 0]) (fun p => deepP p (k + 1)) ⟨(h.next + 1, .arr 1 [.d (.int .i64 (k : Int))]) :: h.objs, h.next + 2⟩ (by omega) rfl (by
        intro p hp
        have hcp := cntL_mem hp
        have hr := fun h => deep_ok p (k + 1) (by omega) (by omega) h
        rw [cW_clo]
        simp only [Nat.reduceBEq, Bool.false_eq_true, if_false]
        refine call_wp (fn := f70) rfl rfl ?_
        have hw := wrap_succ (show k < 2 ^ 62 by omega)
        have hrow : ∀ (v : V) (nx : Nat), Hp.row ⟨(h.next + 1 + 1, .arr 4 [v]) :: (h.next + 1, .arr 1 [.d (.int .i64 (k : Int))]) :: h.objs, nx⟩ (h.next + 1) 1 = some (1, [.d (.int .i64 (k : Int))]) := fun v nx => by
          unfold Hp.row Hp.get; simp [Zv.look]
        (simp only [e70, pts, hrow, hw, hr, wz, opX, intBin, ↓reduceIte, simprocAttr] <;> repeat' (first | refine wpG_s ?_ ?_ | refine wpC_s ?_ ?_) <;> intro hgo <;> (try simp only [dq] at hgo) <;> simp only [hgo, e70, pts, hrow, hw, hr, wz, opX, intBin, ↓reduceIte, simprocAttr]))
      (simp only [e38, hk', hcl, wz, opX, intBin, ↓reduceIte, simprocAttr] <;> repeat' (first | refine wpG_s ?_ ?_ | refine wpC_s ?_ ?_) <;> intro hgo <;> (try simp only [dq] at hgo) <;> simp only [hgo, e38, hk', hcl, wz, opX, intBin, ↓reduceIte, simprocAttr])
termination_by p => cntP p
decreasing_by
  have := cntL_mem hp
  rw [cntP]
  omega
theorem rdeep_ok : ∀ (p : Pt) (k : Nat), k ≤ 65 → cntP p < 2 ^ 60 → ∀ h, callW tab 41 [.d (ePt p), .d (.int .i64 (64 - (k : Int)))] h = some (.d (.bool (deepP p k)), h)
  | .mk kd c m qs, k, hk, hc, h => by
    have hlen := cntL_len qs
    rw [cntP] at hc
    rw [deepP, ePt_mk]
    refine call_wp (fn := f41) rfl rfl ?_
    by_cases h6 : 64 < k
    · have hk' : (64 : Int) - (k : Int) < 0 := by omega
      have e : (decide (64 < k) || deepL qs (k + 1)) = true := by simp [h6]
      rw [e]
      (simp only [e41, hk', wz, opX, intBin, ↓reduceIte, simprocAttr] <;> repeat' (first | refine wpG_s ?_ ?_ | refine wpC_s ?_ ?_) <;> intro hgo <;> (try simp only [dq] at hgo) <;> simp only [hgo, e41, hk', wz, opX, intBin, ↓reduceIte, simprocAttr])
    · have hk' : ¬ (64 : Int) - (k : Int) < 0 := by omega
      have e : (decide (64 < k) || deepL qs (k + 1)) = qs.any fun p => deepP p (k + 1) := by simp [h6, deepL_any]
      rw [e]
      have hw : IntKind.i64.wrap (64 - (k : Int) - 1) = 64 - ((k + 1 : Nat) : Int) := by
        have : (64 : Int) - (k : Int) - 1 = 64 - ((k + 1 : Nat) : Int) := by omega
        rw [this]
        exact wrap_ok (by omega) (by omega)
      have hloop := loop_any (T := tab) (a := f41l0) (l := qs) (p := (fun p => deepP p (k + 1))) (f := fun n => [(1, .d (.int .i64 (64 - (k : Int)))), (2, .fp (.agg [.int .i64 kd, .int .i64 c, .int .i64 m, .lst (qs.map ePt)]) 0), (5, int n)]) (h := ⟨h.objs, h.next + 1⟩)
          (by intro n x hx hlt hp; (have hcp := cntL_mem (List.mem_of_getElem? hx)); (have hr := fun h => rdeep_ok x (k + 1) (by omega) (by omega) h); all_goals (apply wq_ex.1; (simp only [hlt, hp, e41, iaP hx, pts, hw, hr, wrap_succ (show n < 2 ^ 62 by omega), wz, opX, intBin, ↓reduceIte, simprocAttr] <;> repeat' (first | refine wpG_s ?_ ?_ | refine wpC_s ?_ ?_) <;> intro hgo <;> (try simp only [dq] at hgo) <;> simp only [hgo, hlt, hp, e41, iaP hx, pts, hw, hr, wrap_succ (show n < 2 ^ 62 by omega), wz, opX, intBin, ↓reduceIte, simprocAttr])))
          (by intro n x hx hlt hp; (have hcp := cntL_mem (List.mem_of_getElem? hx)); (have hr := fun h => rdeep_ok x (k + 1) (by omega) (by omega) h); all_goals (apply wq_ex.1; (simp only [hlt, hp, e41, iaP hx, pts, hw, hr, wrap_succ (show n < 2 ^ 62 by omega), wz, opX, intBin, ↓reduceIte, simprocAttr] <;> repeat' (first | refine wpG_s ?_ ?_ | refine wpC_s ?_ ?_) <;> intro hgo <;> (try simp only [dq] at hgo) <;> simp only [hgo, hlt, hp, e41, iaP hx, pts, hw, hr, wrap_succ (show n < 2 ^ 62 by omega), wz, opX, intBin, ↓reduceIte, simprocAttr]) <;> rfl))
          (by apply wq_ex.1; (simp only [e41, wz, opX, intBin, ↓reduceIte, simprocAttr] <;> repeat' (first | refine wpG_s ?_ ?_ | refine wpC_s ?_ ?_) <;> intro hgo <;> (try simp only [dq] at hgo) <;> simp only [hgo, e41, wz, opX, intBin, ↓reduceIte, simprocAttr]) <;> rfl)
          (by simp) (by simp)
      simp only [int, Zv.bool, Int.cast_ofNat_Int] at hloop
      (simp only [e41, hk', wq_of hloop, wz, opX, intBin, ↓reduceIte, simprocAttr] <;> repeat' (first | refine wpG_s ?_ ?_ | refine wpC_s ?_ ?_) <;> intro hgo <;> (try simp only [dq] at hgo) <;> simp only [hgo, e41, hk', wq_of hloop, wz, opX, intBin, ↓reduceIte, simprocAttr])
      cases qs.any fun p => deepP p (k + 1) <;> (simp only [e41, wz, opX, intBin, ↓reduceIte, simprocAttr] <;> repeat' (first | refine wpG_s ?_ ?_ | refine wpC_s ?_ ?_) <;> intro hgo <;> (try simp only [dq] at hgo) <;> simp only [hgo, e41, wz, opX, intBin, ↓reduceIte, simprocAttr])
termination_by p => cntP p
decreasing_by
  all_goals
    have := cntL_mem (List.mem_of_getElem? hx)
    rw [cntP]
    omega

/-! ### Fitting -/
mutual
def fitsP (d : List Dt) (t : Int) : Pt → Bool
  | .mk k c m qs => if k = 0 then decide (c = 0) && decide (m = 0) && decide (qs.length = 0) else if k = 2 then decide (t = 0) && decide (c = 0) && decide (qs.length = 0) else if k = 1 then
      (!(decide (t = 0) || !decide (m = 0) || decide (c < 0) || decide (((consOf d t).length : Int) ≤ c))) && (match (consOf d t)[c.toNat]? with
        | some y => decide (y.flds.length = qs.length) && fitsL d y.flds qs
        | none => false) else false
def fitsL (d : List Dt) : List Int → List Pt → Bool
  | f :: fs, q :: qs => fitsP d f q && fitsL d fs qs
  | _, _ => true
end
/-- The fields of a type are types. -/
theorem fld_isT27 {d : List Dt} (T : typedS d = true) {t f : Int} {c : Cn} (hc : c ∈ consOf d t) (hf : f ∈ c.flds) : isT d f = true := by
  rcases tcase d t with h0 | h0 | ⟨n, y, rfl, hy⟩
  · rw [consOf_lo h0] at hc; cases hc
  · rw [consOf_hi h0] at hc; cases hc
  · rw [consOf_at hy] at hc
    unfold typedS at T
    rw [List.all_eq_true] at T
    have := T y (List.mem_of_getElem? hy)
    rw [List.all_eq_true] at this
    have := this c hc
    rw [List.all_eq_true] at this
    exact this f hf
def badF (d : List Dt) (x : Int × Pt) : Bool := !fitsP d x.1 x.2
theorem fitsL_any (d : List Dt) : ∀ (fs : List Int) (qs : List Pt), fitsL d fs qs = !(fs.zip qs).any (badF d)
  | [], [] => by simp [fitsL]
  | [], _ :: _ => by simp [fitsL]
  | _ :: _, [] => by simp [fitsL]
  | f :: fs, q :: qs => by
    rw [fitsL, fitsL_any d fs qs, List.zip_cons_cons, List.any_cons]
    simp [badF]
theorem zip_at {α β : Type} {l : List α} {r : List β} {n : Nat} {x : α × β} (h : (l.zip r)[n]? = some x) : l[n]? = some x.1 ∧ r[n]? = some x.2 := by
  rw [List.getElem?_zip_eq_some] at h
  exact h
theorem fits_ok {d : List Dt} (B : Bd d) (T : typedS d = true) : ∀ (p : Pt) (t : Int), isT d t = true → cntP p < 2 ^ 60 → ∀ h, callW tab 39 [.d (eDs d), .d (eI t), .d (ePt p)] h = some (.d (.bool (fitsP d t p)), h)
  | .mk kd c m qs, t, hT, hc, h => by
    have hlen := cntL_len qs
    rw [cntP] at hc
    rw [fitsP, ePt_mk]
    refine call_wp (fn := f39) rfl rfl ?_
    by_cases k0 : kd = 0
    · subst k0
      rw [if_pos rfl]
      by_cases c0 : c = 0 <;> by_cases m0 : m = 0 <;> by_cases q0 : qs.length = 0 <;> (have q0' : ((qs.length : Int) == 0) = decide (qs.length = 0) := by simp [ibeq]) <;> (simp only [e39, ibeq, c0, m0, q0, q0', wz, opX, intBin, ↓reduceIte, simprocAttr] <;> repeat' (first | refine wpG_s ?_ ?_ | refine wpC_s ?_ ?_) <;> intro hgo <;> (try simp only [dq] at hgo) <;> simp only [hgo, e39, ibeq, c0, m0, q0, q0', wz, opX, intBin, ↓reduceIte, simprocAttr])
    · rw [if_neg k0]
      by_cases k2 : kd = 2
      · subst k2
        rw [if_pos rfl]
        by_cases c0 : c = 0 <;> by_cases t0 : t = 0 <;> by_cases q0 : qs.length = 0 <;> (have q0' : ((qs.length : Int) == 0) = decide (qs.length = 0) := by simp [ibeq]) <;> (simp only [e39, ibeq, c0, t0, q0, q0', wz, opX, intBin, ↓reduceIte, simprocAttr] <;> repeat' (first | refine wpG_s ?_ ?_ | refine wpC_s ?_ ?_) <;> intro hgo <;> (try simp only [dq] at hgo) <;> simp only [hgo, e39, ibeq, c0, t0, q0, q0', wz, opX, intBin, ↓reduceIte, simprocAttr])
      · rw [if_neg k2]
        by_cases k1 : kd = 1
        · subst k1
          rw [if_pos rfl]
          by_cases t0 : t = 0
          · (simp only [e39, ibeq, t0, wz, opX, intBin, ↓reduceIte, simprocAttr] <;> repeat' (first | refine wpG_s ?_ ?_ | refine wpC_s ?_ ?_) <;> intro hgo <;> (try simp only [dq] at hgo) <;> simp only [hgo, e39, ibeq, t0, wz, opX, intBin, ↓reduceIte, simprocAttr])
            simp
          · by_cases m0 : m = 0
            · by_cases cn : c < 0
              · (simp only [e39, ibeq, ibne, t0, m0, cn, wz, opX, intBin, ↓reduceIte, simprocAttr] <;> repeat' (first | refine wpG_s ?_ ?_ | refine wpC_s ?_ ?_) <;> intro hgo <;> (try simp only [dq] at hgo) <;> simp only [hgo, e39, ibeq, ibne, t0, m0, cn, wz, opX, intBin, ↓reduceIte, simprocAttr])
                simp
              · rcases tcase d t with h0 | h0 | ⟨j, y, rfl, hy⟩
                · exfalso; simp only [isT, Bool.and_eq_true, decide_eq_true_eq] at hT; omega
                · exfalso; simp only [isT, Bool.and_eq_true, decide_eq_true_eq] at hT; omega
                · have b := B.at hy
                  have hw := wrap_sub1 (n := j) (by omega)
                  rw [consOf_at hy]
                  by_cases hge : (y.cons.length : Int) ≤ c
                  · (simp only [e39, ibeq, ibne, t0, m0, cn, hw, iaD hy, hge, wz, opX, intBin, ↓reduceIte, simprocAttr] <;> repeat' (first | refine wpG_s ?_ ?_ | refine wpC_s ?_ ?_) <;> intro hgo <;> (try simp only [dq] at hgo) <;> simp only [hgo, e39, ibeq, ibne, t0, m0, cn, hw, iaD hy, hge, wz, opX, intBin, ↓reduceIte, simprocAttr])
                    simp
                  · obtain ⟨i, rfl⟩ : ∃ i : Nat, c = (i : Int) := ⟨c.toNat, by omega⟩
                    obtain ⟨z, hz⟩ := get_of_lt (l := y.cons) (n := i) (by omega)
                    rw [Int.toNat_natCast, hz]
                    simp only
                    have hge' : ¬ y.cons.length ≤ i := by omega
                    have bc := B.cat hy hz
                    have e0 : (decide (((j : Int) + 1) = 0) || !decide (m = 0) || decide ((i : Int) < 0) || decide ((y.cons.length : Int) ≤ (i : Int))) = false := by
                      have a1 : ¬ ((j : Int) + 1 = 0) := by omega
                      have a2 : ¬ ((i : Int) < 0) := by omega
                      have a3 : ¬ ((y.cons.length : Int) ≤ (i : Int)) := hge
                      simp [a1, a2, a3, m0]
                    rw [e0, Bool.not_false, Bool.true_and]
                    by_cases hl : z.flds.length = qs.length
                    · rw [decide_eq_true hl, Bool.true_and, fitsL_any]
                      have hl' : ((z.flds.length : Int) != (qs.length : Int)) = false := by simp [hl]
                      have hzl : (z.flds.zip qs).length = qs.length := by rw [List.length_zip]; omega
                      obtain ⟨hloopq, hloop⟩ := loop_anyq (T := tab) (a := f39l0) (l := z.flds.zip qs) (p := badF d) (f := fun n => [(0, .d (eDs d)), (7, .d (eIs z.flds)), (87, .d (ePs qs)), (88, .d (.int .i64 qs.length)), (89, int n)]) (h := ⟨h.objs, h.next + 1⟩)
                          (by intro q n x hx hlt hp; (have hxz := zip_at hx); (have hcp := cntL_mem (List.mem_of_getElem? hxz.2)); (have hfT := fld_isT27 T (t := (j : Int) + 1) (by rw [consOf_at hy]; exact List.mem_of_getElem? hz) (List.mem_of_getElem? hxz.1)); (have hr := fun h => fits_ok B T x.2 x.1 hfT (by omega) h); (have hlt' : n < qs.length := by omega); (have hpb : fitsP d x.1 x.2 = !(badF d x) := by simp [badF]); rw [hp] at hpb; all_goals ((simp only [hlt, hp, e39, iaP hxz.2, iaI hxz.1, pts, hr, hlt', hpb, wrap_succ (show n < 2 ^ 62 by omega), wz, opX, intBin, ↓reduceIte, simprocAttr] <;> repeat' (first | refine wpG_s ?_ ?_ | refine wpC_s ?_ ?_) <;> intro hgo <;> (try simp only [dq] at hgo) <;> simp only [hgo, hlt, hp, e39, iaP hxz.2, iaI hxz.1, pts, hr, hlt', hpb, wrap_succ (show n < 2 ^ 62 by omega), wz, opX, intBin, ↓reduceIte, simprocAttr]) <;> (first | exact ⟨_, rfl⟩ | exact ⟨_, rfl, rfl⟩ | exact ⟨_, rfl, rfl, rfl⟩)))
                          (by intro q n x hx hlt hp; (have hxz := zip_at hx); (have hcp := cntL_mem (List.mem_of_getElem? hxz.2)); (have hfT := fld_isT27 T (t := (j : Int) + 1) (by rw [consOf_at hy]; exact List.mem_of_getElem? hz) (List.mem_of_getElem? hxz.1)); (have hr := fun h => fits_ok B T x.2 x.1 hfT (by omega) h); (have hlt' : n < qs.length := by omega); (have hpb : fitsP d x.1 x.2 = !(badF d x) := by simp [badF]); rw [hp] at hpb; all_goals ((simp only [hlt, hp, e39, iaP hxz.2, iaI hxz.1, pts, hr, hlt', hpb, wrap_succ (show n < 2 ^ 62 by omega), wz, opX, intBin, ↓reduceIte, simprocAttr] <;> repeat' (first | refine wpG_s ?_ ?_ | refine wpC_s ?_ ?_) <;> intro hgo <;> (try simp only [dq] at hgo) <;> simp only [hgo, hlt, hp, e39, iaP hxz.2, iaI hxz.1, pts, hr, hlt', hpb, wrap_succ (show n < 2 ^ 62 by omega), wz, opX, intBin, ↓reduceIte, simprocAttr]) <;> (first | exact ⟨_, rfl⟩ | exact ⟨_, rfl, rfl⟩ | exact ⟨_, rfl, rfl, rfl⟩)))
                          (by intro q; (simp only [e39, hzl, wz, opX, intBin, ↓reduceIte, simprocAttr] <;> repeat' (first | refine wpG_s ?_ ?_ | refine wpC_s ?_ ?_) <;> intro hgo <;> (try simp only [dq] at hgo) <;> simp only [hgo, e39, hzl, wz, opX, intBin, ↓reduceIte, simprocAttr]) <;> (first | exact ⟨_, rfl⟩ | exact ⟨_, rfl, rfl⟩ | exact ⟨_, rfl, rfl, rfl⟩))
                          (by simp) (by simp)
                      simp only [int, Zv.bool, Int.cast_ofNat_Int] at hloop
                      (simp only [e39, ibeq, ibne, t0, m0, cn, hw, iaD hy, iaC hz, hge', hl', wq_of hloop, wz, opX, intBin, ↓reduceIte, simprocAttr] <;> repeat' (first | refine wpG_s ?_ ?_ | refine wpC_s ?_ ?_) <;> intro hgo <;> (try simp only [dq] at hgo) <;> simp only [hgo, e39, ibeq, ibne, t0, m0, cn, hw, iaD hy, iaC hz, hge', hl', wq_of hloop, wz, opX, intBin, ↓reduceIte, simprocAttr])
                      cases (z.flds.zip qs).any (badF d) <;> (simp only [e39, wz, opX, intBin, ↓reduceIte, simprocAttr] <;> repeat' (first | refine wpG_s ?_ ?_ | refine wpC_s ?_ ?_) <;> intro hgo <;> (try simp only [dq] at hgo) <;> simp only [hgo, e39, wz, opX, intBin, ↓reduceIte, simprocAttr])
                    · rw [decide_eq_false hl, Bool.false_and]
                      have hl' : ((z.flds.length : Int) != (qs.length : Int)) = true := by simp; omega
                      (simp only [e39, ibeq, ibne, t0, m0, cn, hw, iaD hy, iaC hz, hge', hl', wz, opX, intBin, ↓reduceIte, simprocAttr] <;> repeat' (first | refine wpG_s ?_ ?_ | refine wpC_s ?_ ?_) <;> intro hgo <;> (try simp only [dq] at hgo) <;> simp only [hgo, e39, ibeq, ibne, t0, m0, cn, hw, iaD hy, iaC hz, hge', hl', wz, opX, intBin, ↓reduceIte, simprocAttr])
            · (simp only [e39, ibeq, ibne, t0, m0, wz, opX, intBin, ↓reduceIte, simprocAttr] <;> repeat' (first | refine wpG_s ?_ ?_ | refine wpC_s ?_ ?_) <;> intro hgo <;> (try simp only [dq] at hgo) <;> simp only [hgo, e39, ibeq, ibne, t0, m0, wz, opX, intBin, ↓reduceIte, simprocAttr])
              simp [m0]
        · rw [if_neg k1]
          (simp only [e39, ibeq, k0, k1, k2, wz, opX, intBin, ↓reduceIte, simprocAttr] <;> repeat' (first | refine wpG_s ?_ ?_ | refine wpC_s ?_ ?_) <;> intro hgo <;> (try simp only [dq] at hgo) <;> simp only [hgo, e39, ibeq, k0, k1, k2, wz, opX, intBin, ↓reduceIte, simprocAttr])
termination_by p => cntP p
decreasing_by
  all_goals
    have := cntL_mem (List.mem_of_getElem? (zip_at hx).2)
    rw [cntP]
    omega
end Zc27
end
section
set_option linter.unusedSimpArgs false
set_option linter.unusedVariables false
set_option linter.unusedSimpArgs false
set_option maxHeartbeats 4000000
namespace Zc27
open Go Zv Zs

theorem rfits_ok {d : List Dt} (B : Bd d) (T : typedS d = true) : ∀ (p : Pt) (t : Int), isT d t = true → cntP p < 2 ^ 60 → ∀ h, callW tab 42 [.d (eDs d), .d (eI t), .d (ePt p)] h = some (.d (.bool (fitsP d t p)), h)
  | .mk kd c m qs, t, hT, hc, h => by
    have hlen := cntL_len qs
    rw [cntP] at hc
    rw [fitsP, ePt_mk]
    refine call_wp (fn := f42) rfl rfl ?_
    by_cases k0 : kd = 0
    · subst k0
      rw [if_pos rfl]
      by_cases c0 : c = 0 <;> by_cases m0 : m = 0 <;> by_cases q0 : qs.length = 0 <;> (have q0' : ((qs.length : Int) == 0) = decide (qs.length = 0) := by simp [ibeq]) <;> (simp only [e42, ibeq, c0, m0, q0, q0', wz, opX, intBin, ↓reduceIte, simprocAttr] <;> repeat' (first | refine wpG_s ?_ ?_ | refine wpC_s ?_ ?_) <;> intro hgo <;> (try simp only [dq] at hgo) <;> simp only [hgo, e42, ibeq, c0, m0, q0, q0', wz, opX, intBin, ↓reduceIte, simprocAttr])
    · rw [if_neg k0]
      by_cases k2 : kd = 2
      · subst k2
        rw [if_pos rfl]
        by_cases c0 : c = 0 <;> by_cases t0 : t = 0 <;> by_cases q0 : qs.length = 0 <;> (have q0' : ((qs.length : Int) == 0) = decide (qs.length = 0) := by simp [ibeq]) <;> (simp only [e42, ibeq, c0, t0, q0, q0', wz, opX, intBin, ↓reduceIte, simprocAttr] <;> repeat' (first | refine wpG_s ?_ ?_ | refine wpC_s ?_ ?_) <;> intro hgo <;> (try simp only [dq] at hgo) <;> simp only [hgo, e42, ibeq, c0, t0, q0, q0', wz, opX, intBin, ↓reduceIte, simprocAttr])
      · rw [if_neg k2]
        by_cases k1 : kd = 1
        · subst k1
          rw [if_pos rfl]
          by_cases t0 : t = 0
          · (simp only [e42, ibeq, t0, wz, opX, intBin, ↓reduceIte, simprocAttr] <;> repeat' (first | refine wpG_s ?_ ?_ | refine wpC_s ?_ ?_) <;> intro hgo <;> (try simp only [dq] at hgo) <;> simp only [hgo, e42, ibeq, t0, wz, opX, intBin, ↓reduceIte, simprocAttr])
            simp
          · by_cases m0 : m = 0
            · by_cases cn : c < 0
              · (simp only [e42, ibeq, ibne, t0, m0, cn, wz, opX, intBin, ↓reduceIte, simprocAttr] <;> repeat' (first | refine wpG_s ?_ ?_ | refine wpC_s ?_ ?_) <;> intro hgo <;> (try simp only [dq] at hgo) <;> simp only [hgo, e42, ibeq, ibne, t0, m0, cn, wz, opX, intBin, ↓reduceIte, simprocAttr])
                simp
              · rcases tcase d t with h0 | h0 | ⟨j, y, rfl, hy⟩
                · exfalso; simp only [isT, Bool.and_eq_true, decide_eq_true_eq] at hT; omega
                · exfalso; simp only [isT, Bool.and_eq_true, decide_eq_true_eq] at hT; omega
                · have b := B.at hy
                  have hw := wrap_sub1 (n := j) (by omega)
                  rw [consOf_at hy]
                  by_cases hge : (y.cons.length : Int) ≤ c
                  · (simp only [e42, ibeq, ibne, t0, m0, cn, hw, iaD hy, hge, wz, opX, intBin, ↓reduceIte, simprocAttr] <;> repeat' (first | refine wpG_s ?_ ?_ | refine wpC_s ?_ ?_) <;> intro hgo <;> (try simp only [dq] at hgo) <;> simp only [hgo, e42, ibeq, ibne, t0, m0, cn, hw, iaD hy, hge, wz, opX, intBin, ↓reduceIte, simprocAttr])
                    simp
                  · obtain ⟨i, rfl⟩ : ∃ i : Nat, c = (i : Int) := ⟨c.toNat, by omega⟩
                    obtain ⟨z, hz⟩ := get_of_lt (l := y.cons) (n := i) (by omega)
                    rw [Int.toNat_natCast, hz]
                    simp only
                    have hge' : ¬ y.cons.length ≤ i := by omega
                    have bc := B.cat hy hz
                    have e0 : (decide (((j : Int) + 1) = 0) || !decide (m = 0) || decide ((i : Int) < 0) || decide ((y.cons.length : Int) ≤ (i : Int))) = false := by
                      have a1 : ¬ ((j : Int) + 1 = 0) := by omega
                      have a2 : ¬ ((i : Int) < 0) := by omega
                      have a3 : ¬ ((y.cons.length : Int) ≤ (i : Int)) := hge
                      simp [a1, a2, a3, m0]
                    rw [e0, Bool.not_false, Bool.true_and]
                    obtain rfl := m0
                    have m0 : (0 : Int) = 0 := rfl
                    by_cases hl : z.flds.length = qs.length
                    · rw [decide_eq_true hl, Bool.true_and, fitsL_any]
                      have hl' : ((z.flds.length : Int) != (qs.length : Int)) = false := by simp [hl]
                      have hzl : (z.flds.zip qs).length = qs.length := by rw [List.length_zip]; omega
                      have hzf : (z.flds.zip qs).length = z.flds.length := by rw [List.length_zip]; omega
                      have hfe : (z.flds.length : Int) = (qs.length : Int) := by omega
                      have hloop := loop_any (T := tab) (a := f42l0) (l := z.flds.zip qs) (p := badF d) (f := fun n => [(0, .d (eDs d)), (5, .fp (.agg [.int .i64 1, .int .i64 (i : Int), .int .i64 0, .lst (qs.map ePt)]) 0), (7, .d (eIs z.flds)), (8, int n)]) (h := ⟨h.objs, h.next + 1⟩)
                          (by intro n x hx hlt hp; (have hxz := zip_at hx); (have hcp := cntL_mem (List.mem_of_getElem? hxz.2)); (have hfT := fld_isT27 T (t := (j : Int) + 1) (by rw [consOf_at hy]; exact List.mem_of_getElem? hz) (List.mem_of_getElem? hxz.1)); (have hr := fun h => rfits_ok B T x.2 x.1 hfT (by omega) h); (have hlt' : n < qs.length := by omega); (have hpb : fitsP d x.1 x.2 = !(badF d x) := by simp [badF]); rw [hp] at hpb; all_goals (apply wq_ex.1; (simp only [hlt, hp, e42, hfe, iaP hxz.2, iaI hxz.1, pts, hr, hlt', hpb, wrap_succ (show n < 2 ^ 62 by omega), wz, opX, intBin, ↓reduceIte, simprocAttr] <;> repeat' (first | refine wpG_s ?_ ?_ | refine wpC_s ?_ ?_) <;> intro hgo <;> (try simp only [dq] at hgo) <;> simp only [hgo, hlt, hp, e42, hfe, iaP hxz.2, iaI hxz.1, pts, hr, hlt', hpb, wrap_succ (show n < 2 ^ 62 by omega), wz, opX, intBin, ↓reduceIte, simprocAttr])))
                          (by intro n x hx hlt hp; (have hxz := zip_at hx); (have hcp := cntL_mem (List.mem_of_getElem? hxz.2)); (have hfT := fld_isT27 T (t := (j : Int) + 1) (by rw [consOf_at hy]; exact List.mem_of_getElem? hz) (List.mem_of_getElem? hxz.1)); (have hr := fun h => rfits_ok B T x.2 x.1 hfT (by omega) h); (have hlt' : n < qs.length := by omega); (have hpb : fitsP d x.1 x.2 = !(badF d x) := by simp [badF]); rw [hp] at hpb; all_goals (apply wq_ex.1; (simp only [hlt, hp, e42, hfe, iaP hxz.2, iaI hxz.1, pts, hr, hlt', hpb, wrap_succ (show n < 2 ^ 62 by omega), wz, opX, intBin, ↓reduceIte, simprocAttr] <;> repeat' (first | refine wpG_s ?_ ?_ | refine wpC_s ?_ ?_) <;> intro hgo <;> (try simp only [dq] at hgo) <;> simp only [hgo, hlt, hp, e42, hfe, iaP hxz.2, iaI hxz.1, pts, hr, hlt', hpb, wrap_succ (show n < 2 ^ 62 by omega), wz, opX, intBin, ↓reduceIte, simprocAttr]) <;> rfl))
                          (by apply wq_ex.1; (simp only [e42, hzl, hfe, wz, opX, intBin, ↓reduceIte, simprocAttr] <;> repeat' (first | refine wpG_s ?_ ?_ | refine wpC_s ?_ ?_) <;> intro hgo <;> (try simp only [dq] at hgo) <;> simp only [hgo, e42, hzl, hfe, wz, opX, intBin, ↓reduceIte, simprocAttr]) <;> rfl)
                          (by simp) (by simp)
                      simp only [int, Zv.bool, Int.cast_ofNat_Int] at hloop
                      (simp only [e42, ibeq, ibne, t0, m0, cn, hw, iaD hy, iaC hz, hge', hl', wq_of hloop, wz, opX, intBin, ↓reduceIte, simprocAttr] <;> repeat' (first | refine wpG_s ?_ ?_ | refine wpC_s ?_ ?_) <;> intro hgo <;> (try simp only [dq] at hgo) <;> simp only [hgo, e42, ibeq, ibne, t0, m0, cn, hw, iaD hy, iaC hz, hge', hl', wq_of hloop, wz, opX, intBin, ↓reduceIte, simprocAttr])
                      cases (z.flds.zip qs).any (badF d) <;> (simp only [e42, wz, opX, intBin, ↓reduceIte, simprocAttr] <;> repeat' (first | refine wpG_s ?_ ?_ | refine wpC_s ?_ ?_) <;> intro hgo <;> (try simp only [dq] at hgo) <;> simp only [hgo, e42, wz, opX, intBin, ↓reduceIte, simprocAttr])
                    · rw [decide_eq_false hl, Bool.false_and]
                      have hl' : ((z.flds.length : Int) != (qs.length : Int)) = true := by simp; omega
                      (simp only [e42, ibeq, ibne, t0, m0, cn, hw, iaD hy, iaC hz, hge', hl', wz, opX, intBin, ↓reduceIte, simprocAttr] <;> repeat' (first | refine wpG_s ?_ ?_ | refine wpC_s ?_ ?_) <;> intro hgo <;> (try simp only [dq] at hgo) <;> simp only [hgo, e42, ibeq, ibne, t0, m0, cn, hw, iaD hy, iaC hz, hge', hl', wz, opX, intBin, ↓reduceIte, simprocAttr])
            · (simp only [e42, ibeq, ibne, t0, m0, wz, opX, intBin, ↓reduceIte, simprocAttr] <;> repeat' (first | refine wpG_s ?_ ?_ | refine wpC_s ?_ ?_) <;> intro hgo <;> (try simp only [dq] at hgo) <;> simp only [hgo, e42, ibeq, ibne, t0, m0, wz, opX, intBin, ↓reduceIte, simprocAttr])
              simp [m0]
        · rw [if_neg k1]
          (simp only [e42, ibeq, k0, k1, k2, wz, opX, intBin, ↓reduceIte, simprocAttr] <;> repeat' (first | refine wpG_s ?_ ?_ | refine wpC_s ?_ ?_) <;> intro hgo <;> (try simp only [dq] at hgo) <;> simp only [hgo, e42, ibeq, k0, k1, k2, wz, opX, intBin, ↓reduceIte, simprocAttr])
termination_by p => cntP p
decreasing_by
  all_goals
    have := cntL_mem (List.mem_of_getElem? (zip_at hx).2)
    rw [cntP]
    omega

/-! ### Check -/
theorem check_typed {d : List Dt} (h : checkS d = 0) : typedS d = true := by
  unfold checkS at h
  by_cases h1 : manyS d = true
  · rw [if_pos h1] at h; exact absurd h (by decide)
  rw [if_neg h1] at h
  by_cases h2 : formedS d = false
  · rw [if_pos h2] at h; exact absurd h (by decide)
  rw [if_neg h2] at h
  by_cases h3 : twiceS d = true
  · rw [if_pos h3] at h; exact absurd h (by decide)
  rw [if_neg h3] at h
  by_cases h4 : typedS d = false
  · rw [if_pos h4] at h; exact absurd h (by decide)
  simpa using h4
def badT (d : List Dt) (t : Int) : Bool := !isT d t
def deepR (r : List Pt) : Bool := r.any fun p => deepP p 0
/-- A row that does not fit the types. -/
def badR (d : List Dt) (ts : List Int) (r : List Pt) : Bool := !(decide (r.length = ts.length) && !(ts.zip r).any (badF d))
def chk27 (d : List Dt) (ts : List Int) (l : List (List Pt)) : Int :=
  if checkS d ≠ 0 then 3 else if 8 < ts.length ∨ 64 < l.length then 6 else if ts.any (badT d) = true then 2 else if l.any deepR = true then 7 else if l.any (badR d ts) = true then 10 else 0
structure Rng (d : List Dt) (ts : List Int) (l : List (List Pt)) : Prop where
  bd : Bd d
  nm : Nm d
  ts : ts.length < 2 ^ 60
  rows : l.length < 2 ^ 60
  cnt : ∀ r, r ∈ l → cntL r < 2 ^ 60
theorem tests (d : List Dt) (t : Int) : badT d t = (decide (t < 0) || decide ((d.length : Int) < t)) := by
  unfold badT isT
  by_cases h1 : t < 0 <;> by_cases h2 : (d.length : Int) < t <;> simp [h1, h2] <;> omega
theorem chk_ok {d : List Dt} {ts : List Int} {l : List (List Pt)} (R : Rng d ts l) (h : Hp) : callW tab 11 [.d (eDs d), .d (eIs ts), .d (eRs l)] h = some (.d (eI (chk27 d ts l)), h) := by
  refine call_wp (fn := f11) rfl rfl ?_
  have B := R.bd
  have hts := R.ts
  have hll := R.rows
  have hbl := B.len
  have hch := fun hh => pcheck_ok B R.nm hh
  unfold chk27
  by_cases hC : checkS d = 0
  · rw [if_neg (by simp [hC])]
    have T := check_typed hC
    by_cases h8 : 8 < ts.length
    · rw [if_pos (.inl h8)]
      have h8' : (8 : Int) < (ts.length : Int) := by omega
      (simp only [e11, hch, hC, h8', wz, opX, intBin, ↓reduceIte, simprocAttr] <;> repeat' (first | refine wpG_s ?_ ?_ | refine wpC_s ?_ ?_) <;> intro hgo <;> (try simp only [dq] at hgo) <;> simp only [hgo, e11, hch, hC, h8', wz, opX, intBin, ↓reduceIte, simprocAttr])
    · have h8' : ¬ (8 : Int) < (ts.length : Int) := by omega
      by_cases h64 : 64 < l.length
      · rw [if_pos (.inr h64)]
        have h64' : (64 : Int) < (l.length : Int) := by omega
        (simp only [e11, hch, hC, h8', h64', wz, opX, intBin, ↓reduceIte, simprocAttr] <;> repeat' (first | refine wpG_s ?_ ?_ | refine wpC_s ?_ ?_) <;> intro hgo <;> (try simp only [dq] at hgo) <;> simp only [hgo, e11, hch, hC, h8', h64', wz, opX, intBin, ↓reduceIte, simprocAttr])
      · rw [if_neg (by simp [h8, h64])]
        have h64' : ¬ (64 : Int) < (l.length : Int) := by omega
        have hcT := conFT ts (.clo 35 [.ptr h.next 1 0 0]) (badT d) ⟨(h.next, .arr 1 [.d (eDs d)]) :: h.objs, h.next + 1⟩ (by omega) rfl (by
          intro t ht
          rw [cW_clo]
          simp only [Nat.reduceBEq, Bool.false_eq_true, if_false]
          refine call_wp (fn := f35) rfl rfl ?_
          rw [tests]
          by_cases t1 : t < 0
          · (simp only [e35, t1, Bool.true_or, wz, opX, intBin, ↓reduceIte, simprocAttr] <;> repeat' (first | refine wpG_s ?_ ?_ | refine wpC_s ?_ ?_) <;> intro hgo <;> (try simp only [dq] at hgo) <;> simp only [hgo, e35, t1, Bool.true_or, wz, opX, intBin, ↓reduceIte, simprocAttr])
          · by_cases t2 : (d.length : Int) < t <;> (simp only [e35, t1, t2, Bool.false_or, wz, opX, intBin, ↓reduceIte, simprocAttr] <;> repeat' (first | refine wpG_s ?_ ?_ | refine wpC_s ?_ ?_) <;> intro hgo <;> (try simp only [dq] at hgo) <;> simp only [hgo, e35, t1, t2, Bool.false_or, wz, opX, intBin, ↓reduceIte, simprocAttr]))
        cases hbt : ts.any (badT d) with
        | true =>
          rw [if_pos rfl]
          (simp only [e11, hch, hC, h8', h64', hcT, hbt, wz, opX, intBin, ↓reduceIte, simprocAttr] <;> repeat' (first | refine wpG_s ?_ ?_ | refine wpC_s ?_ ?_) <;> intro hgo <;> (try simp only [dq] at hgo) <;> simp only [hgo, e11, hch, hC, h8', h64', hcT, hbt, wz, opX, intBin, ↓reduceIte, simprocAttr])
        | false =>
          rw [if_neg (by simp)]
          have hdp : ∀ r, r ∈ l → ∀ h, callW tab 36 [.d (ePs r), .clo 37 []] h = some (.d (.bool (deepR r)), h) := by
            intro r hr h
            have hcr := R.cnt r hr
            have hlr := cntL_len r
            refine conFP r (.clo 37 []) (fun p => deepP p 0) h (by omega) rfl (fun p hp => ?_)
            have hcp := cntL_mem hp
            have hd := fun h => deep_ok p 0 (by omega) (by omega) h
            rw [cW_clo]
            simp only [Nat.reduceBEq, Bool.false_eq_true, if_false]
            refine call_wp (fn := f37) rfl rfl ?_
            simp only [Int.cast_ofNat_Int] at hd
            (simp only [e37, pts, hd, wz, opX, intBin, ↓reduceIte, simprocAttr] <;> repeat' (first | refine wpG_s ?_ ?_ | refine wpC_s ?_ ?_) <;> intro hgo <;> (try simp only [dq] at hgo) <;> simp only [hgo, e37, pts, hd, wz, opX, intBin, ↓reduceIte, simprocAttr])
          have hA := loop_any (T := tab) (a := f11l0) (l := l) (p := deepR) (f := fun n => [(1, .d (eIs ts)), (2, .d (eRs l)), (3, .ptr h.next 1 0 0), (27, .d (eRs l)), (28, .d (.int .i64 l.length)), (29, int n)]) (h := ⟨(h.next, .arr 1 [.d (eDs d)]) :: h.objs, h.next + 1⟩)
              (by intro n x hx hlt hp; (have hr := hdp x (List.mem_of_getElem? hx)); all_goals (apply wq_ex.1; (simp only [hlt, hp, e11, iaR hx, hr, wrap_succ (show n < 2 ^ 62 by omega), wz, opX, intBin, ↓reduceIte, simprocAttr] <;> repeat' (first | refine wpG_s ?_ ?_ | refine wpC_s ?_ ?_) <;> intro hgo <;> (try simp only [dq] at hgo) <;> simp only [hgo, hlt, hp, e11, iaR hx, hr, wrap_succ (show n < 2 ^ 62 by omega), wz, opX, intBin, ↓reduceIte, simprocAttr])))
              (by intro n x hx hlt hp; (have hr := hdp x (List.mem_of_getElem? hx)); all_goals (apply wq_ex.1; (simp only [hlt, hp, e11, iaR hx, hr, wrap_succ (show n < 2 ^ 62 by omega), wz, opX, intBin, ↓reduceIte, simprocAttr] <;> repeat' (first | refine wpG_s ?_ ?_ | refine wpC_s ?_ ?_) <;> intro hgo <;> (try simp only [dq] at hgo) <;> simp only [hgo, hlt, hp, e11, iaR hx, hr, wrap_succ (show n < 2 ^ 62 by omega), wz, opX, intBin, ↓reduceIte, simprocAttr]) <;> rfl))
              (by apply wq_ex.1; (simp only [e11, wz, opX, intBin, ↓reduceIte, simprocAttr] <;> repeat' (first | refine wpG_s ?_ ?_ | refine wpC_s ?_ ?_) <;> intro hgo <;> (try simp only [dq] at hgo) <;> simp only [hgo, e11, wz, opX, intBin, ↓reduceIte, simprocAttr]) <;> rfl)
              (by simp) (by simp)
          simp only [int, Zv.bool, Int.cast_ofNat_Int] at hA
          cases hdr : l.any deepR with
          | true =>
            rw [hdr] at hA
            rw [if_pos rfl]
            (simp only [e11, hch, hC, h8', h64', hcT, hbt, wq_of hA, wz, opX, intBin, ↓reduceIte, simprocAttr] <;> repeat' (first | refine wpG_s ?_ ?_ | refine wpC_s ?_ ?_) <;> intro hgo <;> (try simp only [dq] at hgo) <;> simp only [hgo, e11, hch, hC, h8', h64', hcT, hbt, wq_of hA, wz, opX, intBin, ↓reduceIte, simprocAttr])
          | false =>
            rw [hdr] at hA
            rw [if_neg (by simp)]
            have tyT : ∀ t, t ∈ ts → isT d t = true := by
              intro t ht
              have := List.any_eq_false.1 hbt t ht
              simpa [badT] using this
            have inner : ∀ (j : Nat) (r : List Pt) (q : Nat), r ∈ l → r.length = ts.length → ∃ q', ex tab (.loop f11l1) [(1, .d (eIs ts)), (3, .ptr h.next 1 0 0), (36, .d (eRs l)), (37, .d (.int .i64 l.length)), (38, .d (.int .i64 (j : Int))), (47, .d (ePs r)), (48, .d (.int .i64 r.length)), (49, .d (.int .i64 0))] ⟨(h.next, .arr 1 [.d (eDs d)]) :: h.objs, q⟩ =
                some (if (ts.zip r).any (badF d) = true then (.ret, [(6, .d (.int .i64 10))], ⟨(h.next, .arr 1 [.d (eDs d)]) :: h.objs, q'⟩) else (.exit 4, [(1, .d (eIs ts)), (3, .ptr h.next 1 0 0), (36, .d (eRs l)), (37, .d (.int .i64 l.length)), (38, .d (.int .i64 (j : Int))), (47, .d (ePs r)), (48, .d (.int .i64 r.length)), (49, .d (.int .i64 r.length)), (50, .d (.bool false))], ⟨(h.next, .arr 1 [.d (eDs d)]) :: h.objs, q'⟩)) := by
              intro j r q hr hrl
              have hcr := R.cnt r hr
              have hzl : (ts.zip r).length = r.length := by rw [List.length_zip]; omega
              obtain ⟨hloopq, hloop⟩ := loop_anyq (T := tab) (a := f11l1) (l := ts.zip r) (p := badF d) (f := fun n => [(1, .d (eIs ts)), (3, .ptr h.next 1 0 0), (36, .d (eRs l)), (37, .d (.int .i64 l.length)), (38, .d (.int .i64 (j : Int))), (47, .d (ePs r)), (48, .d (.int .i64 r.length)), (49, int n)]) (h := ⟨(h.next, .arr 1 [.d (eDs d)]) :: h.objs, q⟩)
                  (by intro q n x hx hlt hp; (have hxz := zip_at hx); (have hcp := cntL_mem (List.mem_of_getElem? hxz.2)); (have hf := fun h => fits_ok B T x.2 x.1 (tyT _ (List.mem_of_getElem? hxz.1)) (by omega) h); (have hlt' : n < r.length := by omega); (have hpb : fitsP d x.1 x.2 = !(badF d x) := by simp [badF]); rw [hp] at hpb; all_goals ((simp only [hlt, hp, e11, iaP hxz.2, iaI hxz.1, pts, hf, hlt', hpb, wrap_succ (show n < 2 ^ 62 by omega), wz, opX, intBin, ↓reduceIte, simprocAttr] <;> repeat' (first | refine wpG_s ?_ ?_ | refine wpC_s ?_ ?_) <;> intro hgo <;> (try simp only [dq] at hgo) <;> simp only [hgo, hlt, hp, e11, iaP hxz.2, iaI hxz.1, pts, hf, hlt', hpb, wrap_succ (show n < 2 ^ 62 by omega), wz, opX, intBin, ↓reduceIte, simprocAttr]) <;> (first | exact ⟨_, rfl⟩ | exact ⟨_, rfl, rfl⟩ | exact ⟨_, rfl, rfl, rfl⟩)))
                  (by intro q n x hx hlt hp; (have hxz := zip_at hx); (have hcp := cntL_mem (List.mem_of_getElem? hxz.2)); (have hf := fun h => fits_ok B T x.2 x.1 (tyT _ (List.mem_of_getElem? hxz.1)) (by omega) h); (have hlt' : n < r.length := by omega); (have hpb : fitsP d x.1 x.2 = !(badF d x) := by simp [badF]); rw [hp] at hpb; all_goals ((simp only [hlt, hp, e11, iaP hxz.2, iaI hxz.1, pts, hf, hlt', hpb, wrap_succ (show n < 2 ^ 62 by omega), wz, opX, intBin, ↓reduceIte, simprocAttr] <;> repeat' (first | refine wpG_s ?_ ?_ | refine wpC_s ?_ ?_) <;> intro hgo <;> (try simp only [dq] at hgo) <;> simp only [hgo, hlt, hp, e11, iaP hxz.2, iaI hxz.1, pts, hf, hlt', hpb, wrap_succ (show n < 2 ^ 62 by omega), wz, opX, intBin, ↓reduceIte, simprocAttr]) <;> (first | exact ⟨_, rfl⟩ | exact ⟨_, rfl, rfl⟩ | exact ⟨_, rfl, rfl, rfl⟩)))
                  (by intro q; (simp only [e11, hzl, wz, opX, intBin, ↓reduceIte, simprocAttr] <;> repeat' (first | refine wpG_s ?_ ?_ | refine wpC_s ?_ ?_) <;> intro hgo <;> (try simp only [dq] at hgo) <;> simp only [hgo, e11, hzl, wz, opX, intBin, ↓reduceIte, simprocAttr]) <;> (first | exact ⟨_, rfl⟩ | exact ⟨_, rfl, rfl⟩ | exact ⟨_, rfl, rfl, rfl⟩))
                  (by simp) (by simp)
              simp only [int, Zv.bool, Int.cast_ofNat_Int] at hloop
              exact ⟨hloopq, hloop⟩
            obtain ⟨q', hB⟩ := loop_anyq (T := tab) (a := f11l2) (l := l) (p := badR d ts) (f := fun n => [(1, .d (eIs ts)), (3, .ptr h.next 1 0 0), (36, .d (eRs l)), (37, .d (.int .i64 l.length)), (38, int n)]) (h := ⟨(h.next, .arr 1 [.d (eDs d)]) :: h.objs, h.next + 1⟩)
              (x1 := .ret) (e1 := [(6, .d (.int .i64 10))]) (x2 := .exit 2) (e2 := [(1, .d (eIs ts)), (3, .ptr h.next 1 0 0), (36, .d (eRs l)), (37, .d (.int .i64 l.length)), (38, .d (.int .i64 l.length)), (39, .d (.bool false))])
              (by
                intro q n x hx hlt hp
                have hmem := List.mem_of_getElem? hx
                unfold badR at hp
                simp only [Bool.not_eq_false', Bool.and_eq_true, decide_eq_true_eq, Bool.not_eq_true'] at hp
                obtain ⟨hrl, hany⟩ := hp
                have hne : ((x.length : Int) != (ts.length : Int)) = false := by simp [hrl]
                obtain ⟨q', hin⟩ := inner n x q hmem hrl
                rw [hany, if_neg (by simp)] at hin
                (simp only [e11, hlt, iaR hx, hne, wq_of hin, wrap_succ (show n < 2 ^ 62 by omega), wz, opX, intBin, ↓reduceIte, simprocAttr] <;> repeat' (first | refine wpG_s ?_ ?_ | refine wpC_s ?_ ?_) <;> intro hgo <;> (try simp only [dq] at hgo) <;> simp only [hgo, e11, hlt, iaR hx, hne, wq_of hin, wrap_succ (show n < 2 ^ 62 by omega), wz, opX, intBin, ↓reduceIte, simprocAttr])
                exact ⟨_, rfl⟩)
              (by
                intro q n x hx hlt hp
                have hmem := List.mem_of_getElem? hx
                by_cases hrl : x.length = ts.length
                · unfold badR at hp
                  rw [decide_eq_true hrl, Bool.true_and, Bool.not_not] at hp
                  have hne : ((x.length : Int) != (ts.length : Int)) = false := by simp [hrl]
                  obtain ⟨q', hin⟩ := inner n x q hmem hrl
                  rw [hp, if_pos rfl] at hin
                  (simp only [e11, hlt, iaR hx, hne, wq_of hin, wz, opX, intBin, ↓reduceIte, simprocAttr] <;> repeat' (first | refine wpG_s ?_ ?_ | refine wpC_s ?_ ?_) <;> intro hgo <;> (try simp only [dq] at hgo) <;> simp only [hgo, e11, hlt, iaR hx, hne, wq_of hin, wz, opX, intBin, ↓reduceIte, simprocAttr])
                  exact ⟨_, rfl⟩
                · have hne : ((x.length : Int) != (ts.length : Int)) = true := by simp; omega
                  (simp only [e11, hlt, iaR hx, hne, wz, opX, intBin, ↓reduceIte, simprocAttr] <;> repeat' (first | refine wpG_s ?_ ?_ | refine wpC_s ?_ ?_) <;> intro hgo <;> (try simp only [dq] at hgo) <;> simp only [hgo, e11, hlt, iaR hx, hne, wz, opX, intBin, ↓reduceIte, simprocAttr])
                  exact ⟨_, rfl⟩)
              (by intro q; (simp only [e11, wz, opX, intBin, ↓reduceIte, simprocAttr] <;> repeat' (first | refine wpG_s ?_ ?_ | refine wpC_s ?_ ?_) <;> intro hgo <;> (try simp only [dq] at hgo) <;> simp only [hgo, e11, wz, opX, intBin, ↓reduceIte, simprocAttr]); exact ⟨_, rfl⟩) (by simp) (by simp)
            simp only [int, Int.cast_ofNat_Int] at hB
            cases hbr : l.any (badR d ts) with
            | true =>
              rw [hbr, if_pos rfl] at hB
              rw [if_pos rfl]
              (simp only [e11, hch, hC, h8', h64', hcT, hbt, wq_of hA, wq_of hB, wz, opX, intBin, ↓reduceIte, simprocAttr] <;> repeat' (first | refine wpG_s ?_ ?_ | refine wpC_s ?_ ?_) <;> intro hgo <;> (try simp only [dq] at hgo) <;> simp only [hgo, e11, hch, hC, h8', h64', hcT, hbt, wq_of hA, wq_of hB, wz, opX, intBin, ↓reduceIte, simprocAttr])
            | false =>
              rw [hbr, if_neg (by simp)] at hB
              rw [if_neg (by simp)]
              (simp only [e11, hch, hC, h8', h64', hcT, hbt, wq_of hA, wq_of hB, wz, opX, intBin, ↓reduceIte, simprocAttr] <;> repeat' (first | refine wpG_s ?_ ?_ | refine wpC_s ?_ ?_) <;> intro hgo <;> (try simp only [dq] at hgo) <;> simp only [hgo, e11, hch, hC, h8', h64', hcT, hbt, wq_of hA, wq_of hB, wz, opX, intBin, ↓reduceIte, simprocAttr])
  · rw [if_pos hC]
    have e : (checkS d != 0) = true := by simp [hC]
    (simp only [e11, hch, e, wz, opX, intBin, ↓reduceIte, simprocAttr] <;> repeat' (first | refine wpG_s ?_ ?_ | refine wpC_s ?_ ?_) <;> intro hgo <;> (try simp only [dq] at hgo) <;> simp only [hgo, e11, hch, e, wz, opX, intBin, ↓reduceIte, simprocAttr])
end Zc27
end
section
set_option linter.unusedSimpArgs false
set_option linter.unusedVariables false
set_option linter.unusedSimpArgs false
set_option maxHeartbeats 4000000
namespace Zc27
open Go Zv Zs

theorem rchk_ok {d : List Dt} {ts : List Int} {l : List (List Pt)} (R : Rng d ts l) (h : Hp) : callW tab 13 [.d (eDs d), .d (eIs ts), .d (eRs l)] h = some (.d (eI (chk27 d ts l)), h) := by
  refine call_wp (fn := f13) rfl rfl ?_
  have B := R.bd
  have hts := R.ts
  have hll := R.rows
  have hbl := B.len
  have hch := fun hh => rcheck_ok B R.nm hh
  unfold chk27
  by_cases hC : checkS d = 0
  · rw [if_neg (by simp [hC])]
    have T := check_typed hC
    by_cases h8 : 8 < ts.length
    · rw [if_pos (.inl h8)]
      have h8' : (8 : Int) < (ts.length : Int) := by omega
      (simp only [e13, hch, hC, h8', wz, opX, intBin, ↓reduceIte, simprocAttr] <;> repeat' (first | refine wpG_s ?_ ?_ | refine wpC_s ?_ ?_) <;> intro hgo <;> (try simp only [dq] at hgo) <;> simp only [hgo, e13, hch, hC, h8', wz, opX, intBin, ↓reduceIte, simprocAttr])
    · have h8' : ¬ (8 : Int) < (ts.length : Int) := by omega
      by_cases h64 : 64 < l.length
      · rw [if_pos (.inr h64)]
        have h64' : (64 : Int) < (l.length : Int) := by omega
        (simp only [e13, hch, hC, h8', h64', wz, opX, intBin, ↓reduceIte, simprocAttr] <;> repeat' (first | refine wpG_s ?_ ?_ | refine wpC_s ?_ ?_) <;> intro hgo <;> (try simp only [dq] at hgo) <;> simp only [hgo, e13, hch, hC, h8', h64', wz, opX, intBin, ↓reduceIte, simprocAttr])
      · rw [if_neg (by simp [h8, h64])]
        have h64' : ¬ (64 : Int) < (l.length : Int) := by omega
        have hT := loop_any (T := tab) (a := f13l0) (l := ts) (p := badT d) (f := fun n => [(0, .d (eDs d)), (1, .d (eIs ts)), (2, .d (eRs l)), (7, int n)]) (h := h)
          (o := (.ret, [(6, .d (.int .i64 2))], h)) (oN := (.exit 0, [(0, .d (eDs d)), (1, .d (eIs ts)), (2, .d (eRs l)), (7, .d (.int .i64 ts.length)), (26, .d (.bool false))], h))
          (by
            intro n x hx hlt hp
            rw [tests, Bool.or_eq_false_iff, decide_eq_false_iff_not, decide_eq_false_iff_not] at hp
            apply wq_ex.1
            (simp only [e13, hlt, iaI hx, hp.1, hp.2, wrap_succ (show n < 2 ^ 62 by omega), wz, opX, intBin, ↓reduceIte, simprocAttr] <;> repeat' (first | refine wpG_s ?_ ?_ | refine wpC_s ?_ ?_) <;> intro hgo <;> (try simp only [dq] at hgo) <;> simp only [hgo, e13, hlt, iaI hx, hp.1, hp.2, wrap_succ (show n < 2 ^ 62 by omega), wz, opX, intBin, ↓reduceIte, simprocAttr]))
          (by
            intro n x hx hlt hp
            rw [tests, Bool.or_eq_true, decide_eq_true_eq, decide_eq_true_eq] at hp
            apply wq_ex.1
            by_cases p1 : x < 0
            · (simp only [e13, hlt, iaI hx, p1, wz, opX, intBin, ↓reduceIte, simprocAttr] <;> repeat' (first | refine wpG_s ?_ ?_ | refine wpC_s ?_ ?_) <;> intro hgo <;> (try simp only [dq] at hgo) <;> simp only [hgo, e13, hlt, iaI hx, p1, wz, opX, intBin, ↓reduceIte, simprocAttr])
            · have p2 := hp.resolve_left p1
              (simp only [e13, hlt, iaI hx, p1, p2, wz, opX, intBin, ↓reduceIte, simprocAttr] <;> repeat' (first | refine wpG_s ?_ ?_ | refine wpC_s ?_ ?_) <;> intro hgo <;> (try simp only [dq] at hgo) <;> simp only [hgo, e13, hlt, iaI hx, p1, p2, wz, opX, intBin, ↓reduceIte, simprocAttr]))
          (by apply wq_ex.1; (simp only [e13, wz, opX, intBin, ↓reduceIte, simprocAttr] <;> repeat' (first | refine wpG_s ?_ ?_ | refine wpC_s ?_ ?_) <;> intro hgo <;> (try simp only [dq] at hgo) <;> simp only [hgo, e13, wz, opX, intBin, ↓reduceIte, simprocAttr])) (by simp) (by simp)
        simp only [int, Int.cast_ofNat_Int] at hT
        cases hbt : ts.any (badT d) with
        | true =>
          rw [hbt] at hT
          rw [if_pos rfl]
          (simp only [e13, hch, hC, h8', h64', wq_of hT, wz, opX, intBin, ↓reduceIte, simprocAttr] <;> repeat' (first | refine wpG_s ?_ ?_ | refine wpC_s ?_ ?_) <;> intro hgo <;> (try simp only [dq] at hgo) <;> simp only [hgo, e13, hch, hC, h8', h64', wq_of hT, wz, opX, intBin, ↓reduceIte, simprocAttr])
        | false =>
          rw [hbt] at hT
          rw [if_neg (by simp)]
          have hdp : ∀ (j : Nat) (r : List Pt), l[j]? = some r → ex tab (.loop f13l1) [(0, .d (eDs d)), (1, .d (eIs ts)), (2, .d (eRs l)), (8, .d (.int .i64 (j : Int))), (9, .d (.int .i64 0))] h =
              some (if deepR r = true then (.ret, [(6, .d (.int .i64 7))], h) else (.exit 4, [(0, .d (eDs d)), (1, .d (eIs ts)), (2, .d (eRs l)), (8, .d (.int .i64 (j : Int))), (9, .d (.int .i64 r.length)), (55, .d (.bool false))], h)) := by
            intro j r hr
            have hcr := R.cnt r (List.mem_of_getElem? hr)
            have hlr := cntL_len r
            have hloop := loop_any (T := tab) (a := f13l1) (l := r) (p := (fun p => deepP p 0)) (f := fun n => [(0, .d (eDs d)), (1, .d (eIs ts)), (2, .d (eRs l)), (8, .d (.int .i64 (j : Int))), (9, int n)]) (h := h)
                (by intro n x hx hlt hp; (have hcp := cntL_mem (List.mem_of_getElem? hx)); (have hd : ∀ h, callW tab 41 [.d (ePt x), .d (.int .i64 64)] h = some (.d (.bool (deepP x 0)), h) := fun h => rdeep_ok x 0 (by omega) (by omega) h); all_goals (apply wq_ex.1; (simp only [hlt, hp, e13, iaR hr, iaP hx, pts, hd, wrap_succ (show n < 2 ^ 62 by omega), wz, opX, intBin, ↓reduceIte, simprocAttr] <;> repeat' (first | refine wpG_s ?_ ?_ | refine wpC_s ?_ ?_) <;> intro hgo <;> (try simp only [dq] at hgo) <;> simp only [hgo, hlt, hp, e13, iaR hr, iaP hx, pts, hd, wrap_succ (show n < 2 ^ 62 by omega), wz, opX, intBin, ↓reduceIte, simprocAttr])))
                (by intro n x hx hlt hp; (have hcp := cntL_mem (List.mem_of_getElem? hx)); (have hd : ∀ h, callW tab 41 [.d (ePt x), .d (.int .i64 64)] h = some (.d (.bool (deepP x 0)), h) := fun h => rdeep_ok x 0 (by omega) (by omega) h); all_goals (apply wq_ex.1; (simp only [hlt, hp, e13, iaR hr, iaP hx, pts, hd, wrap_succ (show n < 2 ^ 62 by omega), wz, opX, intBin, ↓reduceIte, simprocAttr] <;> repeat' (first | refine wpG_s ?_ ?_ | refine wpC_s ?_ ?_) <;> intro hgo <;> (try simp only [dq] at hgo) <;> simp only [hgo, hlt, hp, e13, iaR hr, iaP hx, pts, hd, wrap_succ (show n < 2 ^ 62 by omega), wz, opX, intBin, ↓reduceIte, simprocAttr]) <;> rfl))
                (by apply wq_ex.1; (simp only [e13, iaR hr, wz, opX, intBin, ↓reduceIte, simprocAttr] <;> repeat' (first | refine wpG_s ?_ ?_ | refine wpC_s ?_ ?_) <;> intro hgo <;> (try simp only [dq] at hgo) <;> simp only [hgo, e13, iaR hr, wz, opX, intBin, ↓reduceIte, simprocAttr]) <;> rfl)
                (by simp) (by simp)
            simp only [int, Zv.bool, Int.cast_ofNat_Int] at hloop
            exact hloop
          have hA := loop_any (T := tab) (a := f13l2) (l := l) (p := deepR) (f := fun n => [(0, .d (eDs d)), (1, .d (eIs ts)), (2, .d (eRs l)), (8, int n)]) (h := h)
              (by intro n x hx hlt hp; (have hr := hdp n x hx); rw [hp] at hr; all_goals (apply wq_ex.1; (simp only [hlt, hp, e13, wq_of hr, wrap_succ (show n < 2 ^ 62 by omega), wz, opX, intBin, ↓reduceIte, simprocAttr] <;> repeat' (first | refine wpG_s ?_ ?_ | refine wpC_s ?_ ?_) <;> intro hgo <;> (try simp only [dq] at hgo) <;> simp only [hgo, hlt, hp, e13, wq_of hr, wrap_succ (show n < 2 ^ 62 by omega), wz, opX, intBin, ↓reduceIte, simprocAttr])))
              (by intro n x hx hlt hp; (have hr := hdp n x hx); rw [hp] at hr; all_goals (apply wq_ex.1; (simp only [hlt, hp, e13, wq_of hr, wrap_succ (show n < 2 ^ 62 by omega), wz, opX, intBin, ↓reduceIte, simprocAttr] <;> repeat' (first | refine wpG_s ?_ ?_ | refine wpC_s ?_ ?_) <;> intro hgo <;> (try simp only [dq] at hgo) <;> simp only [hgo, hlt, hp, e13, wq_of hr, wrap_succ (show n < 2 ^ 62 by omega), wz, opX, intBin, ↓reduceIte, simprocAttr]) <;> rfl))
              (by apply wq_ex.1; (simp only [e13, wz, opX, intBin, ↓reduceIte, simprocAttr] <;> repeat' (first | refine wpG_s ?_ ?_ | refine wpC_s ?_ ?_) <;> intro hgo <;> (try simp only [dq] at hgo) <;> simp only [hgo, e13, wz, opX, intBin, ↓reduceIte, simprocAttr]) <;> rfl)
              (by simp) (by simp)
          simp only [int, Zv.bool, Int.cast_ofNat_Int] at hA
          cases hdr : l.any deepR with
          | true =>
            rw [hdr] at hA
            rw [if_pos rfl]
            (simp only [e13, hch, hC, h8', h64', wq_of hT, wq_of hA, wz, opX, intBin, ↓reduceIte, simprocAttr] <;> repeat' (first | refine wpG_s ?_ ?_ | refine wpC_s ?_ ?_) <;> intro hgo <;> (try simp only [dq] at hgo) <;> simp only [hgo, e13, hch, hC, h8', h64', wq_of hT, wq_of hA, wz, opX, intBin, ↓reduceIte, simprocAttr])
          | false =>
            rw [hdr] at hA
            rw [if_neg (by simp)]
            have tyT : ∀ t, t ∈ ts → isT d t = true := by
              intro t ht
              have := List.any_eq_false.1 hbt t ht
              simpa [badT] using this
            have inner : ∀ (j : Nat) (r : List Pt), l[j]? = some r → r.length = ts.length → ex tab (.loop f13l3) [(0, .d (eDs d)), (1, .d (eIs ts)), (2, .d (eRs l)), (10, .d (.int .i64 (j : Int))), (11, .d (.int .i64 0))] h =
                some (if (ts.zip r).any (badF d) = true then (.ret, [(6, .d (.int .i64 10))], h) else (.exit 8, [(0, .d (eDs d)), (1, .d (eIs ts)), (2, .d (eRs l)), (10, .d (.int .i64 (j : Int))), (11, .d (.int .i64 ts.length)), (83, .d (.bool false))], h)) := by
              intro j r hr hrl
              have hcr := R.cnt r (List.mem_of_getElem? hr)
              have hzl : (ts.zip r).length = ts.length := by rw [List.length_zip]; omega
              have hloop := loop_any (T := tab) (a := f13l3) (l := ts.zip r) (p := badF d) (f := fun n => [(0, .d (eDs d)), (1, .d (eIs ts)), (2, .d (eRs l)), (10, .d (.int .i64 (j : Int))), (11, int n)]) (h := h)
                  (by intro n x hx hlt hp; (have hxz := zip_at hx); (have hcp := cntL_mem (List.mem_of_getElem? hxz.2)); (have hf := fun h => rfits_ok B T x.2 x.1 (tyT _ (List.mem_of_getElem? hxz.1)) (by omega) h); (have hlt' : n < ts.length := by omega); (have hpb : fitsP d x.1 x.2 = !(badF d x) := by simp [badF]); rw [hp] at hpb; all_goals (apply wq_ex.1; (simp only [hlt, hp, e13, iaR hr, iaP hxz.2, iaI hxz.1, pts, hf, hlt', hpb, wrap_succ (show n < 2 ^ 62 by omega), wz, opX, intBin, ↓reduceIte, simprocAttr] <;> repeat' (first | refine wpG_s ?_ ?_ | refine wpC_s ?_ ?_) <;> intro hgo <;> (try simp only [dq] at hgo) <;> simp only [hgo, hlt, hp, e13, iaR hr, iaP hxz.2, iaI hxz.1, pts, hf, hlt', hpb, wrap_succ (show n < 2 ^ 62 by omega), wz, opX, intBin, ↓reduceIte, simprocAttr])))
                  (by intro n x hx hlt hp; (have hxz := zip_at hx); (have hcp := cntL_mem (List.mem_of_getElem? hxz.2)); (have hf := fun h => rfits_ok B T x.2 x.1 (tyT _ (List.mem_of_getElem? hxz.1)) (by omega) h); (have hlt' : n < ts.length := by omega); (have hpb : fitsP d x.1 x.2 = !(badF d x) := by simp [badF]); rw [hp] at hpb; all_goals (apply wq_ex.1; (simp only [hlt, hp, e13, iaR hr, iaP hxz.2, iaI hxz.1, pts, hf, hlt', hpb, wrap_succ (show n < 2 ^ 62 by omega), wz, opX, intBin, ↓reduceIte, simprocAttr] <;> repeat' (first | refine wpG_s ?_ ?_ | refine wpC_s ?_ ?_) <;> intro hgo <;> (try simp only [dq] at hgo) <;> simp only [hgo, hlt, hp, e13, iaR hr, iaP hxz.2, iaI hxz.1, pts, hf, hlt', hpb, wrap_succ (show n < 2 ^ 62 by omega), wz, opX, intBin, ↓reduceIte, simprocAttr]) <;> rfl))
                  (by apply wq_ex.1; (simp only [e13, hzl, wz, opX, intBin, ↓reduceIte, simprocAttr] <;> repeat' (first | refine wpG_s ?_ ?_ | refine wpC_s ?_ ?_) <;> intro hgo <;> (try simp only [dq] at hgo) <;> simp only [hgo, e13, hzl, wz, opX, intBin, ↓reduceIte, simprocAttr]) <;> rfl)
                  (by simp) (by simp)
              simp only [int, Zv.bool, Int.cast_ofNat_Int] at hloop
              exact hloop
            have hB := loop_any (T := tab) (a := f13l4) (l := l) (p := badR d ts) (f := fun n => [(0, .d (eDs d)), (1, .d (eIs ts)), (2, .d (eRs l)), (10, int n)]) (h := h)
              (o := (.ret, [(6, .d (.int .i64 10))], h)) (oN := (.exit 6, [(0, .d (eDs d)), (1, .d (eIs ts)), (2, .d (eRs l)), (10, .d (.int .i64 l.length)), (69, .d (.bool false))], h))
              (by
                intro n x hx hlt hp
                unfold badR at hp
                simp only [Bool.not_eq_false', Bool.and_eq_true, decide_eq_true_eq, Bool.not_eq_true'] at hp
                obtain ⟨hrl, hany⟩ := hp
                have hne : ((x.length : Int) != (ts.length : Int)) = false := by simp [hrl]
                have hin := inner n x hx hrl
                rw [hany, if_neg (by simp)] at hin
                apply wq_ex.1
                (simp only [e13, hlt, iaR hx, hne, wq_of hin, wrap_succ (show n < 2 ^ 62 by omega), wz, opX, intBin, ↓reduceIte, simprocAttr] <;> repeat' (first | refine wpG_s ?_ ?_ | refine wpC_s ?_ ?_) <;> intro hgo <;> (try simp only [dq] at hgo) <;> simp only [hgo, e13, hlt, iaR hx, hne, wq_of hin, wrap_succ (show n < 2 ^ 62 by omega), wz, opX, intBin, ↓reduceIte, simprocAttr]))
              (by
                intro n x hx hlt hp
                apply wq_ex.1
                by_cases hrl : x.length = ts.length
                · unfold badR at hp
                  rw [decide_eq_true hrl, Bool.true_and, Bool.not_not] at hp
                  have hne : ((x.length : Int) != (ts.length : Int)) = false := by simp [hrl]
                  have hin := inner n x hx hrl
                  rw [hp, if_pos rfl] at hin
                  (simp only [e13, hlt, iaR hx, hne, wq_of hin, wz, opX, intBin, ↓reduceIte, simprocAttr] <;> repeat' (first | refine wpG_s ?_ ?_ | refine wpC_s ?_ ?_) <;> intro hgo <;> (try simp only [dq] at hgo) <;> simp only [hgo, e13, hlt, iaR hx, hne, wq_of hin, wz, opX, intBin, ↓reduceIte, simprocAttr])
                · have hne : ((x.length : Int) != (ts.length : Int)) = true := by simp; omega
                  (simp only [e13, hlt, iaR hx, hne, wz, opX, intBin, ↓reduceIte, simprocAttr] <;> repeat' (first | refine wpG_s ?_ ?_ | refine wpC_s ?_ ?_) <;> intro hgo <;> (try simp only [dq] at hgo) <;> simp only [hgo, e13, hlt, iaR hx, hne, wz, opX, intBin, ↓reduceIte, simprocAttr]))
              (by apply wq_ex.1; (simp only [e13, wz, opX, intBin, ↓reduceIte, simprocAttr] <;> repeat' (first | refine wpG_s ?_ ?_ | refine wpC_s ?_ ?_) <;> intro hgo <;> (try simp only [dq] at hgo) <;> simp only [hgo, e13, wz, opX, intBin, ↓reduceIte, simprocAttr])) (by simp) (by simp)
            simp only [int, Int.cast_ofNat_Int] at hB
            cases hbr : l.any (badR d ts) with
            | true =>
              rw [hbr, if_pos rfl] at hB
              rw [if_pos rfl]
              (simp only [e13, hch, hC, h8', h64', wq_of hT, wq_of hA, wq_of hB, wz, opX, intBin, ↓reduceIte, simprocAttr] <;> repeat' (first | refine wpG_s ?_ ?_ | refine wpC_s ?_ ?_) <;> intro hgo <;> (try simp only [dq] at hgo) <;> simp only [hgo, e13, hch, hC, h8', h64', wq_of hT, wq_of hA, wq_of hB, wz, opX, intBin, ↓reduceIte, simprocAttr])
            | false =>
              rw [hbr, if_neg (by simp)] at hB
              rw [if_neg (by simp)]
              (simp only [e13, hch, hC, h8', h64', wq_of hT, wq_of hA, wq_of hB, wz, opX, intBin, ↓reduceIte, simprocAttr] <;> repeat' (first | refine wpG_s ?_ ?_ | refine wpC_s ?_ ?_) <;> intro hgo <;> (try simp only [dq] at hgo) <;> simp only [hgo, e13, hch, hC, h8', h64', wq_of hT, wq_of hA, wq_of hB, wz, opX, intBin, ↓reduceIte, simprocAttr])
  · rw [if_pos hC]
    have e : (checkS d != 0) = true := by simp [hC]
    (simp only [e13, hch, e, wz, opX, intBin, ↓reduceIte, simprocAttr] <;> repeat' (first | refine wpG_s ?_ ?_ | refine wpC_s ?_ ?_) <;> intro hgo <;> (try simp only [dq] at hgo) <;> simp only [hgo, e13, hch, e, wz, opX, intBin, ↓reduceIte, simprocAttr])
end Zc27
end
section
set_option linter.unusedSimpArgs false
set_option linter.unusedVariables false
set_option maxHeartbeats 4000000
namespace Zc27
open Go Zv Zs
theorem awake : callW tab 10 [] ⟨[], 0⟩ = some (.d (.bool true), ⟨[], 0⟩) := callW_of tab 200 (by kernel_rfl)
theorem awake_any {b : Hp} (L : Low b) : callW tab 10 [] b = some (.d (.bool true), b) := callW_any tabCl (xs := []) awake L
end Zc27
end
section
set_option linter.unusedSimpArgs false
set_option linter.unusedVariables false
set_option linter.unusedSimpArgs false
set_option maxHeartbeats 4000000
namespace Zc27
open Go Zv Zs

theorem okDs' {x : D} (h : ok (EE es) (.one (.l 0)) x) : ∃ a, x = eDs a ∧ a.length ≤ maxLen := by
  obtain ⟨l, rfl, hl, h2⟩ := ok_l h
  obtain ⟨xs, rfl⟩ := okEs_map (fun _ => okD) h2
  refine ⟨xs, rfl, ?_⟩
  rw [List.length_map] at hl
  exact hl
theorem okIs {x : D} (h : ok (EE es) (.one (.l 2)) x) : ∃ a, x = eIs a ∧ a.length ≤ maxLen := by
  obtain ⟨l, rfl, hl, h2⟩ := ok_l h
  obtain ⟨xs, rfl⟩ := okEs_map (fun _ => okI) h2
  refine ⟨xs, rfl, ?_⟩
  rw [List.length_map] at hl
  exact hl
mutual
theorem okP : ∀ (x : D), ok (EE es) (.st [.i .i64, .i .i64, .i .i64, .l 4]) x → ∃ p, x = ePt p
  | .agg [.int k a, .int k' b, .int k'' c, .lst qs], h => by
    simp only [ok, okCs] at h
    obtain ⟨⟨rfl, _⟩, ⟨rfl, _⟩, ⟨rfl, _⟩, ⟨_, hq⟩, _⟩ := h
    obtain ⟨ps, rfl⟩ := okPl qs hq
    exact ⟨.mk a b c ps, by rw [ePt_mk]⟩
  | x, h => by
    obtain ⟨l, rfl, h1⟩ := ok_st h
    obtain ⟨a, r, rfl, ha, h1⟩ := okCs_cons h1
    obtain ⟨b, r, rfl, hb, h1⟩ := okCs_cons h1
    obtain ⟨c, r, rfl, hc, h1⟩ := okCs_cons h1
    obtain ⟨q, r, rfl, hq, h1⟩ := okCs_cons h1
    obtain rfl := okCs_nil h1
    obtain ⟨k, rfl⟩ := okI ha
    obtain ⟨n, rfl⟩ := okI hb
    obtain ⟨m, rfl⟩ := okI hc
    obtain ⟨qs, rfl, _, hq2⟩ := ok_l hq
    obtain ⟨ps, rfl⟩ := okPl qs hq2
    exact ⟨.mk k n m ps, by rw [ePt_mk]⟩
termination_by x => sizeOf x
decreasing_by
  all_goals simp_wf
  all_goals subst_vars
  all_goals simp
  all_goals omega
theorem okPl : ∀ (l : List D), okEs (EE es) (EE es 4) l → ∃ ps : List Pt, l = ps.map ePt
  | [], _ => ⟨[], rfl⟩
  | x :: l, h => by
    simp only [okEs] at h
    obtain ⟨p, rfl⟩ := okP x h.1
    obtain ⟨ps, rfl⟩ := okPl l h.2
    exact ⟨p :: ps, rfl⟩
termination_by l => sizeOf l
end
theorem okPs {x : D} (h : ok (EE es) (.one (.l 4)) x) : ∃ a, x = ePs a ∧ a.length ≤ maxLen := by
  obtain ⟨l, rfl, hl, h2⟩ := ok_l h
  obtain ⟨xs, rfl⟩ := okPl l h2
  rw [List.length_map] at hl
  exact ⟨xs, rfl, hl⟩
theorem okRs {x : D} (h : ok (EE es) (.one (.l 3)) x) : ∃ a, x = eRs a ∧ a.length ≤ maxLen := by
  obtain ⟨l, rfl, hl, h2⟩ := ok_l h
  obtain ⟨xs, rfl⟩ := okEs_map (fun x hx => by obtain ⟨a, ha, _⟩ := okPs (x := x) hx; exact ⟨a, ha⟩) h2
  refine ⟨xs, rfl, ?_⟩
  rw [List.length_map] at hl
  exact hl
theorem Sml.bd {d : List Dt} (S : Sml d) : Bd d := ⟨by have := S.len; omega, fun y hy => by have := (S.ds y hy).2.1; omega, fun y hy c hc => by have := ((S.ds y hy).2.2 c hc).2; omega⟩
theorem Sml.nm {d : List Dt} (S : Sml d) : Nm d := fun y hy => ⟨by have := (S.ds y hy).1; omega, fun c hc => by have := ((S.ds y hy).2.2 c hc).1; omega⟩
theorem Few.rng {d : List Dt} {ts : List Int} {l : List (List Pt)} (F : Few d ts l) : Rng d ts l :=
  ⟨F.sml.bd, F.sml.nm, by have := F.ts; omega, by have := F.rows; omega, fun r hr => by have := sumC_mem hr; have := F.cnt; omega⟩
theorem Few.rows_ok {d : List Dt} {ts : List Int} {l : List (List Pt)} (F : Few d ts l) (h : Hp) : callW tab 12 [.d (eRs l)] h = some (cloV (some true) h.next 1 (l.map ePs), cloO h.objs h.next 1 (l.map ePs)) :=
  Zc27.rows_ok l (by have := F.rows; omega) (fun r hr => by have := sumC_mem hr; have := F.cnt; omega) h
end Zc27
end
section
set_option linter.unusedSimpArgs false
set_option linter.unusedVariables false
set_option linter.unusedSimpArgs false
set_option maxHeartbeats 4000000
namespace Zc27
open Go Zv Zs

def wildT : Pt := .mk 0 0 0 []
def kdP : Pt → Int | .mk k _ _ _ => k
def cnP : Pt → Int | .mk _ c _ _ => c
def nmP : Pt → Int | .mk _ _ n _ => n
theorem argsP_mk (k c n : Int) (qs : List Pt) : argsP (.mk k c n qs) = qs := rfl
theorem slc_tl {es : Nat} {x : D} {l : List D} (hl : ∀ y, y ∈ x :: l → y.cells.length = es) : slc es (.d (.lst (x :: l))) (some (.d (.int .i64 1))) none = some (.d (.lst l)) := by
  have h : Zv.allD es (x :: l) = true := by
    unfold Zv.allD
    exact List.all_eq_true.2 fun y hy => by simpa using hl y hy
  simp only [slc, bnd, Option.bind_some, ixOf, h]
  simp
theorem ptcells {l : List Pt} : ∀ y, y ∈ l.map ePt → y.cells.length = 4 := by
  intro y hy
  obtain ⟨p, _, rfl⟩ := List.mem_map.1 hy
  exact ePt_cells p
theorem iaP0 (p : Pt) (l : List Pt) : ia 4 (.d (ePs (p :: l))) (.d (.int .i64 0)) = some (.fp (ePt p) 0) := iaP (l := p :: l) (n := 0) rfl
theorem iaP0' (p : Pt) (l : List Pt) : ia 4 (.d (.lst (ePt p :: l.map ePt))) (.d (.int .i64 0)) = some (.fp (ePt p) 0) := iaP0 p l
theorem ePt_cs (k c n : Int) (qs : List Pt) : (ePt (.mk k c n qs)).cells = [.int .i64 k, .int .i64 c, .int .i64 n, .lst (qs.map ePt)] := by rw [ePt_mk]; rfl
theorem slcP' (p : Pt) (l : List Pt) : slc 4 (.d (ePs (p :: l))) (some (.d (.int .i64 1))) none = some (.d (ePs l)) :=
  slc_tl (l := l.map ePt) (by rw [← List.map_cons]; exact ptcells)
theorem slcP (p : Pt) (l : List Pt) : slc 4 (.d (.lst (ePt p :: l.map ePt))) (some (.d (.int .i64 1))) none = some (.d (.lst (l.map ePt))) :=
  slc_tl (l := l.map ePt) (by rw [← List.map_cons]; exact ptcells)
/-- A copy of patterns. -/
theorem cloneP_ok (l : List Pt) (hl : l.length ≤ 1000000) (h : Hp) : callW tab 78 [.d (ePs l)] h = some (cloV none h.next 4 (l.map ePt), cloO h.objs h.next 4 (l.map ePt)) := by
  refine call_wp (fn := f78) rfl rfl ?_
  have hb : wp tab b78 (args 0 [.d (ePs l)]) h (· = (.ret, [(2, cloV none h.next 4 (l.map ePt))], cloO h.objs h.next 4 (l.map ePt))) := by
    cases l with
    | nil =>
      have hn0 : nilBin NK.s BinOp.eql (.d (ePs [])) = some .ub := rfl
      have happ : app 4 48 h (.tl [] (some false)) (.d (.lst [])) = some (.tl [] (some false), h) := rfl
      (simp only [e78, wz, opX, intBin, ↓reduceIte, simprocAttr] <;> repeat' (first | refine wpG_s ?_ ?_ | refine wpC_s ?_ ?_) <;> intro hgo <;> (try simp only [dq] at hgo) <;> simp only [hgo, e78, wz, opX, intBin, ↓reduceIte, simprocAttr])
      refine wq_ex.2 (ex_ambU (e1 := [(0, .d (.lst [])), (4, .ub)]) (h1 := h) (o := (.ret, [(2, .tl [] (some true))], h)) (q := (.ret, [(2, .tl [] (some false))], h)) ?_ rfl ?_ ?_ ?_)
      · apply wq_ex.1; (simp only [e78, hn0, wz, opX, intBin, ↓reduceIte, simprocAttr] <;> repeat' (first | refine wpG_s ?_ ?_ | refine wpC_s ?_ ?_) <;> intro hgo <;> (try simp only [dq] at hgo) <;> simp only [hgo, e78, hn0, wz, opX, intBin, ↓reduceIte, simprocAttr])
        rfl
      · apply wq_ex.1; (simp only [e78, wz, opX, intBin, ↓reduceIte, simprocAttr] <;> repeat' (first | refine wpG_s ?_ ?_ | refine wpC_s ?_ ?_) <;> intro hgo <;> (try simp only [dq] at hgo) <;> simp only [hgo, e78, wz, opX, intBin, ↓reduceIte, simprocAttr])
      · apply wq_ex.1; (simp only [e78, happ, wz, opX, intBin, ↓reduceIte, simprocAttr] <;> repeat' (first | refine wpG_s ?_ ?_ | refine wpC_s ?_ ?_) <;> intro hgo <;> (try simp only [dq] at hgo) <;> simp only [hgo, e78, happ, wz, opX, intBin, ↓reduceIte, simprocAttr])
      · unfold outJoin
        rw [if_pos ⟨rfl, objsBeq_refl _, rfl⟩]
        rfl
    | cons p r =>
      have happ := tl_app (nl := some false) (es := 4) (b := 48) (h := h) (r := (p :: r).map ePt) ptcells (by simp only [roomB, List.length_map]; omega)
      rw [List.map_cons] at happ
      have hn0 : nilBin NK.s BinOp.eql (.d (ePs (p :: r))) = some (.d (.bool false)) := rfl
      (simp only [e78, wz, opX, intBin, ↓reduceIte, simprocAttr] <;> repeat' (first | refine wpG_s ?_ ?_ | refine wpC_s ?_ ?_) <;> intro hgo <;> (try simp only [dq] at hgo) <;> simp only [hgo, e78, wz, opX, intBin, ↓reduceIte, simprocAttr])
      refine wq_ex.2 (ex_ambD (e1 := [(0, .d (.lst ((p :: r).map ePt))), (4, .d (.bool false))]) (h1 := h) false ?_ rfl ?_)
      · apply wq_ex.1; (simp only [e78, hn0, wz, opX, intBin, ↓reduceIte, simprocAttr] <;> repeat' (first | refine wpG_s ?_ ?_ | refine wpC_s ?_ ?_) <;> intro hgo <;> (try simp only [dq] at hgo) <;> simp only [hgo, e78, hn0, wz, opX, intBin, ↓reduceIte, simprocAttr])
        rfl
      · apply wq_ex.1; (simp only [e78, happ, wz, opX, intBin, ↓reduceIte, simprocAttr] <;> repeat' (first | refine wpG_s ?_ ?_ | refine wpC_s ?_ ?_) <;> intro hgo <;> (try simp only [dq] at hgo) <;> simp only [hgo, e78, happ, wz, opX, intBin, ↓reduceIte, simprocAttr])
        rfl
  obtain ⟨o, h1, rfl⟩ := hb
  exact ⟨_, h1, rfl⟩
/-- A copy of types. -/
theorem tcells {l : List Int} : ∀ y, y ∈ l.map eI → y.cells.length = 1 := by
  intro y hy
  obtain ⟨p, _, rfl⟩ := List.mem_map.1 hy
  rfl
theorem cloneT_ok (l : List Int) (hl : l.length ≤ 1000000) (h : Hp) : callW tab 97 [.d (eIs l)] h = some (cloV none h.next 1 (l.map eI), cloO h.objs h.next 1 (l.map eI)) := by
  refine call_wp (fn := f97) rfl rfl ?_
  have hb : wp tab b97 (args 0 [.d (eIs l)]) h (· = (.ret, [(2, cloV none h.next 1 (l.map eI))], cloO h.objs h.next 1 (l.map eI))) := by
    cases l with
    | nil =>
      have hn0 : nilBin NK.s BinOp.eql (.d (eIs [])) = some .ub := rfl
      have happ : app 1 8 h (.tl [] (some false)) (.d (.lst [])) = some (.tl [] (some false), h) := rfl
      (simp only [e97, wz, opX, intBin, ↓reduceIte, simprocAttr] <;> repeat' (first | refine wpG_s ?_ ?_ | refine wpC_s ?_ ?_) <;> intro hgo <;> (try simp only [dq] at hgo) <;> simp only [hgo, e97, wz, opX, intBin, ↓reduceIte, simprocAttr])
      refine wq_ex.2 (ex_ambU (e1 := [(0, .d (.lst [])), (4, .ub)]) (h1 := h) (o := (.ret, [(2, .tl [] (some true))], h)) (q := (.ret, [(2, .tl [] (some false))], h)) ?_ rfl ?_ ?_ ?_)
      · apply wq_ex.1; (simp only [e97, hn0, wz, opX, intBin, ↓reduceIte, simprocAttr] <;> repeat' (first | refine wpG_s ?_ ?_ | refine wpC_s ?_ ?_) <;> intro hgo <;> (try simp only [dq] at hgo) <;> simp only [hgo, e97, hn0, wz, opX, intBin, ↓reduceIte, simprocAttr])
        rfl
      · apply wq_ex.1; (simp only [e97, wz, opX, intBin, ↓reduceIte, simprocAttr] <;> repeat' (first | refine wpG_s ?_ ?_ | refine wpC_s ?_ ?_) <;> intro hgo <;> (try simp only [dq] at hgo) <;> simp only [hgo, e97, wz, opX, intBin, ↓reduceIte, simprocAttr])
      · apply wq_ex.1; (simp only [e97, happ, wz, opX, intBin, ↓reduceIte, simprocAttr] <;> repeat' (first | refine wpG_s ?_ ?_ | refine wpC_s ?_ ?_) <;> intro hgo <;> (try simp only [dq] at hgo) <;> simp only [hgo, e97, happ, wz, opX, intBin, ↓reduceIte, simprocAttr])
      · unfold outJoin
        rw [if_pos ⟨rfl, objsBeq_refl _, rfl⟩]
        rfl
    | cons p r =>
      have happ := tl_app (nl := some false) (es := 1) (b := 8) (h := h) (r := (p :: r).map eI) tcells (by simp only [roomB, List.length_map]; omega)
      rw [List.map_cons] at happ
      have hn0 : nilBin NK.s BinOp.eql (.d (eIs (p :: r))) = some (.d (.bool false)) := rfl
      (simp only [e97, wz, opX, intBin, ↓reduceIte, simprocAttr] <;> repeat' (first | refine wpG_s ?_ ?_ | refine wpC_s ?_ ?_) <;> intro hgo <;> (try simp only [dq] at hgo) <;> simp only [hgo, e97, wz, opX, intBin, ↓reduceIte, simprocAttr])
      refine wq_ex.2 (ex_ambD (e1 := [(0, .d (.lst ((p :: r).map eI))), (4, .d (.bool false))]) (h1 := h) false ?_ rfl ?_)
      · apply wq_ex.1; (simp only [e97, hn0, wz, opX, intBin, ↓reduceIte, simprocAttr] <;> repeat' (first | refine wpG_s ?_ ?_ | refine wpC_s ?_ ?_) <;> intro hgo <;> (try simp only [dq] at hgo) <;> simp only [hgo, e97, hn0, wz, opX, intBin, ↓reduceIte, simprocAttr])
        rfl
      · apply wq_ex.1; (simp only [e97, happ, wz, opX, intBin, ↓reduceIte, simprocAttr] <;> repeat' (first | refine wpG_s ?_ ?_ | refine wpC_s ?_ ?_) <;> intro hgo <;> (try simp only [dq] at hgo) <;> simp only [hgo, e97, happ, wz, opX, intBin, ↓reduceIte, simprocAttr])
        rfl
  obtain ⟨o, h1, rfl⟩ := hb
  exact ⟨_, h1, rfl⟩
theorem iaI0 (t : Int) (ts : List Int) : ia 1 (.d (eIs (t :: ts))) (.d (.int .i64 0)) = some (.fp (eI t) 0) := iaI (l := t :: ts) (n := 0) rfl
theorem slcT' (p : Int) (l : List Int) : slc 1 (.d (eIs (p :: l))) (some (.d (.int .i64 1))) none = some (.d (eIs l)) :=
  slc_tl (l := l.map eI) (by rw [← List.map_cons]; exact tcells)
theorem slcT (p : Int) (l : List Int) : slc 1 (.d (.lst (eI p :: l.map eI))) (some (.d (.int .i64 1))) none = some (.d (.lst (l.map eI))) :=
  slc_tl (l := l.map eI) (by rw [← List.map_cons]; exact tcells)
/-- The types of the fields of a constructor, then the others. -/
theorem under_ok {d : List Dt} {n i : Nat} {y : Dt} {z : Cn} (hy : d[n]? = some y) (hz : y.cons[i]? = some z) (hd : d.length < 2 ^ 60) (ts : List Int) (hf : z.flds.length ≤ 8) (hl : ts.length ≤ 10000) (h : Hp) :
    callW tab 76 [.d (eDs d), .d (eIs (((n : Int) + 1) :: ts)), .d (eI (i : Int))] h = some (.d (eIs (z.flds ++ ts)), h) := by
  refine call_wp (fn := f76) rfl rfl ?_
  have hn := (List.getElem?_eq_some_iff.1 hy).1
  have hw := wrap_sub1 (n := n) (by omega)
  have hc := cloneT_ok z.flds (by omega) h
  have happ := clo_app (nl := none) (es := 1) (b := 8) (n := h.next) (o := h.objs) (l := z.flds.map eI) (r := ts.map eI) tcells tcells (by simp only [roomB, List.length_map]; omega)
  have hs := slcT ((n : Int) + 1) ts
  have hfin := finS_clo (h := h) (nl := none) (es := 1) (n := h.next) (l := z.flds.map eI ++ ts.map eI) (Nat.le_refl _)
  (simp only [e76, hw, iaI0, slcT', iaD hy, iaC hz, hc, hs, happ, hfin, wz, opX, intBin, ↓reduceIte, simprocAttr] <;> repeat' (first | refine wpG_s ?_ ?_ | refine wpC_s ?_ ?_) <;> intro hgo <;> (try simp only [dq] at hgo) <;> simp only [hgo, e76, hw, iaI0, slcT', iaD hy, iaC hz, hc, hs, happ, hfin, wz, opX, intBin, ↓reduceIte, simprocAttr])
  rw [List.map_append]
/-- What a row is for a constructor. -/
def spF (c : Int) (n : Nat) : List Pt → Option (List Pt)
  | [] => none
  | .mk k c' _ qs :: r => if k = 0 then some (List.replicate n wildT ++ r) else if k = 1 ∧ c' = c then some (qs ++ r) else none
def spS (c : Int) (n : Nat) (l : List (List Pt)) : List (List Pt) := l.filterMap (spF c n)
theorem replT (n : Nat) : (List.replicate n (V.d (.agg [.int .i64 0, .int .i64 0, .int .i64 0, .lst []]))) = ((List.replicate n wildT).map ePt).map V.d := by
  simp only [List.map_replicate]; rfl
theorem mkslP {n : Nat} (hn : n ≤ 1000) : mkslT (.d (.agg [.int .i64 0, .int .i64 0, .int .i64 0, .lst []])) 48 (.d (.int .i64 (n : Int))) = some (.tl (((List.replicate n wildT).map ePt).map V.d) (some false)) := by
  unfold mkslT
  rw [ixOf_nat, Option.bind_some, if_pos ⟨by simp only [roomB]; omega, by omega⟩, replT]
theorem appd_tl {es b : Nat} {l r : List D} {nl : Option Bool} (hl : ∀ y, y ∈ l → y.cells.length = es) (hr : ∀ y, y ∈ r → y.cells.length = es) (hb : (l.length + r.length) * b ≤ roomB) : appd es b (.tl (l.map V.d) nl) (.d (.lst r)) = some (.d (.lst (l ++ r))) := by
  simp only [appd, elems0, Option.bind_some, allV_d hr, if_true, norm_map_d]
  by_cases h0 : r = []
  · subst h0
    simp [toD, toDs_map]
  · have he : (r.map V.d).isEmpty = false := by cases r with | nil => exact absurd rfl h0 | cons => rfl
    simp only [he, Bool.false_eq_true, if_false, List.length_map]
    rw [if_pos ⟨hb, allV_d hl⟩, ← List.map_append, toDs_map]
    rfl
theorem special_ok (c : Int) (n0 : Nat) (hn0 : n0 ≤ 1000) (l : List (List Pt)) (hl : l.length ≤ 1000) (hr : ∀ r, r ∈ l → r ≠ [] ∧ r.length ≤ 10000 ∧ ∀ p, p ∈ r → (argsP p).length ≤ 10000) (h : Hp) :
    callW tab 77 [.d (eRs l), .d (eI c), .d (.int .i64 (n0 : Int))] h = some (.d (eRs (spS c n0 l)), h) := by
  refine call_wp (fn := f77) rfl rfl ?_
  obtain ⟨m, q, hm, hq, hloop⟩ := loop_acc (T := tab) (a := f77l0) (l := l) (fun _ => spF c n0) ePs 1 24 (fun n r => [(1, .d (eI c)), (2, .d (.int .i64 (n0 : Int))), (7, r), (11, .d (eRs l)), (12, .d (.int .i64 (l.length : Int))), (13, .d (.int .i64 (n : Int)))]) (h := h) (n0 := h.next) (x1 := .exit 0) (e1 := fun r => [(1, .d (eI c)), (2, .d (.int .i64 (n0 : Int))), (7, r), (11, .d (eRs l)), (12, .d (.int .i64 (l.length : Int))), (13, .d (.int .i64 (l.length : Int))), (14, .d (.bool false))]) (Nat.le_refl _)
    (fun _ => rfl) (by simp only [roomB]; omega)
    (by
      intro n x s m q hx hlt hs hsl hG
      obtain ⟨hne, hxl, hxa⟩ := hr x (List.mem_of_getElem? hx)
      obtain ⟨p, r, rfl⟩ := List.exists_cons_of_ne_nil hne
      obtain ⟨k, c', m', qs⟩ := p
      simp only [spF] at hG
      by_cases k0 : k = 0
      · rw [if_pos k0] at hG; cases hG
      · rw [if_neg k0] at hG
        by_cases k1 : k = 1
        · by_cases c1 : c' = c
          · rw [if_pos ⟨k1, c1⟩] at hG; cases hG
          · (simp only [hlt, e77, iaR hx, iaP0, iaP0', ePt_cs, ibeq, k0, k1, c1, rowQ_next, rowQ_mk, wrap_succ (show n < 2 ^ 62 by omega), wz, opX, intBin, ↓reduceIte, simprocAttr] <;> repeat' (first | refine wpG_s ?_ ?_ | refine wpC_s ?_ ?_) <;> intro hgo <;> (try simp only [dq] at hgo) <;> simp only [hgo, hlt, e77, iaR hx, iaP0, iaP0', ePt_cs, ibeq, k0, k1, c1, rowQ_next, rowQ_mk, wrap_succ (show n < 2 ^ 62 by omega), wz, opX, intBin, ↓reduceIte, simprocAttr])
            exact ⟨_, rfl, by omega⟩
        · (simp only [hlt, e77, iaR hx, iaP0, iaP0', ePt_cs, ibeq, k0, k1, rowQ_next, rowQ_mk, wrap_succ (show n < 2 ^ 62 by omega), wz, opX, intBin, ↓reduceIte, simprocAttr] <;> repeat' (first | refine wpG_s ?_ ?_ | refine wpC_s ?_ ?_) <;> intro hgo <;> (try simp only [dq] at hgo) <;> simp only [hgo, hlt, e77, iaR hx, iaP0, iaP0', ePt_cs, ibeq, k0, k1, rowQ_next, rowQ_mk, wrap_succ (show n < 2 ^ 62 by omega), wz, opX, intBin, ↓reduceIte, simprocAttr])
          exact ⟨_, rfl, by omega⟩)
    (by
      intro n x y s m q hx hlt hs hsl hG happ
      obtain ⟨hne, hxl, hxa⟩ := hr x (List.mem_of_getElem? hx)
      obtain ⟨p, r, rfl⟩ := List.exists_cons_of_ne_nil hne
      have hqa := hxa p (by simp)
      have hrl : r.length ≤ 10000 := by simp at hxl; omega
      obtain ⟨k, c', m', qs⟩ := p
      rw [argsP_mk] at hqa
      simp only [spF] at hG
      by_cases k0 : k = 0
      · rw [if_pos k0] at hG
        cases hG
        have h1 := mkslP hn0
        have h2 := appd_tl (es := 4) (b := 48) (l := (List.replicate n0 wildT).map ePt) (r := r.map ePt) (nl := some false) ptcells ptcells (by simp only [List.length_map, List.length_replicate, roomB]; omega)
        rw [← List.map_append] at h2
        (simp only [hlt, e77, iaR hx, iaP0, iaP0', slcP', slcP, ePt_cs, ibeq, k0, h1, h2, happ, rowQ_next, rowQ_mk, wrap_succ (show n < 2 ^ 62 by omega), wz, opX, intBin, ↓reduceIte, simprocAttr] <;> repeat' (first | refine wpG_s ?_ ?_ | refine wpC_s ?_ ?_) <;> intro hgo <;> (try simp only [dq] at hgo) <;> simp only [hgo, hlt, e77, iaR hx, iaP0, iaP0', slcP', slcP, ePt_cs, ibeq, k0, h1, h2, happ, rowQ_next, rowQ_mk, wrap_succ (show n < 2 ^ 62 by omega), wz, opX, intBin, ↓reduceIte, simprocAttr])
        exact ⟨_, _, ⟨rfl, rfl⟩, by omega, Nat.le_refl _⟩
      · rw [if_neg k0] at hG
        by_cases k1 : k = 1
        · by_cases c1 : c' = c
          · rw [if_pos ⟨k1, c1⟩] at hG
            cases hG
            have h1 := fun h => cloneP_ok qs (by omega) h
            have h2 := fun (n : Nat) (o : List (Nat × Ob)) => clo_app (nl := none) (es := 4) (b := 48) (n := n) (o := o) (l := qs.map ePt) (r := r.map ePt) ptcells ptcells (by simp only [List.length_map, roomB]; omega)
            rw [← List.map_append] at h2
            have h3 := fun (n : Nat) (o : List (Nat × Ob)) => clo_frz (nl := none) (es := 4) (n := n) (o := o) (l := (qs ++ r).map ePt)
            (simp only [hlt, e77, iaR hx, iaP0, iaP0', slcP', slcP, ePt_cs, ibeq, k0, k1, c1, h1, h2, h3, happ, rowQ_next, rowQ_mk, wrap_succ (show n < 2 ^ 62 by omega), wz, opX, intBin, ↓reduceIte, simprocAttr] <;> repeat' (first | refine wpG_s ?_ ?_ | refine wpC_s ?_ ?_) <;> intro hgo <;> (try simp only [dq] at hgo) <;> simp only [hgo, hlt, e77, iaR hx, iaP0, iaP0', slcP', slcP, ePt_cs, ibeq, k0, k1, c1, h1, h2, h3, happ, rowQ_next, rowQ_mk, wrap_succ (show n < 2 ^ 62 by omega), wz, opX, intBin, ↓reduceIte, simprocAttr])
            exact ⟨_, _, ⟨rfl, rfl⟩, by split <;> omega, Nat.le_refl _⟩
          · rw [if_neg (fun e => c1 e.2)] at hG; cases hG
        · rw [if_neg (fun e => k1 e.1)] at hG; cases hG)
    (by
      intro m q
      (simp only [e77, wz, opX, intBin, ↓reduceIte, simprocAttr] <;> repeat' (first | refine wpG_s ?_ ?_ | refine wpC_s ?_ ?_) <;> intro hgo <;> (try simp only [dq] at hgo) <;> simp only [hgo, e77, wz, opX, intBin, ↓reduceIte, simprocAttr])
      exact ⟨_, rfl, by omega⟩)
    (by simp)
  rw [accL_fm] at hloop hm
  simp only [Int.cast_ofNat_Int] at hloop
  have hfm : l.filterMap (spF c n0) = spS c n0 l := rfl
  rw [hfm] at hloop hm
  have hfin := finS_rowQ (h := h) (m := m) (es := 1) (s := (spS c n0 l).map ePs) (q := q) (fun e => (hm e).1)
  (simp only [e77, wq_of hloop, hfin, wz, opX, intBin, ↓reduceIte, simprocAttr] <;> repeat' (first | refine wpG_s ?_ ?_ | refine wpC_s ?_ ?_) <;> intro hgo <;> (try simp only [dq] at hgo) <;> simp only [hgo, e77, wq_of hloop, hfin, wz, opX, intBin, ↓reduceIte, simprocAttr])
end Zc27
end
section
set_option linter.unusedSimpArgs false
set_option linter.unusedVariables false
set_option linter.unusedSimpArgs false
set_option maxHeartbeats 4000000
namespace Zc27
open Go Zv Zs

def restF (keep : Pt → Bool) : List Pt → Option (List Pt)
  | [] => none
  | p :: r => if keep p = true then some r else none
def restS (keep : Pt → Bool) (l : List (List Pt)) : List (List Pt) := l.filterMap (restF keep)
theorem rests_ok (cv : V) (keep : Pt → Bool) (hcv : norm cv = cv) (l : List (List Pt)) (hl : l.length ≤ 1000) (hr : ∀ r, r ∈ l → r ≠ []) (hc : ∀ p r, (p :: r) ∈ l → ∀ h, cW tab cv [.d (ePt p)] h = some (.d (.bool (keep p)), h)) (h : Hp) :
    callW tab 79 [.d (eRs l), cv] h = some (.d (eRs (restS keep l)), h) := by
  refine call_wp (fn := f79) rfl rfl ?_
  obtain ⟨m, q, hm, hq, hloop⟩ := loop_acc (T := tab) (a := f79l0) (l := l) (fun _ => restF keep) ePs 1 24 (fun n r => [(1, cv), (5, r), (8, .d (eRs l)), (9, .d (.int .i64 (l.length : Int))), (10, .d (.int .i64 (n : Int)))]) (h := h) (n0 := h.next) (x1 := .exit 0) (e1 := fun r => [(1, cv), (5, r), (8, .d (eRs l)), (9, .d (.int .i64 (l.length : Int))), (10, .d (.int .i64 (l.length : Int))), (11, .d (.bool false))]) (Nat.le_refl _)
    (fun _ => rfl) (by simp only [roomB]; omega)
    (by
      intro n x s m q hx hlt hs hsl hG
      have hmem := List.mem_of_getElem? hx
      obtain ⟨p, r, rfl⟩ := List.exists_cons_of_ne_nil (hr x hmem)
      have hcall := hc p r hmem
      simp only [restF] at hG
      have hk : keep p = false := by
        cases hk : keep p with
        | false => rfl
        | true => rw [if_pos hk] at hG; cases hG
      (simp only [hlt, e79, iaR hx, iaP0, iaP0', pts, hcall, hk, rowQ_next, rowQ_mk, wrap_succ (show n < 2 ^ 62 by omega), wz, opX, intBin, ↓reduceIte, simprocAttr] <;> repeat' (first | refine wpG_s ?_ ?_ | refine wpC_s ?_ ?_) <;> intro hgo <;> (try simp only [dq] at hgo) <;> simp only [hgo, hlt, e79, iaR hx, iaP0, iaP0', pts, hcall, hk, rowQ_next, rowQ_mk, wrap_succ (show n < 2 ^ 62 by omega), wz, opX, intBin, ↓reduceIte, simprocAttr])
      exact ⟨_, rfl, by omega⟩)
    (by
      intro n x y s m q hx hlt hs hsl hG happ
      have hmem := List.mem_of_getElem? hx
      obtain ⟨p, r, rfl⟩ := List.exists_cons_of_ne_nil (hr x hmem)
      have hcall := hc p r hmem
      simp only [restF] at hG
      have hk : keep p = true := by
        cases hk : keep p with
        | true => rfl
        | false => rw [hk] at hG; cases hG
      rw [if_pos hk] at hG
      cases hG
      (simp only [hlt, e79, iaR hx, iaP0, iaP0', slcP, slcP', pts, hcall, hk, happ, rowQ_next, rowQ_mk, wrap_succ (show n < 2 ^ 62 by omega), wz, opX, intBin, ↓reduceIte, simprocAttr] <;> repeat' (first | refine wpG_s ?_ ?_ | refine wpC_s ?_ ?_) <;> intro hgo <;> (try simp only [dq] at hgo) <;> simp only [hgo, hlt, e79, iaR hx, iaP0, iaP0', slcP, slcP', pts, hcall, hk, happ, rowQ_next, rowQ_mk, wrap_succ (show n < 2 ^ 62 by omega), wz, opX, intBin, ↓reduceIte, simprocAttr])
      exact ⟨_, _, ⟨rfl, rfl⟩, by omega, Nat.le_refl _⟩)
    (by
      intro m q
      (simp only [e79, wz, opX, intBin, ↓reduceIte, simprocAttr] <;> repeat' (first | refine wpG_s ?_ ?_ | refine wpC_s ?_ ?_) <;> intro hgo <;> (try simp only [dq] at hgo) <;> simp only [hgo, e79, wz, opX, intBin, ↓reduceIte, simprocAttr])
      exact ⟨_, rfl, by omega⟩)
    (by simp)
  rw [accL_fm] at hloop hm
  simp only [Int.cast_ofNat_Int] at hloop
  have hfm : l.filterMap (restF keep) = restS keep l := rfl
  rw [hfm] at hloop hm
  have hfin := finS_rowQ (h := h) (m := m) (es := 1) (s := (restS keep l).map ePs) (q := q) (fun e => (hm e).1)
  (simp only [e79, hcv, wq_of hloop, hfin, wz, opX, intBin, ↓reduceIte, simprocAttr] <;> repeat' (first | refine wpG_s ?_ ?_ | refine wpC_s ?_ ?_) <;> intro hgo <;> (try simp only [dq] at hgo) <;> simp only [hgo, e79, hcv, wq_of hloop, hfin, wz, opX, intBin, ↓reduceIte, simprocAttr])
end Zc27
end
section
set_option linter.unusedSimpArgs false
set_option linter.unusedVariables false
set_option linter.unusedSimpArgs false
set_option maxHeartbeats 4000000
namespace Zc27
open Go Zv Zs

def sameP (a b : Pt) : Bool := decide (kdP a = kdP b) && decide (cnP a = cnP b) && decide (nmP a = nmP b)
/-- The heads of the first column. -/
def hdG (s : List Pt) : List Pt → Option Pt
  | [] => none
  | p :: _ => if (decide (kdP p = 0) || s.any fun q => sameP q p) = true then none else some p
def headsS (l : List (List Pt)) : List Pt := accL hdG l
theorem ePt_k (p : Pt) : (ePt p).cells[0]? = some (.int .i64 (kdP p)) := by obtain ⟨k, c, n, qs⟩ := p; rw [ePt_cs]; rfl
end Zc27
end
section
set_option linter.unusedSimpArgs false
set_option linter.unusedVariables false
set_option linter.unusedSimpArgs false
set_option maxHeartbeats 4000000
namespace Zc27
open Go Zv Zs

def wildP (p : Pt) : Bool := decide (kdP p = 0)
theorem ePt_3 (p : Pt) : (ePt p).cells[3]? = some (.lst ((argsP p).map ePt)) := by obtain ⟨k, c, n, qs⟩ := p; rw [ePt_cs]; rfl
end Zc27
end
section
set_option linter.unusedSimpArgs false
set_option linter.unusedVariables false
set_option linter.unusedSimpArgs false
set_option maxHeartbeats 4000000
namespace Zc27
open Go Zv Zs

/-- A set of numbers as a map's entries. -/
def kvB (s : List Int) : List (D × V) := s.map fun c => (eI c, .d (.bool true))
def addI (s : List Int) (c : Int) : List Int := if c ∈ s then s else s ++ [c]
theorem putK_B (c : Int) : ∀ s : List Int, putK .i (eI c) (.d (.bool true)) (kvB s) = some (kvB (addI s c))
  | [] => rfl
  | x :: s => by
    show (match keyEq .i (eI c) (eI x) with
      | some true => some ((eI c, V.d (.bool true)) :: kvB s)
      | some false => (putK .i (eI c) (.d (.bool true)) (kvB s)).map fun s => (eI x, V.d (.bool true)) :: s
      | none => none) = _
    by_cases h : c = x
    · subst h
      simp [keyEq, addI, kvB]
    · have h1 : (c == x) = false := by simpa using h
      simp only [keyEq, if_true, h1, putK_B c s, Option.map_some]
      unfold addI
      by_cases h2 : c ∈ s
      · rw [if_pos h2, if_pos (List.mem_cons_of_mem x h2)]; rfl
      · rw [if_neg h2, if_neg (by simp [h, h2])]; rfl
theorem findK_B (c : Int) : ∀ s : List Int, findK .i (eI c) (kvB s) = some (if c ∈ s then some (.d (.bool true)) else none)
  | [] => rfl
  | x :: s => by
    show (match keyEq .i (eI c) (eI x) with
      | some true => some (some (V.d (.bool true)))
      | some false => findK .i (eI c) (kvB s)
      | none => none) = _
    by_cases h : c = x
    · subst h
      simp [keyEq]
    · have h1 : (c == x) = false := by simpa using h
      simp only [keyEq, if_true, h1, findK_B c s]
      simp [h]
def HM2 (o : List (Nat × Ob)) (n : Nat) (A B : List Int) : Hp := ⟨(n + 1, .mp (kvB B)) :: (n, .mp (kvB A)) :: o, n + 2⟩
theorem HM2_muA (o : List (Nat × Ob)) (n : Nat) (A B : List Int) (c : Int) : mu .i (HM2 o n A B) (.map n) (.d (.int .i64 c)) (.d (.bool true)) = some (HM2 o n (addI A c) B) := by
  unfold mu HM2
  have hg : (⟨(n + 1, .mp (kvB B)) :: (n, .mp (kvB A)) :: o, n + 2⟩ : Hp).get n = some (.mp (kvB A)) := by
    unfold Hp.get; simp [Zv.look]
  have hp := putK_B c A
  simp only [hg, stor_d, if_true, norm_d, hp, Option.map_some]
  simp [Hp.set, upd]
theorem HM2_muB (o : List (Nat × Ob)) (n : Nat) (A B : List Int) (c : Int) : mu .i (HM2 o n A B) (.map (n + 1)) (.d (.int .i64 c)) (.d (.bool true)) = some (HM2 o n A (addI B c)) := by
  unfold mu HM2
  have hg : (⟨(n + 1, .mp (kvB B)) :: (n, .mp (kvB A)) :: o, n + 2⟩ : Hp).get (n + 1) = some (.mp (kvB B)) := by
    unfold Hp.get; simp [Zv.look]
  have hp := putK_B c B
  simp only [hg, stor_d, if_true, norm_d, hp, Option.map_some]
  simp [Hp.set, upd]
def cG (A : List Int) : List Pt → List Int
  | [] => A
  | p :: _ => if kdP p = 1 then addI A (cnP p) else A
def nG (B : List Int) : List Pt → List Int
  | [] => B
  | p :: _ => if kdP p = 2 then addI B (nmP p) else B
def consS (l : List (List Pt)) : List Int := l.foldl cG []
def numsS (l : List (List Pt)) : List Int := l.foldl nG []
theorem fold2 : ∀ (l : List (List Pt)) (A B : List Int), l.foldl (fun (s : List Int × List Int) r => (cG s.1 r, nG s.2 r)) (A, B) = (l.foldl cG A, l.foldl nG B)
  | [], A, B => rfl
  | r :: l, A, B => by rw [List.foldl_cons, fold2 l]; rfl
theorem ePt_1 (p : Pt) : (ePt p).cells[1]? = some (.int .i64 (cnP p)) := by obtain ⟨k, c, n, qs⟩ := p; rw [ePt_cs]; rfl
theorem ePt_2 (p : Pt) : (ePt p).cells[2]? = some (.int .i64 (nmP p)) := by obtain ⟨k, c, n, qs⟩ := p; rw [ePt_cs]; rfl
theorem heads_ok (l : List (List Pt)) (hl : l.length ≤ 1000) (hr : ∀ r, r ∈ l → r ≠ []) (h : Hp) :
    callW tab 82 [.d (eRs l)] h = some (.tup [.map h.next, .map (h.next + 1)], HM2 h.objs h.next (consS l) (numsS l)) := by
  refine call_wp (fn := f82) rfl rfl ?_
  have hloop := loop_fold (T := tab) (a := f82l0) (l := l) (fun n (_ : List Int × List Int) => [(4, .map h.next), (5, .map (h.next + 1)), (10, .d (eRs l)), (11, .d (.int .i64 (l.length : Int))), (12, .d (.int .i64 (n : Int)))]) (fun _ s => HM2 h.objs h.next s.1 s.2) (fun _ _ => True) (fun s r => (cG s.1 r, nG s.2 r))
    (fun s => (.exit 0, [(4, .map h.next), (5, .map (h.next + 1)), (10, .d (eRs l)), (11, .d (.int .i64 (l.length : Int))), (12, .d (.int .i64 (l.length : Int))), (13, .d (.bool false))], HM2 h.objs h.next s.1 s.2))
    (by
      intro n s x hx hlt _
      refine ⟨?_, trivial⟩
      obtain ⟨p, r, rfl⟩ := List.exists_cons_of_ne_nil (hr x (List.mem_of_getElem? hx))
      apply wq_ex.1
      simp only [cG, nG]
      by_cases k1 : kdP p = 1
      · have k2 : ¬ kdP p = 2 := by omega
        (simp only [hlt, e82, iaR hx, iaP0, iaP0', pts, ePt_k, ePt_1, ibeq, k1, k2, HM2_muA, wrap_succ (show n < 2 ^ 62 by omega), wz, opX, intBin, ↓reduceIte, simprocAttr] <;> repeat' (first | refine wpG_s ?_ ?_ | refine wpC_s ?_ ?_) <;> intro hgo <;> (try simp only [dq] at hgo) <;> simp only [hgo, hlt, e82, iaR hx, iaP0, iaP0', pts, ePt_k, ePt_1, ibeq, k1, k2, HM2_muA, wrap_succ (show n < 2 ^ 62 by omega), wz, opX, intBin, ↓reduceIte, simprocAttr])
      · by_cases k2 : kdP p = 2
        · (simp only [hlt, e82, iaR hx, iaP0, iaP0', pts, ePt_k, ePt_2, ibeq, k1, k2, HM2_muB, wrap_succ (show n < 2 ^ 62 by omega), wz, opX, intBin, ↓reduceIte, simprocAttr] <;> repeat' (first | refine wpG_s ?_ ?_ | refine wpC_s ?_ ?_) <;> intro hgo <;> (try simp only [dq] at hgo) <;> simp only [hgo, hlt, e82, iaR hx, iaP0, iaP0', pts, ePt_k, ePt_2, ibeq, k1, k2, HM2_muB, wrap_succ (show n < 2 ^ 62 by omega), wz, opX, intBin, ↓reduceIte, simprocAttr])
        · (simp only [hlt, e82, iaR hx, iaP0, iaP0', pts, ePt_k, ibeq, k1, k2, wrap_succ (show n < 2 ^ 62 by omega), wz, opX, intBin, ↓reduceIte, simprocAttr] <;> repeat' (first | refine wpG_s ?_ ?_ | refine wpC_s ?_ ?_) <;> intro hgo <;> (try simp only [dq] at hgo) <;> simp only [hgo, hlt, e82, iaR hx, iaP0, iaP0', pts, ePt_k, ibeq, k1, k2, wrap_succ (show n < 2 ^ 62 by omega), wz, opX, intBin, ↓reduceIte, simprocAttr]))
    (by
      intro s _
      apply wq_ex.1
      (simp only [e82, wz, opX, intBin, ↓reduceIte, simprocAttr] <;> repeat' (first | refine wpG_s ?_ ?_ | refine wpC_s ?_ ?_) <;> intro hgo <;> (try simp only [dq] at hgo) <;> simp only [hgo, e82, wz, opX, intBin, ↓reduceIte, simprocAttr]))
    (by intro s; simp) ([], []) trivial
  rw [fold2] at hloop
  simp only [Int.cast_ofNat_Int] at hloop
  have e0 : HM2 h.objs h.next [] [] = ⟨(h.next + 1, .mp []) :: (h.next, .mp []) :: h.objs, h.next + 1 + 1⟩ := rfl
  rw [e0] at hloop
  (simp only [e82, wq_of hloop, wz, opX, intBin, ↓reduceIte, simprocAttr] <;> repeat' (first | refine wpG_s ?_ ?_ | refine wpC_s ?_ ?_) <;> intro hgo <;> (try simp only [dq] at hgo) <;> simp only [hgo, e82, wq_of hloop, wz, opX, intBin, ↓reduceIte, simprocAttr])
  rfl
end Zc27
end
section
set_option linter.unusedSimpArgs false
set_option linter.unusedVariables false
set_option linter.unusedSimpArgs false
set_option maxHeartbeats 4000000
namespace Zc27
open Go Zv Zs

/-! ### Weights -/
mutual
def nwP : Pt → Nat
  | .mk k _ _ qs => if k = 0 then 0 else 1 + nwL qs
def nwL : List Pt → Nat
  | [] => 0
  | p :: r => nwP p + nwL r
end
def nwS : List (List Pt) → Nat
  | [] => 0
  | r :: l => nwL r + nwS l
theorem nwL_app : ∀ (a b : List Pt), nwL (a ++ b) = nwL a + nwL b
  | [], b => by simp [nwL]
  | p :: a, b => by rw [List.cons_append, nwL, nwL, nwL_app a b]; omega
theorem nwL_wild : ∀ n : Nat, nwL (List.replicate n wildT) = 0
  | 0 => rfl
  | n + 1 => by rw [List.replicate_succ, nwL, nwL_wild n]; simp [wildT, nwP]
theorem spF_nw {c : Int} {n : Nat} {r r' : List Pt} (h : spF c n r = some r') : nwL r' ≤ nwL r ∧ (∀ p s, r = p :: s → kdP p = 1 → nwL r' + 1 ≤ nwL r) := by
  cases r with
  | nil => cases h
  | cons p s =>
    obtain ⟨k, c', m, qs⟩ := p
    simp only [spF] at h
    by_cases k0 : k = 0
    · rw [if_pos k0] at h
      cases h
      refine ⟨by rw [nwL_app, nwL_wild, nwL]; omega, ?_⟩
      intro p s' e k1
      cases e
      simp only [kdP] at k1
      omega
    · rw [if_neg k0] at h
      split at h
      · cases h
        have e : nwL (qs ++ s) + 1 = nwL (.mk k c' m qs :: s) := by rw [nwL_app, nwL, nwP, if_neg k0]; omega
        exact ⟨by omega, fun _ _ _ _ => by omega⟩
      · cases h
theorem spS_nw (c : Int) (n : Nat) : ∀ l : List (List Pt), nwS (spS c n l) ≤ nwS l
  | [] => Nat.le_refl _
  | r :: l => by
    have ih := spS_nw c n l
    unfold spS at ih ⊢
    rw [List.filterMap_cons, nwS]
    cases h : spF c n r with
    | none => simp only; omega
    | some r' => have := (spF_nw h).1; simp only [nwS]; omega
theorem spS_nw1 (c : Int) (n : Nat) : ∀ l : List (List Pt), (∃ p s, (p :: s) ∈ l ∧ kdP p = 1 ∧ cnP p = c) → nwS (spS c n l) + 1 ≤ nwS l
  | [], ⟨_, _, h, _⟩ => by cases h
  | r :: l, ⟨p, s, hm, k1, c1⟩ => by
    rcases List.mem_cons.1 hm with e | hm
    · subst e
      have ih := spS_nw c n l
      unfold spS at ih ⊢
      rw [List.filterMap_cons, nwS]
      cases h : spF c n (p :: s) with
      | none =>
        obtain ⟨k, c', m, qs⟩ := p
        simp only [kdP] at k1
        simp only [cnP] at c1
        simp only [spF, k1, c1] at h
        simp at h
      | some r' => have := (spF_nw h).2 p s rfl k1; simp only [nwS]; omega
    · have ih := spS_nw1 c n l ⟨p, s, hm, k1, c1⟩
      unfold spS at ih ⊢
      rw [List.filterMap_cons, nwS]
      cases h : spF c n r with
      | none => simp only; omega
      | some r' => have := (spF_nw h).1; simp only [nwS]; omega
theorem restF_nw {keep : Pt → Bool} {r r' : List Pt} (h : restF keep r = some r') : nwL r' ≤ nwL r := by
  cases r with
  | nil => cases h
  | cons p s =>
    simp only [restF] at h
    split at h
    · cases h; rw [nwL]; omega
    · cases h
theorem restS_nw (keep : Pt → Bool) : ∀ l : List (List Pt), nwS (restS keep l) ≤ nwS l
  | [] => Nat.le_refl _
  | r :: l => by
    have ih := restS_nw keep l
    unfold restS at ih ⊢
    rw [List.filterMap_cons, nwS]
    cases h : restF keep r with
    | none => simp only; omega
    | some r' => have := restF_nw h; simp only [nwS]; omega
theorem fm_len {α β : Type} (f : α → Option β) (l : List α) : (l.filterMap f).length ≤ l.length := List.length_filterMap_le f l

/-! ### Rows that fit -/
def fldsOf (d : List Dt) (t : Int) (i : Nat) : List Int := match (consOf d t)[i]? with
  | some z => z.flds
  | none => []
def fitR (d : List Dt) : List Int → List Pt → Bool
  | [], [] => true
  | t :: ts, p :: r => fitsP d t p && fitR d ts r
  | _, _ => false
theorem fitR_len {d : List Dt} : ∀ {ts : List Int} {r : List Pt}, fitR d ts r = true → r.length = ts.length
  | [], [], _ => rfl
  | t :: ts, p :: r, h => by
    simp only [fitR, Bool.and_eq_true] at h
    rw [List.length_cons, List.length_cons, fitR_len h.2]
  | [], _ :: _, h => by cases h
  | _ :: _, [], h => by cases h
theorem fitR_app {d : List Dt} : ∀ {fs ts : List Int} {qs r : List Pt}, fitR d fs qs = true → fitR d ts r = true → fitR d (fs ++ ts) (qs ++ r) = true
  | [], ts, [], r, _, h => h
  | f :: fs, ts, q :: qs, r, h, h' => by
    simp only [fitR, Bool.and_eq_true] at h
    simp only [List.cons_append, fitR, Bool.and_eq_true]
    exact ⟨h.1, fitR_app h.2 h'⟩
  | [], _, _ :: _, _, h, _ => by cases h
  | _ :: _, _, [], _, h, _ => by cases h
theorem fits_wild (d : List Dt) (t : Int) : fitsP d t wildT = true := by
  unfold wildT; rw [fitsP]; rfl
theorem fitR_wild (d : List Dt) : ∀ fs : List Int, fitR d fs (List.replicate fs.length wildT) = true
  | [] => rfl
  | f :: fs => by
    rw [List.length_cons, List.replicate_succ, fitR, fits_wild, fitR_wild d fs]; rfl
theorem fitR_of_L {d : List Dt} : ∀ {fs : List Int} {qs : List Pt}, fs.length = qs.length → fitsL d fs qs = true → fitR d fs qs = true
  | [], [], _, _ => rfl
  | f :: fs, q :: qs, hl, h => by
    simp only [fitsL, Bool.and_eq_true] at h
    simp only [fitR, Bool.and_eq_true]
    exact ⟨h.1, fitR_of_L (by simpa using hl) h.2⟩
  | [], _ :: _, h, _ => by cases h
  | _ :: _, [], h, _ => by cases h
/-- What a pattern that fits is. -/
theorem fits_cases {d : List Dt} {t k c m : Int} {qs : List Pt} (h : fitsP d t (.mk k c m qs) = true) :
    (k = 0 ∧ c = 0 ∧ m = 0 ∧ qs = []) ∨ (k = 2 ∧ t = 0 ∧ c = 0 ∧ qs = []) ∨ (k = 1 ∧ t ≠ 0 ∧ m = 0 ∧ ∃ i : Nat, ∃ z, c = (i : Int) ∧ (consOf d t)[i]? = some z ∧ z.flds.length = qs.length ∧ fitR d z.flds qs = true) := by
  rw [fitsP] at h
  by_cases k0 : k = 0
  · rw [if_pos k0] at h
    simp only [Bool.and_eq_true, decide_eq_true_eq] at h
    exact .inl ⟨k0, h.1.1, h.1.2, List.eq_nil_of_length_eq_zero h.2⟩
  · rw [if_neg k0] at h
    by_cases k2 : k = 2
    · rw [if_pos k2] at h
      simp only [Bool.and_eq_true, decide_eq_true_eq] at h
      exact .inr (.inl ⟨k2, h.1.1, h.1.2, List.eq_nil_of_length_eq_zero h.2⟩)
    · rw [if_neg k2] at h
      by_cases k1 : k = 1
      · rw [if_pos k1] at h
        simp only [Bool.and_eq_true, Bool.not_eq_true', Bool.or_eq_false_iff, decide_eq_false_iff_not, Bool.not_eq_false', decide_eq_true_eq] at h
        obtain ⟨⟨⟨⟨h1, h2⟩, h3⟩, h4⟩, h5⟩ := h
        cases hz : (consOf d t)[c.toNat]? with
        | none => rw [hz] at h5; cases h5
        | some z =>
          rw [hz] at h5
          simp only [Bool.and_eq_true, decide_eq_true_eq] at h5
          exact .inr (.inr ⟨k1, h1, h2, c.toNat, z, by omega, hz, h5.1, fitR_of_L h5.1 h5.2⟩)
      · rw [if_neg k1] at h; cases h
theorem spF_fit {d : List Dt} {t : Int} {ts : List Int} {i : Nat} {r r' : List Pt} (hf : fitR d (t :: ts) r = true) (h : spF (i : Int) (fldsOf d t i).length r = some r') : fitR d (fldsOf d t i ++ ts) r' = true := by
  cases r with
  | nil => cases h
  | cons p s =>
    simp only [fitR, Bool.and_eq_true] at hf
    obtain ⟨k, c', m, qs⟩ := p
    simp only [spF] at h
    split at h
    · cases h; exact fitR_app (fitR_wild d _) hf.2
    · split at h
      · rename_i hk
        cases h
        rcases fits_cases hf.1 with h1 | h1 | ⟨_, _, _, j, z, e, hz, _, hR⟩
        · omega
        · omega
        · have : j = i := by omega
          subst this
          unfold fldsOf
          rw [hz]
          exact fitR_app hR hf.2
      · cases h
theorem restF_fit {d : List Dt} {t : Int} {ts : List Int} {keep : Pt → Bool} {r r' : List Pt} (hf : fitR d (t :: ts) r = true) (h : restF keep r = some r') : fitR d ts r' = true := by
  cases r with
  | nil => cases h
  | cons p s =>
    simp only [fitR, Bool.and_eq_true] at hf
    simp only [restF] at h
    split at h
    · cases h; exact hf.2
    · cases h
def fitM (d : List Dt) (ts : List Int) (l : List (List Pt)) : Prop := ∀ r, r ∈ l → fitR d ts r = true
theorem spS_fit {d : List Dt} {t : Int} {ts : List Int} {l : List (List Pt)} (i : Nat) (h : fitM d (t :: ts) l) : fitM d (fldsOf d t i ++ ts) (spS (i : Int) (fldsOf d t i).length l) := by
  intro r hr
  obtain ⟨q, hq, hs⟩ := List.mem_filterMap.1 hr
  exact spF_fit (h q hq) hs
theorem restS_fit {d : List Dt} {t : Int} {ts : List Int} {l : List (List Pt)} (keep : Pt → Bool) (h : fitM d (t :: ts) l) : fitM d ts (restS keep l) := by
  intro r hr
  obtain ⟨q, hq, hs⟩ := List.mem_filterMap.1 hr
  exact restF_fit (h q hq) hs
/-- Whether a row is useful. -/
def usS (d : List Dt) : Nat → List Int → List (List Pt) → List Pt → Bool
  | 0, _, _, _ => false
  | _ + 1, [], rows, _ => decide (rows.length = 0)
  | k + 1, t :: ts, rows, .mk kd c m qs :: r =>
    if kd = 1 then usS d k (fldsOf d t c.toNat ++ ts) (spS c qs.length rows) (qs ++ r)
    else if kd = 2 then usS d k ts (restS (fun q => wildP q || decide (nmP q = m)) rows) r
    else if t = 0 ∨ (consS rows).length < (consOf d t).length then usS d k ts (restS wildP rows) r
    else (List.range (consOf d t).length).any fun i => usS d k (fldsOf d t i ++ ts) (spS (i : Int) (fldsOf d t i).length rows) (List.replicate (fldsOf d t i).length wildT ++ r)
  | _ + 1, _ :: _, _, [] => false
end Zc27
end
section
set_option linter.unusedSimpArgs false
set_option linter.unusedVariables false
set_option linter.unusedSimpArgs false
set_option maxHeartbeats 4000000
namespace Zc27
open Go Zv Zs

theorem addI_mem {s : List Int} {c x : Int} : x ∈ addI s c ↔ x ∈ s ∨ x = c := by
  unfold addI
  split
  · rename_i h
    constructor
    · exact .inl
    · rintro (h' | rfl)
      · exact h'
      · exact h
  · simp
theorem addI_nodup {s : List Int} (c : Int) (h : s.Nodup) : (addI s c).Nodup := by
  unfold addI
  split
  · exact h
  · rename_i hc
    rw [List.nodup_append]
    exact ⟨h, by simp, fun a ha b hb => by simp at hb; subst hb; intro e; subst e; exact hc ha⟩
theorem cG_nodup {A : List Int} (r : List Pt) (h : A.Nodup) : (cG A r).Nodup := by
  unfold cG
  split
  · exact h
  · split
    · exact addI_nodup _ h
    · exact h
theorem foldc_nodup : ∀ (l : List (List Pt)) (A : List Int), A.Nodup → (l.foldl cG A).Nodup
  | [], A, h => h
  | r :: l, A, h => foldc_nodup l _ (cG_nodup r h)
theorem consS_nodup (l : List (List Pt)) : (consS l).Nodup := foldc_nodup l [] List.nodup_nil
theorem foldc_mem (c : Int) : ∀ (l : List (List Pt)) (A : List Int), c ∈ l.foldl cG A ↔ c ∈ A ∨ ∃ p s, (p :: s) ∈ l ∧ kdP p = 1 ∧ cnP p = c
  | [], A => by simp
  | r :: l, A => by
    rw [List.foldl_cons, foldc_mem c l]
    cases r with
    | nil =>
      show (c ∈ A ∨ _) ↔ _
      simp
    | cons q s =>
      show (c ∈ (if kdP q = 1 then addI A (cnP q) else A) ∨ _) ↔ _
      by_cases k1 : kdP q = 1
      · rw [if_pos k1, addI_mem]
        constructor
        · rintro ((h | h) | ⟨p, s', h1, h2, h3⟩)
          · exact .inl h
          · exact .inr ⟨q, s, List.mem_cons_self, k1, h.symm⟩
          · exact .inr ⟨p, s', List.mem_cons_of_mem _ h1, h2, h3⟩
        · rintro (h | ⟨p, s', h1, h2, h3⟩)
          · exact .inl (.inl h)
          · rcases List.mem_cons.1 h1 with e | h1
            · cases e; exact .inl (.inr h3.symm)
            · exact .inr ⟨p, s', h1, h2, h3⟩
      · rw [if_neg k1]
        constructor
        · rintro (h | ⟨p, s', h1, h2, h3⟩)
          · exact .inl h
          · exact .inr ⟨p, s', List.mem_cons_of_mem _ h1, h2, h3⟩
        · rintro (h | ⟨p, s', h1, h2, h3⟩)
          · exact .inl h
          · rcases List.mem_cons.1 h1 with e | h1
            · cases e; exact absurd h2 k1
            · exact .inr ⟨p, s', h1, h2, h3⟩
theorem consS_mem (c : Int) (l : List (List Pt)) : c ∈ consS l ↔ ∃ p s, (p :: s) ∈ l ∧ kdP p = 1 ∧ cnP p = c := by
  rw [consS, foldc_mem]; simp
theorem sub_len {α : Type} [DecidableEq α] : ∀ (s t : List α), s.Nodup → (∀ x, x ∈ s → x ∈ t) → s.length ≤ t.length
  | [], _, _, _ => Nat.zero_le _
  | x :: s, t, hn, hs => by
    rw [List.nodup_cons] at hn
    have hx := hs x List.mem_cons_self
    have := sub_len s (t.erase x) hn.2 (fun y hy => (List.mem_erase_of_ne (fun (e : y = x) => hn.1 (e ▸ hy))).2 (hs y (List.mem_cons_of_mem x hy)))
    rw [List.length_erase_of_mem hx] at this
    have := List.length_pos_of_mem hx
    rw [List.length_cons]; omega
/-- As many as there are: all. -/
theorem cons_all {s : List Int} {K : Nat} (hn : s.Nodup) (hr : ∀ c, c ∈ s → ∃ i : Nat, c = (i : Int) ∧ i < K) (hk : K ≤ s.length) {i : Nat} (hi : i < K) : (i : Int) ∈ s := by
  refine Decidable.byContradiction fun hc => ?_
  have := sub_len s (((List.range K).map fun j : Nat => (j : Int)).erase (i : Int)) hn (fun x hx => by
    obtain ⟨j, rfl, hj⟩ := hr x hx
    refine (List.mem_erase_of_ne (fun (e : (j : Int) = (i : Int)) => hc (e ▸ hx))).2 (List.mem_map.2 ⟨j, List.mem_range.2 hj, rfl⟩))
  rw [List.length_erase_of_mem (List.mem_map.2 ⟨i, List.mem_range.2 hi, rfl⟩), List.length_map, List.length_range] at this
  omega
theorem consS_rng {d : List Dt} {t : Int} {ts : List Int} {l : List (List Pt)} (h : fitM d (t :: ts) l) : ∀ c, c ∈ consS l → ∃ i : Nat, c = (i : Int) ∧ i < (consOf d t).length := by
  intro c hc
  obtain ⟨p, s, hm, k1, rfl⟩ := (consS_mem c l).1 hc
  have := h _ hm
  simp only [fitR, Bool.and_eq_true] at this
  obtain ⟨k, c', m, qs⟩ := p
  simp only [kdP] at k1
  rcases fits_cases this.1 with h1 | h1 | ⟨_, _, _, i, z, e, hz, _⟩
  · omega
  · omega
  · exact ⟨i, e, (List.getElem?_eq_some_iff.1 hz).1⟩
theorem consS_le {d : List Dt} {t : Int} {ts : List Int} {l : List (List Pt)} (h : fitM d (t :: ts) l) : (consS l).length ≤ (consOf d t).length := by
  have := sub_len (consS l) ((List.range (consOf d t).length).map fun j : Nat => (j : Int)) (consS_nodup l) (fun x hx => by
    obtain ⟨j, rfl, hj⟩ := consS_rng h x hx
    exact List.mem_map.2 ⟨j, List.mem_range.2 hj, rfl⟩)
  simpa using this
/-- Weights go down where a column is complete. -/
theorem spS_down {d : List Dt} {t : Int} {ts : List Int} {l : List (List Pt)} (h : fitM d (t :: ts) l) (hk : (consOf d t).length ≤ (consS l).length) {i : Nat} (hi : i < (consOf d t).length) (n : Nat) : nwS (spS (i : Int) n l) + 1 ≤ nwS l :=
  spS_nw1 _ _ _ ((consS_mem _ l).1 (cons_all (consS_nodup l) (consS_rng h) hk hi))

/-! ### The heads of the reference -/
theorem kdP_mk (k c n : Int) (qs : List Pt) : kdP (.mk k c n qs) = k := rfl
theorem cnP_mk (k c n : Int) (qs : List Pt) : cnP (.mk k c n qs) = c := rfl
theorem nmP_mk (k c n : Int) (qs : List Pt) : nmP (.mk k c n qs) = n := rfl
theorem sameP_mk (q : Pt) (k c n : Int) (qs : List Pt) : sameP q (.mk k c n qs) = (decide (kdP q = k) && decide (cnP q = c) && decide (nmP q = n)) := rfl
end Zc27
end
section
set_option linter.unusedSimpArgs false
set_option linter.unusedVariables false
set_option linter.unusedSimpArgs false
set_option maxHeartbeats 4000000
namespace Zc27
open Go Zv Zs

theorem wild_ok (p : Pt) (h : Hp) : callW tab 81 [.d (ePt p)] h = some (.d (.bool (wildP p)), h) := by
  refine call_wp (fn := f81) rfl rfl ?_
  (simp only [e81, pts, ePt_k, ibeq, wildP, wz, opX, intBin, ↓reduceIte, simprocAttr] <;> repeat' (first | refine wpG_s ?_ ?_ | refine wpC_s ?_ ?_) <;> intro hgo <;> (try simp only [dq] at hgo) <;> simp only [hgo, e81, pts, ePt_k, ibeq, wildP, wz, opX, intBin, ↓reduceIte, simprocAttr])
def numP (a : Pt) (q : Pt) : Bool := wildP q || decide (nmP q = nmP a)
theorem num_ok (a p : Pt) (h : Hp) : callW tab 80 [.d (ePt p), .fp (ePt a) 0] h = some (.d (.bool (numP a p)), h) := by
  refine call_wp (fn := f80) rfl rfl ?_
  have hw := fun h => wild_ok p h
  unfold numP
  cases hk : wildP p <;> (simp only [e80, pts, ePt_2, ibeq, hw, hk, Bool.true_or, Bool.false_or, wz, opX, intBin, ↓reduceIte, simprocAttr] <;> repeat' (first | refine wpG_s ?_ ?_ | refine wpC_s ?_ ?_) <;> intro hgo <;> (try simp only [dq] at hgo) <;> simp only [hgo, e80, pts, ePt_2, ibeq, hw, hk, Bool.true_or, Bool.false_or, wz, opX, intBin, ↓reduceIte, simprocAttr])
theorem matrices_ok (a b c : D) (ha : a.cells.length = 1) (hb : b.cells.length = 1) (hc : c.cells.length = 1) (h : Hp) : callW tab 83 [.d a, .d b, .d c] h = some (.clo 98 [.fp a 0, .fp b 0, .fp c 0], ⟨h.objs, h.next + 3⟩) := by
  refine call_wp (fn := f83) rfl rfl ?_
  (simp only [e83, ha, hb, hc, wz, opX, intBin, ↓reduceIte, simprocAttr] <;> repeat' (first | refine wpG_s ?_ ?_ | refine wpC_s ?_ ?_) <;> intro hgo <;> (try simp only [dq] at hgo) <;> simp only [hgo, e83, ha, hb, hc, wz, opX, intBin, ↓reduceIte, simprocAttr])

/-! ### A round over the constructors -/
section
variable (o : List (Nat × Ob)) (H : Nat) (A B : List Int) (e0 : List (Nat × V))
/-- The heap within the range: its record, the maps of the heads, the variable for the answer. -/
def HU (b : Bool) (s : Option Ex) (q : Nat) : Hp := ⟨(H + 10, .lp 704 e0 s) :: (H + 6, .mp (kvB B)) :: (H + 5, .mp (kvB A)) :: (H + 3, .arr 1 [.d (.bool b)]) :: o, q⟩
theorem HU_get (b s q) : (HU o H A B e0 b s q).get (H + 10) = some (.lp 704 e0 s) := by
  unfold HU Hp.get; simp [Zv.look]
theorem HU_set (b s s' q) : (HU o H A B e0 b s q).set (H + 10) (.lp 704 e0 s') = HU o H A B e0 b s' q := by
  unfold HU Hp.set; simp [upd]
theorem HU_row (b s q) : (HU o H A B e0 b s q).row (H + 3) 1 = some (1, [.d (.bool b)]) := by
  unfold HU Hp.row Hp.get; simp [Zv.look]
theorem HU_st (b c s q) : st 1 (HU o H A B e0 b s q) (.ptr (H + 3) 1 0 0) (.d (.bool c)) = some (HU o H A B e0 c s q) := by
  unfold st
  simp only [HU_row, Option.bind_some]
  simp [HU, Hp.set, upd, V.cells, stor, D.cells]
end
theorem round_ok {d : List Dt} {n i : Nat} {y : Dt} {z : Cn} (hy : d[n]? = some y) (hz : y.cons[i]? = some z) (hd : d.length < 2 ^ 60) (hf : z.flds.length ≤ 8) {ts : List Int} (hl : ts.length ≤ 10000) {p : Pt} {r : List Pt} (hr : r.length ≤ 10000) {m : List (List Pt)} {u : Bool}
    (hu : ∀ h, callW tab 44 [.d (eDs d), .d (eIs (z.flds ++ ts)), .d (eRs m), .d (ePs (List.replicate z.flds.length wildT ++ r))] h = some (.d (.bool u), h)) (o : List (Nat × Ob)) (H : Nat) (A B : List Int) (cl : V) (q : Nat) :
    let e0 : List (Nat × V) := [(4, .fp (eDs d) 0), (5, .fp (eIs (((n : Int) + 1) :: ts)) 0), (7, .fp (ePs (p :: r)) 0), (8, .ptr (H + 3) 1 0 0), (92, cl)]
    cW tab (.yld (H + 10)) [.d (eI (i : Int)), .d (eRs m)] (HU o H A B e0 false none q) = some (.d (.bool (!u)), HU o H A B e0 u (if u = true then some .ret else none) q) := by
  intro e0
  have hn := (List.getElem?_eq_some_iff.1 hy).1
  have hw := wrap_sub1 (n := n) (by omega)
  have hun : ∀ h, callW tab 76 [.d (eDs d), .d (.lst (eI ((n : Int) + 1) :: ts.map eI)), .d (eI (i : Int))] h = some (.d (eIs (z.flds ++ ts)), h) := fun h => under_ok hy hz hd ts hf hl h
  have hia : ia 1 (.d (.lst (eI ((n : Int) + 1) :: ts.map eI))) (.d (.int .i64 0)) = some (.fp (eI ((n : Int) + 1)) 0) := iaI0 _ _
  have h1 := mkslP (n := z.flds.length) (by omega)
  have h2 := appd_tl (es := 4) (b := 48) (l := (List.replicate z.flds.length wildT).map ePt) (r := r.map ePt) (nl := some false) ptcells ptcells (by simp only [List.length_map, List.length_replicate, roomB]; omega)
  rw [← List.map_append] at h2
  have hbody : ex tab d44q0 [(4, .fp (eDs d) 0), (5, .fp (eIs (((n : Int) + 1) :: ts)) 0), (7, .fp (ePs (p :: r)) 0), (8, .ptr (H + 3) 1 0 0), (12, .d (eI (i : Int))), (13, .d (eRs m))] (HU o H A B e0 false (some .norm) q) =
      some (if u = true then .ret else .norm, if u = true then [(8, .ptr (H + 3) 1 0 0)] else [(8, .ptr (H + 3) 1 0 0), (118, .d (.bool false))], HU o H A B e0 u (some .norm) q) := by
    unfold d44q0
    apply wq_ex.1
    have hst := HU_st o H A B e0 false true (some .norm) q
    cases u <;> (simp only [e44, hw, iaI0, hia, slcP', slcP, hun, h1, h2, iaD hy, iaC hz, hu, hst, wz, opX, intBin, ↓reduceIte, simprocAttr] <;> repeat' (first | refine wpG_s ?_ ?_ | refine wpC_s ?_ ?_) <;> intro hgo <;> (try simp only [dq] at hgo) <;> simp only [hgo, e44, hw, iaI0, hia, slcP', slcP, hun, h1, h2, iaD hy, iaC hz, hu, hst, wz, opX, intBin, ↓reduceIte, simprocAttr])
  have := cW_yld (T := tab) (n := H + 10) (b := 704) (e := e0) (vs := [.d (eI (i : Int)), .d (eRs m)]) (h := HU o H A B e0 false none q) (fn := f1000704) (asg := a44q0) (bdy := d44q0) (e1 := [(4, .fp (eDs d) 0), (5, .fp (eIs (((n : Int) + 1) :: ts)) 0), (7, .fp (ePs (p :: r)) 0), (8, .ptr (H + 3) 1 0 0), (12, .d (eI (i : Int))), (13, .d (eRs m))]) (h1 := HU o H A B e0 false none q) (b' := 704) (e' := e0)
    (HU_get ..) rfl rfl rfl (by unfold a44q0; apply wq_ex.1; (simp only [e44, binds, f1000704, wz, opX, intBin, ↓reduceIte, simprocAttr] <;> repeat' (first | refine wpG_s ?_ ?_ | refine wpC_s ?_ ?_) <;> intro hgo <;> (try simp only [dq] at hgo) <;> simp only [hgo, e44, binds, f1000704, wz, opX, intBin, ↓reduceIte, simprocAttr]); rfl) (HU_get ..) (by rw [HU_set]; exact hbody)
  rw [this]
  unfold rndEnd
  simp only [HU_get]
  cases u <;> simp [HU_set] <;> rfl
theorem HU_mk (o : List (Nat × Ob)) (H : Nat) (A B : List Int) (e0 : List (Nat × V)) (b : Bool) (s : Option Ex) (q q' : Nat) : (⟨(HU o H A B e0 b s q).objs, q'⟩ : Hp) = HU o H A B e0 b s q' := rfl
theorem HU_next (o : List (Nat × Ob)) (H : Nat) (A B : List Int) (e0 : List (Nat × V)) (b : Bool) (s : Option Ex) (q : Nat) : (HU o H A B e0 b s q).next = q := rfl
/-- The range over the constructors. -/
theorem range_ok {d : List Dt} {n : Nat} {y : Dt} (hy : d[n]? = some y) (hd : d.length < 2 ^ 60) (hK : y.cons.length ≤ 8) (hf : ∀ z, z ∈ y.cons → z.flds.length ≤ 8) {ts : List Int} (hts : ts.length ≤ 10000) {p : Pt} {r : List Pt} (hr : r.length ≤ 10000)
    (l : List (List Pt)) (hl : l.length ≤ 1000) (hlr : ∀ r, r ∈ l → r ≠ [] ∧ r.length ≤ 10000 ∧ ∀ p, p ∈ r → (argsP p).length ≤ 10000) {u : Nat → Bool}
    (hu : ∀ (i : Nat) (z : Cn), y.cons[i]? = some z → ∀ h, callW tab 44 [.d (eDs d), .d (eIs (z.flds ++ ts)), .d (eRs (spS (i : Int) z.flds.length l)), .d (ePs (List.replicate z.flds.length wildT ++ r))] h = some (.d (.bool (u i)), h)) (o : List (Nat × Ob)) (H : Nat) (A B : List Int) :
    let cl : V := .clo 98 [.fp (eDs d) 0, .fp (eIs (((n : Int) + 1) :: ts)) 0, .fp (eRs l) 0]
    let e0 : List (Nat × V) := [(4, .fp (eDs d) 0), (5, .fp (eIs (((n : Int) + 1) :: ts)) 0), (7, .fp (ePs (p :: r)) 0), (8, .ptr (H + 3) 1 0 0), (92, cl)]
    ∃ q, callW tab 98 [.yld (H + 10), .fp (eDs d) 0, .fp (eIs (((n : Int) + 1) :: ts)) 0, .fp (eRs l) 0] (HU o H A B e0 false none (H + 11)) = some (.tup [], HU o H A B e0 ((List.range y.cons.length).any u) (if (List.range y.cons.length).any u = true then some .ret else none) q) := by
  intro cl e0
  have hn := (List.getElem?_eq_some_iff.1 hy).1
  have hw := wrap_sub1 (n := n) (by omega)
  have hia : ia 1 (.d (.lst (eI ((n : Int) + 1) :: ts.map eI))) (.d (.int .i64 0)) = some (.fp (eI ((n : Int) + 1)) 0) := iaI0 _ _
  obtain ⟨e, q', hq, hloop⟩ := loop_anyO (T := tab) (a := f98l0) (K := y.cons.length) (p := u) (f := fun i => [(0, .yld (H + 10)), (3, .fp (eRs l) 0), (14, .d (.lst (y.cons.map eC))), (15, .d (.int .i64 (y.cons.length : Int))), (16, .d (.int .i64 (i : Int)))]) (O := (HU o H A B e0 false none 0).objs) (O2 := (HU o H A B e0 true (some .ret) 0).objs) (x1 := .ret) (x2 := .exit 0) (e2 := [(0, .yld (H + 10)), (3, .fp (eRs l) 0), (14, .d (.lst (y.cons.map eC))), (15, .d (.int .i64 (y.cons.length : Int))), (16, .d (.int .i64 (y.cons.length : Int))), (17, .d (.bool false))]) (q0 := H + 11)
    (by
      intro q i hi hp
      obtain ⟨z, hz⟩ := get_of_lt (l := y.cons) (n := i) hi
      have hzf := hf z (List.mem_of_getElem? hz)
      have hround : ∀ q, cW tab (.yld (H + 10)) [.d (eI (i : Int)), .d (eRs (spS (i : Int) z.flds.length l))] (HU o H A B e0 false none q) = some (.d (.bool (!u i)), HU o H A B e0 (u i) (if u i = true then some .ret else none) q) := fun q => round_ok (p := p) hy hz hd hzf hts hr (hu i z hz) o H A B cl q
      have hsp := fun h => special_ok (i : Int) z.flds.length (by omega) l hl hlr h
      simp only [hp] at hround
      (simp only [hi, e98, iaC hz, hsp, hround, HU_mk, HU_next, wrap_succ (show i < 2 ^ 62 by omega), wz, opX, intBin, ↓reduceIte, simprocAttr] <;> repeat' (first | refine wpG_s ?_ ?_ | refine wpC_s ?_ ?_) <;> intro hgo <;> (try simp only [dq] at hgo) <;> simp only [hgo, hi, e98, iaC hz, hsp, hround, HU_mk, HU_next, wrap_succ (show i < 2 ^ 62 by omega), wz, opX, intBin, ↓reduceIte, simprocAttr])
      exact ⟨_, rfl, by omega⟩)
    (by
      intro q i hi hp
      obtain ⟨z, hz⟩ := get_of_lt (l := y.cons) (n := i) hi
      have hzf := hf z (List.mem_of_getElem? hz)
      have hround : ∀ q, cW tab (.yld (H + 10)) [.d (eI (i : Int)), .d (eRs (spS (i : Int) z.flds.length l))] (HU o H A B e0 false none q) = some (.d (.bool (!u i)), HU o H A B e0 (u i) (if u i = true then some .ret else none) q) := fun q => round_ok (p := p) hy hz hd hzf hts hr (hu i z hz) o H A B cl q
      have hsp := fun h => special_ok (i : Int) z.flds.length (by omega) l hl hlr h
      simp only [hp] at hround
      (simp only [hi, e98, iaC hz, hsp, hround, HU_mk, HU_next, wrap_succ (show i < 2 ^ 62 by omega), wz, opX, intBin, ↓reduceIte, simprocAttr] <;> repeat' (first | refine wpG_s ?_ ?_ | refine wpC_s ?_ ?_) <;> intro hgo <;> (try simp only [dq] at hgo) <;> simp only [hgo, hi, e98, iaC hz, hsp, hround, HU_mk, HU_next, wrap_succ (show i < 2 ^ 62 by omega), wz, opX, intBin, ↓reduceIte, simprocAttr])
      exact ⟨_, _, ⟨rfl, rfl⟩, by omega⟩)
    (by
      intro q
      (simp only [e98, HU_mk, wz, opX, intBin, ↓reduceIte, simprocAttr] <;> repeat' (first | refine wpG_s ?_ ?_ | refine wpC_s ?_ ?_) <;> intro hgo <;> (try simp only [dq] at hgo) <;> simp only [hgo, e98, HU_mk, wz, opX, intBin, ↓reduceIte, simprocAttr])
      exact ⟨_, rfl, by omega⟩)
    (by simp) (by simp)
  refine ⟨q', call_wp (fn := f98) rfl rfl ?_⟩
  simp only [HU_mk, Int.cast_ofNat_Int] at hloop
  cases hany : (List.range y.cons.length).any u with
  | false =>
    rw [hany] at hloop
    simp only [Bool.false_eq_true, if_false] at hloop
    (simp only [e98, hw, iaI0, hia, iaD hy, HU_mk, wq_of hloop, wz, opX, intBin, ↓reduceIte, simprocAttr] <;> repeat' (first | refine wpG_s ?_ ?_ | refine wpC_s ?_ ?_) <;> intro hgo <;> (try simp only [dq] at hgo) <;> simp only [hgo, e98, hw, iaI0, hia, iaD hy, HU_mk, wq_of hloop, wz, opX, intBin, ↓reduceIte, simprocAttr])
  | true =>
    rw [hany] at hloop
    simp only [if_true] at hloop
    (simp only [e98, hw, iaI0, hia, iaD hy, HU_mk, wq_of hloop, wz, opX, intBin, ↓reduceIte, simprocAttr] <;> repeat' (first | refine wpG_s ?_ ?_ | refine wpC_s ?_ ?_) <;> intro hgo <;> (try simp only [dq] at hgo) <;> simp only [hgo, e98, hw, iaI0, hia, iaD hy, HU_mk, wq_of hloop, wz, opX, intBin, ↓reduceIte, simprocAttr])
end Zc27
end
section
set_option linter.unusedSimpArgs false
set_option linter.unusedVariables false
set_option linter.unusedSimpArgs false
set_option maxHeartbeats 4000000
namespace Zc27
open Go Zv Zs

section
variable (o : List (Nat × Ob)) (H : Nat) (A B : List Int)
/-- The heap behind the heads. -/
def HV (b : Bool) (q : Nat) : Hp := ⟨(H + 6, .mp (kvB B)) :: (H + 5, .mp (kvB A)) :: (H + 3, .arr 1 [.d (.bool b)]) :: o, q⟩
theorem HV_mk (b q q') : (⟨(HV o H A B b q).objs, q'⟩ : Hp) = HV o H A B b q' := rfl
theorem HV_next (b q) : (HV o H A B b q).next = q := rfl
theorem HV_of (b) : HM2 ((H + 3, .arr 1 [.d (.bool b)]) :: o) (H + 5) A B = HV o H A B b (H + 7) := rfl
theorem HV_len (b q) : lenM (HV o H A B b q) (.map (H + 5)) = some (.d (.int .i64 (A.length : Int))) := by
  unfold lenM entries HV Hp.get
  simp [Zv.look, kvB, int]
theorem HV_row (b q) : (HV o H A B b q).row (H + 3) 1 = some (1, [.d (.bool b)]) := by
  unfold HV Hp.row Hp.get; simp [Zv.look]
theorem HV_st (b c q) : st 1 (HV o H A B b q) (.ptr (H + 3) 1 0 0) (.d (.bool c)) = some (HV o H A B c q) := by
  unfold st
  simp only [HV_row, Option.bind_some]
  simp [HV, Hp.set, upd, V.cells, stor, D.cells]
theorem HU_kill (e0 : List (Nat × V)) (b s q) : (HU o H A B e0 b s q).kill (H + 10) = HV o H A B b q := by
  unfold HU HV Hp.kill; simp [del]
end
theorem HV_fin (h : Hp) (A B : List Int) (b : Bool) (q : Nat) (x : D) : finS h (HV h.objs h.next A B b q) [.d x] = some (.d x, h) := by
  refine finS_suf (vs := [x]) ?_
  exact suf_app [_, _, _] h.objs
theorem frz_4 (n es nx : Nat) (o1 o2 o3 : Ob) (x : D) (l : List (Nat × Ob)) : Zv.frz ⟨(n + 1 + 1 + 1, o3) :: (n + 1 + 1, o2) :: (n + 1, o1) :: (n, .arr es [.d x]) :: l, nx⟩ (.ptr n 1 0 0) = some (.fp x 0, ⟨(n + 1 + 1 + 1, o3) :: (n + 1 + 1, o2) :: (n + 1, o1) :: l, nx⟩) := by
  have hr : Hp.row ⟨(n + 1 + 1 + 1, o3) :: (n + 1 + 1, o2) :: (n + 1, o1) :: (n, .arr es [.d x]) :: l, nx⟩ n 1 = some (es, [.d x]) := by
    unfold Hp.row Hp.get; simp [Zv.look, Nat.add_assoc]
  simp only [Zv.frz, hr, Option.bind_some, List.getElem?_cons_zero, Option.map_some, toD]
  simp [Hp.kill, del, Nat.add_assoc]
theorem frz_3 (n es nx : Nat) (o1 o2 : Ob) (x : D) (l : List (Nat × Ob)) : Zv.frz ⟨(n + 1 + 1, o2) :: (n + 1, o1) :: (n, .arr es [.d x]) :: l, nx⟩ (.ptr n 1 0 0) = some (.fp x 0, ⟨(n + 1 + 1, o2) :: (n + 1, o1) :: l, nx⟩) := by
  have hr : Hp.row ⟨(n + 1 + 1, o2) :: (n + 1, o1) :: (n, .arr es [.d x]) :: l, nx⟩ n 1 = some (es, [.d x]) := by
    unfold Hp.row Hp.get; simp [Zv.look, Nat.add_assoc]
  simp only [Zv.frz, hr, Option.bind_some, List.getElem?_cons_zero, Option.map_some, toD]
  simp [Hp.kill, del, Nat.add_assoc]
theorem use_r0 (a b c x : D) (ha : a.cells.length = 1) (hb : b.cells.length = 1) (hx : x.cells.length = 1) (h : Hp) :
    ex tab f44r0 (args 0 [.d a, .d b, .d c, .d x]) h = some (.norm, [(2, .d c), (4, .fp a 0), (5, .fp b 0), (7, .fp x 0), (8, .ptr (h.next + 3) 1 0 0)], ⟨(h.next + 3, .arr 1 [.d (.bool false)]) :: h.objs, h.next + 4⟩) := by
  apply wq_ex.1
  (simp only [e44, ha, hb, hx, frz_4, frz_3, wz, opX, intBin, ↓reduceIte, simprocAttr] <;> repeat' (first | refine wpG_s ?_ ?_ | refine wpC_s ?_ ?_) <;> intro hgo <;> (try simp only [dq] at hgo) <;> simp only [hgo, e44, ha, hb, hx, frz_4, frz_3, wz, opX, intBin, ↓reduceIte, simprocAttr])
theorem iaI0' (t : Int) (ts : List Int) : ia 1 (.d (.lst (eI t :: ts.map eI))) (.d (.int .i64 0)) = some (.fp (eI t) 0) := iaI0 t ts
theorem cons_sm {d : List Dt} (S : Sml d) (t : Int) : (consOf d t).length ≤ 8 ∧ ∀ z, z ∈ consOf d t → z.flds.length ≤ 8 := by
  rcases tcase d t with h0 | h0 | ⟨n, y, rfl, hy⟩
  · rw [consOf_lo h0]; exact ⟨by simp, fun z hz => by cases hz⟩
  · rw [consOf_hi h0]; exact ⟨by simp, fun z hz => by cases hz⟩
  · rw [consOf_at hy]
    have := S.ds y (List.mem_of_getElem? hy)
    exact ⟨this.2.1, fun z hz => (this.2.2 z hz).2⟩
theorem fit_args {d : List Dt} (S : Sml d) {t : Int} {p : Pt} (h : fitsP d t p = true) : (argsP p).length ≤ 8 := by
  obtain ⟨k, c, m, qs⟩ := p
  rw [argsP_mk]
  rcases fits_cases h with ⟨_, _, _, rfl⟩ | ⟨_, _, _, rfl⟩ | ⟨_, _, _, i, z, _, hz, hl, _⟩
  · simp
  · simp
  · have := (cons_sm S t).2 z (List.mem_of_getElem? hz); omega
theorem fitR_args {d : List Dt} (S : Sml d) : ∀ {ts : List Int} {r : List Pt}, fitR d ts r = true → ∀ p, p ∈ r → (argsP p).length ≤ 10000
  | _, [], _, p, hp => by cases hp
  | [], _ :: _, h, _, _ => by cases h
  | t :: ts, q :: r, h, p, hp => by
    simp only [fitR, Bool.and_eq_true] at h
    rcases List.mem_cons.1 hp with rfl | hp
    · have := fit_args S h.1; omega
    · exact fitR_args S h.2 p hp
theorem fitM_rows {d : List Dt} (S : Sml d) {t : Int} {ts : List Int} {l : List (List Pt)} (hts : ts.length ≤ 9000) (h : fitM d (t :: ts) l) : ∀ r, r ∈ l → r ≠ [] ∧ r.length ≤ 10000 ∧ ∀ p, p ∈ r → (argsP p).length ≤ 10000 := by
  intro r hr
  have hf := h r hr
  have hl := fitR_len hf
  rw [List.length_cons] at hl
  exact ⟨fun e => (by subst e; simp at hl), by omega, fitR_args S hf⟩
theorem fldsOf_at {d : List Dt} {n i : Nat} {y : Dt} {z : Cn} (hy : d[n]? = some y) (hz : y.cons[i]? = some z) : fldsOf d ((n : Int) + 1) i = z.flds := by
  unfold fldsOf; rw [consOf_at hy, hz]
theorem flds_isT {d : List Dt} (T : typedS d = true) {t : Int} {z : Cn} (hz : z ∈ consOf d t) {ts : List Int} (ht : ∀ f, f ∈ ts → isT d f = true) : ∀ f, f ∈ z.flds ++ ts → isT d f = true := by
  intro f hf
  rcases List.mem_append.1 hf with hf | hf
  · exact fld_isT27 T hz hf
  · exact ht f hf
theorem useful_ok {d : List Dt} (S : Sml d) (T : typedS d = true) : ∀ (k : Nat) (ts : List Int) (rows : List (List Pt)) (row : List Pt), 9 * (nwS rows + nwL row) + ts.length < k → 9 * (nwS rows + nwL row) + ts.length ≤ 8000 → rows.length ≤ 1000 →
    (∀ t, t ∈ ts → isT d t = true) → fitM d ts rows → fitR d ts row = true → ∀ h, callW tab 44 [.d (eDs d), .d (eIs ts), .d (eRs rows), .d (ePs row)] h = some (.d (.bool (usS d k ts rows row)), h)
  | 0, _, _, _, h, _, _, _, _, _, _ => by omega
  | k + 1, [], rows, row, _, _, hl, _, _, hR, h => by
    refine call_wp (fn := f44) rfl rfl ?_
    show wp tab (.seq f44r0 _) _ _ _
    rw [wq_seq, wq_of (use_r0 (eDs d) (eIs []) (eRs rows) (ePs row) rfl rfl rfl h)]
    have e0 : ((rows.length : Int) == 0) = decide (rows.length = 0) := by simp [ibeq]
    simp only [usS]
    (simp only [e44, ibeq, e0, wz, opX, intBin, ↓reduceIte, simprocAttr] <;> repeat' (first | refine wpG_s ?_ ?_ | refine wpC_s ?_ ?_) <;> intro hgo <;> (try simp only [dq] at hgo) <;> simp only [hgo, e44, ibeq, e0, wz, opX, intBin, ↓reduceIte, simprocAttr])
  | k + 1, t :: ts, rows, [], _, _, _, _, _, hR, _ => by cases hR
  | k + 1, t :: ts, rows, .mk kd c m qs :: r, hW, hB, hl, hT, hM, hR, h => by
    simp only [fitR, Bool.and_eq_true] at hR
    obtain ⟨hp, hR⟩ := hR
    have hts : ts.length ≤ 8000 := by rw [List.length_cons] at hB; omega
    have hrl := fitR_len hR
    have hrows := fitM_rows S (by omega) hM
    have hTt : ∀ f, f ∈ ts → isT d f = true := fun f hf => hT f (List.mem_cons_of_mem _ hf)
    rw [nwL, nwP] at hW hB
    rw [List.length_cons] at hW hB
    refine call_wp (fn := f44) rfl rfl ?_
    show wp tab (.seq f44r0 _) _ _ _
    rw [wq_seq, wq_of (use_r0 (eDs d) (eIs (t :: ts)) (eRs rows) (ePs (.mk kd c m qs :: r)) rfl rfl rfl h)]
    have hne : (((ts.length + 1 : Nat) : Int) == 0) = false := by rw [ibeq]; exact decide_eq_false (by omega)
    rcases fits_cases hp with ⟨k0, _, _, _⟩ | ⟨k2, t0, _, _⟩ | ⟨k1, t0, _, i, z, rfl, hz, hzl, hzR⟩
    · subst k0
      have hh := fun h => heads_ok rows hl (fun r hr => (hrows r hr).1) h
      have hrest := fun h => rests_ok (.clo 81 []) wildP rfl rows hl (fun r hr => (hrows r hr).1) (fun p _ _ h => by rw [cW_clo]; exact wild_ok p h) h
      have hnw := restS_nw wildP rows
      have hlen := fm_len (restF wildP) rows
      rw [if_pos rfl] at hW hB
      have hIH := useful_ok S T k ts (restS wildP rows) r (by omega) (by omega) (Nat.le_trans hlen hl) hTt (restS_fit _ hM) hR
      by_cases ht : t = 0
      · have e : usS d (k + 1) (t :: ts) rows (.mk 0 c m qs :: r) = usS d k ts (restS wildP rows) r := by
          simp [usS, ht]
        rw [e]
        (simp only [e44, hne, ht, iaI0, iaI0', iaP0, iaP0', pts, ePt_k, kdP_mk, slcT, slcT', slcP, slcP', hh, HV_of, HV_mk, HV_next, HV_len, HV_st, HV_row, HV_fin, hrest, hIH, wz, opX, intBin, ↓reduceIte, simprocAttr] <;> repeat' (first | refine wpG_s ?_ ?_ | refine wpC_s ?_ ?_) <;> intro hgo <;> (try simp only [dq] at hgo) <;> simp only [hgo, e44, hne, ht, iaI0, iaI0', iaP0, iaP0', pts, ePt_k, kdP_mk, slcT, slcT', slcP, slcP', hh, HV_of, HV_mk, HV_next, HV_len, HV_st, HV_row, HV_fin, hrest, hIH, wz, opX, intBin, ↓reduceIte, simprocAttr])
      · rcases tcase d t with h0 | h0 | ⟨n, y, rfl, hy⟩
        · exfalso; have := hT t List.mem_cons_self; simp only [isT, Bool.and_eq_true, decide_eq_true_eq] at this; omega
        · exfalso; have := hT t List.mem_cons_self; simp only [isT, Bool.and_eq_true, decide_eq_true_eq] at this; omega
        have hn := (List.getElem?_eq_some_iff.1 hy).1
        have hsl := S.len
        have hw := wrap_sub1 (n := n) (by omega)
        have hcs := cons_sm S ((n : Int) + 1)
        rw [consOf_at hy] at hcs
        by_cases hlt : (consS rows).length < y.cons.length
        · have e : usS d (k + 1) (((n : Int) + 1) :: ts) rows (.mk 0 c m qs :: r) = usS d k ts (restS wildP rows) r := by
            simp [usS, consOf_at hy, hlt]
          rw [e]
          (simp only [e44, hne, ht, ibeq, hw, hlt, iaI0, iaI0', iaD hy, iaP0, iaP0', pts, ePt_k, kdP_mk, slcT, slcT', slcP, slcP', hh, HV_of, HV_mk, HV_next, HV_len, HV_st, HV_row, HV_fin, hrest, hIH, wz, opX, intBin, ↓reduceIte, simprocAttr] <;> repeat' (first | refine wpG_s ?_ ?_ | refine wpC_s ?_ ?_) <;> intro hgo <;> (try simp only [dq] at hgo) <;> simp only [hgo, e44, hne, ht, ibeq, hw, hlt, iaI0, iaI0', iaD hy, iaP0, iaP0', pts, ePt_k, kdP_mk, slcT, slcT', slcP, slcP', hh, HV_of, HV_mk, HV_next, HV_len, HV_st, HV_row, HV_fin, hrest, hIH, wz, opX, intBin, ↓reduceIte, simprocAttr])
        · have hdown := fun i (hi : i < y.cons.length) (n' : Nat) => spS_down hM (by rw [consOf_at hy]; omega) (i := i) (by rw [consOf_at hy]; exact hi) n'
          have hu : ∀ (i : Nat) (z : Cn), y.cons[i]? = some z → ∀ h, callW tab 44 [.d (eDs d), .d (eIs (z.flds ++ ts)), .d (eRs (spS (i : Int) z.flds.length rows)), .d (ePs (List.replicate z.flds.length wildT ++ r))] h = some (.d (.bool (usS d k (fldsOf d ((n : Int) + 1) i ++ ts) (spS (i : Int) (fldsOf d ((n : Int) + 1) i).length rows) (List.replicate (fldsOf d ((n : Int) + 1) i).length wildT ++ r))), h) := by
            intro i z hz
            have hi := (List.getElem?_eq_some_iff.1 hz).1
            have hfz := fldsOf_at hy hz
            have hzm := List.mem_of_getElem? hz
            have hz8 := hcs.2 z hzm
            have hd := hdown i hi z.flds.length
            have hM' := spS_fit i hM
            rw [hfz] at hM' ⊢
            exact useful_ok S T k (z.flds ++ ts) (spS (i : Int) z.flds.length rows) (List.replicate z.flds.length wildT ++ r) (by rw [nwL_app, nwL_wild, List.length_append]; omega) (by rw [nwL_app, nwL_wild, List.length_append]; omega) (Nat.le_trans (fm_len _ _) hl)
              (flds_isT T (by rw [consOf_at hy]; exact hzm) hTt) hM' (fitR_app (fitR_wild d _) hR)
          obtain ⟨q, hq⟩ := range_ok hy (by omega) hcs.1 hcs.2 (ts := ts) (by omega) (p := .mk 0 c m qs) (r := r) (by omega) rows hl hrows hu h.objs h.next (consS rows) (numsS rows)
          have e : usS d (k + 1) (((n : Int) + 1) :: ts) rows (.mk 0 c m qs :: r) = (List.range y.cons.length).any fun i => usS d k (fldsOf d ((n : Int) + 1) i ++ ts) (spS (i : Int) (fldsOf d ((n : Int) + 1) i).length rows) (List.replicate (fldsOf d ((n : Int) + 1) i).length wildT ++ r) := by
            simp [usS, consOf_at hy, hlt, ht]
          rw [e]
          generalize ((List.range y.cons.length).any fun i => usS d k (fldsOf d ((n : Int) + 1) i ++ ts) (spS (i : Int) (fldsOf d ((n : Int) + 1) i).length rows) (List.replicate (fldsOf d ((n : Int) + 1) i).length wildT ++ r)) = u at hq
          have hmat : ∀ h, callW tab 83 [.d (eDs d), .d (.lst (eI ((n : Int) + 1) :: ts.map eI)), .d (eRs rows)] h = some (.clo 98 [.fp (eDs d) 0, .fp (eIs (((n : Int) + 1) :: ts)) 0, .fp (eRs rows) 0], ⟨h.objs, h.next + 3⟩) := fun h => matrices_ok _ _ _ rfl rfl rfl h
          have hrng : ex tab (.rng (.t 92) 704) [(4, .fp (eDs d) 0), (5, .fp (eIs (((n : Int) + 1) :: ts)) 0), (7, .fp (ePs (.mk 0 c m qs :: r)) 0), (8, .ptr (h.next + 3) 1 0 0), (92, .clo 98 [.fp (eDs d) 0, .fp (eIs (((n : Int) + 1) :: ts)) 0, .fp (eRs rows) 0])] (HV h.objs h.next (consS rows) (numsS rows) false (h.next + 10)) =
              some (if u = true then .ret else .norm, [(4, .fp (eDs d) 0), (5, .fp (eIs (((n : Int) + 1) :: ts)) 0), (7, .fp (ePs (.mk 0 c m qs :: r)) 0), (8, .ptr (h.next + 3) 1 0 0), (92, .clo 98 [.fp (eDs d) 0, .fp (eIs (((n : Int) + 1) :: ts)) 0, .fp (eRs rows) 0])], HV h.objs h.next (consS rows) (numsS rows) u q) := by
            refine ex_rng (f := 98) rfl hq ?_
            unfold rngEnd
            rw [HV_next]
            simp only [HU_get]
            cases u <;> simp [HU_kill]
          cases u <;> (simp only [if_true, if_false, Bool.false_eq_true] at hrng; (simp only [e44, hne, ht, ibeq, hw, hlt, iaI0, iaI0', iaD hy, iaP0, iaP0', pts, ePt_k, kdP_mk, hh, HV_of, HV_mk, HV_next, HV_len, HV_st, HV_row, HV_fin, hmat, wq_of hrng, wz, opX, intBin, ↓reduceIte, simprocAttr] <;> repeat' (first | refine wpG_s ?_ ?_ | refine wpC_s ?_ ?_) <;> intro hgo <;> (try simp only [dq] at hgo) <;> simp only [hgo, e44, hne, ht, ibeq, hw, hlt, iaI0, iaI0', iaD hy, iaP0, iaP0', pts, ePt_k, kdP_mk, hh, HV_of, HV_mk, HV_next, HV_len, HV_st, HV_row, HV_fin, hmat, wq_of hrng, wz, opX, intBin, ↓reduceIte, simprocAttr]))
    · subst k2
      have hrest := fun h => rests_ok (.clo 80 [.fp (ePt (.mk 2 c m qs)) 0]) (numP (.mk 2 c m qs)) rfl rows hl (fun r hr => (hrows r hr).1) (fun p _ _ h => by rw [cW_clo]; exact num_ok _ p h) h
      have hnw := restS_nw (numP (.mk 2 c m qs)) rows
      have hlen := fm_len (restF (numP (.mk 2 c m qs))) rows
      have hIH := useful_ok S T k ts (restS (numP (.mk 2 c m qs)) rows) r (by omega) (by omega) (Nat.le_trans hlen hl) hTt (restS_fit _ hM) hR
      have e : usS d (k + 1) (t :: ts) rows (.mk 2 c m qs :: r) = usS d k ts (restS (numP (.mk 2 c m qs)) rows) r := by
        simp only [usS]; rfl
      rw [e]
      (simp only [e44, hne, iaP0, iaP0', pts, ePt_k, kdP_mk, slcT, slcT', slcP, slcP', hrest, hIH, wz, opX, intBin, ↓reduceIte, simprocAttr] <;> repeat' (first | refine wpG_s ?_ ?_ | refine wpC_s ?_ ?_) <;> intro hgo <;> (try simp only [dq] at hgo) <;> simp only [hgo, e44, hne, iaP0, iaP0', pts, ePt_k, kdP_mk, slcT, slcT', slcP, slcP', hrest, hIH, wz, opX, intBin, ↓reduceIte, simprocAttr])
    · subst k1
      rcases tcase d t with h0 | h0 | ⟨n, y, rfl, hy⟩
      · rw [consOf_lo h0] at hz; cases hz
      · rw [consOf_hi h0] at hz; cases hz
      have hz' := hz
      rw [consOf_at hy] at hz'
      have hn := (List.getElem?_eq_some_iff.1 hy).1
      have hsl := S.len
      have hzm := List.mem_of_getElem? hz
      have hzf := (cons_sm S _).2 z hzm
      have hun : ∀ h, callW tab 76 [.d (eDs d), .d (.lst (eI ((n : Int) + 1) :: ts.map eI)), .d (eI (i : Int))] h = some (.d (eIs (z.flds ++ ts)), h) := fun h => under_ok hy hz' (by omega) ts hzf (by omega) h
      have hsp := fun h => special_ok (i : Int) qs.length (by omega) rows hl hrows h
      have h1 := fun h => cloneP_ok qs (by omega) h
      have h2 := fun (n : Nat) (o : List (Nat × Ob)) => clo_app (nl := none) (es := 4) (b := 48) (n := n) (o := o) (l := qs.map ePt) (r := r.map ePt) ptcells ptcells (by simp only [List.length_map, roomB]; omega)
      rw [← List.map_append] at h2
      have h3 := fun (n : Nat) (o : List (Nat × Ob)) => clo_frz (nl := none) (es := 4) (n := n) (o := o) (l := (qs ++ r).map ePt)
      have hnw := spS_nw (i : Int) qs.length rows
      have hlen := fm_len (spF (i : Int) qs.length) rows
      have hfz := fldsOf_at hy hz'
      have hM' := spS_fit i hM
      rw [hfz, hzl] at hM'
      rw [if_neg (by decide)] at hW hB
      have hIH := useful_ok S T k (z.flds ++ ts) (spS (i : Int) qs.length rows) (qs ++ r) (by rw [nwL_app, List.length_append]; omega) (by rw [nwL_app, List.length_append]; omega) (Nat.le_trans hlen hl) (flds_isT T hzm hTt) hM' (fitR_app hzR hR)
      have e : usS d (k + 1) (((n : Int) + 1) :: ts) rows (.mk 1 (i : Int) m qs :: r) = usS d k (z.flds ++ ts) (spS (i : Int) qs.length rows) (qs ++ r) := by
        simp only [usS, if_true, Int.toNat_natCast, hfz]
      rw [e]
      (simp only [e44, hne, iaP0, iaP0', pts, ePt_k, ePt_1, ePt_3, kdP_mk, cnP_mk, argsP_mk, slcT, slcT', slcP, slcP', hun, hsp, h1, h2, h3, hIH, wz, opX, intBin, ↓reduceIte, simprocAttr] <;> repeat' (first | refine wpG_s ?_ ?_ | refine wpC_s ?_ ?_) <;> intro hgo <;> (try simp only [dq] at hgo) <;> simp only [hgo, e44, hne, iaP0, iaP0', pts, ePt_k, ePt_1, ePt_3, kdP_mk, cnP_mk, argsP_mk, slcT, slcT', slcP, slcP', hun, hsp, h1, h2, h3, hIH, wz, opX, intBin, ↓reduceIte, simprocAttr])
end Zc27
end
section
set_option linter.unusedSimpArgs false
set_option linter.unusedVariables false
set_option linter.unusedSimpArgs false
set_option maxHeartbeats 4000000
namespace Zc27
open Go Zv Zs

end Zc27
end
