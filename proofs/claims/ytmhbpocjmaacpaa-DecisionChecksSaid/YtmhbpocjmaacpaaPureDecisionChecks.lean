/-
  Parts of the proof.
-/
import Derived.Test.YtmhbpocjmaacpaaZc28H1
import Derived.Test.YtmhbpocjmaacpaaZwRun
section
set_option linter.unusedSimpArgs false
set_option linter.unusedVariables false
set_option linter.unusedSimpArgs false
set_option maxHeartbeats 4000000
namespace Zc28
open Go Zv Zs

theorem slc_all {es : Nat} {l : List D} {n : Nat} (hl : ∀ y, y ∈ l → y.cells.length = es) (hn : n ≤ l.length) : slc es (.d (.lst l)) none (some (.d (.int .i64 (n : Int)))) = some (.d (.lst (l.take n))) := by
  have h : Zv.allD es l = true := by
    unfold Zv.allD
    exact List.all_eq_true.2 fun y hy => by simpa using hl y hy
  simp only [slc, bnd, Option.bind_some, ixOf, h]
  simp [hn]
theorem slc_from {es : Nat} {l : List D} {n : Nat} (hl : ∀ y, y ∈ l → y.cells.length = es) (hn : n ≤ l.length) : slc es (.d (.lst l)) (some (.d (.int .i64 (n : Int)))) none = some (.d (.lst (l.drop n))) := by
  have h : Zv.allD es l = true := by
    unfold Zv.allD
    exact List.all_eq_true.2 fun y hy => by simpa using hl y hy
  simp only [slc, bnd, Option.bind_some, ixOf, h]
  simp [hn]
/-- An append within what is there. -/
theorem app_in {es b m tot q : Nat} {o : List (Nat × Ob)} {l r z : List D} (hr : ∀ y, y ∈ r → y.cells.length = es) (ht : tot = l.length + z.length) (hz : r.length ≤ z.length) :
    app es b ⟨(m, .arr es ((l ++ z).map .d)) :: o, q⟩ (.own m es tot 0 l.length) (.d (.lst r)) = some (.own m es tot 0 (l ++ r).length, ⟨(m, .arr es (((l ++ r) ++ z.drop r.length).map .d)) :: o, q⟩) := by
  subst ht
  have hrow : (⟨(m, .arr es ((l ++ z).map V.d)) :: o, q⟩ : Hp).row m (l.length + z.length) = some (es, (l ++ z).map .d) := by rw [row_cons]; simp
  unfold app
  simp only [elems, Option.bind_some, norm_map_d, allV_d hr, if_true, hrow, List.length_map, Nat.zero_add, List.length_append, Nat.le_add_right, and_self]
  by_cases h0 : r = []
  · subst h0; simp
  · have he : (r.map V.d).isEmpty = false := by cases r with | nil => exact absurd rfl h0 | cons => rfl
    have h1 : l.length + r.length ≤ l.length + z.length := by omega
    simp only [he, Bool.false_eq_true, if_false, h1, if_true]
    simp only [Hp.set, upd, if_true, List.map_append]
    congr 4
    rw [List.take_left' (by simp), List.append_assoc, List.append_assoc, List.drop_append]
    have e1 : List.drop (l.length + r.length) (l.map V.d) = [] := List.drop_of_length_le (by simp)
    rw [e1, List.nil_append, List.map_drop, List.length_map, Nat.add_sub_cancel_left]
def totL (ls : List (List D)) : Nat := ls.flatten.length
theorem totL_snoc (ls : List (List D)) (l : List D) : totL (ls ++ [l]) = totL ls + l.length := by unfold totL; simp
theorem totL_take {ls : List (List D)} {n : Nat} {l : List D} (h : ls[n]? = some l) : totL (ls.take (n + 1)) = totL (ls.take n) + l.length := by
  rw [List.take_add_one, h]; exact totL_snoc _ _
theorem totL_le (ls : List (List D)) (n : Nat) : totL (ls.take n) ≤ totL ls := by
  unfold totL
  have : ls.flatten = (ls.take n).flatten ++ (ls.drop n).flatten := by rw [← List.flatten_append, List.take_append_drop]
  rw [this, List.length_append]; omega
abbrev eLL (ls : List (List D)) : D := .lst (ls.map .lst)
theorem iaLL {ls : List (List D)} {n : Nat} {l : List D} (h : ls[n]? = some l) : ia 1 (.d (eLL ls)) (.d (.int .i64 (n : Int))) = some (.fp (.lst l) 0) := ia_map (f := D.lst) .i64 h rfl
theorem flat_take {ls : List (List D)} {n : Nat} {l : List D} (h : ls[n]? = some l) : (ls.take (n + 1)).flatten = (ls.take n).flatten ++ l := by
  rw [List.take_add_one, h]; simp

abbrev zK : D := .agg [.lst [], .int .i64 0, .bool false, .lst []]
theorem growK_ok (n : Nat) (hn : n ≤ 100000) (h : Hp) : callW tab 135 [.tl [] (some true), .d (.int .i64 (n : Int))] h = some (if n = 0 then (.tl [] (some true), h) else (.own h.next 4 n 0 0, ⟨(h.next, .arr 4 ((List.replicate n zK).map .d)) :: h.objs, h.next + 1⟩)) := by
  refine call_wp (fn := f135) rfl rfl ?_
  have hc : capT (.tl [] (some true)) = some (.d (.int .i64 0)) := rfl
  have h0 : IntKind.i64.wrap 0 = 0 := rfl
  have hw : IntKind.i64.wrap ((n : Int) - IntKind.i64.wrap 0) = (n : Int) := by rw [h0, wrap_ok (by omega) (by omega)]; omega
  have hneg : ¬ (n : Int) < 0 := by omega
  by_cases hz : n = 0
  · subst hz
    (simp only [e135, hc, h0, wz, opX, intBin, ↓reduceIte, simprocAttr] <;> repeat' (first | refine wpG_s ?_ ?_ | refine wpC_s ?_ ?_) <;> intro hgo <;> (try simp only [dq] at hgo) <;> simp only [hgo, e135, hc, h0, wz, opX, intBin, ↓reduceIte, simprocAttr])
  · have hp : (0 : Int) < (n : Int) := by omega
    have s1 : slc 4 (.tl [] (some true)) none (some (.d (.int .i64 0))) = some (.tl [] (some true)) := rfl
    have s2 : appz (.d zK) 4 64 h (.tl [] (some true)) (.d (.int .i64 (n : Int))) = some (.own h.next 4 n 0 n, ⟨(h.next, .arr 4 ((List.replicate n zK).map .d)) :: h.objs, h.next + 1⟩) := by
      have hb : n * 64 ≤ roomB ∧ n < 2 ^ 62 := ⟨by unfold roomB; omega, by omega⟩
      simp only [appz, ixOf_nat, Option.bind_some]
      rw [if_pos hb, if_neg hz]
      simp [Hp.alloc]
    have s3 : ∀ m, slc 4 (.own m 4 n 0 n) none (some (.d (.int .i64 0))) = some (.own m 4 n 0 0) := by
      intro m
      simp [slc, bnd, ixOf]
    have s4 : (n = 0) = False := by simp [hz]
    (simp only [e135, hc, hw, hneg, hp, s1, s2, s3, s4, wz, opX, intBin, ↓reduceIte, simprocAttr] <;> repeat' (first | refine wpG_s ?_ ?_ | refine wpC_s ?_ ?_) <;> intro hgo <;> (try simp only [dq] at hgo) <;> simp only [hgo, e135, hc, hw, hneg, hp, s1, s2, s3, s4, wz, opX, intBin, ↓reduceIte, simprocAttr])
theorem concatK_ok (ls : List (List D)) (hl : ls.length ≤ 100) (hc : ∀ l, l ∈ ls → ∀ y, y ∈ l → y.cells.length = 4) (hp : 0 < totL ls) (ht : totL ls ≤ 100000) (h : Hp) :
    callW tab 112 [.d (eLL ls)] h = some (.own h.next 4 (totL ls) 0 (totL ls), ⟨(h.next, .arr 4 (ls.flatten.map .d)) :: h.objs, h.next + 1⟩) := by
  refine call_wp (fn := f112) rfl rfl ?_
  (simp only [e112, wz, opX, intBin, ↓reduceIte, simprocAttr] <;> repeat' (first | refine wpG_s ?_ ?_ | refine wpC_s ?_ ?_) <;> intro hgo <;> (try simp only [dq] at hgo) <;> simp only [hgo, e112, wz, opX, intBin, ↓reduceIte, simprocAttr])
  have z0 : totL (ls.take 0) = 0 := rfl
  have hgr := fun h => growK_ok (totL ls) ht h
  have hpn : (totL ls = 0) = False := by simp; omega
  simp only [hpn, if_false] at hgr
  refine loop_wp ls.length (fun n e h' => h' = h ∧ e = [(0, .d (eLL ls)), (3, .d (.int .i64 ((totL (ls.take n) : Nat) : Int))), (9, .d (eLL ls)), (10, .d (.int .i64 ls.length)), (11, .d (.int .i64 (n : Int)))]) _ ?_ ?_ ls.length 0 _ _ (by omega) ⟨rfl, rfl⟩
  · rintro n e h' hn ⟨rfl, rfl⟩
    obtain ⟨x, hx⟩ := get_of_lt hn
    have hwr : IntKind.i64.wrap ((n : Int) + 1) = ((n + 1 : Nat) : Int) := by rw [wrap_ok (by omega) (by omega)]; rfl
    have h1 := totL_take hx
    have h2 := totL_le ls (n + 1)
    have hw2 : IntKind.i64.wrap (((totL (ls.take n) : Nat) : Int) + (x.length : Int)) = ((totL (ls.take (n + 1)) : Nat) : Int) := by rw [wrap_ok (by omega) (by omega)]; omega
    have hneg : ¬ ((totL (ls.take (n + 1)) : Nat) : Int) < 0 := by omega
    (simp only [e112, hn, iaLL hx, hw2, hneg, hwr, wz, opX, intBin, ↓reduceIte, simprocAttr] <;> repeat' (first | refine wpG_s ?_ ?_ | refine wpC_s ?_ ?_) <;> intro hgo <;> (try simp only [dq] at hgo) <;> simp only [hgo, e112, hn, iaLL hx, hw2, hneg, hwr, wz, opX, intBin, ↓reduceIte, simprocAttr])
  · rintro e h' ⟨rfl, rfl⟩
    rw [List.take_length]
    (simp only [e112, hgr, wz, opX, intBin, ↓reduceIte, simprocAttr] <;> repeat' (first | refine wpG_s ?_ ?_ | refine wpC_s ?_ ?_) <;> intro hgo <;> (try simp only [dq] at hgo) <;> simp only [hgo, e112, hgr, wz, opX, intBin, ↓reduceIte, simprocAttr])
    refine loop_wp ls.length (fun n e h'' => h'' = ⟨(h'.next, .arr 4 (((ls.take n).flatten ++ List.replicate (totL ls - totL (ls.take n)) zK).map .d)) :: h'.objs, h'.next + 1⟩ ∧ e = [(6, .own h'.next 4 (totL ls) 0 (totL (ls.take n))), (25, .d (eLL ls)), (26, .d (.int .i64 ls.length)), (27, .d (.int .i64 (n : Int)))]) _ ?_ ?_ ls.length 0 _ _ (by omega) ⟨rfl, rfl⟩
    · rintro n e h'' hn ⟨rfl, rfl⟩
      obtain ⟨x, hx⟩ := get_of_lt hn
      have hwr : IntKind.i64.wrap ((n : Int) + 1) = ((n + 1 : Nat) : Int) := by rw [wrap_ok (by omega) (by omega)]; rfl
      have h1 := totL_take hx
      have h2 := totL_le ls (n + 1)
      have happ := app_in (es := 4) (b := 64) (m := h'.next) (tot := totL ls) (q := h'.next + 1) (o := h'.objs) (l := (ls.take n).flatten) (r := x) (z := List.replicate (totL ls - totL (ls.take n)) zK)
        (hc x (List.mem_of_getElem? hx)) (by rw [List.length_replicate]; unfold totL at h1 h2 ⊢; omega) (by rw [List.length_replicate]; omega)
      have e1 : (ls.take n).flatten.length = totL (ls.take n) := rfl
      have e2 : ((ls.take n).flatten ++ x).length = totL (ls.take (n + 1)) := by rw [h1, List.length_append]; rfl
      have e3 : List.drop x.length (List.replicate (totL ls - totL (ls.take n)) zK) = List.replicate (totL ls - totL (ls.take (n + 1))) zK := by rw [List.drop_replicate]; congr 1; omega
      rw [e1, e2, e3, ← flat_take hx] at happ
      (simp only [e112, hn, iaLL hx, happ, hwr, wz, opX, intBin, ↓reduceIte, simprocAttr] <;> repeat' (first | refine wpG_s ?_ ?_ | refine wpC_s ?_ ?_) <;> intro hgo <;> (try simp only [dq] at hgo) <;> simp only [hgo, e112, hn, iaLL hx, happ, hwr, wz, opX, intBin, ↓reduceIte, simprocAttr])
    · rintro e h'' ⟨rfl, rfl⟩
      rw [List.take_length, Nat.sub_self]
      (simp only [e112, List.replicate_zero, wz, opX, intBin, ↓reduceIte, simprocAttr] <;> repeat' (first | refine wpG_s ?_ ?_ | refine wpC_s ?_ ?_) <;> intro hgo <;> (try simp only [dq] at hgo) <;> simp only [hgo, e112, List.replicate_zero, wz, opX, intBin, ↓reduceIte, simprocAttr])
/-- Known places with another one for one of them. -/
theorem replK_ok (l : List Kn) (k : Nat) (p : Kn) (hk : k < l.length) (hl : l.length ≤ 10000) (h : Hp) :
    callW tab 68 [.d (eKs l), .d (.int .i64 (k : Int)), .d (eKs [p])] h = some (.own h.next 4 l.length 0 l.length, ⟨(h.next, .arr 4 (((l.set k p).map eK).map .d)) :: h.objs, h.next + 1⟩) := by
  refine call_wp (fn := f68) rfl rfl ?_
  have hw : IntKind.i64.wrap ((k : Int) + 1) = ((k + 1 : Nat) : Int) := by rw [wrap_ok (by omega) (by omega)]; rfl
  have s1 := slc_all (es := 4) (l := l.map eK) (n := k) kcells (by rw [List.length_map]; omega)
  have s2 := slc_from (es := 4) (l := l.map eK) (n := k + 1) kcells (by rw [List.length_map]; omega)
  have hfl : [(l.map eK).take k, [eK p], (l.map eK).drop (k + 1)].flatten = (l.set k p).map eK := by
    rw [List.map_set, List.set_eq_take_append_cons_drop]
    simp [hk]
  have htot : totL [(l.map eK).take k, [eK p], (l.map eK).drop (k + 1)] = l.length := by unfold totL; rw [hfl]; simp
  have hcc := concatK_ok [(l.map eK).take k, [eK p], (l.map eK).drop (k + 1)] (by simp) (by
    intro x hx y hy
    simp only [List.mem_cons, List.not_mem_nil, or_false] at hx
    rcases hx with rfl | rfl | rfl
    · exact kcells y (List.mem_of_mem_take hy)
    · rw [List.mem_singleton] at hy; subst hy; rfl
    · exact kcells y (List.mem_of_mem_drop hy)) (by omega) (by omega)
  rw [htot, hfl] at hcc
  have hcc : ∀ h, callW tab 112 [.d (.lst [.lst ((l.map eK).take k), eKs [p], .lst ((l.map eK).drop (k + 1))])] h = _ := hcc
  have hnt : ∀ a b c : D, norm (.tl [.d a, .d b, .d c] (some false)) = .d (.lst [a, b, c]) := fun _ _ _ => rfl
  (simp only [e68, s1, s2, hw, hnt, hcc, wz, opX, intBin, ↓reduceIte, simprocAttr] <;> repeat' (first | refine wpG_s ?_ ?_ | refine wpC_s ?_ ?_) <;> intro hgo <;> (try simp only [dq] at hgo) <;> simp only [hgo, e68, s1, s2, hw, hnt, hcc, wz, opX, intBin, ↓reduceIte, simprocAttr])
theorem withK_ok (l : List Kn) (k : Nat) (p : Kn) (hk : k < l.length) (hl : l.length ≤ 10000) (a b : Nat) (h : Hp) (ha : h.row a 1 = some (1, [.d (eKs l)])) (hb : h.row b 1 = some (1, [.d (.int .i64 (k : Int))])) :
    callW tab 67 [.d (eK p), .ptr a 1 0 0, .ptr b 1 0 0] h = some (.own (h.next + 1) 4 l.length 0 l.length, ⟨(h.next + 1, .arr 4 (((l.set k p).map eK).map .d)) :: h.objs, h.next + 1 + 1⟩) := by
  refine call_wp (fn := f67) rfl rfl ?_
  have hc : (eK p).cells.length = 4 := rfl
  have hla : ∀ q, ld false 1 ⟨h.objs, q⟩ (.ptr a 1 0 0) = some (.d (eKs l)) := by
    intro q
    have : Hp.row ⟨h.objs, q⟩ a 1 = some (1, [.d (eKs l)]) := ha
    simp [ld, this, partV, V.cells, D.cells]
  have hlb : ∀ q, ld false 1 ⟨h.objs, q⟩ (.ptr b 1 0 0) = some (.d (.int .i64 (k : Int))) := by
    intro q
    have : Hp.row ⟨h.objs, q⟩ b 1 = some (1, [.d (.int .i64 (k : Int))]) := hb
    simp [ld, this, partV, V.cells, D.cells]
  have hr : ∀ h, callW tab 68 [.d (eKs l), .d (.int .i64 (k : Int)), .d (.lst [.agg [eIs p.path, eI p.ty, .bool p.done, eIs p.nots]])] h = _ := fun h => replK_ok l k p hk hl h
  have hnt : ∀ a : D, norm (.tl [.d a] (some false)) = .d (.lst [a]) := fun _ => rfl
  (simp only [e67, hc, hla, hlb, hnt, hr, wz, opX, intBin, ↓reduceIte, simprocAttr] <;> repeat' (first | refine wpG_s ?_ ?_ | refine wpC_s ?_ ?_) <;> intro hgo <;> (try simp only [dq] at hgo) <;> simp only [hgo, e67, hc, hla, hlb, hnt, hr, wz, opX, intBin, ↓reduceIte, simprocAttr])
theorem copied_ok (l : List Kn) (hl : l.length ≤ 10000) (h : Hp) : callW tab 121 [.d (eKs l)] h = some (cloV (some true) h.next 4 (l.map eK), cloO h.objs h.next 4 (l.map eK)) := by
  refine call_wp (fn := f121) rfl rfl ?_
  have ha := tl_app (nl := some true) (es := 4) (b := 64) (h := h) (r := l.map eK) kcells (by simp only [List.length_map, roomB]; omega)
  (simp only [e121, ha, wz, opX, intBin, ↓reduceIte, simprocAttr] <;> repeat' (first | refine wpG_s ?_ ?_ | refine wpC_s ?_ ?_) <;> intro hgo <;> (try simp only [dq] at hgo) <;> simp only [hgo, e121, ha, wz, opX, intBin, ↓reduceIte, simprocAttr])
theorem idxI64_ok (l : List Int) (x : Int) (hl : l.length < 2 ^ 60) (h : Hp) : callW tab 113 [.d (eIs l), .d (eI x)] h = some (.d (eI (idxZ (fun y => x == y) l)), h) := by
  refine call_wp (fn := f113) rfl rfl ?_
  have hloop := loop_find (T := tab) (a := f113l0) (l := l) (p := fun y => x == y) (f := fun n => [(0, .d (eIs l)), (1, .d (eI x)), (7, int l.length), (8, int n)]) (h := h)
      (by intro n x hx hlt hp; all_goals (apply wq_ex.1; (simp only [hlt, hp, e113, iaI hx, hp, wrap_succ (show n < 2 ^ 62 by omega), wz, opX, intBin, ↓reduceIte, simprocAttr] <;> repeat' (first | refine wpG_s ?_ ?_ | refine wpC_s ?_ ?_) <;> intro hgo <;> (try simp only [dq] at hgo) <;> simp only [hgo, hlt, hp, e113, iaI hx, hp, wrap_succ (show n < 2 ^ 62 by omega), wz, opX, intBin, ↓reduceIte, simprocAttr])))
      (by intro n x hx hlt hp; all_goals (apply wq_ex.1; (simp only [hlt, hp, e113, iaI hx, hp, wrap_succ (show n < 2 ^ 62 by omega), wz, opX, intBin, ↓reduceIte, simprocAttr] <;> repeat' (first | refine wpG_s ?_ ?_ | refine wpC_s ?_ ?_) <;> intro hgo <;> (try simp only [dq] at hgo) <;> simp only [hgo, hlt, hp, e113, iaI hx, hp, wrap_succ (show n < 2 ^ 62 by omega), wz, opX, intBin, ↓reduceIte, simprocAttr]) <;> rfl))
      (by apply wq_ex.1; (simp only [e113, wz, opX, intBin, ↓reduceIte, simprocAttr] <;> repeat' (first | refine wpG_s ?_ ?_ | refine wpC_s ?_ ?_) <;> intro hgo <;> (try simp only [dq] at hgo) <;> simp only [hgo, e113, wz, opX, intBin, ↓reduceIte, simprocAttr]) <;> rfl)
      (by intro n x; simp) (by simp)
  simp only [int, Zv.bool, Int.cast_ofNat_Int] at hloop
  (simp only [e113, wq_of hloop, wz, opX, intBin, ↓reduceIte, simprocAttr] <;> repeat' (first | refine wpG_s ?_ ?_ | refine wpC_s ?_ ?_) <;> intro hgo <;> (try simp only [dq] at hgo) <;> simp only [hgo, e113, wq_of hloop, wz, opX, intBin, ↓reduceIte, simprocAttr])
  unfold idxZ
  cases fst? (fun y => x == y) 0 l with
  | none => (simp only [e113, wz, opX, intBin, ↓reduceIte, simprocAttr] <;> repeat' (first | refine wpG_s ?_ ?_ | refine wpC_s ?_ ?_) <;> intro hgo <;> (try simp only [dq] at hgo) <;> simp only [hgo, e113, wz, opX, intBin, ↓reduceIte, simprocAttr])
  | some n => (simp only [e113, wz, opX, intBin, ↓reduceIte, simprocAttr] <;> repeat' (first | refine wpG_s ?_ ?_ | refine wpC_s ?_ ?_) <;> intro hgo <;> (try simp only [dq] at hgo) <;> simp only [hgo, e113, wz, opX, intBin, ↓reduceIte, simprocAttr])
theorem conI64_ok (l : List Int) (x : Int) (hl : l.length < 2 ^ 60) (h : Hp) : callW tab 69 [.d (eIs l), .d (eI x)] h = some (.d (.bool (l.any fun y => x == y)), h) := by
  refine call_wp (fn := f69) rfl rfl ?_
  have hi := idxI64_ok l x hl h
  (simp only [e69, hi, idxZ_nn, Bool.decide_eq_true, wz, opX, intBin, ↓reduceIte, simprocAttr] <;> repeat' (first | refine wpG_s ?_ ?_ | refine wpC_s ?_ ?_) <;> intro hgo <;> (try simp only [dq] at hgo) <;> simp only [hgo, e69, hi, idxZ_nn, Bool.decide_eq_true, wz, opX, intBin, ↓reduceIte, simprocAttr])
end Zc28
end
section
set_option linter.unusedSimpArgs false
set_option linter.unusedVariables false
set_option linter.unusedSimpArgs false
namespace Zs
open Go Zv

def rowOf (o : Option Ob) (tot : Nat) : Option (Nat × List V) := match o with
  | some (.arr es els) => if els.length = tot then some (es, els) else none
  | _ => none
theorem row_lk (h : Hp) (n tot : Nat) : h.row n tot = rowOf (h.get n) tot := rfl
theorem rowOf_arr (es : Nat) (els : List V) (tot : Nat) : rowOf (some (.arr es els)) tot = if els.length = tot then some (es, els) else none := rfl
theorem get_objs (h : Hp) (q n : Nat) : Hp.get ⟨h.objs, q⟩ n = h.get n := rfl
theorem get_mk (m : Nat) (o : Ob) (l : List (Nat × Ob)) (q n : Nat) : Hp.get ⟨(m, o) :: l, q⟩ n = if n = m then some o else Hp.get ⟨l, q⟩ n := rfl
theorem look_upd (n : Nat) (x : Ob) (m : Nat) : ∀ l : List (Nat × Ob), look (upd l n x) m = if m = n then (look l n).map (fun _ => x) else look l m
  | [] => by simp [upd, Zv.look]
  | (k, o) :: l => by
    unfold upd
    by_cases h1 : n = k
    · subst h1
      rw [if_pos rfl]
      by_cases h2 : m = n
      · subst h2; simp [Zv.look]
      · simp [Zv.look, h2]
    · rw [if_neg h1]
      by_cases h2 : m = k
      · subst h2
        have : ¬ m = n := fun e => h1 e.symm
        simp [Zv.look, this]
      · simp only [Zv.look, h2, h1, if_false]
        exact look_upd n x m l
theorem get_sets (h : Hp) (n : Nat) (x : Ob) (m : Nat) : (h.set n x).get m = if m = n then (h.get n).map (fun _ => x) else h.get m := look_upd n x m h.objs
theorem set_next (h : Hp) (n : Nat) (x : Ob) : (h.set n x).next = h.next := rfl
theorem upd_upd (n : Nat) (x y : Ob) : ∀ l : List (Nat × Ob), upd (upd l n x) n y = upd l n y
  | [] => rfl
  | (k, o) :: l => by
    by_cases h : n = k
    · subst h; simp [upd]
    · simp only [upd, if_neg h]
      rw [upd_upd n x y l]
theorem set_set (h : Hp) (n : Nat) (x y : Ob) : (h.set n x).set n y = h.set n y := by
  unfold Hp.set; simp only [upd_upd]
theorem set_objs (h : Hp) (q n : Nat) (x : Ob) : Hp.set ⟨h.objs, q⟩ n x = ⟨(h.set n x).objs, q⟩ := rfl
theorem st_in {sz : Nat} {h : Hp} {n tot i off es : Nat} {els : List V} {e x : V} (hr : h.row n tot = some (es, els)) (he : els[i]? = some e) (hx : stor x = true) (hc : x.cells.length = sz) (ho : off + sz ≤ e.cells.length) (h1 : es ≠ 1) (h2 : ¬ (off = 0 ∧ sz = es)) :
    st sz h (.ptr n tot i off) x = some (h.set n (.arr es (els.set i (mkAgg (e.cells.take off ++ x.cells ++ e.cells.drop (off + sz)))))) := by
  simp only [st, hr, Option.bind_some, he]
  rw [if_pos ⟨hx, hc⟩, if_neg h2, if_pos ⟨ho, h1⟩]
theorem st_all {sz : Nat} {h : Hp} {n tot i : Nat} {els : List V} {e x : V} (hr : h.row n tot = some (sz, els)) (he : els[i]? = some e) (hx : stor x = true) (hc : x.cells.length = sz) :
    st sz h (.ptr n tot i 0) x = some (h.set n (.arr sz (els.set i x))) := by
  simp only [st, hr, Option.bind_some, he]
  rw [if_pos ⟨hx, hc⟩, if_pos (by simp)]
/-- The rules of heaps. -/
theorem hr : (type_of% @row_lk) ∧ (type_of% @rowOf_arr) ∧ (type_of% @get_objs) ∧ (type_of% @get_mk) ∧ (type_of% @get_sets) ∧ (type_of% @set_next) ∧ (type_of% @set_set) ∧ (type_of% @set_cons) ∧ (type_of% @set_objs) :=
  ⟨@row_lk, @rowOf_arr, @get_objs, @get_mk, @get_sets, @set_next, @set_set, @set_cons, @set_objs⟩
end Zs
end
section
set_option linter.unusedSimpArgs false
set_option linter.unusedVariables false
set_option linter.unusedSimpArgs false
set_option maxHeartbeats 4000000
namespace Zc28
open Go Zv Zs

def newK (path : List Int) (fs : List Int) : List Kn := fs.zipIdx.map fun q => ⟨path ++ [(q.2 : Int)], q.1, false, []⟩
abbrev Vis := Int → List Kn → List Bool → Bool × List Bool
def chL (f : Vis) (base : List Kn) (path : List Int) : List (Int × Cn) → List Bool → Bool × List Bool
  | [], M => (true, M)
  | x :: r, M => if (f x.1 (base ++ newK path x.2.flds) M).1 = true then chL f base path r (f x.1 (base ++ newK path x.2.flds) M).2 else (false, (f x.1 (base ++ newK path x.2.flds) M).2)
def kDone (p : Kn) : Kn := ⟨p.path, p.ty, true, p.nots⟩
def kNot (p : Kn) (n : Int) : Kn := ⟨p.path, p.ty, p.done, p.nots ++ [n]⟩
def refuse (t : Ts) (p : Kn) : Bool := p.done || (decide (p.ty ≠ 0) != t.con)
def chN (f : Vis) (t : Ts) (kn : List Kn) (i : Nat) (p : Kn) (M : List Bool) : Bool × List Bool :=
  if t.next.length = 2 ∧ (p.nots.any fun y => t.num == y) = false then
    (if (f (t.next.getD 0 0) (kn.set i (kDone p)) M).1 = true then f (t.next.getD 1 0) (kn.set i (kNot p t.num)) (f (t.next.getD 0 0) (kn.set i (kDone p)) M).2 else (false, (f (t.next.getD 0 0) (kn.set i (kDone p)) M).2))
  else (false, M)
def chC (d : List Dt) (f : Vis) (t : Ts) (kn : List Kn) (i : Nat) (p : Kn) (M : List Bool) : Bool × List Bool :=
  if t.num = 0 ∧ t.next.length = (consOf d p.ty).length then chL f (kn.set i (kDone p)) t.path (t.next.zip (consOf d p.ty)) M else (false, M)
def chP (d : List Dt) (f : Vis) (t : Ts) (kn : List Kn) (z : Int) (M : List Bool) : Bool × List Bool :=
  match getI kn z with
  | none => (false, M)
  | some p => if refuse t p = true then (false, M) else if t.con = false then chN f t kn z.toNat p M else chC d f t kn z.toNat p M
def chT (d : List Dt) (f : Vis) (t : Ts) (kn : List Kn) (M : List Bool) : Bool × List Bool :=
  if t.next = [] then (leafT t, M) else if t.row ≠ 0 then (false, M) else chP d f t kn (idxZ (hasP t) kn) M
def chS (d : List Dt) (l : List Ts) : Nat → Vis
  | 0, _, _, M => (false, M)
  | k + 1, a, kn, M => match getI l a with
    | none => (false, M)
    | some t => if getI M a = some true then (false, M) else chT d (chS d l k) t kn (M.set a.toNat true)
structure KnOk (d : List Dt) (k : Nat) (kn : List Kn) : Prop where
  len : kn.length + 8 * k ≤ 1000
  ty : ∀ p, p ∈ kn → isT d p.ty = true
  nots : ∀ p, p ∈ kn → p.nots.length + k ≤ 200
  path : ∀ p, p ∈ kn → p.path.length ≤ 20
theorem newK_len (path : List Int) (fs : List Int) : (newK path fs).length = fs.length := by simp [newK]
theorem newK_mem {path fs : List Int} {p : Kn} (h : p ∈ newK path fs) : ∃ (i : Nat) (f : Int), fs[i]? = some f ∧ p = ⟨path ++ [(i : Int)], f, false, []⟩ := by
  unfold newK at h
  obtain ⟨q, hq, rfl⟩ := List.mem_map.1 h
  exact ⟨q.2, q.1, (List.mk_mem_zipIdx_iff_getElem?.1 hq), rfl⟩
theorem KnOk.set {d : List Dt} {k : Nat} {kn : List Kn} (K : KnOk d (k + 1) kn) {i : Nat} {p : Kn} (hp : isT d p.ty = true) (hn : p.nots.length + k ≤ 200) (hl : p.path.length ≤ 20) : KnOk d k (kn.set i p) := by
  refine ⟨by have := K.len; rw [List.length_set]; omega, ?_, ?_, ?_⟩ <;> intro q hq <;> rcases List.mem_or_eq_of_mem_set hq with h | rfl
  · exact K.ty q h
  · exact hp
  · have := K.nots q h; omega
  · exact hn
  · exact K.path q h
  · exact hl
theorem KnOk.more {d : List Dt} {k : Nat} {kn : List Kn} (K : KnOk d (k + 1) kn) {i : Nat} {p : Kn} (hp : isT d p.ty = true) (hn : p.nots.length + k ≤ 200) (hl : p.path.length ≤ 20) {path fs : List Int} (h1 : path.length ≤ 12) (h2 : fs.length ≤ 8) (h3 : ∀ f, f ∈ fs → isT d f = true) (hk : k ≤ 200) : KnOk d k (kn.set i p ++ newK path fs) := by
  have S := K.set (i := i) hp hn hl
  refine ⟨by have := K.len; rw [List.length_append, List.length_set, newK_len]; omega, ?_, ?_, ?_⟩ <;> intro q hq <;> rcases List.mem_append.1 hq with h | h
  · exact S.ty q h
  · obtain ⟨j, f, hf, rfl⟩ := newK_mem h; exact h3 f (List.mem_of_getElem? hf)
  · exact S.nots q h
  · obtain ⟨j, f, hf, rfl⟩ := newK_mem h; simp only [List.length_nil]; omega
  · exact S.path q h
  · obtain ⟨j, f, hf, rfl⟩ := newK_mem h; simp only [List.length_append, List.length_cons, List.length_nil]; omega

/-! ### Marks only grow -/
def MonoV (f : Vis) : Prop := ∀ a kn M, (f a kn M).2.length = M.length ∧ cnt M ≤ cnt (f a kn M).2
theorem chL_mono {f : Vis} (h : MonoV f) (base : List Kn) (path : List Int) : ∀ (r : List (Int × Cn)) (M : List Bool), (chL f base path r M).2.length = M.length ∧ cnt M ≤ cnt (chL f base path r M).2
  | [], M => ⟨rfl, Nat.le_refl _⟩
  | x :: r, M => by
    have h1 := h x.1 (base ++ newK path x.2.flds) M
    unfold chL
    split
    · have h2 := chL_mono h base path r (f x.1 (base ++ newK path x.2.flds) M).2
      exact ⟨h2.1.trans h1.1, by omega⟩
    · exact h1
theorem chN_mono {f : Vis} (h : MonoV f) (t : Ts) (kn : List Kn) (i : Nat) (p : Kn) (M : List Bool) : (chN f t kn i p M).2.length = M.length ∧ cnt M ≤ cnt (chN f t kn i p M).2 := by
  unfold chN
  split
  · split
    · have h1 := h (t.next.getD 0 0) (kn.set i (kDone p)) M
      have h2 := h (t.next.getD 1 0) (kn.set i (kNot p t.num)) (f (t.next.getD 0 0) (kn.set i (kDone p)) M).2
      exact ⟨h2.1.trans h1.1, Nat.le_trans h1.2 h2.2⟩
    · exact h ..
  · exact ⟨rfl, Nat.le_refl _⟩
theorem chT_mono {d : List Dt} {f : Vis} (h : MonoV f) (t : Ts) (kn : List Kn) (M : List Bool) : (chT d f t kn M).2.length = M.length ∧ cnt M ≤ cnt (chT d f t kn M).2 := by
  unfold chT chP
  split
  · exact ⟨rfl, Nat.le_refl _⟩
  split
  · exact ⟨rfl, Nat.le_refl _⟩
  split
  · exact ⟨rfl, Nat.le_refl _⟩
  split
  · exact ⟨rfl, Nat.le_refl _⟩
  split
  · exact chN_mono h ..
  · unfold chC
    split
    · exact chL_mono h _ _ _ _
    · exact ⟨rfl, Nat.le_refl _⟩
theorem chS_mono (d : List Dt) (l : List Ts) : ∀ k, MonoV (chS d l k)
  | 0 => fun _ _ _ => ⟨rfl, Nat.le_refl _⟩
  | k + 1 => by
    intro a kn M
    unfold chS
    split
    · exact ⟨rfl, Nat.le_refl _⟩
    · rename_i t _
      split
      · exact ⟨rfl, Nat.le_refl _⟩
      · have h1 := chT_mono (d := d) (chS_mono d l k) t kn (M.set a.toNat true)
        refine ⟨h1.1.trans (List.length_set ..), ?_⟩
        have : cnt M ≤ cnt (M.set a.toNat true) := by
          cases hg : M[a.toNat]? with
          | none => rw [List.set_eq_of_length_le (by rwa [List.getElem?_eq_none_iff] at hg)]; exact Nat.le_refl _
          | some b => cases b with
            | false => have := set_grow hg; omega
            | true =>
              have : M.set a.toNat true = M := by
                apply List.ext_getElem?
                intro n
                rw [List.getElem?_set]
                split
                · rename_i e; subst e; rw [hg]; split
                  · rfl
                  · rename_i h2; have := (List.getElem?_eq_some_iff.1 hg).1; exact absurd this h2
                · rfl
              rw [this]; exact Nat.le_refl _
        omega

/-! ### The heap -/
theorem look_del {n m : Nat} (h : m ≠ n) : ∀ l : List (Nat × Ob), Zv.look (Zv.del l n) m = Zv.look l m
  | [] => rfl
  | (k, o) :: l => by
    unfold Zv.del
    split
    · rename_i e; subst e; rw [look_tl _ _ h]
    · by_cases hk : m = k
      · subst hk; simp [Zv.look]
      · rw [look_tl _ _ hk, look_tl _ _ hk, look_del h l]
theorem row_of {X : List (Nat × Ob)} {n es tot q : Nat} {els : List V} (h : Zv.look X n = some (.arr es els)) (ht : els.length = tot) : (⟨X, q⟩ : Hp).row n tot = some (es, els) := row_look h ht
section
variable (d : List Dt) (l : List Ts) (a dv cv : Nat)
structure VI (X : List (Nat × Ob)) (M : List Bool) : Prop where
  len : M.length = l.length
  rr : Zv.look X a = some (.arr 1 (M.map bV))
  rv : Zv.look X (a + 1) = some (.arr 1 [.own a 1 l.length 0 l.length])
  vv : Zv.look X (a + 2) = some (.arr 1 [.clo 63 [.ptr cv 1 0 0, .ptr (a + 1) 1 0 0, .ptr (a + 2) 1 0 0, .ptr dv 1 0 0]])
  cv : Zv.look X cv = some (.arr 1 [.d (.agg [eTs l])])
  dv : Zv.look X dv = some (.arr 1 [.d (eDs d)])
variable {d l a dv cv}
theorem VI.cons {X : List (Nat × Ob)} {M : List Bool} (H : VI d l a dv cv X M) (hc : cv < a) (hd : dv < a) {m : Nat} (hm : a + 2 < m) (o : Ob) : VI d l a dv cv ((m, o) :: X) M :=
  ⟨H.len, by rw [look_tl _ _ (by omega)]; exact H.rr, by rw [look_tl _ _ (by omega)]; exact H.rv, by rw [look_tl _ _ (by omega)]; exact H.vv, by rw [look_tl _ _ (by omega)]; exact H.cv, by rw [look_tl _ _ (by omega)]; exact H.dv⟩
theorem VI.del {X : List (Nat × Ob)} {M : List Bool} (H : VI d l a dv cv X M) (hc : cv < a) (hd : dv < a) {m : Nat} (hm : a + 2 < m) : VI d l a dv cv (Zv.del X m) M :=
  ⟨H.len, by rw [look_del (by omega)]; exact H.rr, by rw [look_del (by omega)]; exact H.rv, by rw [look_del (by omega)]; exact H.vv, by rw [look_del (by omega)]; exact H.cv, by rw [look_del (by omega)]; exact H.dv⟩
theorem VI.mark {X : List (Nat × Ob)} {M M' : List Bool} (H : VI d l a dv cv X M) (hc : cv < a) (hd : dv < a) (hM : M'.length = l.length) : VI d l a dv cv (Zv.upd X a (.arr 1 (M'.map bV))) M' := by
  refine ⟨hM, ?_, ?_, ?_, ?_, ?_⟩ <;> rw [Zs.look_upd]
  · rw [if_pos rfl, H.rr]; rfl
  · rw [if_neg (by omega)]; exact H.rv
  · rw [if_neg (by omega)]; exact H.vv
  · rw [if_neg (by omega)]; exact H.cv
  · rw [if_neg (by omega)]; exact H.dv
end
/-- What is older than q, apart from the marks, is as it was. -/
def Fr (a q : Nat) (X X' : List (Nat × Ob)) : Prop := ∀ n, n < q → n ≠ a → Zv.look X' n = Zv.look X n
theorem Fr.refl (a q : Nat) (X : List (Nat × Ob)) : Fr a q X X := fun _ _ _ => rfl
theorem Fr.trans {a q q' : Nat} {X Y Z : List (Nat × Ob)} (h1 : Fr a q X Y) (h2 : Fr a q' Y Z) (h : q ≤ q') : Fr a q X Z := fun n hn hna => (h2 n (by omega) hna).trans (h1 n hn hna)
theorem Fr.cons {a q m : Nat} {X Y : List (Nat × Ob)} (h : Fr a q X Y) (hm : q ≤ m) (o : Ob) : Fr a q X ((m, o) :: Y) := fun n hn hna => by rw [look_tl _ _ (by omega)]; exact h n hn hna
theorem Fr.del {a q m : Nat} {X Y : List (Nat × Ob)} (h : Fr a q X Y) (hm : q ≤ m) : Fr a q X (Zv.del Y m) := fun n hn hna => by rw [look_del (by omega)]; exact h n hn hna
theorem Fr.upd {a q : Nat} {X Y : List (Nat × Ob)} (h : Fr a q X Y) (o : Ob) : Fr a q X (Zv.upd Y a o) := fun n hn hna => by rw [Zs.look_upd, if_neg hna]; exact h n hn hna
end Zc28
end
section
set_option linter.unusedSimpArgs false
set_option linter.unusedVariables false
set_option linter.unusedSimpArgs false
set_option maxHeartbeats 4000000
namespace Zc28
open Go Zv Zs

theorem st_k1 (p : Kn) (m nx : Nat) (L : List (Nat × Ob)) : st 1 ⟨(m, .arr 4 [.d (eK p)]) :: L, nx⟩ (.ptr m 1 0 2) (.d (.bool true)) = some ⟨(m, .arr 4 [.d (eK (kDone p))]) :: L, nx⟩ := by
  simp [st, row_hd, stor, V.cells, D.cells, set_hd]
  rfl
theorem st_k2 (p : Kn) (m nx : Nat) (o : Ob) (L : List (Nat × Ob)) : st 1 ⟨(m + 1, o) :: (m, .arr 4 [.d (eK p)]) :: L, nx⟩ (.ptr m 1 0 2) (.d (.bool true)) = some ⟨(m + 1, o) :: (m, .arr 4 [.d (eK (kDone p))]) :: L, nx⟩ := by
  have hr : Hp.row ⟨(m + 1, o) :: (m, .arr 4 [.d (eK p)]) :: L, nx⟩ m 1 = some (4, [.d (eK p)]) := by
    unfold Hp.row Hp.get; simp [Zv.look]
  have hs : ∀ y, Hp.set ⟨(m + 1, o) :: (m, .arr 4 [.d (eK p)]) :: L, nx⟩ m y = ⟨(m + 1, o) :: (m, y) :: L, nx⟩ := by
    intro y; unfold Hp.set; simp [upd]
  simp [st, hr, stor, V.cells, D.cells, hs]
  rfl
theorem st_k3 (p : Kn) (n : Int) (m nx : Nat) (L : List (Nat × Ob)) : st 1 ⟨(m, .arr 4 [.d (eK p)]) :: L, nx⟩ (.ptr m 1 0 3) (.d (.lst ((p.nots ++ [n]).map eI))) = some ⟨(m, .arr 4 [.d (eK (kNot p n))]) :: L, nx⟩ := by
  simp [st, row_hd, stor, V.cells, D.cells, set_hd]
  simp [mkAgg, asD, kNot]
theorem slc3_I (p : List Int) : slc3 1 (.d (eIs p)) none (some (.d (.int .i64 (p.length : Int)))) (some (.d (.int .i64 (p.length : Int)))) = some (.tl ((p.map eI).map .d) none) := by
  have h1 : Zv.allD 1 (p.map eI) = true := by
    unfold Zv.allD
    exact List.all_eq_true.2 fun y hy => by obtain ⟨q, _, rfl⟩ := List.mem_map.1 hy; rfl
  have h2 : List.take p.length (p.map (V.d ∘ eI)) = p.map (V.d ∘ eI) := List.take_of_length_le (by simp)
  simp [slc3, bnd, ixOf, h1, h2]
theorem appd_I (p : List Int) (n : Int) (hp : p.length ≤ 1000) : appd 1 8 (.tl ((p.map eI).map .d) none) (.tl [.d (eI n)] (some false)) = some (.d (.lst ((p ++ [n]).map eI))) := by
  have hb : (p.length + 1) * 8 ≤ roomB := by unfold roomB; omega
  have h1 : allV 1 ((p.map eI).map V.d) = true := by
    unfold allV
    refine List.all_eq_true.2 fun y hy => ?_
    obtain ⟨q, hq, rfl⟩ := List.mem_map.1 hy
    obtain ⟨z, _, rfl⟩ := List.mem_map.1 hq
    simp [stor, V.cells, D.cells]
  have h2 : allV 1 [V.d (eI n)] = true := rfl
  have h3 : toDs ((p.map eI).map V.d ++ [V.d (eI n)]) = some ((p ++ [n]).map eI) := by
    have := toDs_map_d ((p ++ [n]).map eI)
    simpa using this
  simp only [appd, elems0, Option.bind_some, h2, if_true, List.map_cons, List.map_nil, norm_d, List.isEmpty_cons, Bool.false_eq_true, if_false, List.length_map, List.length_cons, List.length_nil, Nat.zero_add, hb, h1, and_self, h3, Option.map_some]
theorem row_cn {n m es tot nx : Nat} {o : Ob} {els : List V} {L : List (Nat × Ob)} (h : n ≠ m) (hr : ∀ nx, Hp.row ⟨L, nx⟩ n tot = some (es, els)) : Hp.row ⟨(m, o) :: L, nx⟩ n tot = some (es, els) := by
  have := hr nx
  unfold Hp.row Hp.get at this ⊢
  simp only [Zv.look, if_neg h] at this ⊢
  exact this
theorem idxZ_cases {α : Type} (p : α → Bool) (l : List α) : idxZ p l = -1 ∨ ∃ (n : Nat) (x : α), idxZ p l = n ∧ l[n]? = some x ∧ p x = true := by
  unfold idxZ
  cases h : fst? p 0 l with
  | none => exact .inl rfl
  | some q =>
    obtain ⟨n, x⟩ := q
    obtain ⟨h0, h1, h2, _⟩ := fst_some h
    exact .inr ⟨n, x, rfl, by simpa using h1, h2⟩
theorem newK_snoc (path : List Int) {fs : List Int} {n : Nat} {f : Int} (h : fs[n]? = some f) : newK path (fs.take (n + 1)) = newK path (fs.take n) ++ [⟨path ++ [(n : Int)], f, false, []⟩] := by
  have hn := (List.getElem?_eq_some_iff.1 h).1
  rw [List.take_add_one, h]
  unfold newK
  rw [Option.toList_some, List.zipIdx_append, List.map_append]
  simp [show min n fs.length = n by omega]
theorem app_tl1 (es b : Nat) (h : Hp) (s : V) (x : D) (nl : Option Bool) : app es b h s (.tl [.d x] nl) = app es b h s (.d (.lst [x])) := by
  simp [app, elems, norm_d]
theorem chL_cons (f : Vis) (base : List Kn) (path : List Int) (x : Int) (c : Cn) (r : List (Int × Cn)) (M : List Bool) : chL f base path ((x, c) :: r) M = if (f x (base ++ newK path c.flds) M).1 = true then chL f base path r (f x (base ++ newK path c.flds) M).2 else (false, (f x (base ++ newK path c.flds) M).2) := rfl
theorem mk_s (x y z : D) : stor (mkAgg [.d x, .d y, .d z, .tl [] (some true)]) = true := rfl
theorem mk_c (x y z : D) : (mkAgg [.d x, .d y, .d z, .tl [] (some true)]).cells.length = 4 := rfl
theorem mk_n (x y z : D) : norm (mkAgg [.d x, .d y, .d z, .tl [] (some true)]) = .d (.agg [x, y, z, .lst []]) := rfl
end Zc28
end
section
set_option linter.unusedSimpArgs false
set_option linter.unusedVariables false
set_option linter.unusedSimpArgs false
set_option maxHeartbeats 4000000
namespace Zc28
open Go Zv Zs

/-- What a visit leaves. -/
def VPost (d : List Dt) (l : List Ts) (a dv cv : Nat) (X : List (Nat × Ob)) (q : Nat) (R : Bool × List Bool) (r : V × Hp) : Prop := ∃ X' q', r = (.d (.bool R.1), ⟨X', q'⟩) ∧ VI d l a dv cv X' R.2 ∧ q ≤ q' ∧ Fr a q X X'
abbrev vArgs (a dv cv : Nat) (n : Int) (kn : List Kn) : List V := [.d (eI n), .d (eKs kn), .ptr cv 1 0 0, .ptr (a + 1) 1 0 0, .ptr (a + 2) 1 0 0, .ptr dv 1 0 0]
theorem visit_ok {d : List Dt} {l : List Ts} (L : Light l) (B : Bd d) (Fl : ∀ y, y ∈ d → ∀ c, c ∈ y.cons → c.flds.length ≤ 8) (T : ∀ y, y ∈ d → ∀ c, c ∈ y.cons → ∀ f, f ∈ c.flds → isT d f = true) {a dv cv : Nat} (hc : cv < a) (hd : dv < a) :
    ∀ (k : Nat) (n : Int) (kn : List Kn) (M : List Bool) (X : List (Nat × Ob)) (q : Nat), l.length - cnt M < k → k ≤ 100 → KnOk d k kn → VI d l a dv cv X M → a + 2 < q →
      ∃ r, callW tab 63 (vArgs a dv cv n kn) ⟨X, q⟩ = some r ∧ VPost d l a dv cv X q (chS d l k n kn M) r := by
  intro k
  induction k with
  | zero => intro n kn M X q h; omega
  | succ k ih =>
    intro n kn M X q hk hk100 K I hq
    have hlen := L.len
    have bft : (false == true) = false := rfl
    have btf : (true == false) = false := rfl
    have hcl := cnt_len M
    have hML := I.len
    have R : ∀ {m es tot : Nat} {els : List V}, Zv.look X m = some (.arr es els) → els.length = tot → m < q → ∀ o nx, Hp.row ⟨(q, o) :: X, nx⟩ m tot = some (es, els) := fun h1 h2 h3 o nx => row_cn (by omega) (fun nx => row_of h1 h2)
    have rc := fun o nx => R (tot := 1) I.cv rfl (by omega) o nx
    have rv := fun o nx => R (tot := 1) I.rv rfl (by omega) o nx
    have rr := fun o nx => R (tot := l.length) I.rr (by rw [List.length_map]; exact I.len) (by omega) o nx
    refine call_wpE (fn := f63) rfl rfl ?_
    rcases getI_cases l n with ⟨hn, hg⟩ | ⟨hn, hn2, hg⟩ | ⟨j, t, rfl, hj, ht, hg⟩
    · have hS : chS d l (k + 1) n kn M = (false, M) := by unfold chS; rw [hg]
      (simp only [e63, hn, wz, opX, intBin, ↓reduceIte, simprocAttr] <;> repeat' (first | refine wpG_s ?_ ?_ | refine wpC_s ?_ ?_) <;> intro hgo <;> (try simp only [dq] at hgo) <;> simp only [hgo, e63, hn, wz, opX, intBin, ↓reduceIte, simprocAttr])
      exact ⟨_, rfl, by rw [hS]; exact ⟨_, _, rfl, I.cons hc hd hq _, by omega, (Fr.refl _ _ _).cons (Nat.le_refl _) _⟩⟩
    · have hS : chS d l (k + 1) n kn M = (false, M) := by unfold chS; rw [hg]
      (simp only [e63, hn, hn2, rc, wz, opX, intBin, ↓reduceIte, simprocAttr] <;> repeat' (first | refine wpG_s ?_ ?_ | refine wpC_s ?_ ?_) <;> intro hgo <;> (try simp only [dq] at hgo) <;> simp only [hgo, e63, hn, hn2, rc, wz, opX, intBin, ↓reduceIte, simprocAttr])
      exact ⟨_, rfl, by rw [hS]; exact ⟨_, _, rfl, I.cons hc hd hq _, by omega, (Fr.refl _ _ _).cons (Nat.le_refl _) _⟩⟩
    · obtain ⟨b, hb⟩ := get_of_lt (l := M) (n := j) (by omega)
      have hj2 : ¬ (l.length : Int) ≤ (j : Int) := by omega
      have hio := ia_own (es := 1) (n := a) (tot := l.length) .i64 hj
      have hlb := fun o nx => ld_bit (rr o nx) hb
      have hgM : getI M (j : Int) = some b := by rw [getI_nat]; exact hb
      cases b with
      | true =>
        have hS : chS d l (k + 1) j kn M = (false, M) := by unfold chS; rw [hg]; simp only [hgM, if_true]
        (simp only [e63, hj2, rc, rv, hio, hlb, wz, opX, intBin, ↓reduceIte, simprocAttr] <;> repeat' (first | refine wpG_s ?_ ?_ | refine wpC_s ?_ ?_) <;> intro hgo <;> (try simp only [dq] at hgo) <;> simp only [hgo, e63, hj2, rc, rv, hio, hlb, wz, opX, intBin, ↓reduceIte, simprocAttr])
        exact ⟨_, rfl, by rw [hS]; exact ⟨_, _, rfl, I.cons hc hd hq _, by omega, (Fr.refl _ _ _).cons (Nat.le_refl _) _⟩⟩
      | false =>
        have hS : chS d l (k + 1) j kn M = chT d (chS d l k) t kn (M.set j true) := by
          rw [chS, hg]; simp only [hgM]; rfl
        have hgr := set_grow hb
        have hst : ∀ o nx, st 1 ⟨(q, o) :: X, nx⟩ (.ptr a l.length j 0) (.d (.bool true)) = some ⟨(q, o) :: Zv.upd X a (.arr 1 ((M.set j true).map bV)), nx⟩ := by
          intro o nx
          have e := st_all (sz := 1) (i := j) (x := .d (.bool true)) (rr o nx) (e := bV false) (by rw [List.getElem?_map, hb]; rfl) rfl rfl
          rw [e]
          have : a ≠ q := by omega
          simp [Hp.set, upd, this, List.map_set]
        have I1 := I.mark hc hd (M' := M.set j true) (by rw [List.length_set]; exact hML)
        have F1 : Fr a q X (Zv.upd X a (.arr 1 ((M.set j true).map bV))) := (Fr.refl _ _ _).upd _
        generalize Zv.upd X a (.arr 1 ((M.set j true).map bV)) = X1 at hst I1 F1
        have R1 : ∀ {m es tot : Nat} {els : List V}, Zv.look X1 m = some (.arr es els) → els.length = tot → m < q → ∀ o nx, Hp.row ⟨(q, o) :: X1, nx⟩ m tot = some (es, els) := fun h1 h2 h3 o nx => row_cn (by omega) (fun nx => row_of h1 h2)
        have rc1 := fun o nx => R1 (tot := 1) I1.cv rfl (by omega) o nx
        have hcT : (eT t).cells.length = 5 := rfl
        rw [hS]
        have hcM : l.length - cnt (M.set j true) < k := by
          have := cnt_len (M.set j true); rw [List.length_set] at this; omega
        have hC1 := fun h => leaf_ok t h
        by_cases hnx : t.next = []
        · have hz : ((t.next.length : Int) == 0) = true := by rw [hnx]; rfl
          have hS2 : chT d (chS d l k) t kn (M.set j true) = (leafT t, M.set j true) := by unfold chT; rw [if_pos hnx]
          rw [hS2]
          (simp only [e63, hj2, rc, rv, hio, hlb, hst, rc1, iaT ht, hcT, hz, hC1, wz, opX, intBin, ↓reduceIte, simprocAttr] <;> repeat' (first | refine wpG_s ?_ ?_ | refine wpC_s ?_ ?_) <;> intro hgo <;> (try simp only [dq] at hgo) <;> simp only [hgo, e63, hj2, rc, rv, hio, hlb, hst, rc1, iaT ht, hcT, hz, hC1, wz, opX, intBin, ↓reduceIte, simprocAttr])
          exact ⟨_, rfl, _, _, rfl, (I1.cons hc hd hq _).cons hc hd (by omega) _, by omega, (F1.cons (Nat.le_refl _) _).cons (by omega) _⟩
        · have hz : ((t.next.length : Int) == 0) = false := beq_eq_false_iff_ne.2 (fun h => hnx (List.length_eq_zero_iff.1 (by omega)))
          obtain ⟨htp, htn⟩ := L.ts t (List.mem_of_getElem? ht)
          have hidx := idxFK kn (.clo 66 [.ptr (q + 1) 1 0 0]) (hasP t) ⟨(q + 1, .arr 5 [.d (eT t)]) :: (q, .arr 1 [.d (eKs kn)]) :: X1, q + 1 + 1⟩ (by have := K.len; omega) rfl
            (fun c hc => by rw [cW_clo, if_neg (by decide)]; exact check11_ok t (q + 1) (by omega) c (by have := K.path c hc; omega) _ (by rw [row_hd]; rfl) (by show q + 1 ≠ q + 1 + 1; omega))
          have rq : ∀ o nx, Hp.row ⟨(q + 1 + 1, o) :: (q, .arr 1 [.d (eKs kn)]) :: X1, nx⟩ q 1 = some (1, [.d (eKs kn)]) := fun o nx => row_cn (by omega) (fun nx => by rw [row_hd]; rfl)
          have rq0 : ∀ o nx, Hp.row ⟨(q + 1, o) :: (q, .arr 1 [.d (eKs kn)]) :: X1, nx⟩ q 1 = some (1, [.d (eKs kn)]) := fun o nx => row_cn (by omega) (fun nx => by rw [row_hd]; rfl)
          have I2 : ∀ o, VI d l a dv cv ((q + 1 + 1, o) :: (q, .arr 1 [.d (eKs kn)]) :: X1) (M.set j true) := fun o => (I1.cons hc hd hq _).cons hc hd (by omega) _
          have F2 : ∀ o, Fr a q X ((q + 1 + 1, o) :: (q, .arr 1 [.d (eKs kn)]) :: X1) := fun o => (F1.cons (Nat.le_refl _) _).cons (by omega) _
          by_cases hrow : t.row = 0
          · have hr0 : (t.row == 0) = true := by rw [hrow]; rfl
            have hS2 : chT d (chS d l k) t kn (M.set j true) = chP d (chS d l k) t kn (idxZ (hasP t) kn) (M.set j true) := by
              unfold chT; rw [if_neg hnx, if_neg (by simp [hrow])]
            rw [hS2]
            rcases idxZ_cases (hasP t) kn with hz1 | ⟨m, p, hz1, hp, hpt⟩
            · have hS3 : chP d (chS d l k) t kn (idxZ (hasP t) kn) (M.set j true) = (false, M.set j true) := by rw [hz1]; rfl
              rw [hS3]
              rw [hz1] at hidx
              (simp only [e63, hj2, rc, rv, hio, hlb, hst, rc1, iaT ht, hcT, hz, hidx, rq, rq0, hr0, bne, wz, opX, intBin, ↓reduceIte, simprocAttr] <;> repeat' (first | refine wpG_s ?_ ?_ | refine wpC_s ?_ ?_) <;> intro hgo <;> (try simp only [dq] at hgo) <;> simp only [hgo, e63, hj2, rc, rv, hio, hlb, hst, rc1, iaT ht, hcT, hz, hidx, rq, rq0, hr0, bne, wz, opX, intBin, ↓reduceIte, simprocAttr])
              exact ⟨_, rfl, _, _, rfl, I2 _, by omega, F2 _⟩
            · rw [hz1] at hidx
              have hS3 : chP d (chS d l k) t kn (idxZ (hasP t) kn) (M.set j true) = if refuse t p = true then (false, M.set j true) else if t.con = false then chN (chS d l k) t kn m p (M.set j true) else chC d (chS d l k) t kn m p (M.set j true) := by
                rw [hz1]; unfold chP; rw [getI_nat, hp]; rfl
              rw [hS3]
              have hpl := (List.getElem?_eq_some_iff.1 hp).1
              have hpm := List.mem_of_getElem? hp
              cases hdn : p.done with
              | true =>
                have hrf : refuse t p = true := by unfold refuse; rw [hdn]; rfl
                rw [if_pos hrf]
                (simp only [e63, hj2, rc, rv, hio, hlb, hst, rc1, iaT ht, hcT, hz, hidx, rq, rq0, hr0, bne, iaK hp, hdn, wz, opX, intBin, ↓reduceIte, simprocAttr] <;> repeat' (first | refine wpG_s ?_ ?_ | refine wpC_s ?_ ?_) <;> intro hgo <;> (try simp only [dq] at hgo) <;> simp only [hgo, e63, hj2, rc, rv, hio, hlb, hst, rc1, iaT ht, hcT, hz, hidx, rq, rq0, hr0, bne, iaK hp, hdn, wz, opX, intBin, ↓reduceIte, simprocAttr])
                exact ⟨_, rfl, _, _, rfl, I2 _, by omega, F2 _⟩
              | false =>
                cases hty : (p.ty == 0) with
                | true =>
                  have hty2 : p.ty = 0 := by simpa using hty
                  cases hcn : t.con with
                  | true =>
                    have hrf : refuse t p = true := by unfold refuse; rw [hdn, hcn, hty2]; rfl
                    rw [if_pos hrf]
                    simp only [eT, hcn] at hidx
                    (simp only [e63, hj2, rc, rv, hio, hlb, hst, rc1, iaT ht, hcT, hz, hidx, rq, rq0, hr0, bne, iaK hp, hdn, hty, hcn, bft, btf, wz, opX, intBin, ↓reduceIte, simprocAttr] <;> repeat' (first | refine wpG_s ?_ ?_ | refine wpC_s ?_ ?_) <;> intro hgo <;> (try simp only [dq] at hgo) <;> simp only [hgo, e63, hj2, rc, rv, hio, hlb, hst, rc1, iaT ht, hcT, hz, hidx, rq, rq0, hr0, bne, iaK hp, hdn, hty, hcn, bft, btf, wz, opX, intBin, ↓reduceIte, simprocAttr])
                    exact ⟨_, rfl, _, _, rfl, I2 _, by omega, F2 _⟩
                  | false =>
                    have hrf : refuse t p = false := by unfold refuse; rw [hdn, hcn, hty2]; rfl
                    rw [if_neg (by rw [hrf]; simp), if_pos rfl]
                    simp only [eT, hcn] at hidx
                    have hKl := K.len
                    have hcon := fun h => conI64_ok p.nots t.num (by have := K.nots p hpm; omega) h
                    by_cases h2 : t.next.length = 2
                    · have hn2 : ((t.next.length : Int) == 2) = true := by rw [h2]; rfl
                      cases hany : (p.nots.any fun y => t.num == y) with
                      | true =>
                        have hS4 : chN (chS d l k) t kn m p (M.set j true) = (false, M.set j true) := by unfold chN; rw [if_neg (by rw [hany]; simp)]
                        rw [hS4]
                        rw [hany] at hcon
                        (simp only [e63, hj2, rc, rv, hio, hlb, hst, rc1, iaT ht, hcT, hz, hidx, rq, rq0, hr0, bne, iaK hp, hdn, hty, hcn, bft, btf, hn2, hcon, wz, opX, intBin, ↓reduceIte, simprocAttr] <;> repeat' (first | refine wpG_s ?_ ?_ | refine wpC_s ?_ ?_) <;> intro hgo <;> (try simp only [dq] at hgo) <;> simp only [hgo, e63, hj2, rc, rv, hio, hlb, hst, rc1, iaT ht, hcT, hz, hidx, rq, rq0, hr0, bne, iaK hp, hdn, hty, hcn, bft, btf, hn2, hcon, wz, opX, intBin, ↓reduceIte, simprocAttr])
                        exact ⟨_, rfl, _, _, rfl, I2 _, by omega, F2 _⟩
                      | false =>
                        rw [hany] at hcon
                        obtain ⟨x0, hx0⟩ := get_of_lt (l := t.next) (n := 0) (by omega)
                        obtain ⟨x1, hx1⟩ := get_of_lt (l := t.next) (n := 1) (by omega)
                        have ia0 : ia 1 (.d (.lst (t.next.map eI))) (.d (.int .i64 0)) = some (.fp (eI x0) 0) := iaI hx0
                        have ia1 : ia 1 (.d (.lst (t.next.map eI))) (.d (.int .i64 1)) = some (.fp (eI x1) 0) := iaI hx1
                        have hS4 : chN (chS d l k) t kn m p (M.set j true) = if (chS d l k x0 (kn.set m (kDone p)) (M.set j true)).1 = true then chS d l k x1 (kn.set m (kNot p t.num)) (chS d l k x0 (kn.set m (kDone p)) (M.set j true)).2 else (false, (chS d l k x0 (kn.set m (kDone p)) (M.set j true)).2) := by
                          unfold chN; rw [if_pos ⟨h2, hany⟩, List.getD_eq_getElem?_getD, List.getD_eq_getElem?_getD, hx0, hx1]; rfl
                        rw [hS4]
                        have hty3 := K.ty p hpm
                        have hno3 := K.nots p hpm
                        have hpa3 := K.path p hpm
                        have K1 : KnOk d k (kn.set m (kDone p)) := K.set (p := kDone p) hty3 (by show p.nots.length + k ≤ 200; omega) hpa3
                        have K2 : KnOk d k (kn.set m (kNot p t.num)) := K.set (p := kNot p t.num) hty3 (by show (p.nots ++ [t.num]).length + k ≤ 200; rw [List.length_append]; simp only [List.length_cons, List.length_nil]; omega) hpa3
                        have hfz : ∀ (p' : Kn) (m' : Nat) (o : List (Nat × Ob)) (nx : Nat), Zv.frz ⟨(m', .arr 4 (((kn.set m p').map eK).map .d)) :: o, nx⟩ (.own m' 4 kn.length 0 kn.length) = some (.d (eKs (kn.set m p')), ⟨o, nx⟩) := by
                          intro p' m' o nx
                          have := own_frz (es := 4) (m := m') (q := nx) (o := o) (l := (kn.set m p').map eK)
                          rw [List.length_map, List.length_set] at this
                          exact this
                        have hw1 : ∀ nx, callW tab 67 [.d (eK (kDone p)), .ptr q 1 0 0, .ptr (q + 1 + 1) 1 0 0] ⟨(q + 1 + 1, .arr 1 [.d (eI m)]) :: (q, .arr 1 [.d (eKs kn)]) :: X1, nx⟩ = _ :=
                          fun nx => withK_ok kn m (kDone p) hpl (by omega) q (q + 1 + 1) ⟨(q + 1 + 1, .arr 1 [.d (eI m)]) :: (q, .arr 1 [.d (eKs kn)]) :: X1, nx⟩ (rq _ _) (by rw [row_hd]; rfl)
                        have lk := fun o nx => row_of (q := nx) (I2 o).vv (tot := 1) rfl
                        have hlk : ∀ o nx, ldk false 1 ⟨(q + 1 + 1, o) :: (q, .arr 1 [.d (eKs kn)]) :: X1, nx⟩ (.ptr (a + 2) 1 0 0) (.ptr (a + 2) 1 0 0) = some (.clo 63 [.ptr cv 1 0 0, .ptr (a + 1) 1 0 0, .ptr (a + 2) 1 0 0, .ptr dv 1 0 0]) := by
                          intro o nx; simp [ldk, ld, lk, partV, V.cells]
                        have hsm : ∀ (Y : List (Nat × Ob)) (M' : List Bool) (n1 n2 : Nat), VI d l a dv cv Y M' → sameAt ⟨Y, n1⟩ ⟨Y, n2⟩ (.ptr (a + 2) 1 0 0) = true := by
                          intro Y M' n1 n2 IY
                          simp only [sameAt, Hp.get, IY.vv, Ob.beq_refl]
                        have hs1 := fun o n1 n2 => hsm _ _ n1 n2 (I2 o)
                        obtain ⟨r1, hv1, X', q', rfl, I3, hq3, F3⟩ := ih x0 (kn.set m (kDone p)) (M.set j true) ((q + 1 + 1, .arr 1 [.d (eI m)]) :: (q, .arr 1 [.d (eKs kn)]) :: X1) (q + 1 + 1 + 1 + 1 + 1 + 1 + 1 + 1) hcM (by omega) K1 (I2 _) (by omega)
                        simp only [vArgs] at hv1
                        have hslc := slc3_I p.nots
                        have hapd := appd_I p.nots t.num (by omega)
                        have e2 : eK p = D.agg [eIs p.path, eI p.ty, .bool false, eIs p.nots] := by show D.agg [eIs p.path, eI p.ty, .bool p.done, eIs p.nots] = _; rw [hdn]
                        have e1 : eK (kDone p) = D.agg [eIs p.path, eI p.ty, .bool true, eIs p.nots] := rfl
                        have e3 : eK (kNot p t.num) = D.agg [eIs p.path, eI p.ty, .bool false, eIs (p.nots ++ [t.num])] := by show D.agg [eIs p.path, eI p.ty, .bool p.done, eIs (p.nots ++ [t.num])] = _; rw [hdn]
                        have hk2 := fun m nx o L => st_k2 p m nx o L
                        have hk3 := fun m nx L => st_k3 p t.num m nx L
                        rw [e2, e1] at hk2
                        rw [e2, e3] at hk3
                        rw [e1] at hw1
                        cases hb1 : (chS d l k x0 (kn.set m (kDone p)) (M.set j true)).1 with
                        | false =>
                          rw [if_neg (by simp)]
                          rw [hb1] at hv1
                          (simp only [e63, hj2, rc, rv, hio, hlb, hst, rc1, iaT ht, hcT, hz, hidx, rq, rq0, hr0, bne, iaK hp, hdn, hty, hcn, bft, btf, hn2, hcon, hslc, hapd, hk2, hk3, hlk, hw1, hfz, hs1, ia0, hv1, wz, opX, intBin, ↓reduceIte, simprocAttr] <;> repeat' (first | refine wpG_s ?_ ?_ | refine wpC_s ?_ ?_) <;> intro hgo <;> (try simp only [dq] at hgo) <;> simp only [hgo, e63, hj2, rc, rv, hio, hlb, hst, rc1, iaT ht, hcT, hz, hidx, rq, rq0, hr0, bne, iaK hp, hdn, hty, hcn, bft, btf, hn2, hcon, hslc, hapd, hk2, hk3, hlk, hw1, hfz, hs1, ia0, hv1, wz, opX, intBin, ↓reduceIte, simprocAttr])
                          exact ⟨_, rfl, _, _, rfl, I3, by omega, (F2 _).trans F3 (by omega)⟩
                        | true =>
                          rw [if_pos rfl]
                          rw [hb1] at hv1
                          have hmo := chS_mono d l k x0 (kn.set m (kDone p)) (M.set j true)
                          have lq : Zv.look X' q = some (.arr 1 [.d (eKs kn)]) := by rw [F3 q (by omega) (by omega), look_tl _ _ (by omega), look_hd]
                          have lm : Zv.look X' (q + 1 + 1) = some (.arr 1 [.d (eI m)]) := by rw [F3 (q + 1 + 1) (by omega) (by omega), look_hd]
                          have hw2 : ∀ nx, callW tab 67 [.d (eK (kNot p t.num)), .ptr q 1 0 0, .ptr (q + 1 + 1) 1 0 0] ⟨X', nx⟩ = _ :=
                            fun nx => withK_ok kn m (kNot p t.num) hpl (by omega) q (q + 1 + 1) ⟨X', nx⟩ (row_of lq rfl) (row_of lm rfl)
                          rw [e3] at hw2
                          have lk3 := fun nx => row_of (q := nx) I3.vv (tot := 1) rfl
                          have hlk3 : ∀ nx, ldk false 1 ⟨X', nx⟩ (.ptr (a + 2) 1 0 0) (.ptr (a + 2) 1 0 0) = some (.clo 63 [.ptr cv 1 0 0, .ptr (a + 1) 1 0 0, .ptr (a + 2) 1 0 0, .ptr dv 1 0 0]) := by
                            intro nx; simp [ldk, ld, lk3, partV, V.cells]
                          have hs3 := fun n1 n2 => hsm _ _ n1 n2 I3
                          obtain ⟨r2, hv2, X'', q'', rfl, I4, hq4, F4⟩ := ih x1 (kn.set m (kNot p t.num)) _ X' (q' + 1 + 1) (by omega) (by omega) K2 I3 (by omega)
                          simp only [vArgs] at hv2
                          (simp only [e63, hj2, rc, rv, hio, hlb, hst, rc1, iaT ht, hcT, hz, hidx, rq, rq0, hr0, bne, iaK hp, hdn, hty, hcn, bft, btf, hn2, hcon, hslc, hapd, hk2, hk3, hlk, hw1, hfz, hs1, ia0, ia1, hv1, hw2, hlk3, hs3, hv2, wz, opX, intBin, ↓reduceIte, simprocAttr] <;> repeat' (first | refine wpG_s ?_ ?_ | refine wpC_s ?_ ?_) <;> intro hgo <;> (try simp only [dq] at hgo) <;> simp only [hgo, e63, hj2, rc, rv, hio, hlb, hst, rc1, iaT ht, hcT, hz, hidx, rq, rq0, hr0, bne, iaK hp, hdn, hty, hcn, bft, btf, hn2, hcon, hslc, hapd, hk2, hk3, hlk, hw1, hfz, hs1, ia0, ia1, hv1, hw2, hlk3, hs3, hv2, wz, opX, intBin, ↓reduceIte, simprocAttr])
                          exact ⟨_, rfl, _, _, rfl, I4, by omega, ((F2 _).trans F3 (by omega)).trans F4 (by omega)⟩
                    · have hn2 : ((t.next.length : Int) == 2) = false := beq_eq_false_iff_ne.2 (fun h => h2 (by omega))
                      have hS4 : chN (chS d l k) t kn m p (M.set j true) = (false, M.set j true) := by unfold chN; rw [if_neg (fun h => h2 h.1)]
                      rw [hS4]
                      (simp only [e63, hj2, rc, rv, hio, hlb, hst, rc1, iaT ht, hcT, hz, hidx, rq, rq0, hr0, bne, iaK hp, hdn, hty, hcn, bft, btf, hn2, wz, opX, intBin, ↓reduceIte, simprocAttr] <;> repeat' (first | refine wpG_s ?_ ?_ | refine wpC_s ?_ ?_) <;> intro hgo <;> (try simp only [dq] at hgo) <;> simp only [hgo, e63, hj2, rc, rv, hio, hlb, hst, rc1, iaT ht, hcT, hz, hidx, rq, rq0, hr0, bne, iaK hp, hdn, hty, hcn, bft, btf, hn2, wz, opX, intBin, ↓reduceIte, simprocAttr])
                      exact ⟨_, rfl, _, _, rfl, I2 _, by omega, F2 _⟩
                | false =>
                  have hty2 : p.ty ≠ 0 := by simpa using hty
                  cases hcn : t.con with
                  | false =>
                    have hrf : refuse t p = true := by unfold refuse; rw [hdn, hcn, decide_eq_true hty2]; rfl
                    rw [if_pos hrf]
                    simp only [eT, hcn] at hidx
                    (simp only [e63, hj2, rc, rv, hio, hlb, hst, rc1, iaT ht, hcT, hz, hidx, rq, rq0, hr0, bne, iaK hp, hdn, hty, hcn, bft, btf, wz, opX, intBin, ↓reduceIte, simprocAttr] <;> repeat' (first | refine wpG_s ?_ ?_ | refine wpC_s ?_ ?_) <;> intro hgo <;> (try simp only [dq] at hgo) <;> simp only [hgo, e63, hj2, rc, rv, hio, hlb, hst, rc1, iaT ht, hcT, hz, hidx, rq, rq0, hr0, bne, iaK hp, hdn, hty, hcn, bft, btf, wz, opX, intBin, ↓reduceIte, simprocAttr])
                    exact ⟨_, rfl, _, _, rfl, I2 _, by omega, F2 _⟩
                  | true =>
                    have hrf : refuse t p = false := by unfold refuse; rw [hdn, hcn, decide_eq_true hty2]; rfl
                    rw [if_neg (by rw [hrf]; simp), if_neg (by simp)]
                    simp only [eT, hcn] at hidx
                    have hKl := K.len
                    have hty3 := K.ty p hpm
                    obtain ⟨n', y, hpt2, hy⟩ : ∃ (n' : Nat) (y : Dt), p.ty = (n' : Int) + 1 ∧ d[n']? = some y := by
                      rcases tcase d p.ty with h | h | h
                      · exfalso; unfold isT at hty3; simp only [Bool.and_eq_true, decide_eq_true_eq] at hty3; omega
                      · exfalso; unfold isT at hty3; simp only [Bool.and_eq_true, decide_eq_true_eq] at hty3; omega
                      · exact h
                    have hnd := (List.getElem?_eq_some_iff.1 hy).1
                    have hdl := B.len
                    have hym := List.mem_of_getElem? hy
                    have hyc := (B.at hy).2.2
                    have hws := wrap_sub1 (n := n') (by omega)
                    have hco : consOf d p.ty = y.cons := by rw [hpt2]; exact consOf_at hy
                    have rdv : ∀ o o' nx, Hp.row ⟨(q + 1 + 1 + 1, o) :: (q + 1 + 1, o') :: (q, .arr 1 [.d (eKs kn)]) :: X1, nx⟩ dv 1 = some (1, [.d (eDs d)]) := fun o o' nx => row_cn (by omega) (fun nx => row_of (I2 o').dv rfl)
                    cases hnum : (t.num == 0) with
                    | false =>
                      have hS4 : chC d (chS d l k) t kn m p (M.set j true) = (false, M.set j true) := by
                        unfold chC; rw [if_neg (fun h => by rw [h.1] at hnum; cases hnum)]
                      rw [hS4]
                      (simp only [e63, hj2, rc, rv, hio, hlb, hst, rc1, iaT ht, hcT, hz, hidx, rq, rq0, hr0, bne, iaK hp, hdn, hty, hcn, bft, btf, hpt2, rdv, hws, iaD hy, hnum, wz, opX, intBin, ↓reduceIte, simprocAttr] <;> repeat' (first | refine wpG_s ?_ ?_ | refine wpC_s ?_ ?_) <;> intro hgo <;> (try simp only [dq] at hgo) <;> simp only [hgo, e63, hj2, rc, rv, hio, hlb, hst, rc1, iaT ht, hcT, hz, hidx, rq, rq0, hr0, bne, iaK hp, hdn, hty, hcn, bft, btf, hpt2, rdv, hws, iaD hy, hnum, wz, opX, intBin, ↓reduceIte, simprocAttr])
                      exact ⟨_, rfl, _, _, rfl, I2 _, by omega, F2 _⟩
                    | true =>
                      by_cases hle : t.next.length = y.cons.length
                      · have hlt : ((t.next.length : Int) == (y.cons.length : Int)) = true := by rw [hle]; exact beq_self_eq_true _
                        have hS4 : chC d (chS d l k) t kn m p (M.set j true) = chL (chS d l k) (kn.set m (kDone p)) t.path (t.next.zip y.cons) (M.set j true) := by
                          unfold chC; rw [if_pos ⟨by simpa using hnum, by rw [hle, hco]⟩, hco]
                        rw [hS4]
                        have hno3 := K.nots p hpm
                        have hpa3 := K.path p hpm
                        have e2 : eK p = D.agg [eIs p.path, eI ((n' : Int) + 1), .bool false, eIs p.nots] := by show D.agg [eIs p.path, eI p.ty, .bool p.done, eIs p.nots] = _; rw [hdn, hpt2]
                        have e1 : eK (kDone p) = D.agg [eIs p.path, eI ((n' : Int) + 1), .bool true, eIs p.nots] := by show D.agg [eIs p.path, eI p.ty, .bool true, eIs p.nots] = _; rw [hpt2]
                        have hk1 := fun m nx L => st_k1 p m nx L
                        rw [e2, e1] at hk1
                        have hzl : (t.next.zip y.cons).length = t.next.length := by rw [List.length_zip]; omega
                        (simp only [e63, hj2, rc, rv, hio, hlb, hst, rc1, iaT ht, hcT, hz, hidx, rq, rq0, hr0, bne, iaK hp, hdn, hty, hcn, bft, btf, hpt2, rdv, hws, iaD hy, hnum, hlt, hk1, wz, opX, intBin, ↓reduceIte, simprocAttr] <;> repeat' (first | refine wpG_s ?_ ?_ | refine wpC_s ?_ ?_) <;> intro hgo <;> (try simp only [dq] at hgo) <;> simp only [hgo, e63, hj2, rc, rv, hio, hlb, hst, rc1, iaT ht, hcT, hz, hidx, rq, rq0, hr0, bne, iaK hp, hdn, hty, hcn, bft, btf, hpt2, rdv, hws, iaD hy, hnum, hlt, hk1, wz, opX, intBin, ↓reduceIte, simprocAttr])
                        refine loop_wp t.next.length (fun i e h' => ∃ (X' : List (Nat × Ob)) (q' : Nat) (M' : List Bool), h' = ⟨X', q'⟩ ∧ VI d l a dv cv X' M' ∧ q + 3 < q' ∧ Fr a q X X' ∧ Zv.look X' q = some (.arr 1 [.d (eKs kn)]) ∧ Zv.look X' (q + 1 + 1) = some (.arr 1 [.d (eI m)]) ∧ Zv.look X' (q + 1 + 1 + 1) = some (.arr 4 [.d (eK (kDone p))]) ∧ l.length - cnt M' < k ∧
                          chL (chS d l k) (kn.set m (kDone p)) t.path (t.next.zip y.cons) (M.set j true) = chL (chS d l k) (kn.set m (kDone p)) t.path ((t.next.zip y.cons).drop i) M' ∧
                          e = [(4, .ptr (a + 2) 1 0 0), (9, .fp (D.agg [eIs t.path, .bool true, eI t.num, eIs t.next, eI t.row]) 0), (11, .clo 67 [.ptr q 1 0 0, .ptr (q + 1 + 1) 1 0 0]), (12, .ptr (q + 1 + 1 + 1) 1 0 0), (15, .d (.lst (y.cons.map eC))), (154, .d (eIs t.next)), (155, .d (.int .i64 t.next.length)), (156, .d (.int .i64 (i : Int)))]) _ ?_ ?_ t.next.length 0 _ _ (by omega) ⟨_, _, _, rfl, (I2 _).cons hc hd (by omega) _, by omega, (F2 _).cons (by omega) _, by rw [look_tl _ _ (by omega), look_tl _ _ (by omega), look_hd], by rw [look_tl _ _ (by omega), look_hd], by rw [look_hd, e1], hcM, rfl, rfl⟩
                        · rintro i e h' hi ⟨X', q', M', rfl, I3, hq3, F3, l1, l2, l3, hc3, hch, rfl⟩
                          obtain ⟨x, hx⟩ := get_of_lt hi
                          obtain ⟨c, hcx⟩ := get_of_lt (l := y.cons) (n := i) (by omega)
                          have hcm := List.mem_of_getElem? hcx
                          have hfl := Fl y hym c hcm
                          have hzx : (t.next.zip y.cons)[i]? = some (x, c) := by rw [List.getElem?_zip_eq_some]; exact ⟨hx, hcx⟩
                          have hwr : IntKind.i64.wrap ((i : Int) + 1) = ((i + 1 : Nat) : Int) := by rw [wrap_ok (by omega) (by omega)]; rfl
                          have r3 := fun nx => row_of (q := nx) l3 (tot := 1) rfl
                          have hl3 : ∀ nx, ld true 4 ⟨X', nx⟩ (.ptr (q + 1 + 1 + 1) 1 0 0) = some (.d (D.agg [eIs p.path, eI ((n' : Int) + 1), .bool true, eIs p.nots])) := by
                            intro nx; rw [← e1]; simp [ld, r3]
                          have hw1 : ∀ nx, callW tab 67 [.d (eK (kDone p)), .ptr q 1 0 0, .ptr (q + 1 + 1) 1 0 0] ⟨X', nx⟩ = _ :=
                            fun nx => withK_ok kn m (kDone p) hpl (by omega) q (q + 1 + 1) ⟨X', nx⟩ (row_of l1 rfl) (row_of l2 rfl)
                          rw [e1] at hw1
                          have rvv := fun nx => row_of (q := nx) I3.vv (tot := 1) rfl
                          rw [drop_at hzx] at hch
                          have hKm : KnOk d k (kn.set m (kDone p) ++ newK t.path c.flds) := K.more (p := kDone p) hty3 (by show p.nots.length + k ≤ 200; omega) hpa3 htp hfl (T y hym c hcm) (by omega)
                          (simp only [e63, hi, iaI hx, hl3, hw1, iaC hcx, wz, opX, intBin, ↓reduceIte, simprocAttr] <;> repeat' (first | refine wpG_s ?_ ?_ | refine wpC_s ?_ ?_) <;> intro hgo <;> (try simp only [dq] at hgo) <;> simp only [hgo, e63, hi, iaI hx, hl3, hw1, iaC hcx, wz, opX, intBin, ↓reduceIte, simprocAttr])
                          refine loop_wp c.flds.length (fun jj e h' => ∃ q'' : Nat, q' + 1 < q'' ∧ h' = ⟨(q' + 1, .arr 4 (((kn.set m (kDone p) ++ newK t.path (c.flds.take jj)).map eK).map .d)) :: X', q''⟩ ∧
                            e = [(4, .ptr (a + 2) 1 0 0), (9, .fp (D.agg [eIs t.path, .bool true, eI t.num, eIs t.next, eI t.row]) 0), (11, .clo 67 [.ptr q 1 0 0, .ptr (q + 1 + 1) 1 0 0]), (12, .ptr (q + 1 + 1 + 1) 1 0 0), (15, .d (.lst (y.cons.map eC))), (17, .d (eI x)), (18, .own (q' + 1) 4 (kn.length + jj) 0 (kn.length + jj)), (154, .d (eIs t.next)), (155, .d (.int .i64 t.next.length)), (156, .d (.int .i64 (i : Int))), (168, .d (.lst (c.flds.map eI))), (169, .d (.int .i64 c.flds.length)), (170, .d (.int .i64 (jj : Int)))]) _ ?_ ?_ c.flds.length 0 _ _ (by omega) ⟨q' + 1 + 1, by omega, by simp [newK], rfl⟩
                          · rintro jj e h' hjj ⟨q'', hq4, rfl, rfl⟩
                            obtain ⟨f, hf⟩ := get_of_lt hjj
                            have hwr2 : IntKind.i64.wrap ((jj : Int) + 1) = ((jj + 1 : Nat) : Int) := by rw [wrap_ok (by omega) (by omega)]; rfl
                            have hlo := fun h => longer_ok t.path (jj : Int) (by omega) h
                            have hns := newK_snoc t.path hf
                            have happ : ∀ q'', app 4 64 ⟨(q' + 1, .arr 4 (((kn.set m (kDone p) ++ newK t.path (c.flds.take jj)).map eK).map .d)) :: X', q''⟩ (.own (q' + 1) 4 (kn.length + jj) 0 (kn.length + jj)) (.tl [.d (D.agg [eIs (t.path ++ [(jj : Int)]), eI f, .bool false, .lst []])] (some false)) =
                                some (.own (q' + 1) 4 (kn.length + (jj + 1)) 0 (kn.length + (jj + 1)), ⟨(q' + 1, .arr 4 (((kn.set m (kDone p) ++ newK t.path (c.flds.take (jj + 1))).map eK).map .d)) :: X', q''⟩) := by
                              intro q''
                              rw [app_tl1]
                              have hll : ((kn.set m (kDone p) ++ newK t.path (c.flds.take jj)).map eK).length = kn.length + jj := by
                                rw [List.length_map, List.length_append, List.length_set, newK_len, List.length_take]; omega
                              have := own_app (es := 4) (b := 64) (m := q' + 1) (q := q'') (o := X') (l := (kn.set m (kDone p) ++ newK t.path (c.flds.take jj)).map eK) (r := [eK ⟨t.path ++ [(jj : Int)], f, false, []⟩]) (by intro z hz; rw [List.mem_singleton] at hz; subst hz; rfl) (by rw [hll]; simp only [List.length_cons, List.length_nil, roomB]; omega)
                              rw [List.length_append, hll] at this
                              rw [hns]
                              simp only [List.map_append, List.append_assoc, List.map_cons, List.map_nil, List.length_cons, List.length_nil, Nat.zero_add, Nat.add_assoc] at this ⊢
                              exact this
                            (simp only [e63, hjj, iaI hf, hlo, hwr2, mk_s, mk_c, mk_n, happ, wz, opX, intBin, ↓reduceIte, simprocAttr] <;> repeat' (first | refine wpG_s ?_ ?_ | refine wpC_s ?_ ?_) <;> intro hgo <;> (try simp only [dq] at hgo) <;> simp only [hgo, e63, hjj, iaI hf, hlo, hwr2, mk_s, mk_c, mk_n, happ, wz, opX, intBin, ↓reduceIte, simprocAttr])
                            exact ⟨q'', hq4, rfl⟩
                          · rintro e h' ⟨q'', hq4, rfl, rfl⟩
                            rw [List.take_length]
                            have hfz : Zv.frz ⟨(q' + 1, .arr 4 (((kn.set m (kDone p) ++ newK t.path c.flds).map eK).map .d)) :: X', q''⟩ (.own (q' + 1) 4 (kn.length + c.flds.length) 0 (kn.length + c.flds.length)) = some (.d (eKs (kn.set m (kDone p) ++ newK t.path c.flds)), ⟨X', q''⟩) := by
                              have := own_frz (es := 4) (m := q' + 1) (q := q'') (o := X') (l := (kn.set m (kDone p) ++ newK t.path c.flds).map eK)
                              rw [List.length_map, List.length_append, List.length_set, newK_len] at this
                              exact this
                            obtain ⟨r1, hv1, X2, q2, rfl, I4, hq5, F4⟩ := ih x (kn.set m (kDone p) ++ newK t.path c.flds) M' X' q'' hc3 (by omega) hKm I3 (by omega)
                            simp only [vArgs] at hv1
                            have hmo := chS_mono d l k x (kn.set m (kDone p) ++ newK t.path c.flds) M'
                            rw [chL_cons] at hch
                            cases hb1 : (chS d l k x (kn.set m (kDone p) ++ newK t.path c.flds) M').1 with
                            | false =>
                              rw [hb1] at hv1
                              simp only [hb1, Bool.false_eq_true, if_false] at hch
                              rw [hch]
                              (simp only [e63, hfz, rvv, hv1, wz, opX, intBin, ↓reduceIte, simprocAttr] <;> repeat' (first | refine wpG_s ?_ ?_ | refine wpC_s ?_ ?_) <;> intro hgo <;> (try simp only [dq] at hgo) <;> simp only [hgo, e63, hfz, rvv, hv1, wz, opX, intBin, ↓reduceIte, simprocAttr])
                              exact ⟨_, rfl, Zv.del X2 (q + 1 + 1 + 1), q2, rfl, I4.del hc hd (m := q + 1 + 1 + 1) (by omega), by omega, (F3.trans F4 (by omega)).del (m := q + 1 + 1 + 1) (by omega)⟩
                            | true =>
                              rw [hb1] at hv1
                              simp only [hb1, if_true] at hch
                              (simp only [e63, hfz, rvv, hv1, hwr, wz, opX, intBin, ↓reduceIte, simprocAttr] <;> repeat' (first | refine wpG_s ?_ ?_ | refine wpC_s ?_ ?_) <;> intro hgo <;> (try simp only [dq] at hgo) <;> simp only [hgo, e63, hfz, rvv, hv1, hwr, wz, opX, intBin, ↓reduceIte, simprocAttr])
                              exact ⟨X2, q2, _, rfl, I4, by omega, F3.trans F4 (by omega), by rw [F4 q (by omega) (by omega)]; exact l1, by rw [F4 (q + 1 + 1) (by omega) (by omega)]; exact l2, by rw [F4 (q + 1 + 1 + 1) (by omega) (by omega)]; exact l3, by omega, hch⟩
                        · rintro e h' ⟨X', q', M', rfl, I3, hq3, F3, l1, l2, l3, hc3, hch, rfl⟩
                          rw [show (t.next.zip y.cons).drop t.next.length = [] from List.drop_of_length_le (by rw [hzl]; exact Nat.le_refl _)] at hch
                          rw [hch]
                          (simp only [e63, wz, opX, intBin, ↓reduceIte, simprocAttr] <;> repeat' (first | refine wpG_s ?_ ?_ | refine wpC_s ?_ ?_) <;> intro hgo <;> (try simp only [dq] at hgo) <;> simp only [hgo, e63, wz, opX, intBin, ↓reduceIte, simprocAttr])
                          exact ⟨_, rfl, Zv.del X' (q + 1 + 1 + 1), q', rfl, I3.del hc hd (m := q + 1 + 1 + 1) (by omega), by omega, F3.del (m := q + 1 + 1 + 1) (by omega)⟩
                      · have hlf : ((t.next.length : Int) == (y.cons.length : Int)) = false := beq_eq_false_iff_ne.2 (fun h => hle (by omega))
                        have hS4 : chC d (chS d l k) t kn m p (M.set j true) = (false, M.set j true) := by
                          unfold chC; rw [if_neg (fun h => hle (by rw [h.2, hco]))]
                        rw [hS4]
                        (simp only [e63, hj2, rc, rv, hio, hlb, hst, rc1, iaT ht, hcT, hz, hidx, rq, rq0, hr0, bne, iaK hp, hdn, hty, hcn, bft, btf, hpt2, rdv, hws, iaD hy, hnum, hlf, wz, opX, intBin, ↓reduceIte, simprocAttr] <;> repeat' (first | refine wpG_s ?_ ?_ | refine wpC_s ?_ ?_) <;> intro hgo <;> (try simp only [dq] at hgo) <;> simp only [hgo, e63, hj2, rc, rv, hio, hlb, hst, rc1, iaT ht, hcT, hz, hidx, rq, rq0, hr0, bne, iaK hp, hdn, hty, hcn, bft, btf, hpt2, rdv, hws, iaD hy, hnum, hlf, wz, opX, intBin, ↓reduceIte, simprocAttr])
                        exact ⟨_, rfl, _, _, rfl, I2 _, by omega, F2 _⟩
          · have hr0 : (t.row == 0) = false := beq_eq_false_iff_ne.2 hrow
            have hS2 : chT d (chS d l k) t kn (M.set j true) = (false, M.set j true) := by
              unfold chT; rw [if_neg hnx, if_pos hrow]
            rw [hS2]
            (simp only [e63, hj2, rc, rv, hio, hlb, hst, rc1, iaT ht, hcT, hz, hidx, rq, rq0, hr0, bne, wz, opX, intBin, ↓reduceIte, simprocAttr] <;> repeat' (first | refine wpG_s ?_ ?_ | refine wpC_s ?_ ?_) <;> intro hgo <;> (try simp only [dq] at hgo) <;> simp only [hgo, e63, hj2, rc, rv, hio, hlb, hst, rc1, iaT ht, hcT, hz, hidx, rq, rq0, hr0, bne, wz, opX, intBin, ↓reduceIte, simprocAttr])
            exact ⟨_, rfl, _, _, rfl, I2 _, by omega, F2 _⟩
end Zc28
end
section
set_option linter.unusedSimpArgs false
set_option linter.unusedVariables false
set_option linter.unusedSimpArgs false
set_option maxHeartbeats 4000000
namespace Zc28
open Go Zv Zs

structure KnD (kn : List Kn) : Prop where
  nd : (kn.map Kn.path).Nodup
  par : ∀ p, p ∈ kn → ∀ (pp : List Int) (j : Int), p.path = pp ++ [j] → pp ≠ [] → ∃ r, r ∈ kn ∧ r.path = pp ∧ r.done = true
  ne : ∀ p, p ∈ kn → p.path ≠ []
theorem KnD.same {kn : List Kn} (K : KnD kn) {i j : Nat} {p r : Kn} (h1 : kn[i]? = some p) (h2 : kn[j]? = some r) (h : p.path = r.path) : i = j := by
  have hi := (List.getElem?_eq_some_iff.1 h1).1
  have e : (kn.map Kn.path)[i]? = (kn.map Kn.path)[j]? := by rw [List.getElem?_map, List.getElem?_map, h1, h2]; simp [h]
  exact (List.getElem?_inj (by simpa using hi) K.nd).1 e
theorem set_path {kn : List Kn} {i : Nat} {p p' : Kn} (h1 : kn[i]? = some p) (h : p'.path = p.path) : (kn.set i p').map Kn.path = kn.map Kn.path := by
  rw [List.map_set]
  apply List.ext_getElem?
  intro n
  rw [List.getElem?_set]
  split
  · rename_i e; subst e
    rw [List.getElem?_map, h1]
    split
    · simp [h]
    · rename_i h2; exact absurd (by simpa using (List.getElem?_eq_some_iff.1 h1).1) h2
  · rfl
theorem KnD.set {kn : List Kn} (K : KnD kn) {i : Nat} {p p' : Kn} (h1 : kn[i]? = some p) (h : p'.path = p.path) (hd : p.done = true → p'.done = true) : KnD (kn.set i p') := by
  have hi := (List.getElem?_eq_some_iff.1 h1).1
  have hpm := List.mem_of_getElem? h1
  have hin : p' ∈ kn.set i p' := List.mem_set hi p'
  have hm : ∀ r, r ∈ kn.set i p' → ∃ r', r' ∈ kn ∧ r.path = r'.path := by
    intro r hr
    rcases List.mem_or_eq_of_mem_set hr with hr | rfl
    · exact ⟨r, hr, rfl⟩
    · exact ⟨p, hpm, h⟩
  refine ⟨by rw [set_path h1 h]; exact K.nd, ?_, ?_⟩
  · intro r hr pp j hpp hne
    obtain ⟨r', hr', e⟩ := hm r hr
    obtain ⟨s, hs, e1, e2⟩ := K.par r' hr' pp j (by rw [← e]; exact hpp) hne
    obtain ⟨n, hn⟩ := List.mem_iff_getElem?.1 hs
    by_cases hni : n = i
    · subst hni
      rw [h1] at hn; cases hn
      exact ⟨p', hin, by rw [h]; exact e1, hd e2⟩
    · exact ⟨s, List.mem_of_getElem? (i := n) (by rw [List.getElem?_set_ne (fun e => hni e.symm)]; exact hn), e1, e2⟩
  · intro r hr
    obtain ⟨r', hr', e⟩ := hm r hr
    rw [e]; exact K.ne r' hr'
theorem newK_path (path fs : List Int) : (newK path fs).map Kn.path = (List.range fs.length).map fun (i : Nat) => path ++ [(i : Int)] := by
  apply List.ext_getElem?
  intro n
  unfold newK
  rw [List.getElem?_map, List.getElem?_map, List.getElem?_zipIdx, List.getElem?_map]
  by_cases hn : n < fs.length
  · rw [List.getElem?_eq_getElem hn, List.getElem?_range hn]; simp
  · rw [List.getElem?_eq_none (by omega), List.getElem?_eq_none (by rw [List.length_range]; omega)]; rfl
theorem KnD.more {kn : List Kn} (K : KnD kn) {i : Nat} {p : Kn} (h1 : kn[i]? = some p) (hd : p.done = false) (fs : List Int) : KnD (kn.set i (kDone p) ++ newK p.path fs) := by
  have hi := (List.getElem?_eq_some_iff.1 h1).1
  have hpm := List.mem_of_getElem? h1
  have S : KnD (kn.set i (kDone p)) := K.set h1 rfl (fun _ => rfl)
  have hin : kDone p ∈ kn.set i (kDone p) := List.mem_set hi _
  have hno : ∀ (j : Int), p.path ++ [j] ∉ kn.map Kn.path := by
    intro j hj
    obtain ⟨r, hr, e⟩ := List.mem_map.1 hj
    obtain ⟨s, hs, e1, e2⟩ := K.par r hr p.path j e (K.ne p hpm)
    obtain ⟨n, hn⟩ := List.mem_iff_getElem?.1 hs
    have := K.same hn h1 e1
    subst this
    rw [h1] at hn; cases hn
    rw [hd] at e2; cases e2
  refine ⟨?_, ?_, ?_⟩
  · rw [List.map_append, set_path (p' := kDone p) h1 rfl, newK_path, List.nodup_append]
    refine ⟨K.nd, ?_, ?_⟩
    · refine List.Pairwise.map _ ?_ (List.nodup_range (n := fs.length))
      intro a b hab e
      have := List.append_cancel_left e
      simp at this
      exact hab (by exact_mod_cast this)
    · intro x hx y hy e
      obtain ⟨j, _, rfl⟩ := List.mem_map.1 hy
      exact hno j (e ▸ hx)
  · intro r hr pp j hpp hne
    rcases List.mem_append.1 hr with hr | hr
    · obtain ⟨s, hs, e1, e2⟩ := S.par r hr pp j hpp hne
      exact ⟨s, List.mem_append_left _ hs, e1, e2⟩
    · obtain ⟨n, f, _, rfl⟩ := newK_mem hr
      have := List.append_inj' hpp rfl
      exact ⟨kDone p, List.mem_append_left _ hin, this.1, rfl⟩
  · intro r hr
    rcases List.mem_append.1 hr with hr | hr
    · exact S.ne r hr
    · obtain ⟨n, f, _, rfl⟩ := newK_mem hr
      simp
theorem idx_uniq {kn : List Kn} (K : KnD kn) (t : Ts) {i : Nat} {p : Kn} (h1 : kn[i]? = some p) (h : p.path = t.path) : idxZ (hasP t) kn = i := by
  rcases idxZ_cases (hasP t) kn with hz | ⟨n, x, hz, hx, hp⟩
  · exfalso
    have : (0 ≤ idxZ (hasP t) kn) = (kn.any (hasP t) = true) := idxZ_nn ..
    rw [hz] at this
    have h2 : kn.any (hasP t) = true := List.any_eq_true.2 ⟨p, List.mem_of_getElem? h1, by unfold hasP; exact decide_eq_true h⟩
    rw [h2] at this
    simp at this
  · rw [hz]
    have e : x.path = t.path := of_decide_eq_true hp
    have := K.same hx h1 (e.trans h.symm)
    rw [this]
/-- The index that was found so far. -/
def soFar (t : Ts) (kn : List Kn) (n : Nat) : Int := if idxZ (hasP t) kn < (n : Int) then idxZ (hasP t) kn else -1
theorem soFar_0 (t : Ts) (kn : List Kn) : soFar t kn 0 = -1 := by
  unfold soFar
  rcases idxZ_cases (hasP t) kn with hz | ⟨n, x, hz, _⟩
  · rw [hz]; rfl
  · rw [hz, if_neg (by omega)]
theorem soFar_t {kn : List Kn} (K : KnD kn) (t : Ts) {i : Nat} {p : Kn} (h1 : kn[i]? = some p) (h : p.path = t.path) : soFar t kn (i + 1) = i := by
  unfold soFar
  rw [idx_uniq K t h1 h, if_pos (by omega)]
theorem soFar_f {kn : List Kn} (t : Ts) {i : Nat} {p : Kn} (h1 : kn[i]? = some p) (h : p.path ≠ t.path) : soFar t kn (i + 1) = soFar t kn i := by
  unfold soFar
  rcases idxZ_cases (hasP t) kn with hz | ⟨n, x, hz, hx, hp⟩
  · rw [hz, if_pos (by omega), if_pos (by omega)]
  · rw [hz]
    have : n ≠ i := by
      intro e; subst e
      rw [h1] at hx; cases hx
      exact h (of_decide_eq_true hp)
    by_cases hn : n < i
    · rw [if_pos (by omega), if_pos (by omega)]
    · rw [if_neg (by omega), if_neg (by omega)]
theorem soFar_all (t : Ts) (kn : List Kn) : soFar t kn kn.length = idxZ (hasP t) kn := by
  unfold soFar
  rcases idxZ_cases (hasP t) kn with hz | ⟨n, x, hz, hx, hp⟩
  · rw [hz, if_pos (by omega)]
  · have := (List.getElem?_eq_some_iff.1 hx).1
    rw [hz, if_pos (by omega)]
end Zc28
end
section
set_option linter.unusedSimpArgs false
set_option linter.unusedVariables false
set_option linter.unusedSimpArgs false
set_option maxHeartbeats 4000000
namespace Zc28
open Go Zv Zs

theorem st_rowD {kn : List Kn} {i : Nat} {p : Kn} (hp : kn[i]? = some p) (n nx : Nat) (o : List (Nat × Ob)) : st 1 ⟨(n, .arr 4 ((kn.map eK).map .d)) :: o, nx⟩ (.ptr n kn.length i 2) (.d (.bool true)) = some ⟨(n, .arr 4 (((kn.set i (kDone p)).map eK).map .d)) :: o, nx⟩ := by
  have hr : Hp.row ⟨(n, .arr 4 ((kn.map eK).map .d)) :: o, nx⟩ n kn.length = some (4, (kn.map eK).map .d) := by rw [row_hd, if_pos (by simp)]
  have e := st_in (sz := 1) (i := i) (off := 2) (x := .d (.bool true)) hr (e := .d (eK p)) (by rw [List.getElem?_map, List.getElem?_map, hp]; rfl) rfl rfl (by show 3 ≤ 4; omega) (by omega) (by omega)
  rw [e, set_hd, List.map_set, List.map_set]
  rfl
theorem st_rowN {kn : List Kn} {i : Nat} {p : Kn} (hp : kn[i]? = some p) (z : Int) (n nx : Nat) (o : List (Nat × Ob)) : st 1 ⟨(n, .arr 4 ((kn.map eK).map .d)) :: o, nx⟩ (.ptr n kn.length i 3) (.d (.lst ((p.nots ++ [z]).map eI))) = some ⟨(n, .arr 4 (((kn.set i (kNot p z)).map eK).map .d)) :: o, nx⟩ := by
  have hr : Hp.row ⟨(n, .arr 4 ((kn.map eK).map .d)) :: o, nx⟩ n kn.length = some (4, (kn.map eK).map .d) := by rw [row_hd, if_pos (by simp)]
  have e := st_in (sz := 1) (i := i) (off := 3) (x := .d (.lst ((p.nots ++ [z]).map eI))) hr (e := .d (eK p)) (by rw [List.getElem?_map, List.getElem?_map, hp]; rfl) rfl rfl (by show 4 ≤ 4; omega) (by omega) (by omega)
  rw [e, set_hd, List.map_set, List.map_set]
  rfl
theorem copied_ne {l : List Kn} (hl : l.length ≤ 10000) (h0 : l ≠ []) (h : Hp) : callW tab 121 [.d (eKs l)] h = some (.own h.next 4 l.length 0 l.length, ⟨(h.next, .arr 4 ((l.map eK).map .d)) :: h.objs, h.next + 1⟩) := by
  rw [copied_ok l hl h]
  have h1 : l.map eK ≠ [] := by simpa using h0
  unfold cloV cloO
  rw [if_neg h1, if_neg h1, if_neg h1, List.length_map]
theorem appf_N (nots : List Int) (z : Int) (hn : nots.length ≤ 1000) (o : List (Nat × Ob)) (n : Nat) : ((app 1 8 (cloO o n 1 (nots.map eI)) (cloV (some true) n 1 (nots.map eI)) (.tl [.d (eI z)] (some false))).bind fun r => Zv.frz r.2 r.1) = some (.d (.lst ((nots ++ [z]).map eI)), ⟨o, n + 1⟩) := by
  rw [app_tl1, clo_app icells (by intro y hy; rw [List.mem_singleton] at hy; subst hy; rfl) (by simp only [List.length_map, List.length_cons, List.length_nil, roomB]; omega)]
  rw [Option.bind_some]
  show Zv.frz (cloO _ _ _ _) (cloV _ _ _ _) = _
  rw [clo_frz, if_neg (by simp), List.map_append]
  rfl

theorem rwalk_ok {d : List Dt} {l : List Ts} (L : Light l) (B : Bd d) (Fl : ∀ y, y ∈ d → ∀ c, c ∈ y.cons → c.flds.length ≤ 8) (T : ∀ y, y ∈ d → ∀ c, c ∈ y.cons → ∀ f, f ∈ c.flds → isT d f = true) (m : Nat) (O : List (Nat × Ob)) :
    ∀ (k : Nat) (n : Int) (kn : List Kn) (M : List Bool) (q : Nat), l.length - cnt M < k → k ≤ 100 → M.length = l.length → KnOk d k kn → KnD kn → m < q →
      ∃ r, callW tab 72 [.d (eDs d), .d (eTs l), .d (eI n), .d (eKs kn), .own m 1 l.length 0 l.length] ⟨(m, .arr 1 (M.map bV)) :: O, q⟩ = some r ∧
        ∃ q', q ≤ q' ∧ r = (.d (.bool (chS d l k n kn M).1), ⟨(m, .arr 1 ((chS d l k n kn M).2.map bV)) :: O, q'⟩) := by
  intro k
  induction k with
  | zero => intro n kn M q h; omega
  | succ k ih =>
    intro n kn M q hk hk100 hML K KD hq
    have hlen := L.len
    have bft : (false == true) = false := rfl
    have btf : (true == false) = false := rfl
    have hcl := cnt_len M
    have rr : ∀ (M : List Bool) (nx : Nat), M.length = l.length → Hp.row ⟨(m, .arr 1 (M.map bV)) :: O, nx⟩ m l.length = some (1, M.map bV) := fun M nx h => by rw [row_hd, if_pos (by rw [List.length_map]; exact h)]
    refine call_wpE (fn := f72) rfl rfl ?_
    rcases getI_cases l n with ⟨hn, hg⟩ | ⟨hn, hn2, hg⟩ | ⟨j, t, rfl, hj, ht, hg⟩
    · have hS : chS d l (k + 1) n kn M = (false, M) := by unfold chS; rw [hg]
      (simp only [e72, hn, wz, opX, intBin, ↓reduceIte, simprocAttr] <;> repeat' (first | refine wpG_s ?_ ?_ | refine wpC_s ?_ ?_) <;> intro hgo <;> (try simp only [dq] at hgo) <;> simp only [hgo, e72, hn, wz, opX, intBin, ↓reduceIte, simprocAttr])
      exact ⟨_, rfl, _, Nat.le_refl _, by rw [hS]⟩
    · have hS : chS d l (k + 1) n kn M = (false, M) := by unfold chS; rw [hg]
      (simp only [e72, hn, hn2, wz, opX, intBin, ↓reduceIte, simprocAttr] <;> repeat' (first | refine wpG_s ?_ ?_ | refine wpC_s ?_ ?_) <;> intro hgo <;> (try simp only [dq] at hgo) <;> simp only [hgo, e72, hn, hn2, wz, opX, intBin, ↓reduceIte, simprocAttr])
      exact ⟨_, rfl, _, Nat.le_refl _, by rw [hS]⟩
    · obtain ⟨b, hb⟩ := get_of_lt (l := M) (n := j) (by omega)
      have hj2 : ¬ (l.length : Int) ≤ (j : Int) := by omega
      have hio := ia_own (es := 1) (n := m) (tot := l.length) .i64 hj
      have hlb := fun nx => ld_bit (rr M nx hML) hb
      have hgM : getI M (j : Int) = some b := by rw [getI_nat]; exact hb
      cases b with
      | true =>
        have hS : chS d l (k + 1) j kn M = (false, M) := by unfold chS; rw [hg]; simp only [hgM, if_true]
        (simp only [e72, hj2, hio, hlb, wz, opX, intBin, ↓reduceIte, simprocAttr] <;> repeat' (first | refine wpG_s ?_ ?_ | refine wpC_s ?_ ?_) <;> intro hgo <;> (try simp only [dq] at hgo) <;> simp only [hgo, e72, hj2, hio, hlb, wz, opX, intBin, ↓reduceIte, simprocAttr])
        exact ⟨_, rfl, _, Nat.le_refl _, by rw [hS]⟩
      | false =>
        have hS : chS d l (k + 1) j kn M = chT d (chS d l k) t kn (M.set j true) := by
          rw [chS, hg]; simp only [hgM]; rfl
        have hgr := set_grow hb
        have hst : ∀ nx, st 1 ⟨(m, .arr 1 (M.map bV)) :: O, nx⟩ (.ptr m l.length j 0) (.d (.bool true)) = some ⟨(m, .arr 1 ((M.set j true).map bV)) :: O, nx⟩ := by
          intro nx
          have e := st_all (sz := 1) (i := j) (x := .d (.bool true)) (rr M nx hML) (e := bV false) (by rw [List.getElem?_map, hb]; rfl) rfl rfl
          rw [e]
          simp [Hp.set, upd, List.map_set]
        have hM1 : (M.set j true).length = l.length := by rw [List.length_set]; exact hML
        have hcT : (eT t).cells.length = 5 := rfl
        rw [hS]
        have hcM : l.length - cnt (M.set j true) < k := by
          have := cnt_len (M.set j true); rw [List.length_set] at this; omega
        have hKl := K.len
        by_cases hnx : t.next = []
        · have hz : ((t.next.length : Int) == 0) = true := by rw [hnx]; rfl
          have hS2 : chT d (chS d l k) t kn (M.set j true) = (leafT t, M.set j true) := by unfold chT; rw [if_pos hnx]
          rw [hS2]
          have h4 : ∀ b : Bool, (t.num == 0) = b → decide (t.num = 0) = b := by intro b hb; rw [← hb]; rfl
          unfold leafT
          by_cases h1 : 0 ≤ t.row
          · by_cases h2 : t.path = []
            · have hz2 : ((t.path.length : Int) == 0) = true := by rw [h2]; rfl
              cases h3 : t.con <;> cases hn : (t.num == 0) <;> ((simp only [e72, hj2, hio, hlb, hst, iaT ht, hcT, hz, h1, h2, hz2, h3, hn, h4 _ hn, wz, opX, intBin, ↓reduceIte, simprocAttr] <;> repeat' (first | refine wpG_s ?_ ?_ | refine wpC_s ?_ ?_) <;> intro hgo <;> (try simp only [dq] at hgo) <;> simp only [hgo, e72, hj2, hio, hlb, hst, iaT ht, hcT, hz, h1, h2, hz2, h3, hn, h4 _ hn, wz, opX, intBin, ↓reduceIte, simprocAttr]); exact ⟨_, rfl, _, by omega, rfl⟩)
            · have hz2 : ((t.path.length : Int) == 0) = false := by rw [len0]; exact decide_eq_false h2
              (simp only [e72, hj2, hio, hlb, hst, iaT ht, hcT, hz, h1, h2, hz2, wz, opX, intBin, ↓reduceIte, simprocAttr] <;> repeat' (first | refine wpG_s ?_ ?_ | refine wpC_s ?_ ?_) <;> intro hgo <;> (try simp only [dq] at hgo) <;> simp only [hgo, e72, hj2, hio, hlb, hst, iaT ht, hcT, hz, h1, h2, hz2, wz, opX, intBin, ↓reduceIte, simprocAttr])
              exact ⟨_, rfl, _, by omega, rfl⟩
          · (simp only [e72, hj2, hio, hlb, hst, iaT ht, hcT, hz, h1, wz, opX, intBin, ↓reduceIte, simprocAttr] <;> repeat' (first | refine wpG_s ?_ ?_ | refine wpC_s ?_ ?_) <;> intro hgo <;> (try simp only [dq] at hgo) <;> simp only [hgo, e72, hj2, hio, hlb, hst, iaT ht, hcT, hz, h1, wz, opX, intBin, ↓reduceIte, simprocAttr])
            exact ⟨_, rfl, _, by omega, rfl⟩
        · have hz : ((t.next.length : Int) == 0) = false := beq_eq_false_iff_ne.2 (fun h => hnx (List.length_eq_zero_iff.1 (by omega)))
          obtain ⟨htp, htn⟩ := L.ts t (List.mem_of_getElem? ht)
          by_cases hrow : t.row = 0
          · have hr0 : (t.row == 0) = true := by rw [hrow]; rfl
            have hS2 : chT d (chS d l k) t kn (M.set j true) = chP d (chS d l k) t kn (idxZ (hasP t) kn) (M.set j true) := by
              unfold chT; rw [if_neg hnx, if_neg (by simp [hrow])]
            rw [hS2]
            (simp only [e72, hj2, hio, hlb, hst, iaT ht, hcT, hz, hr0, bne, wz, opX, intBin, ↓reduceIte, simprocAttr] <;> repeat' (first | refine wpG_s ?_ ?_ | refine wpC_s ?_ ?_) <;> intro hgo <;> (try simp only [dq] at hgo) <;> simp only [hgo, e72, hj2, hio, hlb, hst, iaT ht, hcT, hz, hr0, bne, wz, opX, intBin, ↓reduceIte, simprocAttr])
            refine loop_wp kn.length (fun i e h' => (∃ q', q ≤ q' ∧ h' = ⟨(m, .arr 1 ((M.set j true).map bV)) :: O, q'⟩) ∧ e = [(0, .d (eDs d)), (1, .d (eTs l)), (3, .d (eKs kn)), (4, .own m 1 l.length 0 l.length), (11, .fp (eT t) 0), (12, .d (.int .i64 (soFar t kn i))), (13, .d (.int .i64 (i : Int)))]) _ ?_ ?_ kn.length 0 _ _ (by omega) ⟨⟨_, by omega, rfl⟩, by rw [soFar_0]; rfl⟩
            · rintro i e h' hi ⟨⟨q', hq', rfl⟩, rfl⟩
              obtain ⟨x, hx⟩ := get_of_lt hi
              have hwr : IntKind.i64.wrap ((i : Int) + 1) = ((i + 1 : Nat) : Int) := by rw [wrap_ok (by omega) (by omega)]; rfl
              have hsm := fun h => same_ok x.path t.path (by have := K.path x (List.mem_of_getElem? hx); omega) (by omega) h
              by_cases hxt : x.path = t.path
              · have hsf := soFar_t KD t hx hxt
                rw [decide_eq_true hxt] at hsm
                (simp only [e72, hi, iaK hx, hsm, hwr, wz, opX, intBin, ↓reduceIte, simprocAttr] <;> repeat' (first | refine wpG_s ?_ ?_ | refine wpC_s ?_ ?_) <;> intro hgo <;> (try simp only [dq] at hgo) <;> simp only [hgo, e72, hi, iaK hx, hsm, hwr, wz, opX, intBin, ↓reduceIte, simprocAttr])
                exact ⟨⟨q', hq', rfl⟩, by rw [hsf]⟩
              · have hsf := soFar_f t hx hxt
                rw [decide_eq_false hxt] at hsm
                (simp only [e72, hi, iaK hx, hsm, hwr, wz, opX, intBin, ↓reduceIte, simprocAttr] <;> repeat' (first | refine wpG_s ?_ ?_ | refine wpC_s ?_ ?_) <;> intro hgo <;> (try simp only [dq] at hgo) <;> simp only [hgo, e72, hi, iaK hx, hsm, hwr, wz, opX, intBin, ↓reduceIte, simprocAttr])
                exact ⟨⟨q', hq', rfl⟩, by rw [hsf]⟩
            · rintro e h' ⟨⟨q', hq', rfl⟩, rfl⟩
              rw [soFar_all]
              rcases idxZ_cases (hasP t) kn with hz1 | ⟨mm, p, hz1, hp, hpt⟩
              · have hS3 : chP d (chS d l k) t kn (idxZ (hasP t) kn) (M.set j true) = (false, M.set j true) := by rw [hz1]; rfl
                rw [hS3, hz1]
                (simp only [e72, hcT, wz, opX, intBin, ↓reduceIte, simprocAttr] <;> repeat' (first | refine wpG_s ?_ ?_ | refine wpC_s ?_ ?_) <;> intro hgo <;> (try simp only [dq] at hgo) <;> simp only [hgo, e72, hcT, wz, opX, intBin, ↓reduceIte, simprocAttr])
                exact ⟨_, rfl, _, hq', rfl⟩
              · have hS3 : chP d (chS d l k) t kn (idxZ (hasP t) kn) (M.set j true) = if refuse t p = true then (false, M.set j true) else if t.con = false then chN (chS d l k) t kn mm p (M.set j true) else chC d (chS d l k) t kn mm p (M.set j true) := by
                  rw [hz1]; unfold chP; rw [getI_nat, hp]; rfl
                rw [hS3, hz1]
                have hpl := (List.getElem?_eq_some_iff.1 hp).1
                have hpm := List.mem_of_getElem? hp
                have hk0 : kn ≠ [] := fun h => by rw [h] at hpm; cases hpm
                have hcp := fun h => copied_ne (l := kn) (by omega) hk0 h
                have hpe : p.path = t.path := of_decide_eq_true hpt
                have hty3 := K.ty p hpm
                have hno3 := K.nots p hpm
                have hpa3 := K.path p hpm
                have hio4 := fun nx => ia_own (es := 4) (n := nx) (tot := kn.length) .i64 hpl
                have hsd := fun n nx o => st_rowD hp n nx o
                have hll : ∀ p', ((kn.set mm p').map eK).length = kn.length := fun p' => by rw [List.length_map, List.length_set]
                cases hdn : p.done with
                | true =>
                  have hrf : refuse t p = true := by unfold refuse; rw [hdn]; rfl
                  rw [if_pos hrf]
                  (simp only [e72, hcT, iaK hp, hdn, wz, opX, intBin, ↓reduceIte, simprocAttr] <;> repeat' (first | refine wpG_s ?_ ?_ | refine wpC_s ?_ ?_) <;> intro hgo <;> (try simp only [dq] at hgo) <;> simp only [hgo, e72, hcT, iaK hp, hdn, wz, opX, intBin, ↓reduceIte, simprocAttr])
                  exact ⟨_, rfl, _, hq', rfl⟩
                | false =>
                  cases hty : (p.ty == 0) with
                  | true =>
                    have hty2 : p.ty = 0 := by simpa using hty
                    cases hcn : t.con with
                    | true =>
                      have hrf : refuse t p = true := by unfold refuse; rw [hdn, hcn, hty2]; rfl
                      rw [if_pos hrf]
                      (simp only [e72, hcT, iaK hp, hdn, hty, hcn, bft, btf, bne, wz, opX, intBin, ↓reduceIte, simprocAttr] <;> repeat' (first | refine wpG_s ?_ ?_ | refine wpC_s ?_ ?_) <;> intro hgo <;> (try simp only [dq] at hgo) <;> simp only [hgo, e72, hcT, iaK hp, hdn, hty, hcn, bft, btf, bne, wz, opX, intBin, ↓reduceIte, simprocAttr])
                      exact ⟨_, rfl, _, hq', rfl⟩
                    | false =>
                      have hrf : refuse t p = false := by unfold refuse; rw [hdn, hcn, hty2]; rfl
                      rw [if_neg (by rw [hrf]; simp), if_pos rfl]
                      by_cases h2 : t.next.length = 2
                      · have hn2 : ((t.next.length : Int) == 2) = true := by rw [h2]; rfl
                        (simp only [e72, hcT, iaK hp, hdn, hty, hcn, bft, btf, bne, hn2, wz, opX, intBin, ↓reduceIte, simprocAttr] <;> repeat' (first | refine wpG_s ?_ ?_ | refine wpC_s ?_ ?_) <;> intro hgo <;> (try simp only [dq] at hgo) <;> simp only [hgo, e72, hcT, iaK hp, hdn, hty, hcn, bft, btf, bne, hn2, wz, opX, intBin, ↓reduceIte, simprocAttr])
                        refine loop_wp p.nots.length (fun i e h' => h' = ⟨(m, .arr 1 ((M.set j true).map bV)) :: O, q'⟩ ∧ (∀ (jx : Nat) (y : Int), jx < i → p.nots[jx]? = some y → (t.num == y) = false) ∧ e = [(0, .d (eDs d)), (1, .d (eTs l)), (3, .d (eKs kn)), (4, .own m 1 l.length 0 l.length), (11, .fp (eT t) 0), (12, .d (.int .i64 (mm : Int))), (18, .d (.int .i64 (i : Int)))]) _ ?_ ?_ p.nots.length 0 _ _ (by omega) ⟨rfl, fun jx y hjx => by omega, rfl⟩
                        · rintro i e h' hi ⟨rfl, hnone, rfl⟩
                          obtain ⟨y, hy⟩ := get_of_lt hi
                          have hwr : IntKind.i64.wrap ((i : Int) + 1) = ((i + 1 : Nat) : Int) := by rw [wrap_ok (by omega) (by omega)]; rfl
                          cases hyn : (y == t.num) with
                          | true =>
                            have hS4 : chN (chS d l k) t kn mm p (M.set j true) = (false, M.set j true) := by
                              unfold chN
                              rw [if_neg]
                              intro h
                              have : (p.nots.any fun y => t.num == y) = true := List.any_eq_true.2 ⟨y, List.mem_of_getElem? hy, by simp at hyn; simp [hyn]⟩
                              rw [this] at h; cases h.2
                            rw [hS4]
                            (simp only [e72, iaK hp, hi, iaI hy, hyn, wz, opX, intBin, ↓reduceIte, simprocAttr] <;> repeat' (first | refine wpG_s ?_ ?_ | refine wpC_s ?_ ?_) <;> intro hgo <;> (try simp only [dq] at hgo) <;> simp only [hgo, e72, iaK hp, hi, iaI hy, hyn, wz, opX, intBin, ↓reduceIte, simprocAttr])
                            exact ⟨_, rfl, _, hq', rfl⟩
                          | false =>
                            (simp only [e72, iaK hp, hi, iaI hy, hyn, hwr, wz, opX, intBin, ↓reduceIte, simprocAttr] <;> repeat' (first | refine wpG_s ?_ ?_ | refine wpC_s ?_ ?_) <;> intro hgo <;> (try simp only [dq] at hgo) <;> simp only [hgo, e72, iaK hp, hi, iaI hy, hyn, hwr, wz, opX, intBin, ↓reduceIte, simprocAttr])
                            intro jx z hjx hz'
                            by_cases e : jx = i
                            · subst e; rw [hy] at hz'; cases hz'
                              rw [beq_eq_false_iff_ne] at hyn ⊢
                              exact fun e => hyn e.symm
                            · exact hnone jx z (by omega) hz'
                        · rintro e h' ⟨rfl, hnone, rfl⟩
                          have hany : (p.nots.any fun y => t.num == y) = false := by
                            rw [List.any_eq_false]
                            intro y hy
                            obtain ⟨n, hn⟩ := List.mem_iff_getElem?.1 hy
                            rw [hnone n y (List.getElem?_eq_some_iff.1 hn).1 hn]; simp
                          obtain ⟨x0, hx0⟩ := get_of_lt (l := t.next) (n := 0) (by omega)
                          obtain ⟨x1, hx1⟩ := get_of_lt (l := t.next) (n := 1) (by omega)
                          have ia0 : ia 1 (.d (.lst (t.next.map eI))) (.d (.int .i64 0)) = some (.fp (eI x0) 0) := iaI hx0
                          have ia1 : ia 1 (.d (.lst (t.next.map eI))) (.d (.int .i64 1)) = some (.fp (eI x1) 0) := iaI hx1
                          have hS4 : chN (chS d l k) t kn mm p (M.set j true) = if (chS d l k x0 (kn.set mm (kDone p)) (M.set j true)).1 = true then chS d l k x1 (kn.set mm (kNot p t.num)) (chS d l k x0 (kn.set mm (kDone p)) (M.set j true)).2 else (false, (chS d l k x0 (kn.set mm (kDone p)) (M.set j true)).2) := by
                            unfold chN; rw [if_pos ⟨h2, hany⟩, List.getD_eq_getElem?_getD, List.getD_eq_getElem?_getD, hx0, hx1]; rfl
                          rw [hS4]
                          have K1 : KnOk d k (kn.set mm (kDone p)) := K.set (p := kDone p) hty3 (by show p.nots.length + k ≤ 200; omega) hpa3
                          have K2 : KnOk d k (kn.set mm (kNot p t.num)) := K.set (p := kNot p t.num) hty3 (by show (p.nots ++ [t.num]).length + k ≤ 200; rw [List.length_append]; simp only [List.length_cons, List.length_nil]; omega) hpa3
                          have D1 : KnD (kn.set mm (kDone p)) := KD.set hp rfl (fun _ => rfl)
                          have D2 : KnD (kn.set mm (kNot p t.num)) := KD.set hp rfl (fun h => h)
                          have hsn := fun n nx o => st_rowN hp t.num n nx o
                          have happ := fun hh => tl_app (nl := some true) (es := 1) (b := 8) (h := hh) (r := p.nots.map eI) icells (by simp only [List.length_map, roomB]; omega)
                          have hapf := fun o n => appf_N p.nots t.num (by omega) o n
                          have hf1 : ∀ (p' : Kn) (mx : Nat) (o : List (Nat × Ob)) (nx : Nat), Zv.frz ⟨(mx, .arr 4 (((kn.set mm p').map eK).map .d)) :: o, nx⟩ (.own mx 4 kn.length 0 kn.length) = some (.d (eKs (kn.set mm p')), ⟨o, nx⟩) := by
                            intro p' mx o nx
                            have := own_frz (es := 4) (m := mx) (q := nx) (o := o) (l := (kn.set mm p').map eK)
                            rw [hll] at this; exact this
                          obtain ⟨r1, hv1, q1, hq1, rfl⟩ := ih x0 (kn.set mm (kDone p)) (M.set j true) (q' + 1 + 1 + 1) hcM (by omega) hM1 K1 D1 (by omega)
                          have hmo := chS_mono d l k x0 (kn.set mm (kDone p)) (M.set j true)
                          cases hb1 : (chS d l k x0 (kn.set mm (kDone p)) (M.set j true)).1 with
                          | false =>
                            rw [if_neg (by simp)]
                            rw [hb1] at hv1
                            (simp only [e72, hcp, hio4, hsd, hsn, iaK hp, happ, hapf, hf1, ia0, hv1, wz, opX, intBin, ↓reduceIte, simprocAttr] <;> repeat' (first | refine wpG_s ?_ ?_ | refine wpC_s ?_ ?_) <;> intro hgo <;> (try simp only [dq] at hgo) <;> simp only [hgo, e72, hcp, hio4, hsd, hsn, iaK hp, happ, hapf, hf1, ia0, hv1, wz, opX, intBin, ↓reduceIte, simprocAttr])
                            exact ⟨_, rfl, _, by omega, rfl⟩
                          | true =>
                            rw [if_pos rfl]
                            rw [hb1] at hv1
                            obtain ⟨r2, hv2, q2, hq2, rfl⟩ := ih x1 (kn.set mm (kNot p t.num)) _ q1 (by omega) (by omega) (hmo.1.trans hM1) K2 D2 (by omega)
                            (simp only [e72, hcp, hio4, hsd, hsn, iaK hp, happ, hapf, hf1, ia0, ia1, hv1, hv2, wz, opX, intBin, ↓reduceIte, simprocAttr] <;> repeat' (first | refine wpG_s ?_ ?_ | refine wpC_s ?_ ?_) <;> intro hgo <;> (try simp only [dq] at hgo) <;> simp only [hgo, e72, hcp, hio4, hsd, hsn, iaK hp, happ, hapf, hf1, ia0, ia1, hv1, hv2, wz, opX, intBin, ↓reduceIte, simprocAttr])
                            exact ⟨_, rfl, _, by omega, rfl⟩
                      · have hn2 : ((t.next.length : Int) == 2) = false := beq_eq_false_iff_ne.2 (fun h => h2 (by omega))
                        have hS4 : chN (chS d l k) t kn mm p (M.set j true) = (false, M.set j true) := by unfold chN; rw [if_neg (fun h => h2 h.1)]
                        rw [hS4]
                        (simp only [e72, hcT, iaK hp, hdn, hty, hcn, bft, btf, bne, hn2, wz, opX, intBin, ↓reduceIte, simprocAttr] <;> repeat' (first | refine wpG_s ?_ ?_ | refine wpC_s ?_ ?_) <;> intro hgo <;> (try simp only [dq] at hgo) <;> simp only [hgo, e72, hcT, iaK hp, hdn, hty, hcn, bft, btf, bne, hn2, wz, opX, intBin, ↓reduceIte, simprocAttr])
                        exact ⟨_, rfl, _, hq', rfl⟩
                  | false =>
                    have hty2 : p.ty ≠ 0 := by simpa using hty
                    cases hcn : t.con with
                    | false =>
                      have hrf : refuse t p = true := by unfold refuse; rw [hdn, hcn, decide_eq_true hty2]; rfl
                      rw [if_pos hrf]
                      (simp only [e72, hcT, iaK hp, hdn, hty, hcn, bft, btf, bne, wz, opX, intBin, ↓reduceIte, simprocAttr] <;> repeat' (first | refine wpG_s ?_ ?_ | refine wpC_s ?_ ?_) <;> intro hgo <;> (try simp only [dq] at hgo) <;> simp only [hgo, e72, hcT, iaK hp, hdn, hty, hcn, bft, btf, bne, wz, opX, intBin, ↓reduceIte, simprocAttr])
                      exact ⟨_, rfl, _, hq', rfl⟩
                    | true =>
                      have hrf : refuse t p = false := by unfold refuse; rw [hdn, hcn, decide_eq_true hty2]; rfl
                      rw [if_neg (by rw [hrf]; simp), if_neg (by simp)]
                      obtain ⟨n', y, hpt2, hy⟩ : ∃ (n' : Nat) (y : Dt), p.ty = (n' : Int) + 1 ∧ d[n']? = some y := by
                        rcases tcase d p.ty with h | h | h
                        · exfalso; unfold isT at hty3; simp only [Bool.and_eq_true, decide_eq_true_eq] at hty3; omega
                        · exfalso; unfold isT at hty3; simp only [Bool.and_eq_true, decide_eq_true_eq] at hty3; omega
                        · exact h
                      have hnd := (List.getElem?_eq_some_iff.1 hy).1
                      have hdl := B.len
                      have hym := List.mem_of_getElem? hy
                      have hyc := (B.at hy).2.2
                      have hws := wrap_sub1 (n := n') (by omega)
                      have hco : consOf d p.ty = y.cons := by rw [hpt2]; exact consOf_at hy
                      cases hnum : (t.num == 0) with
                      | false =>
                        have hS4 : chC d (chS d l k) t kn mm p (M.set j true) = (false, M.set j true) := by
                          unfold chC; rw [if_neg (fun h => by rw [h.1] at hnum; cases hnum)]
                        rw [hS4]
                        (simp only [e72, hcT, iaK hp, hdn, hty, hcn, bft, btf, bne, hpt2, hws, iaD hy, hnum, wz, opX, intBin, ↓reduceIte, simprocAttr] <;> repeat' (first | refine wpG_s ?_ ?_ | refine wpC_s ?_ ?_) <;> intro hgo <;> (try simp only [dq] at hgo) <;> simp only [hgo, e72, hcT, iaK hp, hdn, hty, hcn, bft, btf, bne, hpt2, hws, iaD hy, hnum, wz, opX, intBin, ↓reduceIte, simprocAttr])
                        exact ⟨_, rfl, _, hq', rfl⟩
                      | true =>
                        by_cases hle : t.next.length = y.cons.length
                        · have hlt : ((t.next.length : Int) == (y.cons.length : Int)) = true := by rw [hle]; exact beq_self_eq_true _
                          have hS4 : chC d (chS d l k) t kn mm p (M.set j true) = chL (chS d l k) (kn.set mm (kDone p)) t.path (t.next.zip y.cons) (M.set j true) := by
                            unfold chC; rw [if_pos ⟨by simpa using hnum, by rw [hle, hco]⟩, hco]
                          rw [hS4]
                          have hzl : (t.next.zip y.cons).length = t.next.length := by rw [List.length_zip]; omega
                          (simp only [e72, hcT, iaK hp, hdn, hty, hcn, bft, btf, bne, hpt2, hws, iaD hy, hnum, hlt, wz, opX, intBin, ↓reduceIte, simprocAttr] <;> repeat' (first | refine wpG_s ?_ ?_ | refine wpC_s ?_ ?_) <;> intro hgo <;> (try simp only [dq] at hgo) <;> simp only [hgo, e72, hcT, iaK hp, hdn, hty, hcn, bft, btf, bne, hpt2, hws, iaD hy, hnum, hlt, wz, opX, intBin, ↓reduceIte, simprocAttr])
                          refine loop_wp y.cons.length (fun i e h' => ∃ (q2 : Nat) (M' : List Bool), h' = ⟨(m, .arr 1 (M'.map bV)) :: O, q2⟩ ∧ q ≤ q2 ∧ M'.length = l.length ∧ l.length - cnt M' < k ∧
                            chL (chS d l k) (kn.set mm (kDone p)) t.path (t.next.zip y.cons) (M.set j true) = chL (chS d l k) (kn.set mm (kDone p)) t.path ((t.next.zip y.cons).drop i) M' ∧
                            e = [(0, .d (eDs d)), (1, .d (eTs l)), (3, .d (eKs kn)), (4, .own m 1 l.length 0 l.length), (11, .fp (eT t) 0), (12, .d (.int .i64 (mm : Int))), (14, .d (.lst (y.cons.map eC))), (15, .d (.int .i64 (i : Int)))]) _ ?_ ?_ y.cons.length 0 _ _ (by omega) ⟨q', M.set j true, rfl, hq', hM1, hcM, rfl, rfl⟩
                          · rintro i e h' hi ⟨q2, M', rfl, hq2, hM2, hc2, hch, rfl⟩
                            obtain ⟨x, hx⟩ := get_of_lt (l := t.next) (n := i) (by omega)
                            obtain ⟨c, hcx⟩ := get_of_lt (l := y.cons) (n := i) (by omega)
                            have hcm := List.mem_of_getElem? hcx
                            have hfl := Fl y hym c hcm
                            have hzx : (t.next.zip y.cons)[i]? = some (x, c) := by rw [List.getElem?_zip_eq_some]; exact ⟨hx, hcx⟩
                            have hwr : IntKind.i64.wrap ((i : Int) + 1) = ((i + 1 : Nat) : Int) := by rw [wrap_ok (by omega) (by omega)]; rfl
                            rw [drop_at hzx, chL_cons] at hch
                            have hKm : KnOk d k (kn.set mm (kDone p) ++ newK t.path c.flds) := K.more (p := kDone p) hty3 (by show p.nots.length + k ≤ 200; omega) hpa3 htp hfl (T y hym c hcm) (by omega)
                            have hDm : KnD (kn.set mm (kDone p) ++ newK t.path c.flds) := by rw [← hpe]; exact KD.more hp hdn c.flds
                            (simp only [e72, hi, hcp, hio4, hsd, wz, opX, intBin, ↓reduceIte, simprocAttr] <;> repeat' (first | refine wpG_s ?_ ?_ | refine wpC_s ?_ ?_) <;> intro hgo <;> (try simp only [dq] at hgo) <;> simp only [hgo, e72, hi, hcp, hio4, hsd, wz, opX, intBin, ↓reduceIte, simprocAttr])
                            refine loop_wp c.flds.length (fun jj e h' => ∃ q'' : Nat, q2 < q'' ∧ h' = ⟨(q2, .arr 4 (((kn.set mm (kDone p) ++ newK t.path (c.flds.take jj)).map eK).map .d)) :: (m, .arr 1 (M'.map bV)) :: O, q''⟩ ∧
                              e = [(0, .d (eDs d)), (1, .d (eTs l)), (3, .d (eKs kn)), (4, .own m 1 l.length 0 l.length), (11, .fp (eT t) 0), (12, .d (.int .i64 (mm : Int))), (14, .d (.lst (y.cons.map eC))), (15, .d (.int .i64 (i : Int))), (16, .own q2 4 (kn.length + jj) 0 (kn.length + jj)), (17, .d (.int .i64 (jj : Int)))]) _ ?_ ?_ c.flds.length 0 _ _ (by omega) ⟨q2 + 1, by omega, by simp [newK], rfl⟩
                            · rintro jj e h' hjj ⟨q'', hq4, rfl, rfl⟩
                              obtain ⟨f, hf⟩ := get_of_lt hjj
                              have hwr2 : IntKind.i64.wrap ((jj : Int) + 1) = ((jj + 1 : Nat) : Int) := by rw [wrap_ok (by omega) (by omega)]; rfl
                              have hlo := fun h => with_ok t.path (jj : Int) (by omega) h
                              have hns := newK_snoc t.path hf
                              have happ : ∀ q'', app 4 64 ⟨(q2, .arr 4 (((kn.set mm (kDone p) ++ newK t.path (c.flds.take jj)).map eK).map .d)) :: (m, .arr 1 (M'.map bV)) :: O, q''⟩ (.own q2 4 (kn.length + jj) 0 (kn.length + jj)) (.tl [.d (D.agg [eIs (t.path ++ [(jj : Int)]), eI f, .bool false, .lst []])] (some false)) =
                                  some (.own q2 4 (kn.length + (jj + 1)) 0 (kn.length + (jj + 1)), ⟨(q2, .arr 4 (((kn.set mm (kDone p) ++ newK t.path (c.flds.take (jj + 1))).map eK).map .d)) :: (m, .arr 1 (M'.map bV)) :: O, q''⟩) := by
                                intro q''
                                rw [app_tl1]
                                have hll : ((kn.set mm (kDone p) ++ newK t.path (c.flds.take jj)).map eK).length = kn.length + jj := by
                                  rw [List.length_map, List.length_append, List.length_set, newK_len, List.length_take]; omega
                                have := own_app (es := 4) (b := 64) (m := q2) (q := q'') (o := (m, .arr 1 (M'.map bV)) :: O) (l := (kn.set mm (kDone p) ++ newK t.path (c.flds.take jj)).map eK) (r := [eK ⟨t.path ++ [(jj : Int)], f, false, []⟩]) (by intro z hz; rw [List.mem_singleton] at hz; subst hz; rfl) (by rw [hll]; simp only [List.length_cons, List.length_nil, roomB]; omega)
                                rw [List.length_append, hll] at this
                                rw [hns]
                                simp only [List.map_append, List.append_assoc, List.map_cons, List.map_nil, List.length_cons, List.length_nil, Nat.zero_add, Nat.add_assoc] at this ⊢
                                exact this
                              (simp only [e72, hjj, iaC hcx, iaI hf, hlo, hwr2, mk_s, mk_c, mk_n, happ, wz, opX, intBin, ↓reduceIte, simprocAttr] <;> repeat' (first | refine wpG_s ?_ ?_ | refine wpC_s ?_ ?_) <;> intro hgo <;> (try simp only [dq] at hgo) <;> simp only [hgo, e72, hjj, iaC hcx, iaI hf, hlo, hwr2, mk_s, mk_c, mk_n, happ, wz, opX, intBin, ↓reduceIte, simprocAttr])
                              exact ⟨q'', hq4, rfl⟩
                            · rintro e h' ⟨q'', hq4, rfl, rfl⟩
                              rw [List.take_length]
                              have hfz : Zv.frz ⟨(q2, .arr 4 (((kn.set mm (kDone p) ++ newK t.path c.flds).map eK).map .d)) :: (m, .arr 1 (M'.map bV)) :: O, q''⟩ (.own q2 4 (kn.length + c.flds.length) 0 (kn.length + c.flds.length)) = some (.d (eKs (kn.set mm (kDone p) ++ newK t.path c.flds)), ⟨(m, .arr 1 (M'.map bV)) :: O, q''⟩) := by
                                have := own_frz (es := 4) (m := q2) (q := q'') (o := (m, .arr 1 (M'.map bV)) :: O) (l := (kn.set mm (kDone p) ++ newK t.path c.flds).map eK)
                                rw [List.length_map, List.length_append, List.length_set, newK_len] at this
                                exact this
                              obtain ⟨r1, hv1, q3, hq5, rfl⟩ := ih x (kn.set mm (kDone p) ++ newK t.path c.flds) M' q'' hc2 (by omega) hM2 hKm hDm (by omega)
                              have hmo := chS_mono d l k x (kn.set mm (kDone p) ++ newK t.path c.flds) M'
                              cases hb1 : (chS d l k x (kn.set mm (kDone p) ++ newK t.path c.flds) M').1 with
                              | false =>
                                rw [hb1] at hv1
                                simp only [hb1, Bool.false_eq_true, if_false] at hch
                                rw [hch]
                                (simp only [e72, iaC hcx, hfz, iaI hx, hv1, wz, opX, intBin, ↓reduceIte, simprocAttr] <;> repeat' (first | refine wpG_s ?_ ?_ | refine wpC_s ?_ ?_) <;> intro hgo <;> (try simp only [dq] at hgo) <;> simp only [hgo, e72, iaC hcx, hfz, iaI hx, hv1, wz, opX, intBin, ↓reduceIte, simprocAttr])
                                exact ⟨_, rfl, _, by omega, rfl⟩
                              | true =>
                                rw [hb1] at hv1
                                simp only [hb1, if_true] at hch
                                (simp only [e72, iaC hcx, hfz, iaI hx, hv1, hwr, wz, opX, intBin, ↓reduceIte, simprocAttr] <;> repeat' (first | refine wpG_s ?_ ?_ | refine wpC_s ?_ ?_) <;> intro hgo <;> (try simp only [dq] at hgo) <;> simp only [hgo, e72, iaC hcx, hfz, iaI hx, hv1, hwr, wz, opX, intBin, ↓reduceIte, simprocAttr])
                                exact ⟨q3, _, rfl, by omega, hmo.1.trans hM2, by omega, hch⟩
                          · rintro e h' ⟨q2, M', rfl, hq2, hM2, hc2, hch, rfl⟩
                            rw [show (t.next.zip y.cons).drop y.cons.length = [] from List.drop_of_length_le (by rw [hzl, hle]; exact Nat.le_refl _)] at hch
                            rw [hch]
                            (simp only [e72, wz, opX, intBin, ↓reduceIte, simprocAttr] <;> repeat' (first | refine wpG_s ?_ ?_ | refine wpC_s ?_ ?_) <;> intro hgo <;> (try simp only [dq] at hgo) <;> simp only [hgo, e72, wz, opX, intBin, ↓reduceIte, simprocAttr])
                            exact ⟨_, rfl, q2, by omega, rfl⟩
                        · have hlf : ((t.next.length : Int) == (y.cons.length : Int)) = false := beq_eq_false_iff_ne.2 (fun h => hle (by omega))
                          have hS4 : chC d (chS d l k) t kn mm p (M.set j true) = (false, M.set j true) := by
                            unfold chC; rw [if_neg (fun h => hle (by rw [h.2, hco]))]
                          rw [hS4]
                          (simp only [e72, hcT, iaK hp, hdn, hty, hcn, bft, btf, bne, hpt2, hws, iaD hy, hnum, hlf, wz, opX, intBin, ↓reduceIte, simprocAttr] <;> repeat' (first | refine wpG_s ?_ ?_ | refine wpC_s ?_ ?_) <;> intro hgo <;> (try simp only [dq] at hgo) <;> simp only [hgo, e72, hcT, iaK hp, hdn, hty, hcn, bft, btf, bne, hpt2, hws, iaD hy, hnum, hlf, wz, opX, intBin, ↓reduceIte, simprocAttr])
                          exact ⟨_, rfl, _, hq', rfl⟩
          · have hr0 : (t.row == 0) = false := beq_eq_false_iff_ne.2 hrow
            have hS2 : chT d (chS d l k) t kn (M.set j true) = (false, M.set j true) := by
              unfold chT; rw [if_neg hnx, if_pos hrow]
            rw [hS2]
            (simp only [e72, hj2, hio, hlb, hst, iaT ht, hcT, hz, hr0, bne, wz, opX, intBin, ↓reduceIte, simprocAttr] <;> repeat' (first | refine wpG_s ?_ ?_ | refine wpC_s ?_ ?_) <;> intro hgo <;> (try simp only [dq] at hgo) <;> simp only [hgo, e72, hj2, hio, hlb, hst, iaT ht, hcT, hz, hr0, bne, wz, opX, intBin, ↓reduceIte, simprocAttr])
            exact ⟨_, rfl, _, by omega, rfl⟩
end Zc28
end
section
set_option linter.unusedSimpArgs false
set_option linter.unusedVariables false
set_option linter.unusedSimpArgs false
set_option maxHeartbeats 4000000
namespace Zc28
open Go Zv Zs

theorem okIs {x : D} (h : ok (EE es) (.one (.l 2)) x) : ∃ a, x = eIs a ∧ a.length ≤ maxLen := by
  obtain ⟨l, rfl, hl, h2⟩ := ok_l h
  obtain ⟨xs, rfl⟩ := okEs_map (fun _ => okI) h2
  refine ⟨xs, rfl, ?_⟩
  rw [List.length_map] at hl
  exact hl
theorem Sml.bd {d : List Dt} (S : Sml d) : Bd d := ⟨by have := S.len; omega, fun y hy => by have := (S.ds y hy).2.1; omega, fun y hy c hc => by have := ((S.ds y hy).2.2 c hc).2; omega⟩
theorem Sml.nm {d : List Dt} (S : Sml d) : Nm d := fun y hy => ⟨by have := (S.ds y hy).1; omega, fun c hc => by have := ((S.ds y hy).2.2 c hc).1; omega⟩
theorem check_typed {d : List Dt} (h : checkS d = 0) : typedS d = true := by
  unfold checkS at h
  by_cases h1 : manyS d = true
  · rw [if_pos h1] at h; exact absurd h (by decide)
  rw [if_neg h1] at h
  by_cases h2 : formedS d = false
  · rw [if_pos h2] at h; exact absurd h (by decide)
  rw [if_neg h2] at h
  by_cases h3 : twiceS d = true
  · rw [if_pos h3] at h; exact absurd h (by decide)
  rw [if_neg h3] at h
  by_cases h4 : typedS d = false
  · rw [if_pos h4] at h; exact absurd h (by decide)
  simpa using h4
theorem typed_flds {d : List Dt} (h : typedS d = true) : ∀ y, y ∈ d → ∀ c, c ∈ y.cons → ∀ f, f ∈ c.flds → isT d f = true := by
  intro y hy c hc f hf
  rw [typed_any] at h
  cases hi : isT d f with
  | true => rfl
  | false =>
    have : (d.any fun y => y.cons.any fun c => c.flds.any fun f => !isT d f) = true :=
      List.any_eq_true.2 ⟨y, hy, List.any_eq_true.2 ⟨c, hc, List.any_eq_true.2 ⟨f, hf, by rw [hi]; rfl⟩⟩⟩
    rw [this] at h; cases h

abbrev kn0 (ts : List Int) : List Kn := newK [] ts
theorem kn0_ok {d : List Dt} {ts : List Int} {k : Nat} (hts : ts.length ≤ 4) (hT : ∀ t, t ∈ ts → isT d t = true) (hk : k ≤ 41) : KnOk d k (kn0 ts) := by
  refine ⟨by rw [newK_len]; omega, ?_, ?_, ?_⟩ <;> intro p hp <;> obtain ⟨i, f, hf, rfl⟩ := newK_mem hp
  · exact hT f (List.mem_of_getElem? hf)
  · simp only [List.length_nil]; omega
  · simp
theorem kn0_D (ts : List Int) : KnD (kn0 ts) := by
  refine ⟨?_, ?_, ?_⟩
  · rw [newK_path]
    refine List.Pairwise.map _ ?_ (List.nodup_range (n := ts.length))
    intro a b hab e
    simp at e
    exact hab (by exact_mod_cast e)
  · intro p hp pp j hpp hne
    obtain ⟨i, f, hf, rfl⟩ := newK_mem hp
    have := congrArg List.length hpp
    simp at this
    exact absurd this hne
  · intro p hp
    obtain ⟨i, f, hf, rfl⟩ := newK_mem hp
    simp
def badT (d : List Dt) (t : Int) : Bool := decide (t < 0) || decide ((d.length : Int) < t)
theorem badT_isT {d : List Dt} {t : Int} (h : badT d t = false) : isT d t = true := by
  unfold badT at h; unfold isT
  simp only [Bool.or_eq_false_iff, decide_eq_false_iff_not] at h
  rw [decide_eq_true (by omega), decide_eq_true (by omega)]; rfl
/-- What Check answers. -/
def visC (d : List Dt) (ts : List Int) (l : List Ts) : Bool × List Bool := chS d l (l.length + 1) 0 (kn0 ts) (List.replicate l.length false)
def checkC (d : List Dt) (ts : List Int) (l : List Ts) : Int := if checkS d ≠ 0 then 3 else if ts.any (badT d) = true then 2 else if (visC d ts l).1 = false ∨ ((visC d ts l).2.any fun x => false == x) = true then 3 else 0
theorem any_take {α : Type} {p : α → Bool} {l : List α} (h : ∀ (j : Nat) y, j < l.length → l[j]? = some y → p y = false) : l.any p = false := by
  rw [List.any_eq_false]
  intro y hy
  obtain ⟨n, hn⟩ := List.mem_iff_getElem?.1 hy
  rw [h n y (List.getElem?_eq_some_iff.1 hn).1 hn]; simp
theorem mk_kn (a b c : D) : norm (V.agg [.tl [.d a] (some false), .d b, .d c, .tl [] (some true)]) = .d (.agg [.lst [a], b, c, .lst []]) := rfl
theorem frz_rowQ (h : Hp) (m es : Nat) (s : List D) (q : Nat) : Zv.frz (rowQ h m es s q) (rowN m es s) = some (.d (.lst s), ⟨h.objs, q⟩) := by
  by_cases hs : s = []
  · subst hs; rfl
  · unfold rowQ rowN
    rw [if_neg hs, if_neg hs]
    exact own_frz
theorem frz_row {h : Hp} {m es : Nat} {l : List D} (hr : h.row m l.length = some (es, l.map .d)) : Zv.frz h (.own m es l.length 0 l.length) = some (.d (.lst l), h.kill m) := by
  unfold Zv.frz
  simp only [hr, Option.bind_some, List.length_map, Nat.zero_add, Nat.le_refl, if_true, List.drop_zero]
  rw [List.take_of_length_le (by simp), toDs_map_d]
  rfl
theorem rcheck28_ok {d : List Dt} (S : Sml d) {ts : List Int} (hts : ts.length ≤ 4) {l : List Ts} (L : Light l) (h : Hp) : callW tab 29 [.d (eDs d), .d (eIs ts), .d (eTs l)] h = some (.d (eI (checkC d ts l)), h) := by
  refine call_wp (fn := f29) rfl rfl ?_
  have hc := fun h => rcheck_ok S.bd S.nm h
  have hlen := L.len
  by_cases h0 : checkS d = 0
  · have hc0 : (checkS d == 0) = true := by rw [h0]; rfl
    have hB := S.bd.len
    (simp only [e29, hc, hc0, bne, wz, opX, intBin, ↓reduceIte, simprocAttr] <;> repeat' (first | refine wpG_s ?_ ?_ | refine wpC_s ?_ ?_) <;> intro hgo <;> (try simp only [dq] at hgo) <;> simp only [hgo, e29, hc, hc0, bne, wz, opX, intBin, ↓reduceIte, simprocAttr])
    refine loop_wp ts.length (fun i e h' => h' = h ∧ (∀ (j : Nat) y, j < i → ts[j]? = some y → badT d y = false) ∧ e = [(0, .d (eDs d)), (1, .d (eIs ts)), (2, .d (eTs l)), (7, .d (.int .i64 (i : Int)))]) _ ?_ ?_ ts.length 0 _ _ (by omega) ⟨rfl, fun j y hj => by omega, rfl⟩
    · rintro i e h' hi ⟨rfl, hno, rfl⟩
      obtain ⟨x, hx⟩ := get_of_lt hi
      have hwr : IntKind.i64.wrap ((i : Int) + 1) = ((i + 1 : Nat) : Int) := by rw [wrap_ok (by omega) (by omega)]; rfl
      cases hb : badT d x with
      | true =>
        have hC : checkC d ts l = 2 := by
          unfold checkC
          rw [if_neg (by simp [h0]), if_pos (List.any_eq_true.2 ⟨x, List.mem_of_getElem? hx, hb⟩)]
        rw [hC]
        unfold badT at hb
        by_cases h1 : x < 0
        · (simp only [e29, hi, iaI hx, h1, wz, opX, intBin, ↓reduceIte, simprocAttr] <;> repeat' (first | refine wpG_s ?_ ?_ | refine wpC_s ?_ ?_) <;> intro hgo <;> (try simp only [dq] at hgo) <;> simp only [hgo, e29, hi, iaI hx, h1, wz, opX, intBin, ↓reduceIte, simprocAttr])
        · have h2 : (d.length : Int) < x := by
            rw [decide_eq_false h1, Bool.false_or] at hb; exact of_decide_eq_true hb
          (simp only [e29, hi, iaI hx, h1, h2, wz, opX, intBin, ↓reduceIte, simprocAttr] <;> repeat' (first | refine wpG_s ?_ ?_ | refine wpC_s ?_ ?_) <;> intro hgo <;> (try simp only [dq] at hgo) <;> simp only [hgo, e29, hi, iaI hx, h1, h2, wz, opX, intBin, ↓reduceIte, simprocAttr])
      | false =>
        have hb2 := hb
        unfold badT at hb
        simp only [Bool.or_eq_false_iff, decide_eq_false_iff_not] at hb
        (simp only [e29, hi, iaI hx, hb.1, hb.2, hwr, wz, opX, intBin, ↓reduceIte, simprocAttr] <;> repeat' (first | refine wpG_s ?_ ?_ | refine wpC_s ?_ ?_) <;> intro hgo <;> (try simp only [dq] at hgo) <;> simp only [hgo, e29, hi, iaI hx, hb.1, hb.2, hwr, wz, opX, intBin, ↓reduceIte, simprocAttr])
        intro j y hj hy
        by_cases e : j = i
        · subst e; rw [hx] at hy; cases hy; exact hb2
        · exact hno j y (by omega) hy
    · rintro e h' ⟨rfl, hno, rfl⟩
      have hany : ts.any (badT d) = false := any_take hno
      have hT : ∀ t, t ∈ ts → isT d t = true := fun t ht => badT_isT (by
        have := List.any_eq_false.1 hany t ht; simpa using this)
      have h4 : ¬ (4096 : Int) < (l.length : Int) := by omega
      (simp only [e29, h4, wz, opX, intBin, ↓reduceIte, simprocAttr] <;> repeat' (first | refine wpG_s ?_ ?_ | refine wpC_s ?_ ?_) <;> intro hgo <;> (try simp only [dq] at hgo) <;> simp only [hgo, e29, h4, wz, opX, intBin, ↓reduceIte, simprocAttr])
      refine loop_wp ts.length (fun i e h'' => h'' = rowQ h' h'.next 4 ((newK [] (ts.take i)).map eK) (if i = 0 then h'.next else h'.next + 1) ∧ e = [(0, .d (eDs d)), (1, .d (eIs ts)), (2, .d (eTs l)), (8, rowN h'.next 4 ((newK [] (ts.take i)).map eK)), (9, .d (.int .i64 (i : Int)))]) _ ?_ ?_ ts.length 0 _ _ (by omega) ⟨rfl, rfl⟩
      · rintro i e h'' hi ⟨rfl, rfl⟩
        obtain ⟨x, hx⟩ := get_of_lt hi
        have hwr : IntKind.i64.wrap ((i : Int) + 1) = ((i + 1 : Nat) : Int) := by rw [wrap_ok (by omega) (by omega)]; rfl
        have hns := newK_snoc [] hx
        have happ := rowQ_app h' (m := h'.next) (es := 4) (b := 64) (q := if i = 0 then h'.next else h'.next + 1) (s := (newK [] (ts.take i)).map eK) (x := eK ⟨[(i : Int)], x, false, []⟩) (nl := some false) rfl
          (by rw [List.length_map, newK_len, List.length_take]; simp only [roomB]; omega) (by intro y hy; obtain ⟨z, _, rfl⟩ := List.mem_map.1 hy; rfl)
        have hnm : nmQ ((newK [] (ts.take i)).map eK) h'.next (if i = 0 then h'.next else h'.next + 1) = h'.next := by
          unfold nmQ
          split
          · rename_i h5
            have : i = 0 := by
              have := congrArg List.length h5
              rw [List.length_map, newK_len, List.length_take, List.length_nil] at this; omega
            rw [if_pos this]
          · rfl
        have hnq : nqQ ((newK [] (ts.take i)).map eK) (if i = 0 then h'.next else h'.next + 1) = h'.next + 1 := by
          unfold nqQ
          by_cases h6 : i = 0
          · subst h6; rfl
          · rw [if_neg (fun h5 => by
              have := congrArg List.length h5
              rw [List.length_map, newK_len, List.length_take, List.length_nil] at this; omega), if_neg h6]
        rw [hnm, hnq] at happ
        have hmap : (newK [] (ts.take (i + 1))).map eK = (newK [] (ts.take i)).map eK ++ [eK ⟨[(i : Int)], x, false, []⟩] := by rw [hns, List.map_append]; rfl
        rw [← hmap] at happ
        have happ : app 4 64 (rowQ h' h'.next 4 ((newK [] (ts.take i)).map eK) (if i = 0 then h'.next else h'.next + 1)) (rowN h'.next 4 ((newK [] (ts.take i)).map eK)) (.tl [.d (D.agg [.lst [.int .i64 (i : Int)], .int .i64 x, .bool false, .lst []])] (some false)) = _ := happ
        have h01 : (i + 1 = 0) = False := by simp
        (simp only [e29, hi, iaI hx, hwr, mk_kn, happ, h01, wz, opX, intBin, ↓reduceIte, simprocAttr] <;> repeat' (first | refine wpG_s ?_ ?_ | refine wpC_s ?_ ?_) <;> intro hgo <;> (try simp only [dq] at hgo) <;> simp only [hgo, e29, hi, iaI hx, hwr, mk_kn, happ, h01, wz, opX, intBin, ↓reduceIte, simprocAttr])
      · rintro e h'' ⟨rfl, rfl⟩
        rw [List.take_length]
        have hfz := frz_rowQ h' h'.next 4 ((newK [] ts).map eK) (if ts.length = 0 then h'.next else h'.next + 1)
        have hq0 : h'.next ≤ (if ts.length = 0 then h'.next else h'.next + 1) := by split <;> omega
        generalize (if ts.length = 0 then h'.next else h'.next + 1) = q0 at hfz hq0
        have hmk : ∀ o, mkslO (.d (.bool false)) 1 1 ⟨o, q0⟩ (.d (.int .i64 (l.length : Int))) = some (.own q0 1 l.length 0 l.length, ⟨(q0, .arr 1 ((List.replicate l.length false).map bV)) :: o, q0 + 1⟩) := by
          intro o
          simp only [mkslO, ixOf_nat, Option.bind_some]
          rw [if_pos (by unfold roomB; omega)]
          simp [Hp.alloc]
        obtain ⟨r, hv, q', hq', rfl⟩ := rwalk_ok L S.bd (fun y hy c hc => ((S.ds y hy).2.2 c hc).2) (typed_flds (check_typed h0)) q0 h'.objs (l.length + 1) 0 (kn0 ts) (List.replicate l.length false) (q0 + 1) (by omega) (by omega) (by simp) (kn0_ok hts hT (by omega)) (kn0_D ts) (by omega)
        have hC : checkC d ts l = if (visC d ts l).1 = false ∨ ((visC d ts l).2.any fun x => false == x) = true then 3 else 0 := by
          unfold checkC; rw [if_neg (by simp [h0]), if_neg (by rw [hany]; simp)]
        have hml := (chS_mono d l (l.length + 1) 0 (kn0 ts) (List.replicate l.length false)).1
        rw [List.length_replicate] at hml
        rw [hC]
        change callW _ _ _ _ = some (.d (.bool (visC d ts l).1), ⟨(q0, .arr 1 ((visC d ts l).2.map bV)) :: h'.objs, q'⟩) at hv
        change (visC d ts l).2.length = l.length at hml
        cases hb : (visC d ts l).1 with
        | false =>
          rw [hb] at hv
          rw [if_pos (.inl rfl)]
          (simp only [e29, hfz, hmk, hv, wz, opX, intBin, ↓reduceIte, simprocAttr] <;> repeat' (first | refine wpG_s ?_ ?_ | refine wpC_s ?_ ?_) <;> intro hgo <;> (try simp only [dq] at hgo) <;> simp only [hgo, e29, hfz, hmk, hv, wz, opX, intBin, ↓reduceIte, simprocAttr])
        | true =>
          rw [hb] at hv
          generalize (visC d ts l).2 = M at hv hml
          (simp only [e29, hfz, hmk, hv, wz, opX, intBin, ↓reduceIte, simprocAttr] <;> repeat' (first | refine wpG_s ?_ ?_ | refine wpC_s ?_ ?_) <;> intro hgo <;> (try simp only [dq] at hgo) <;> simp only [hgo, e29, hfz, hmk, hv, wz, opX, intBin, ↓reduceIte, simprocAttr])
          refine loop_wp M.length (fun i e h'' => h'' = ⟨(q0, .arr 1 (M.map bV)) :: h'.objs, q'⟩ ∧ (∀ (j : Nat) y, j < i → M[j]? = some y → (false == y) = false) ∧ e = [(10, .own q0 1 l.length 0 l.length), (11, .d (.int .i64 (i : Int)))]) _ ?_ ?_ M.length 0 _ _ (by omega) ⟨rfl, fun j y hj => by omega, rfl⟩
          · rintro i e h'' hi ⟨rfl, hno, rfl⟩
            obtain ⟨b, hbi⟩ := get_of_lt hi
            have hwr : IntKind.i64.wrap ((i : Int) + 1) = ((i + 1 : Nat) : Int) := by rw [wrap_ok (by omega) (by omega)]; rfl
            have hi2 : i < l.length := by omega
            have hio := ia_own (es := 1) (n := q0) (tot := l.length) .i64 hi2
            have hlb := ld_bit (H := ⟨(q0, .arr 1 (M.map bV)) :: h'.objs, q'⟩) (a := q0) (L := l.length) (by rw [row_hd, if_pos (by rw [List.length_map]; exact hml)]) hbi
            cases b with
            | false =>
              rw [if_pos (List.any_eq_true.2 ⟨false, List.mem_of_getElem? hbi, rfl⟩)]
              (simp only [e29, hi2, hio, hlb, wz, opX, intBin, ↓reduceIte, simprocAttr] <;> repeat' (first | refine wpG_s ?_ ?_ | refine wpC_s ?_ ?_) <;> intro hgo <;> (try simp only [dq] at hgo) <;> simp only [hgo, e29, hi2, hio, hlb, wz, opX, intBin, ↓reduceIte, simprocAttr])
            | true =>
              (simp only [e29, hi2, hio, hlb, hwr, wz, opX, intBin, ↓reduceIte, simprocAttr] <;> repeat' (first | refine wpG_s ?_ ?_ | refine wpC_s ?_ ?_) <;> intro hgo <;> (try simp only [dq] at hgo) <;> simp only [hgo, e29, hi2, hio, hlb, hwr, wz, opX, intBin, ↓reduceIte, simprocAttr])
              intro j y hj hy
              by_cases e : j = i
              · subst e; rw [hbi] at hy; cases hy; rfl
              · exact hno j y (by omega) hy
          · rintro e h'' ⟨rfl, hno, rfl⟩
            have hany2 : (M.any fun x => false == x) = false := any_take hno
            rw [if_neg (by rw [hany2]; simp)]
            have hnl : ¬ M.length < l.length := by omega
            (simp only [e29, hnl, wz, opX, intBin, ↓reduceIte, simprocAttr] <;> repeat' (first | refine wpG_s ?_ ?_ | refine wpC_s ?_ ?_) <;> intro hgo <;> (try simp only [dq] at hgo) <;> simp only [hgo, e29, hnl, wz, opX, intBin, ↓reduceIte, simprocAttr])
  · have hc0 : (checkS d == 0) = false := beq_eq_false_iff_ne.2 h0
    have hC : checkC d ts l = 3 := by unfold checkC; rw [if_pos h0]
    (simp only [e29, hc, hc0, bne, hC, wz, opX, intBin, ↓reduceIte, simprocAttr] <;> repeat' (first | refine wpG_s ?_ ?_ | refine wpC_s ?_ ?_) <;> intro hgo <;> (try simp only [dq] at hgo) <;> simp only [hgo, e29, hc, hc0, bne, hC, wz, opX, intBin, ↓reduceIte, simprocAttr])
end Zc28
end
section
set_option linter.unusedSimpArgs false
set_option linter.unusedVariables false
set_option linter.unusedSimpArgs false
set_option maxHeartbeats 4000000
namespace Zc28
open Go Zv Zs

theorem finS_e (n : Nat) (h : Hp) (x : D) : finS ⟨[], n⟩ h [.d x] = some (.d x, ⟨[], n⟩) := by
  have : sufOk [] h.objs = true := by
    unfold sufOk
    rw [List.length_nil, Nat.sub_zero, List.drop_length]
    exact objsBeq_refl _
  rw [finS, if_pos this]
  rfl
theorem rowQ_rowB {o : List (Nat × Ob)} {nx m es q n tot es' : Nat} {s : List D} {els : List V} (h : n ≠ m) (hr : ∀ nx, Hp.row ⟨o, nx⟩ n tot = some (es', els)) : (rowQ ⟨o, nx⟩ m es s q).row n tot = some (es', els) := by
  unfold rowQ
  split
  · exact hr q
  · exact row_cn h hr
theorem pcheck28_ok {d : List Dt} (S : Sml d) {ts : List Int} (hts : ts.length ≤ 4) {l : List Ts} (L : Light l) (n : Nat) : callW tab 28 [.d (eDs d), .d (eIs ts), .d (.agg [eTs l])] ⟨[], n⟩ = some (.d (eI (checkC d ts l)), ⟨[], n⟩) := by
  refine call_wp (fn := f28) rfl rfl ?_
  have hc := fun h => pcheck_ok S.bd S.nm h
  have hlen := L.len
  have hB := S.bd.len
  have hfe := fun h x => finS_e n h x
  have c1 : (D.agg [eTs l]).cells.length = 1 := rfl
  have c2 : (eDs d).cells.length = 1 := rfl
  have rd : ∀ nx, Hp.row ⟨[(n + 1, .arr 1 [.d (.agg [eTs l])]), (n, .arr 1 [.d (eDs d)])], nx⟩ n 1 = some (1, [.d (eDs d)]) := fun nx => row_cn (by omega) (fun nx => by rw [row_hd]; rfl)
  have rcx : ∀ nx, Hp.row ⟨[(n + 1, .arr 1 [.d (.agg [eTs l])]), (n, .arr 1 [.d (eDs d)])], nx⟩ (n + 1) 1 = some (1, [.d (.agg [eTs l])]) := fun nx => by rw [row_hd]; rfl
  by_cases h0 : checkS d = 0
  · have hc0 : (checkS d == 0) = true := by rw [h0]; rfl
    (simp only [e28, hc, hc0, bne, c1, c2, rd, wz, opX, intBin, ↓reduceIte, simprocAttr] <;> repeat' (first | refine wpG_s ?_ ?_ | refine wpC_s ?_ ?_) <;> intro hgo <;> (try simp only [dq] at hgo) <;> simp only [hgo, e28, hc, hc0, bne, c1, c2, rd, wz, opX, intBin, ↓reduceIte, simprocAttr])
    refine loop_wp ts.length (fun i e h'' => h'' = rowQ ⟨[(n + 1, .arr 1 [.d (.agg [eTs l])]), (n, .arr 1 [.d (eDs d)])], 0⟩ (n + 1 + 1) 4 ((newK [] (ts.take i)).map eK) (if i = 0 then n + 1 + 1 else n + 1 + 1 + 1) ∧ (∀ (j : Nat) y, j < i → ts[j]? = some y → badT d y = false) ∧
      e = [(3, .ptr n 1 0 0), (5, .ptr (n + 1) 1 0 0), (7, rowN (n + 1 + 1) 4 ((newK [] (ts.take i)).map eK)), (15, .d (eIs ts)), (16, .d (.int .i64 ts.length)), (17, .d (.int .i64 (i : Int)))]) _ ?_ ?_ ts.length 0 _ _ (by omega) ⟨rfl, fun j y hj => by omega, rfl⟩
    · rintro i e h' hi ⟨rfl, hno, rfl⟩
      obtain ⟨x, hx⟩ := get_of_lt hi
      have hwr : IntKind.i64.wrap ((i : Int) + 1) = ((i + 1 : Nat) : Int) := by rw [wrap_ok (by omega) (by omega)]; rfl
      have rdq := fun s q => rowQ_rowB (nx := 0) (m := n + 1 + 1) (es := 4) (s := s) (q := q) (by omega) rd
      cases hb : badT d x with
      | true =>
        have hC : checkC d ts l = 2 := by
          unfold checkC
          rw [if_neg (by simp [h0]), if_pos (List.any_eq_true.2 ⟨x, List.mem_of_getElem? hx, hb⟩)]
        rw [hC]
        unfold badT at hb
        by_cases h1 : x < 0
        · (simp only [e28, hi, iaI hx, h1, hfe, wz, opX, intBin, ↓reduceIte, simprocAttr] <;> repeat' (first | refine wpG_s ?_ ?_ | refine wpC_s ?_ ?_) <;> intro hgo <;> (try simp only [dq] at hgo) <;> simp only [hgo, e28, hi, iaI hx, h1, hfe, wz, opX, intBin, ↓reduceIte, simprocAttr])
        · have h2 : (d.length : Int) < x := by
            rw [decide_eq_false h1, Bool.false_or] at hb; exact of_decide_eq_true hb
          (simp only [e28, hi, iaI hx, h1, h2, rdq, hfe, wz, opX, intBin, ↓reduceIte, simprocAttr] <;> repeat' (first | refine wpG_s ?_ ?_ | refine wpC_s ?_ ?_) <;> intro hgo <;> (try simp only [dq] at hgo) <;> simp only [hgo, e28, hi, iaI hx, h1, h2, rdq, hfe, wz, opX, intBin, ↓reduceIte, simprocAttr])
      | false =>
        have hb2 := hb
        unfold badT at hb
        simp only [Bool.or_eq_false_iff, decide_eq_false_iff_not] at hb
        have hns := newK_snoc [] hx
        have happ := rowQ_app ⟨[(n + 1, .arr 1 [.d (.agg [eTs l])]), (n, .arr 1 [.d (eDs d)])], 0⟩ (m := n + 1 + 1) (es := 4) (b := 64) (q := if i = 0 then n + 1 + 1 else n + 1 + 1 + 1) (s := (newK [] (ts.take i)).map eK) (x := eK ⟨[(i : Int)], x, false, []⟩) (nl := some false) rfl
          (by rw [List.length_map, newK_len, List.length_take]; simp only [roomB]; omega) (by intro y hy; obtain ⟨z, _, rfl⟩ := List.mem_map.1 hy; rfl)
        have hnm : nmQ ((newK [] (ts.take i)).map eK) (n + 1 + 1) (if i = 0 then n + 1 + 1 else n + 1 + 1 + 1) = n + 1 + 1 := by
          unfold nmQ
          split
          · rename_i h5
            have : i = 0 := by
              have := congrArg List.length h5
              rw [List.length_map, newK_len, List.length_take, List.length_nil] at this; omega
            rw [if_pos this]
          · rfl
        have hnq : nqQ ((newK [] (ts.take i)).map eK) (if i = 0 then n + 1 + 1 else n + 1 + 1 + 1) = n + 1 + 1 + 1 := by
          unfold nqQ
          by_cases h6 : i = 0
          · subst h6; rfl
          · rw [if_neg (fun h5 => by
              have := congrArg List.length h5
              rw [List.length_map, newK_len, List.length_take, List.length_nil] at this; omega), if_neg h6]
        rw [hnm, hnq] at happ
        have hmap : (newK [] (ts.take (i + 1))).map eK = (newK [] (ts.take i)).map eK ++ [eK ⟨[(i : Int)], x, false, []⟩] := by rw [hns, List.map_append]; rfl
        rw [← hmap] at happ
        have happ : app 4 64 (rowQ ⟨[(n + 1, .arr 1 [.d (.agg [eTs l])]), (n, .arr 1 [.d (eDs d)])], 0⟩ (n + 1 + 1) 4 ((newK [] (ts.take i)).map eK) (if i = 0 then n + 1 + 1 else n + 1 + 1 + 1)) (rowN (n + 1 + 1) 4 ((newK [] (ts.take i)).map eK)) (.tl [.d (D.agg [.lst [.int .i64 (i : Int)], .int .i64 x, .bool false, .lst []])] (some false)) = _ := happ
        have h01 : (i + 1 = 0) = False := by simp
        (simp only [e28, hi, iaI hx, hb.1, hb.2, rdq, hwr, mk_kn, happ, h01, wz, opX, intBin, ↓reduceIte, simprocAttr] <;> repeat' (first | refine wpG_s ?_ ?_ | refine wpC_s ?_ ?_) <;> intro hgo <;> (try simp only [dq] at hgo) <;> simp only [hgo, e28, hi, iaI hx, hb.1, hb.2, rdq, hwr, mk_kn, happ, h01, wz, opX, intBin, ↓reduceIte, simprocAttr])
        intro j y hj hy
        by_cases e : j = i
        · subst e; rw [hx] at hy; cases hy; exact hb2
        · exact hno j y (by omega) hy
    · rintro e h' ⟨rfl, hno, rfl⟩
      rw [List.take_length]
      have hany : ts.any (badT d) = false := any_take hno
      have hT : ∀ t, t ∈ ts → isT d t = true := fun t ht => badT_isT (by
        have := List.any_eq_false.1 hany t ht; simpa using this)
      have h4 : ¬ (4096 : Int) < (l.length : Int) := by omega
      obtain ⟨X0, a, hX, ha, hr0, hfz⟩ : ∃ (X0 : List (Nat × Ob)) (a : Nat), rowQ ⟨[(n + 1, .arr 1 [.d (.agg [eTs l])]), (n, .arr 1 [.d (eDs d)])], 0⟩ (n + 1 + 1) 4 ((newK [] ts).map eK) (if ts.length = 0 then n + 1 + 1 else n + 1 + 1 + 1) = ⟨X0, a⟩ ∧ n + 1 < a ∧ (∀ nx, Hp.row ⟨X0, nx⟩ (n + 1) 1 = some (1, [.d (.agg [eTs l])])) ∧
          ∀ o1 o2 o3 nx, Zv.frz ⟨(a + 1 + 1, o1) :: (a + 1, o2) :: (a, o3) :: X0, nx⟩ (rowN (n + 1 + 1) 4 ((newK [] ts).map eK)) = some (.d (eKs (kn0 ts)), ⟨(a + 1 + 1, o1) :: (a + 1, o2) :: (a, o3) :: [(n + 1, .arr 1 [.d (.agg [eTs l])]), (n, .arr 1 [.d (eDs d)])], nx⟩) := by
        by_cases h5 : ts = []
        · subst h5
          exact ⟨_, _, rfl, by simp, rcx, fun _ _ _ _ => rfl⟩
        · have h6 : (newK [] ts).map eK ≠ [] := fun h => h5 (by
            have := congrArg List.length h
            rw [List.length_map, newK_len] at this
            exact List.length_eq_zero_iff.1 this)
          have h7 : ¬ ts.length = 0 := fun h => h5 (List.length_eq_zero_iff.1 h)
          refine ⟨(n + 1 + 1, .arr 4 (((newK [] ts).map eK).map .d)) :: [(n + 1, .arr 1 [.d (.agg [eTs l])]), (n, .arr 1 [.d (eDs d)])], n + 1 + 1 + 1, ?_, by omega, fun nx => row_cn (by omega) rcx, ?_⟩
          · unfold rowQ; rw [if_neg h6, if_neg h7]
          · intro o1 o2 o3 nx
            unfold rowN
            rw [if_neg h6]
            have hr : Hp.row ⟨(n + 1 + 1 + 1 + 1 + 1, o1) :: (n + 1 + 1 + 1 + 1, o2) :: (n + 1 + 1 + 1, o3) :: (n + 1 + 1, .arr 4 (((newK [] ts).map eK).map .d)) :: [(n + 1, .arr 1 [.d (.agg [eTs l])]), (n, .arr 1 [.d (eDs d)])], nx⟩ (n + 1 + 1) ((newK [] ts).map eK).length = some (4, ((newK [] ts).map eK).map .d) :=
              row_look (by rw [look_tl _ _ (by omega), look_tl _ _ (by omega), look_tl _ _ (by omega), look_hd]) (by simp)
            rw [frz_row hr]
            simp [Hp.kill, del]
      rw [hX]
      have hmk : ∀ o, mkslO (.d (.bool false)) 1 1 ⟨o, a⟩ (.d (.int .i64 (l.length : Int))) = some (.own a 1 l.length 0 l.length, ⟨(a, .arr 1 ((List.replicate l.length false).map bV)) :: o, a + 1⟩) := by
        intro o
        simp only [mkslO, ixOf_nat, Option.bind_some]
        rw [if_pos (by unfold roomB; omega)]
        simp [Hp.alloc]
      let X : List (Nat × Ob) := (a + 1 + 1, .arr 1 [.clo 63 [.ptr (n + 1) 1 0 0, .ptr (a + 1) 1 0 0, .ptr (a + 1 + 1) 1 0 0, .ptr n 1 0 0]]) :: (a + 1, .arr 1 [.own a 1 l.length 0 l.length]) :: (a, .arr 1 ((List.replicate l.length false).map bV)) :: [(n + 1, .arr 1 [.d (.agg [eTs l])]), (n, .arr 1 [.d (eDs d)])]
      have I0 : VI d l a n (n + 1) X (List.replicate l.length false) := by
        refine ⟨by simp, ?_, ?_, ?_, ?_, ?_⟩
        · show Zv.look X a = _
          rw [look_tl _ _ (by omega), look_tl _ _ (by omega), look_hd]
        · show Zv.look X (a + 1) = _
          rw [look_tl _ _ (by omega), look_hd]
        · show Zv.look X (a + 1 + 1) = _
          rw [look_hd]
        · show Zv.look X (n + 1) = _
          rw [look_tl _ _ (by omega), look_tl _ _ (by omega), look_tl _ _ (by omega), look_hd]
        · show Zv.look X n = _
          rw [look_tl _ _ (by omega), look_tl _ _ (by omega), look_tl _ _ (by omega), look_tl _ _ (by omega), look_hd]
      obtain ⟨r, hv, X', q', rfl, I1, hq', F1⟩ := visit_ok L S.bd (fun y hy c hc => ((S.ds y hy).2.2 c hc).2) (typed_flds (check_typed h0)) (a := a) (dv := n) (cv := n + 1) (by omega) (by omega) (l.length + 1) 0 (kn0 ts) (List.replicate l.length false) X (a + 1 + 1 + 1) (by omega) (by omega) (kn0_ok hts hT (by omega)) I0 (by omega)
      have hC : checkC d ts l = if (visC d ts l).1 = false ∨ ((visC d ts l).2.any fun x => false == x) = true then 3 else 0 := by
        unfold checkC; rw [if_neg (by simp [h0]), if_neg (by rw [hany]; simp)]
      rw [hC]
      have hv : callW tab 63 [.d (eI 0), .d (eKs (kn0 ts)), .ptr (n + 1) 1 0 0, .ptr (a + 1) 1 0 0, .ptr (a + 1 + 1) 1 0 0, .ptr n 1 0 0] ⟨X, a + 1 + 1 + 1⟩ = some (.d (.bool (visC d ts l).1), ⟨X', q'⟩) := hv
      have I1 : VI d l a n (n + 1) X' (visC d ts l).2 := I1
      have hcb := containsB (h := ⟨X', q'⟩) (L := l.length) (row_of I1.rr (by rw [List.length_map]; exact I1.len)) I1.len (by omega) false
      have rv := row_of (q := q') I1.rv (tot := 1) rfl
      simp only [X] at hv
      cases hb : (visC d ts l).1 with
      | false =>
        rw [hb] at hv
        rw [if_pos (.inl rfl)]
        (simp only [e28, hr0, h4, hmk, hfz, hv, hfe, wz, opX, intBin, ↓reduceIte, simprocAttr] <;> repeat' (first | refine wpG_s ?_ ?_ | refine wpC_s ?_ ?_) <;> intro hgo <;> (try simp only [dq] at hgo) <;> simp only [hgo, e28, hr0, h4, hmk, hfz, hv, hfe, wz, opX, intBin, ↓reduceIte, simprocAttr])
      | true =>
        rw [hb] at hv
        cases hm : ((visC d ts l).2.any fun x => false == x) with
        | true =>
          rw [hm] at hcb
          rw [if_pos (.inr rfl)]
          (simp only [e28, hr0, h4, hmk, hfz, hv, rv, hcb, hfe, wz, opX, intBin, ↓reduceIte, simprocAttr] <;> repeat' (first | refine wpG_s ?_ ?_ | refine wpC_s ?_ ?_) <;> intro hgo <;> (try simp only [dq] at hgo) <;> simp only [hgo, e28, hr0, h4, hmk, hfz, hv, rv, hcb, hfe, wz, opX, intBin, ↓reduceIte, simprocAttr])
        | false =>
          rw [hm] at hcb
          rw [if_neg (by simp)]
          (simp only [e28, hr0, h4, hmk, hfz, hv, rv, hcb, hfe, wz, opX, intBin, ↓reduceIte, simprocAttr] <;> repeat' (first | refine wpG_s ?_ ?_ | refine wpC_s ?_ ?_) <;> intro hgo <;> (try simp only [dq] at hgo) <;> simp only [hgo, e28, hr0, h4, hmk, hfz, hv, rv, hcb, hfe, wz, opX, intBin, ↓reduceIte, simprocAttr])
  · have hc0 : (checkS d == 0) = false := beq_eq_false_iff_ne.2 h0
    have hC : checkC d ts l = 3 := by unfold checkC; rw [if_pos h0]
    (simp only [e28, hc, hc0, bne, hC, c1, c2, rd, hfe, wz, opX, intBin, ↓reduceIte, simprocAttr] <;> repeat' (first | refine wpG_s ?_ ?_ | refine wpC_s ?_ ?_) <;> intro hgo <;> (try simp only [dq] at hgo) <;> simp only [hgo, e28, hc, hc0, bne, hC, c1, c2, rd, hfe, wz, opX, intBin, ↓reduceIte, simprocAttr])
end Zc28
end
section
set_option linter.unusedSimpArgs false
set_option linter.unusedVariables false
set_option linter.unusedSimpArgs false
set_option maxHeartbeats 4000000
namespace Zc28
open Go Zv Zs
theorem decisionChecks : ∀ x0 x1 x2 : D, ok (EE Zc28.es) (.one (.l 0)) x0 → ok (EE Zc28.es) (.one (.l 2)) x1 → ok (EE Zc28.es) (.one (.l 5)) x2 → ∃ h', callW Zc28.tab 7 [.d x0, .d x1, .d x2] ⟨[], 0⟩ = some (.d (.bool true), h') := by
  intro x0 x1 x2 h0 h1 h2
  obtain ⟨d, rfl⟩ := okDs h0
  obtain ⟨ts, rfl, hts⟩ := okIs h1
  obtain ⟨l, rfl, hl⟩ := okTs h2
  refine ⟨⟨[], 0⟩, ?_⟩
  refine call_wp (fn := f7) rfl rfl ?_
  have aw := awake
  obtain ⟨b0, hs, hsm⟩ := small_ok d ⟨[], 0⟩
  cases b0 with
  | false => (simp only [e7, aw, hs, wz, opX, intBin, ↓reduceIte, simprocAttr] <;> repeat' (first | refine wpG_s ?_ ?_ | refine wpC_s ?_ ?_) <;> intro hgo <;> (try simp only [dq] at hgo) <;> simp only [hgo, e7, aw, hs, wz, opX, intBin, ↓reduceIte, simprocAttr])
  | true =>
    have S := hsm rfl
    by_cases h4 : (4 : Int) < (ts.length : Int)
    · (simp only [e7, aw, hs, h4, wz, opX, intBin, ↓reduceIte, simprocAttr] <;> repeat' (first | refine wpG_s ?_ ?_ | refine wpC_s ?_ ?_) <;> intro hgo <;> (try simp only [dq] at hgo) <;> simp only [hgo, e7, aw, hs, h4, wz, opX, intBin, ↓reduceIte, simprocAttr])
    · obtain ⟨b, hf, hb⟩ := light_ok l hl ⟨[], 0⟩
      cases b with
      | false => (simp only [e7, aw, hs, h4, hf, wz, opX, intBin, ↓reduceIte, simprocAttr] <;> repeat' (first | refine wpG_s ?_ ?_ | refine wpC_s ?_ ?_) <;> intro hgo <;> (try simp only [dq] at hgo) <;> simp only [hgo, e7, aw, hs, h4, hf, wz, opX, intBin, ↓reduceIte, simprocAttr])
      | true =>
        have F := hb rfl
        have c1 := choice_ok F.len ⟨[], 0⟩
        have s1 := pcheck28_ok S (ts := ts) (by omega) F 0
        have s2 := rcheck28_ok S (ts := ts) (by omega) F ⟨[], 0⟩
        have hbe : (checkC d ts l == checkC d ts l) = true := beq_self_eq_true _
        (simp only [e7, aw, hs, h4, hf, c1, s1, s2, hbe, wz, opX, intBin, ↓reduceIte, simprocAttr] <;> repeat' (first | refine wpG_s ?_ ?_ | refine wpC_s ?_ ?_) <;> intro hgo <;> (try simp only [dq] at hgo) <;> simp only [hgo, e7, aw, hs, h4, hf, c1, s1, s2, hbe, wz, opX, intBin, ↓reduceIte, simprocAttr])
end Zc28
end
