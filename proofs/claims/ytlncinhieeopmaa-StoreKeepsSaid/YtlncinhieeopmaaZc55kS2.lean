/-
  What changes the program's store.
-/
import Derived.Test.YtlncinhieeopmaaZc55kS1
set_option linter.unusedSimpArgs false
set_option maxHeartbeats 4000000
namespace Zc55k
open Go Zv Zs

/-- A store: its cells, and the free ones in the order in which they are taken. -/
structure St where
  cells : List ACl
  free : List Nat
structure St.Ok (S : St) : Prop where
  nd : S.free.Nodup
  mem : ∀ i, i ∈ S.free ↔ ∃ c, S.cells[i]? = some c ∧ c.1 = false
  sm : ∀ c, c ∈ S.cells → c.2.2.length ≤ 24
theorem St.Ok.len {S : St} (K : S.Ok) : S.free.length ≤ S.cells.length := by
  have h1 : S.free.length ≤ (List.range S.cells.length).length := by
    refine List.Nodup.length_le_of_subset K.nd fun i hi => ?_
    obtain ⟨c, hc, _⟩ := (K.mem i).1 hi
    exact List.mem_range.2 (lt_of_get hc)
  simpa using h1
/-- The free cells, one after the other. -/
def Chain (cs : List PC) : Int → List Nat → Prop
  | _, [] => True
  | f, i :: r => f = i ∧ ∃ c, cs[i]? = some c ∧ c.used = false ∧ Chain cs c.next r
/-- The program's store S under the names ns and nc, its names within O. -/
structure SR (h : Hp) (ns nc : Nat) (O : Nat → Prop) (S : St) : Prop where
  ex : ∃ cs first, PR h.get ns nc cs first S.free.length ∧ cs.map ab = S.cells ∧ Chain cs first S.free ∧ (∀ c, c ∈ cs → ∀ n, c.wh = .row n → O n)
  ok : S.Ok
  os : O ns ∧ O nc
theorem chain_set {cs : List PC} {i : Nat} {c' : PC} : ∀ (r : List Nat) (f : Int), i ∉ r → Chain cs f r → Chain (cs.set i c') f r
  | [], _, _, _ => trivial
  | j :: r, f, hi, ⟨h1, c, h2, h3, h4⟩ => by
    refine ⟨h1, c, ?_, h3, chain_set r c.next (fun h => hi (List.mem_cons_of_mem _ h)) h4⟩
    have : i ≠ j := fun e => hi (e ▸ List.mem_cons_self)
    rw [List.getElem?_set_ne this]; exact h2
theorem PR.mono {g g' : Nat → Option Ob} {ns nc : Nat} {cs : List PC} {first left : Int} (R : PR g ns nc cs first left) (h1 : g' ns = g ns) (h2 : g' nc = g nc) (h3 : ∀ c, c ∈ cs → ∀ n, c.wh = .row n → g' n = g n) : PR g' ns nc cs first left :=
  ⟨h1 ▸ R.s, h2 ▸ R.c, fun i c n hc hw => (h3 c (List.mem_of_getElem? hc) n hw) ▸ R.w i c n hc hw, R.e, R.d, R.ne, R.wn⟩
/-- What else changes does not matter. -/
theorem SR.frame {h h' : Hp} {ns nc : Nat} {O : Nat → Prop} {S : St} (R : SR h ns nc O S) (H : ∀ n, O n → h'.get n = h.get n) : SR h' ns nc O S := by
  obtain ⟨⟨cs, first, h1, h2, h3, h4⟩, h5, h6⟩ := R
  exact ⟨⟨cs, first, h1.mono (H _ h6.1) (H _ h6.2) (fun c hc n hw => H n (h4 c hc n hw)), h2, h3, h4⟩, h5, h6⟩
theorem SR.wide {h : Hp} {ns nc : Nat} {O O' : Nat → Prop} {S : St} (R : SR h ns nc O S) (H : ∀ n, O n → O' n) : SR h ns nc O' S := by
  obtain ⟨⟨cs, first, h1, h2, h3, h4⟩, h5, h6⟩ := R
  exact ⟨⟨cs, first, h1, h2, h3, fun c hc n hw => H n (h4 c hc n hw)⟩, h5, H _ h6.1, H _ h6.2⟩

/-- What an operation leaves: the store, whatever is not its own, and fresh names alone are new. -/
structure Aft (h : Hp) (ns nc : Nat) (O : Nat → Prop) (S' : St) (h' : Hp) : Prop where
  sr : SR h' ns nc (fun n => O n ∨ (h.next ≤ n ∧ n < h'.next)) S'
  fr : ∀ n, n < h.next → ¬ O n → h'.get n = h.get n
  low : Low h'
  nx : h.next ≤ h'.next
theorem Aft.same {h : Hp} {ns nc : Nat} {O : Nat → Prop} {S : St} (R : SR h ns nc O S) (L : Low h) : Aft h ns nc O S h :=
  ⟨R.wide fun _ h => .inl h, fun _ _ _ => rfl, L, Nat.le_refl _⟩

def takeS (S : St) (tag : Int) (wl : List Wd) : (Int × Int) × St :=
  if tag < 0 then ((0, 1), S) else if 24 < wl.length then ((0, 6), S) else
  if wErr (usedA S.cells) wl ≠ 0 then ((0, wErr (usedA S.cells) wl), S) else
  match S.free with
  | [] => ((0, 18), S)
  | i :: r => (((i : Int), 0), ⟨S.cells.set i (true, tag, wl), r⟩)

theorem PR.put {g g' : Nat → Option Ob} {ns nc : Nat} {cs : List PC} {first left f' l' : Int} (P : PR g ns nc cs first left) {i : Nat} {c c' : PC} (hc : cs[i]? = some c)
    (hs : g' ns = some (.arr 3 [.agg [.own nc 4 cs.length 0 cs.length, .d (eI f'), .d (eI l')]])) (hcl : g' nc = some (.arr 4 ((cs.set i c').map cV)))
    (hw : ∀ n, c'.wh = .row n → g' n = some (.arr 2 ((c'.words.map eW).map .d)) ∧ n ≠ ns ∧ n ≠ nc ∧ ∀ (j : Nat) c2, j ≠ i → cs[j]? = some c2 → c2.wh ≠ .row n)
    (he : (∀ n, c'.wh ≠ .row n) → c'.words = []) (ho : ∀ (j : Nat) c2 n, j ≠ i → cs[j]? = some c2 → c2.wh = .row n → g' n = g n) : PR g' ns nc (cs.set i c') f' l' := by
  have hlt := lt_of_get hc
  have key : ∀ (j : Nat) c2, (cs.set i c')[j]? = some c2 → (j = i ∧ c2 = c') ∨ (j ≠ i ∧ cs[j]? = some c2) := by
    intro j c2 h
    by_cases hj : j = i
    · subst hj; rw [List.getElem?_set_self hlt] at h; cases h; exact .inl ⟨rfl, rfl⟩
    · rw [List.getElem?_set_ne (Ne.symm hj)] at h; exact .inr ⟨hj, h⟩
  refine ⟨by rw [List.length_set]; exact hs, hcl, fun j c2 n h1 h2 => ?_, fun c2 h1 h2 => ?_, fun j k c2 c3 n h1 h2 h3 h4 => ?_, P.ne, fun j c2 n h1 h2 => ?_⟩
  · rcases key j c2 h1 with ⟨rfl, rfl⟩ | ⟨hj, h⟩
    · exact (hw n h2).1
    · rw [ho j c2 n hj h h2]; exact P.w j c2 n h h2
  · obtain ⟨j, hj1, hj2⟩ := List.getElem_of_mem h1
    rcases key j c2 (by rw [List.getElem?_eq_getElem hj1, hj2]) with ⟨rfl, rfl⟩ | ⟨hj, h⟩
    · exact he h2
    · exact P.e c2 (List.mem_of_getElem? h) h2
  · rcases key j c2 h1 with ⟨rfl, rfl⟩ | ⟨hj, h⟩ <;> rcases key k c3 h2 with ⟨rfl, rfl⟩ | ⟨hk, h'⟩
    · rfl
    · exact absurd h4 ((hw n h3).2.2.2 k c3 hk h')
    · exact absurd h3 ((hw n h4).2.2.2 j c2 hj h)
    · exact P.d j k c2 c3 n h h' h3 h4
  · rcases key j c2 h1 with ⟨rfl, rfl⟩ | ⟨hj, h⟩
    · exact ⟨(hw n h2).2.1, (hw n h2).2.2.1⟩
    · exact P.wn j c2 n h h2
theorem low_set {h : Hp} (L : Low h) (n : Nat) (x : Ob) : Low (h.set n x) := by
  intro m hm
  show (h.set n x).get m = none
  rw [get_sets]
  split
  · rename_i e; subst e; rw [show h.get m = look h.objs m from rfl, L m hm]; rfl
  · exact L m hm
theorem low_lt {h : Hp} (L : Low h) {n : Nat} {o : Ob} (hn : h.get n = some o) : n < h.next := by
  by_cases hlt : n < h.next
  · exact hlt
  · have := L n (by omega); rw [show look h.objs n = h.get n from rfl, hn] at this; cases this
theorem low_top {h : Hp} (L : Low h) (o : Ob) : Low ⟨(h.next, o) :: h.objs, h.next + 1⟩ := by
  intro m hm
  have hm' : h.next + 1 ≤ m := hm
  show (if m = h.next then some o else look h.objs m) = none
  rw [if_neg (by omega)]
  exact L m (by omega)
theorem mk_cV (u : Bool) (t n : Int) (c : PC) : mkAgg [.d (.bool u), .d (.int .i64 t), wV c, .d (.int .i64 n)] = cV ⟨u, t, c.words, n, c.wh⟩ := rfl
theorem cpy_hd (wl : List Wd) (q p : Nat) (z : D) (l : List (Nat × Ob)) (hz : z.cells.length = 2) : cpy 2 ⟨(q, .arr 2 (List.replicate wl.length (.d z))) :: l, p⟩ (.own q 2 wl.length 0 wl.length) (.d (eWs wl)) = some (int wl.length, ⟨(q, .arr 2 ((wl.map eW).map .d)) :: l, p⟩) := by
  have hx : allV 2 ((wl.map eW).map V.d) = true := by simp [allV, V.cells, D.cells]
  have hr := row_hd q 2 (List.replicate wl.length (.d z)) l p wl.length
  rw [if_pos (by simp)] at hr
  unfold cpy
  simp only [elems, Option.bind_some, hx, if_true, hr, List.length_replicate, List.length_map, Nat.zero_add, Nat.min_self, Nat.le_refl, and_self, List.take_zero, List.nil_append, set_hd]
  rw [List.take_of_length_le (by simp), List.drop_of_length_le (by simp), List.append_nil]

theorem cpy_own (wl : List Wd) (q p m : Nat) (z : D) (l : List (Nat × Ob)) (hqm : m ≠ q) (hg : look l m = some (.arr 2 ((wl.map eW).map .d))) : cpy 2 ⟨(q, .arr 2 (List.replicate wl.length (.d z))) :: l, p⟩ (.own q 2 wl.length 0 wl.length) (.own m 2 wl.length 0 wl.length) = some (int wl.length, ⟨(q, .arr 2 ((wl.map eW).map .d)) :: l, p⟩) := by
  have hx : allV 2 ((wl.map eW).map V.d) = true := by simp [allV, V.cells, D.cells]
  have hr := row_hd q 2 (List.replicate wl.length (.d z)) l p wl.length
  rw [if_pos (by simp)] at hr
  have he : elems ⟨(q, .arr 2 (List.replicate wl.length (.d z))) :: l, p⟩ (.own m 2 wl.length 0 wl.length) = some ((wl.map eW).map .d) := by
    have hl : Hp.get ⟨l, p⟩ m = some (.arr 2 ((wl.map eW).map .d)) := hg
    have hrow : Hp.row ⟨(q, .arr 2 (List.replicate wl.length (.d z))) :: l, p⟩ m wl.length = some (2, (wl.map eW).map .d) := by rw [row_cons, if_neg hqm, row_lk, hl, rowOf_arr, if_pos (by simp)]
    simp only [elems, hrow, List.length_map, if_true, Option.bind_some, Nat.zero_add, Nat.le_refl, List.drop_zero]
    rw [List.take_of_length_le (by simp)]
  unfold cpy
  simp only [he, Option.bind_some, hx, if_true, hr, List.length_replicate, List.length_map, Nat.zero_add, Nat.min_self, Nat.le_refl, and_self, List.take_zero, List.nil_append, set_hd]
  rw [List.take_of_length_le (by simp), List.drop_of_length_le (by simp), List.append_nil]

theorem take_ok {h : Hp} {ns nc : Nat} {O : Nat → Prop} {S : St} (R : SR h ns nc O S) (L : Low h) (hN : S.cells.length ≤ 2 ^ 20) (tag : Int) (wl : List Wd) (hw : wl.length < 2 ^ 60) {m : Nat} (hgm : h.get m = some (.arr 2 ((wl.map eW).map .d))) (hmO : ¬ O m) :
    ∃ r, callW tab 11 [.ptr ns 1 0 0, .d (eI tag), .own m 2 wl.length 0 wl.length] h = some r ∧ r.1 = .tup [.d (eI (takeS S tag wl).1.1), .d (eI (takeS S tag wl).1.2)] ∧ Aft h ns nc O (takeS S tag wl).2 r.2 := by
  apply call_wpE (fn := f11) rfl rfl
  obtain ⟨⟨cs, first, P, hab, hch, hown⟩, hok, hos⟩ := R
  have R0 : SR h ns nc O S := ⟨⟨cs, first, P, hab, hch, hown⟩, hok, hos⟩
  have hwd := words_ok P wl hw (v := .own m 2 wl.length 0 wl.length) (fun q => SlW.own (h := ⟨h.objs, q⟩) hgm) rfl
  have hU : usedS cs = usedA S.cells := by funext n; unfold usedS; rw [hab]
  rw [hU] at hwd
  unfold takeS
  by_cases h0 : tag < 0
  · (simp only [e11, h0, ws, wsl, opX, int, Zv.bool, intBin, reduceIte, ↓reduceIte, Nat.reduceEqDiff, Nat.reduceAdd, Nat.reduceSub, Nat.reduceLeDiff, Int.reduceLT, Int.reduceLE, Int.reduceEq, Int.reduceBEq, Int.reduceNe, Int.reduceBNe, reduceCtorEq, Nat.reduceBEq] <;> repeat' (first | refine wpG_s ?_ ?_ | refine wpC_s ?_ ?_) <;> intro hgo <;> (try simp only [decide_eq_true_eq, decide_eq_false_iff_not, Bool.not_eq_true', Bool.not_eq_false'] at hgo) <;> simp only [hgo, e11, h0, ws, wsl, opX, int, Zv.bool, intBin, reduceIte, ↓reduceIte, Nat.reduceEqDiff, Nat.reduceAdd, Nat.reduceSub, Nat.reduceLeDiff, Int.reduceLT, Int.reduceLE, Int.reduceEq, Int.reduceBEq, Int.reduceNe, Int.reduceBNe, reduceCtorEq, Nat.reduceBEq])
    exact ⟨_, rfl, rfl, Aft.same R0 L⟩
  · by_cases h1 : 24 < wl.length
    · have e1 : ((24 : Int) < (wl.length : Int)) = (24 < wl.length) := by apply propext; omega
      (simp only [e11, h0, e1, h1, ws, wsl, opX, int, Zv.bool, intBin, reduceIte, ↓reduceIte, Nat.reduceEqDiff, Nat.reduceAdd, Nat.reduceSub, Nat.reduceLeDiff, Int.reduceLT, Int.reduceLE, Int.reduceEq, Int.reduceBEq, Int.reduceNe, Int.reduceBNe, reduceCtorEq, Nat.reduceBEq] <;> repeat' (first | refine wpG_s ?_ ?_ | refine wpC_s ?_ ?_) <;> intro hgo <;> (try simp only [decide_eq_true_eq, decide_eq_false_iff_not, Bool.not_eq_true', Bool.not_eq_false'] at hgo) <;> simp only [hgo, e11, h0, e1, h1, ws, wsl, opX, int, Zv.bool, intBin, reduceIte, ↓reduceIte, Nat.reduceEqDiff, Nat.reduceAdd, Nat.reduceSub, Nat.reduceLeDiff, Int.reduceLT, Int.reduceLE, Int.reduceEq, Int.reduceBEq, Int.reduceNe, Int.reduceBNe, reduceCtorEq, Nat.reduceBEq])
      exact ⟨_, rfl, rfl, Aft.same R0 L⟩
    · have e1 : ((24 : Int) < (wl.length : Int)) = (24 < wl.length) := by apply propext; omega
      by_cases h2 : wErr (usedA S.cells) wl = 0
      · rw [h2] at hwd
        cases hf : S.free with
        | nil =>
          have hrow := P.row
          rw [hf] at hrow
          (simp only [e11, h0, e1, h1, hwd, h2, hrow, ws, wsl, opX, int, Zv.bool, intBin, reduceIte, ↓reduceIte, Nat.reduceEqDiff, Nat.reduceAdd, Nat.reduceSub, Nat.reduceLeDiff, Int.reduceLT, Int.reduceLE, Int.reduceEq, Int.reduceBEq, Int.reduceNe, Int.reduceBNe, reduceCtorEq, Nat.reduceBEq] <;> repeat' (first | refine wpG_s ?_ ?_ | refine wpC_s ?_ ?_) <;> intro hgo <;> (try simp only [decide_eq_true_eq, decide_eq_false_iff_not, Bool.not_eq_true', Bool.not_eq_false'] at hgo) <;> simp only [hgo, e11, h0, e1, h1, hwd, h2, hrow, ws, wsl, opX, int, Zv.bool, intBin, reduceIte, ↓reduceIte, Nat.reduceEqDiff, Nat.reduceAdd, Nat.reduceSub, Nat.reduceLeDiff, Int.reduceLT, Int.reduceLE, Int.reduceEq, Int.reduceBEq, Int.reduceNe, Int.reduceBNe, reduceCtorEq, Nat.reduceBEq])
          exact ⟨_, rfl, rfl, Aft.same R0 L⟩
        | cons i r =>
          rw [hf] at hch
          obtain ⟨rfl, c, hc, hcu, hch'⟩ := hch
          have hlt := lt_of_get hc
          have hs := P.s
          rw [hf] at hs
          have hns : ns < h.next := by
            by_cases hlt : ns < h.next
            · exact hlt
            · have := L ns (by omega); rw [show look h.objs ns = h.get ns from rfl, hs] at this; cases this
          have hnc : nc < h.next := by
            by_cases hlt : nc < h.next
            · exact hlt
            · have := L nc (by omega); rw [show look h.objs nc = h.get nc from rfl, P.c] at this; cases this
          have n1 : (ns = nc) = False := by simp [P.ne]
          have n2 : (nc = ns) = False := by simp [Ne.symm P.ne]
          have n3 : (ns = h.next) = False := by simp; omega
          have n4 : (nc = h.next) = False := by simp; omega
          have hmk : ∀ H : Hp, mkslO (.d (.agg [.int .i64 0, .int .i64 0])) 2 16 H (.d (.int .i64 wl.length)) = some (.own H.next 2 wl.length 0 wl.length, H.alloc (.arr 2 (List.replicate wl.length (.d (.agg [.int .i64 0, .int .i64 0]))))) := by
            intro H
            simp only [mkslO, ixOf_nat, Option.bind_some]
            rw [if_pos (by unfold roomB; omega)]
          have e2 : (((r.length + 1 : Nat) : Int) == 0) = false := by simp; omega
          have hfl := hok.len
          rw [hf, List.length_cons] at hfl
          have e3 : IntKind.i64.wrap (((r.length + 1 : Nat) : Int) - 1) = r.length := by rw [wrap_ok (by omega) (by omega)]; omega
          have hmN := low_lt L hgm
          have hmns : (m = ns) = False := by simp; intro e; exact hmO (e ▸ hos.1)
          have hmnc : (m = nc) = False := by simp; intro e; exact hmO (e ▸ hos.2)
          have hcp := fun X Y p => cpy_own wl h.next p m (.agg [.int .i64 0, .int .i64 0]) ((h.set ns X).set nc Y).objs (by omega) (by show Hp.get ((h.set ns X).set nc Y) m = _; simp only [get_sets, hmnc, hmns, if_false, hgm])
          (simp only [e11, h0, e1, h1, hwd, h2, hr, hs, P.c, n1, n2, n3, n4, ia_own (es := 4) (n := nc) (tot := cs.length) .i64 hlt, List.getElem?_map, List.getElem?_set, List.length_set, hc, hlt, cV_cells, st, wV_stor, wV_cells, mk_cV, hmk, e2, e3, hcp, Nat.one_pos, List.set_cons_zero, ws, wsl, opX, int, Zv.bool, intBin, reduceIte, ↓reduceIte, Nat.reduceEqDiff, Nat.reduceAdd, Nat.reduceSub, Nat.reduceLeDiff, Int.reduceLT, Int.reduceLE, Int.reduceEq, Int.reduceBEq, Int.reduceNe, Int.reduceBNe, reduceCtorEq, Nat.reduceBEq] <;> repeat' (first | refine wpG_s ?_ ?_ | refine wpC_s ?_ ?_) <;> intro hgo <;> (try simp only [decide_eq_true_eq, decide_eq_false_iff_not, Bool.not_eq_true', Bool.not_eq_false'] at hgo) <;> simp only [hgo, e11, h0, e1, h1, hwd, h2, hr, hs, P.c, n1, n2, n3, n4, ia_own (es := 4) (n := nc) (tot := cs.length) .i64 hlt, List.getElem?_map, List.getElem?_set, List.length_set, hc, hlt, cV_cells, st, wV_stor, wV_cells, mk_cV, hmk, e2, e3, hcp, Nat.one_pos, List.set_cons_zero, ws, wsl, opX, int, Zv.bool, intBin, reduceIte, ↓reduceIte, Nat.reduceEqDiff, Nat.reduceAdd, Nat.reduceSub, Nat.reduceLeDiff, Int.reduceLT, Int.reduceLE, Int.reduceEq, Int.reduceBEq, Int.reduceNe, Int.reduceBNe, reduceCtorEq, Nat.reduceBEq])
          have hir : i ∉ r ∧ r.Nodup := by have := hok.nd; rw [hf] at this; exact List.nodup_cons.1 this
          have hset : ∀ x y : V, (((cs.map cV).set i x).set i y).set i (.agg [.d (.bool true), .d (eI tag), .own h.next 2 wl.length 0 wl.length, .d (eI c.next)]) = (cs.set i ⟨true, tag, wl, c.next, .row h.next⟩).map cV := by
            intro x y; rw [List.set_set, List.set_set, List.map_set]; rfl
          rw [hset]
          refine ⟨_, rfl, rfl, ?_⟩
          generalize hh1 : (h.set ns (.arr 3 [.agg [.own nc 4 cs.length 0 cs.length, .d (eI c.next), .d (eI r.length)]])).set nc (.arr 4 ((cs.set i ⟨true, tag, wl, c.next, .row h.next⟩).map cV)) = h1
          have hg1 : ∀ m, h1.get m = if m = nc then some (.arr 4 ((cs.set i ⟨true, tag, wl, c.next, .row h.next⟩).map cV)) else if m = ns then some (.arr 3 [.agg [.own nc 4 cs.length 0 cs.length, .d (eI c.next), .d (eI r.length)]]) else h.get m := by
            intro m'
            rw [← hh1]; simp only [get_sets, P.c, hs, n2, if_false, Option.map_some]
          have hl1 : Low h1 := by rw [← hh1]; exact low_set (low_set L _ _) _ _
          have hx1 : h1.next = h.next := by rw [← hh1]; rfl
          have hgN : ∀ m, Hp.get ⟨(h.next, .arr 2 ((wl.map eW).map V.d)) :: h1.objs, h.next + 1⟩ m = if m = h.next then some (.arr 2 ((wl.map eW).map V.d)) else h1.get m := fun m => rfl
          have hrows : ∀ (j : Nat) c2 n, cs[j]? = some c2 → c2.wh = .row n → n < h.next ∧ n ≠ ns ∧ n ≠ nc := by
            intro j c2 n hj hwn
            exact ⟨low_lt L (P.w j c2 n hj hwn), P.wn j c2 n hj hwn⟩
          refine ⟨⟨⟨cs.set i ⟨true, tag, wl, c.next, .row h.next⟩, c.next, P.put hc ?_ ?_ ?_ ?_ ?_, ?_, chain_set r _ hir.1 hch', ?_⟩, ?_, ?_⟩, ?_, ?_, ?_⟩
          · rw [hgN, hg1, if_neg (by omega), if_neg (by rw [n1]; simp), if_pos rfl]
          · rw [hgN, hg1, if_neg (by omega), if_pos rfl]
          · intro n hn
            cases hn
            refine ⟨by rw [hgN, if_pos rfl], by omega, by omega, fun j c2 hj h2 hcon => ?_⟩
            have := (hrows j c2 _ h2 hcon).1; omega
          · intro hn; exact absurd rfl (hn h.next)
          · intro j c2 n hj h2 h3
            have := hrows j c2 n h2 h3
            rw [hgN, hg1, if_neg (by omega), if_neg this.2.2, if_neg this.2.1]
          · rw [List.map_set, hab]; rfl
          · intro c2 h2 n hn
            rcases List.mem_or_eq_of_mem_set h2 with h2 | rfl
            · exact .inl (hown c2 h2 n hn)
            · cases hn; exact .inr ⟨Nat.le_refl _, Nat.lt_succ_self _⟩
          · have hiA : i < S.cells.length := by rw [← hab, List.length_map]; exact hlt
            refine ⟨hir.2, fun j => ?_, fun c2 h2 => ?_⟩
            rotate_left
            · rcases List.mem_or_eq_of_mem_set h2 with h2 | rfl
              · exact hok.sm c2 h2
              · show wl.length ≤ 24
                omega
            have hm := hok.mem j
            rw [hf] at hm
            by_cases hj : j = i
            · subst hj
              simp only [List.getElem?_set_self hiA]
              constructor
              · intro h; exact absurd h hir.1
              · rintro ⟨x, hx, hx2⟩; cases hx; cases hx2
            · rw [List.getElem?_set_ne (Ne.symm hj), ← hm, List.mem_cons]
              constructor
              · exact fun h => .inr h
              · rintro (h | h)
                · exact absurd h hj
                · exact h
          · exact ⟨.inl hos.1, .inl hos.2⟩
          · intro n hn hO
            rw [hgN, hg1, if_neg (by omega), if_neg (fun e => hO (by rw [e]; exact hos.2)), if_neg (fun e => hO (by rw [e]; exact hos.1))]
          · have := low_top (h := ⟨h1.objs, h.next⟩) (fun m hm => hl1 m (by rw [hx1]; exact hm)) (.arr 2 ((wl.map eW).map V.d))
            exact this
          · exact Nat.le_succ _
      · have e2 : (wErr (usedA S.cells) wl != 0) = true := by simp [h2]
        (simp only [e11, h0, e1, h1, hwd, e2, h2, ws, wsl, opX, int, Zv.bool, intBin, reduceIte, ↓reduceIte, Nat.reduceEqDiff, Nat.reduceAdd, Nat.reduceSub, Nat.reduceLeDiff, Int.reduceLT, Int.reduceLE, Int.reduceEq, Int.reduceBEq, Int.reduceNe, Int.reduceBNe, reduceCtorEq, Nat.reduceBEq] <;> repeat' (first | refine wpG_s ?_ ?_ | refine wpC_s ?_ ?_) <;> intro hgo <;> (try simp only [decide_eq_true_eq, decide_eq_false_iff_not, Bool.not_eq_true', Bool.not_eq_false'] at hgo) <;> simp only [hgo, e11, h0, e1, h1, hwd, e2, h2, ws, wsl, opX, int, Zv.bool, intBin, reduceIte, ↓reduceIte, Nat.reduceEqDiff, Nat.reduceAdd, Nat.reduceSub, Nat.reduceLeDiff, Int.reduceLT, Int.reduceLE, Int.reduceEq, Int.reduceBEq, Int.reduceNe, Int.reduceBNe, reduceCtorEq, Nat.reduceBEq])
        exact ⟨_, rfl, rfl, Aft.same R0 L⟩
-- ws, wsl, opX, int, Zv.bool, intBin, reduceIte, ↓reduceIte, Nat.reduceEqDiff, Nat.reduceAdd, Nat.reduceSub, Nat.reduceLeDiff, Int.reduceLT, Int.reduceLE, Int.reduceEq, Int.reduceBEq, Int.reduceNe, Int.reduceBNe, reduceCtorEq, Nat.reduceBEq
end Zc55k
