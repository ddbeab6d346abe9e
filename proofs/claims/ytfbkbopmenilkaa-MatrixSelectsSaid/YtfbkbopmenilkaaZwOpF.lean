/-
  New variables, literals and made slices of ZvVal are the machine's.
-/
import Derived.Test.YtfbkbopmenilkaaZwOpE
import Derived.Laws.MakeOwn
set_option linter.unusedSimpArgs false
namespace Zv
open Go

section
variable {P : Program} {g : G} {h : Hp} {w : World}

theorem GivesH.mono_rep {s : Sem Value} {x : V} {h' : Hp} (hg : GivesH P g w s x h') : ∃ v w' g', s.run P w = .ok v w' ∧ Le g g' ∧ Rel g' h' w' ∧ Rep g' x v ∧ Fx w w' := hg

/-- A new row of whole elements. -/
theorem newRow_ok {es : Nat} {els : List V} {vs : List Value} {c : Array Value} {ty : TypeId} {w0 : World} (R : Rel g h w) (hw0 : w0.heap = w.heap)
    (hes : ∀ x, x ∈ els → x.cells.length = es) (hr : Reps g (els.flatMap V.cells) vs) (hf : ∀ u, u ∈ vs → leaf u) (hc : ∀ (j : Nat) (v : Value), vs[j]? = some v → c[j]? = some v) (hle : els.length * es ≤ c.size) :
    Le g (g.put h.next els.length ⟨w.heap.size, 0, es, c.size⟩) ∧ Rel (g.put h.next els.length ⟨w.heap.size, 0, es, c.size⟩) (h.alloc (.arr es els)) (w0.alloc (.cells c ty)) ∧
      (g.put h.next els.length ⟨w.heap.size, 0, es, c.size⟩).μ h.next els.length = ⟨w.heap.size, 0, es, c.size⟩ := by
  have hμ : (g.put h.next els.length ⟨w.heap.size, 0, es, c.size⟩).μ h.next els.length = ⟨w.heap.size, 0, es, c.size⟩ := by simp [G.put]
  have hleq := Le.put (g := g) (k := h.next) (tot := els.length) (pl := ⟨w.heap.size, 0, es, c.size⟩) (.inr R.nx)
  have hsz : w0.heap.size = w.heap.size := by rw [hw0]
  obtain ⟨a1, a2, _⟩ := heap_alloc w0 (.cells c ty)
  have := R.alloc (w' := w0.alloc (.cells c ty)) (.arr es els) ⟨w.heap.size, 0, es, c.size⟩ rfl (fun b hb => by rw [a2 b (by omega), hw0]) (by
    simp only [ObRep, Ob.tot]
    rw [hμ]
    rw [hsz] at a1
    exact ⟨c, ty, vs, a1, rfl, ⟨rfl, by simpa using hle⟩, hes, hr.mono hleq, hf, fun j v hj => by rw [Nat.zero_add]; exact hc j v hj⟩)
  exact ⟨this.1, this.2, hμ⟩

theorem newVar_ok {t : TypeId} {es : Nat} {x : V} {v : Value} (R : Rel g h w) (hx : Rep g x v) (hs : stor x = true) (hl : x.cells.length = es) :
    GivesH P g w (do pure (.pointer (some (← newVar t v)))) (.ptr h.next 1 0 0) (h.alloc (.arr es [x])) := by
  obtain ⟨xr, xf⟩ := hx.cells hs
  have hvs : v.cells.size = es := by have := xr.length; rw [Array.length_toList] at this; omega
  obtain ⟨k1, k2, k3⟩ := newRow_ok (es := es) (els := [x]) (vs := v.cells.toList) (c := v.cells) (ty := t) (w0 := w) R rfl (by simpa using hl) (by simpa using xr) xf (fun j u hj => by rw [← Array.getElem?_toList]; exact hj) (by simp [hvs])
  refine ⟨.pointer (some ⟨w.heap.size, 0, none⟩), _, _, rfl, k1, k2, ?_, (heap_alloc w (.cells v.cells t)).2.2⟩
  · have := Rep.ptr (g := g.put h.next 1 ⟨w.heap.size, 0, es, v.cells.size⟩) h.next 1 0 0 (by show h.next < max g.N (h.next + 1); omega) (by simp [G.put])
    rw [show (g.put h.next 1 ⟨w.heap.size, 0, es, v.cells.size⟩).μ h.next 1 = ⟨w.heap.size, 0, es, v.cells.size⟩ from k3] at this
    simpa using this

theorem alloc_ok {t : TypeId} {i : TypeInfo} {zv : Value} {es : Nat} {z : V} (R : Rel g h w) (hi : P.info? t = some i) (hz : i.zero = some zv) (hr : Rep g z zv) (hs : stor z = true) (hl : z.cells.length = es) (old : Value) :
    GivesH P g w (Instr.alloc t true old) (.ptr h.next 1 0 0) (h.alloc (.arr es [z])) := by
  obtain ⟨v, w', g', h1, h2⟩ := newVar_ok (P := P) (t := t) R hr hs hl
  refine ⟨v, w', g', ?_, h2⟩
  rw [← h1]
  cases old <;> simp [Instr.alloc, zeroValue, typeInfo, hi, hz]

theorem box_ok {t : TypeId} {es : Nat} {x : V} {v : Value} (R : Rel g h w) (hx : Rep g x v) (hs : stor x = true) (hl : x.cells.length = es) :
    GivesH P g w (Instr.box t v) (.ptr h.next 1 0 0) (h.alloc (.arr es [x])) := newVar_ok R hx hs hl

/-! ### Slice literals -/

theorem fillAll {es : Nat} : ∀ (vs : List Value) (k : Nat) (c : Array Value), c.size = (k + vs.length) * es → (∀ v, v ∈ vs → v.cells.size = es) →
    Instr.fill (fun i => some (i * es, es)) c ((vs.zipIdx k).map fun p => (p.2, p.1)) = some (c.toList.take (k * es) ++ vs.flatMap (fun v => v.cells.toList)).toArray
  | [], k, c, hc, _ => by
    simp only [List.zipIdx_nil, List.map_nil, Instr.fill, List.flatMap_nil, List.append_nil]
    rw [List.take_of_length_le (by rw [Array.length_toList]; simp at hc; omega)]
  | v :: vs, k, c, hc, hv => by
    have hvs : v.cells.size = es := hv v (by simp)
    have hmul : (k + (vs.length + 1)) * es = k * es + es + vs.length * es := by rw [Nat.add_mul, Nat.add_mul]; omega
    have hmul1 : (k + 1) * es = k * es + es := by rw [Nat.add_mul]; omega
    rw [List.length_cons] at hc
    have hle : k * es + 0 + v.cells.toList.length ≤ c.size := by rw [Array.length_toList, hvs, hc, hmul]; omega
    simp only [List.zipIdx_cons, List.map_cons, Instr.fill]
    have hno : ¬ ((decide (v.cells.size ≠ es) || decide (k * es + v.cells.size > c.size)) = true) := by
      simp only [hvs, ne_eq, not_true_eq_false, decide_false, Bool.false_or, decide_eq_true_eq]
      rw [hc, hmul]; omega
    rw [if_neg hno]
    have e : (Array.foldl (fun (cs : Array Value) (p : Value × Nat) => cs.setIfInBounds (k * es + p.2) p.1) c v.cells.zipIdx) = (c.toList.take (k * es) ++ v.cells.toList ++ c.toList.drop (k * es + es)).toArray := by
      apply Array.ext'
      rw [← Array.foldl_toList, Array.toList_zipIdx]
      have := fold_set v.cells.toList c (k * es) 0 hle
      simp only [Nat.add_zero] at this
      rw [this, Array.length_toList, hvs]
    have hgo := fillAll vs (k + 1) (c.toList.take (k * es) ++ v.cells.toList ++ c.toList.drop (k * es + es)).toArray (by
      simp only [List.size_toArray, List.length_append, List.length_take, List.length_drop, Array.length_toList, hvs, hc]
      rw [show k + 1 + vs.length = k + (vs.length + 1) from by omega]
      rw [hmul]; omega) (fun u hu => hv u (by simp [hu]))
    rw [← e] at hgo
    refine hgo.trans ?_
    congr 2
    rw [e]
    simp only [List.flatMap_cons]
    rw [← List.append_assoc]
    congr 1
    have hl : (c.toList.take (k * es) ++ v.cells.toList).length = (k + 1) * es := by
      rw [List.length_append, List.length_take, Array.length_toList, Array.length_toList, hvs, hc, hmul, hmul1]; omega
    rw [List.append_assoc, ← List.append_assoc, ← hl, List.take_left']
    rfl

/-- Values that stand for a list, each storable and of es cells. -/
theorem flat_reps {es : Nat} : ∀ {xs : List V} {vs : List Value}, Reps g xs vs → (∀ x, x ∈ xs → stor x = true ∧ x.cells.length = es) →
    Reps g (xs.flatMap V.cells) (vs.flatMap fun v => v.cells.toList) ∧ (∀ u, u ∈ (vs.flatMap fun v => v.cells.toList) → leaf u) ∧ ∀ v, v ∈ vs → v.cells.size = es
  | _, _, .nil, _ => ⟨.nil, by simp, by simp⟩
  | _, _, .cons x l v vs hx hs, hp => by
    obtain ⟨i1, i2, i3⟩ := flat_reps hs (fun y hy => hp y (by simp [hy]))
    obtain ⟨c1, c2⟩ := hx.cells (hp x (by simp)).1
    refine ⟨by simpa using c1.app i1, fun u hu => ?_, fun u hu => ?_⟩
    · rw [List.flatMap_cons] at hu
      rcases List.mem_append.1 hu with hu | hu
      · exact c2 u hu
      · exact i2 u hu
    · rcases List.mem_cons.1 hu with rfl | hu
      · have := c1.length; rw [Array.length_toList, (hp x (by simp)).2] at this; exact this
      · exact i3 u hu

theorem Reps.normAll : ∀ {xs : List V} {vs : List Value}, Reps g xs vs → Reps g (xs.map Zv.norm) vs
  | _, _, .nil => .nil
  | _, _, .cons x l v vs hx hs => .cons _ _ v vs hx.norm (Reps.normAll hs)

theorem buildSlice_run {t e : TypeId} {i : TypeInfo} {zv : Value} {es : Nat} {vs : List Value} (ht : P.underlying t = some (.slice e)) (hi : P.info? e = some i) (hz : i.zero = some zv) (hs : P.cellsOf e = es)
    (hlen : vs.length * es ≤ 2 ^ 24) (hv : ∀ v, v ∈ vs → v.cells.size = es) :
    (Instr.buildSlice t vs.length ((vs.zipIdx 0).map fun p => (p.2, p.1)).toArray).run P w =
      .ok (.slice (some ⟨w.heap.size, 0, none⟩) vs.length vs.length) (w.alloc (.cells (vs.flatMap fun v => v.cells.toList).toArray e)) := by
  have hsz : (Go.sizeOf e).run P w = .ok es w := by rw [run_sizeOf' (by rw [hi]; rfl), hs]
  have hfill : ∀ c : Array Value, c.size = vs.length * es → Instr.fill (fun i => some (i * es, es)) c ((vs.zipIdx 0).map fun p => (p.2, p.1)) = some (vs.flatMap (fun v => v.cells.toList)).toArray := by
    intro c hc
    have := fillAll vs 0 c (by simpa using hc) hv
    simpa using this
  have hno : ¬ (vs.length * es > 2 ^ 24) := by omega
  simp only [Instr.buildSlice, Sem.run_bind, run_underlying ht, Result.andThen_ok, hsz, if_neg hno, Sem.run_pure]
  by_cases h0 : vs.length * es = 0
  · simp only [h0, if_true, Sem.run_pure, Result.andThen_ok]
    have := hfill #[] (by simp [h0])
    have e0 : ∀ f : Nat → Value, Array.map f (Array.range 0) = #[] := fun f => by simp [Array.range_zero']
    simp only [e0, Sem.run_bind, Sem.run_pure, Result.andThen_ok, this]
    rfl
  · simp only [h0, if_false, Sem.run_bind, zeroValue, typeInfo, run_program, Result.andThen_ok, hi, Sem.run_pure, hz]
    rw [hfill _ (by simp)]
    rfl

theorem bsl_ok {t e : TypeId} {i : TypeInfo} {zv : Value} {es : Nat} {xs : List V} {vs : List Value} (R : Rel g h w) (ht : P.underlying t = some (.slice e)) (hi : P.info? e = some i) (hz : i.zero = some zv) (hs : P.cellsOf e = es)
    (hlen : vs.length * es ≤ 2 ^ 24) (hr : Reps g xs vs) (hp : ∀ x, x ∈ xs → stor x = true ∧ x.cells.length = es) :
    GivesH P g w (Instr.buildSlice t vs.length ((vs.zipIdx 0).map fun p => (p.2, p.1)).toArray) (.tl (xs.map norm) (some false)) h := by
  have hp' : ∀ x, x ∈ xs.map norm → stor x = true ∧ x.cells.length = es := by
    intro x hx
    obtain ⟨y, hy, rfl⟩ := List.mem_map.1 hx
    exact ⟨stor_norm (hp y hy).1, by rw [norm_len]; exact (hp y hy).2⟩
  obtain ⟨f1, f2, f3⟩ := flat_reps hr.normAll hp'
  obtain ⟨a1, a2, a3⟩ := heap_alloc w (.cells (vs.flatMap fun v => v.cells.toList).toArray e)
  obtain ⟨b1, b2⟩ := R.fix _ a1 a2
  refine ⟨_, _, _, buildSlice_run ht hi hz hs hlen f3, b1, b2, ?_, a3⟩
  have hl : vs.length = (xs.map norm).length := by rw [List.length_map, hr.length]
  rw [hl]
  refine .tl _ _ es _ _ (fun x hx => (hp' x hx).2) (f1.mono b1) (.inr ⟨w.heap.size, 0, rfl, fun j v hj => ?_⟩) (fun q hq => by cases hq; simp) f2
  show cellφ (fun c => if c = w.heap.size then some _ else g.φ c) w.heap.size (0 + j) = some v
  simp only [cellφ, if_true]
  rw [Nat.zero_add]
  simpa using hj

theorem bslO_ok {t e : TypeId} {i : TypeInfo} {zv : Value} {es : Nat} {xs : List V} {vs : List Value} (R : Rel g h w) (ht : P.underlying t = some (.slice e)) (hi : P.info? e = some i) (hz : i.zero = some zv) (hs : P.cellsOf e = es)
    (hlen : vs.length * es ≤ 2 ^ 24) (hr : Reps g xs vs) (hp : ∀ x, x ∈ xs → stor x = true ∧ x.cells.length = es) :
    GivesH P g w (Instr.buildSlice t vs.length ((vs.zipIdx 0).map fun p => (p.2, p.1)).toArray) (.own h.next es xs.length 0 xs.length) (h.alloc (.arr es (xs.map norm))) := by
  have hp' : ∀ x, x ∈ xs.map norm → stor x = true ∧ x.cells.length = es := by
    intro x hx
    obtain ⟨y, hy, rfl⟩ := List.mem_map.1 hx
    exact ⟨stor_norm (hp y hy).1, by rw [norm_len]; exact (hp y hy).2⟩
  obtain ⟨f1, f2, f3⟩ := flat_reps hr.normAll hp'
  have hl : vs.length = xs.length := hr.length
  have hcs : ((vs.flatMap fun v => v.cells.toList).toArray).size = xs.length * es := by
    rw [List.size_toArray, flat_len (fun v hv => by rw [Array.length_toList]; exact f3 v hv), hl]
  obtain ⟨k1, k2, k3⟩ := newRow_ok (es := es) (els := xs.map norm) (vs := vs.flatMap fun v => v.cells.toList) (c := (vs.flatMap fun v => v.cells.toList).toArray) (ty := e) (w0 := w) R rfl (fun x hx => (hp' x hx).2) f1 f2 (fun j u hj => by simpa using hj) (by rw [hcs, List.length_map]; exact Nat.le_refl _)
  rw [List.length_map] at k1 k2 k3
  refine ⟨_, _, _, buildSlice_run ht hi hz hs hlen f3, k1, k2, ?_, (heap_alloc w _).2.2⟩
  rw [hl]
  refine .own h.next es xs.length 0 xs.length xs.length _ (by rw [k3]) (by show h.next < max g.N (h.next + 1); omega) (by simp [G.put]) (.inr ?_) (Nat.le_refl _) (by omega) (by omega) ?_
  · rw [k3]; simp
  · rw [k3]; simp [hcs] 

/-! ### Made slices -/

theorem made_reps {z : V} {zc : List Value} (hz : Reps g z.cells zc) : ∀ n, Reps g ((List.replicate n z).flatMap V.cells) ((List.replicate n zc).flatMap id)
  | 0 => .nil
  | n + 1 => by simpa [List.replicate_succ] using hz.app (made_reps hz n)

theorem madeCells_eq (zc : Array Value) (n : Nat) : (madeCells zc (n * zc.size)).toList = (List.replicate n zc.toList).flatMap id := by
  apply List.ext_getElem?
  intro j
  have hl : ((List.replicate n zc.toList).flatMap id).length = n * zc.size := by
    rw [flat_len (es := zc.size) (fun x hx => by rw [List.eq_of_mem_replicate hx]; simp), List.length_replicate]
  by_cases hj : j < n * zc.size
  · have hpos : 0 < zc.size := by
      rcases Nat.eq_zero_or_pos zc.size with h0 | h0
      · rw [h0] at hj; simp at hj
      · exact h0
    have hd : j / zc.size < n := Nat.div_lt_of_lt_mul (by rw [Nat.mul_comm]; exact hj)
    have hm : j % zc.size < zc.size := Nat.mod_lt _ hpos
    have e := flat_get (f := id) (es := zc.size) (l := List.replicate n zc.toList) (k := j / zc.size) (x := zc.toList) (fun x hx => by rw [List.eq_of_mem_replicate hx]; simp) (by simp [hd])
    have e2 : ((List.replicate n zc.toList).flatMap id)[j]? = zc.toList[j % zc.size]? := by
      have e3 : zc.toList[j % zc.size]? = (List.take zc.size (List.drop (j / zc.size * zc.size) (List.flatMap id (List.replicate n zc.toList))))[j % zc.size]? := by rw [e]; rfl
      rw [e3, List.getElem?_take, if_pos hm, List.getElem?_drop, Nat.mul_comm, Nat.div_add_mod]
    rw [e2]
    simp [madeCells, hj, hm]
  · rw [List.getElem?_eq_none (by rw [Array.length_toList, size_madeCells]; omega), List.getElem?_eq_none (by rw [hl]; omega)]

theorem mksl_run {t e : TypeId} {i : TypeInfo} {zv : Value} {es by_ : Nat} {x : V} {a : Value} {k : Nat} (ht : P.underlying t = some (.slice e)) (hi : P.info? e = some i) (hz : i.zero = some zv) (hs : P.cellsOf e = es)
    (hb : i.bytes = by_) (hk : ixOf x = some k) (hroom : k * by_ ≤ roomB) (h62 : k < 2 ^ 62) (ha : Rep g x a) :
    (Instr.makeSlice t a a).run P w = .ok (.slice (some ⟨w.heap.size, 0, none⟩) k k) (w.alloc (.cells (madeCells zv.cells (k * es)) e)) := by
  obtain ⟨q, rfl⟩ := ixOf_ok hk ha
  have hs' : i.size = es := by rw [← hs]; simp [Program.cellsOf, hi]
  have h1 : ((i.bytes * k : Nat) : Int) ≤ 281474976710656 := by
    have : k * by_ ≤ 70368744177664 := hroom
    rw [hb, Nat.mul_comm]; omega
  rw [Int.natCast_mul] at h1
  have := run_make (P := P) w t e i zv ht hi hz q q k k (by omega) (Int.le_refl _) h1 (by omega)
  simpa [hs'] using this

theorem mkslO_ok {t e : TypeId} {i : TypeInfo} {zv : Value} {es by_ : Nat} {z x y : V} {a : Value} {h' : Hp} (R : Rel g h w) (ht : P.underlying t = some (.slice e)) (hi : P.info? e = some i) (hz : i.zero = some zv) (hs : P.cellsOf e = es)
    (hb : i.bytes = by_) (hzr : Rep g z zv) (hzs : stor z = true) (hzl : z.cells.length = es) (H : mkslO z es by_ h x = some (y, h')) (ha : Rep g x a) : GivesH P g w (Instr.makeSlice t a a) y h' := by
  unfold mkslO at H
  simp only [Option.bind_eq_some_iff] at H
  obtain ⟨k, hk, H⟩ := H
  split at H
  · rename_i hc
    cases H
    obtain ⟨zr, zf⟩ := hzr.cells hzs
    have hzc : zv.cells.size = es := by have := zr.length; rw [Array.length_toList, hzl] at this; exact this
    have hme := madeCells_eq zv.cells k
    rw [hzc] at hme
    obtain ⟨k1, k2, k3⟩ := newRow_ok (es := es) (els := List.replicate k z) (vs := (List.replicate k zv.cells.toList).flatMap id) (c := madeCells zv.cells (k * es)) (ty := e) (w0 := w) R rfl
      (fun x hx => by rw [List.eq_of_mem_replicate hx]; exact hzl) (made_reps zr k) (fun u hu => by
        obtain ⟨l, hl, hu⟩ := List.mem_flatMap.1 hu
        rw [List.eq_of_mem_replicate hl] at hu
        exact zf u hu) (fun j u hj => by rw [← hme] at hj; rw [← Array.getElem?_toList]; exact hj) (by rw [List.length_replicate, size_madeCells]; exact Nat.le_refl _)
    rw [List.length_replicate] at k1 k2 k3
    refine ⟨_, _, _, mksl_run ht hi hz hs hb hk hc.1 hc.2 ha, k1, k2, ?_, (heap_alloc w _).2.2⟩
    refine .own h.next es k 0 k k _ (by rw [k3]) (by show h.next < max g.N (h.next + 1); omega) (by simp [G.put]) (.inr ?_) (Nat.le_refl _) (by omega) (by omega) ?_
    · rw [k3]; simp
    · rw [k3]; simp [size_madeCells]
  · cases H

theorem mkslT_ok {t e : TypeId} {i : TypeInfo} {zv : Value} {es by_ : Nat} {z x y : V} {a : Value} (R : Rel g h w) (ht : P.underlying t = some (.slice e)) (hi : P.info? e = some i) (hz : i.zero = some zv) (hs : P.cellsOf e = es)
    (hb : i.bytes = by_) (hzr : Rep g z zv) (hzs : stor z = true) (hzl : z.cells.length = es) (H : mkslT z by_ x = some y) (ha : Rep g x a) : GivesH P g w (Instr.makeSlice t a a) y h := by
  unfold mkslT at H
  simp only [Option.bind_eq_some_iff] at H
  obtain ⟨k, hk, H⟩ := H
  split at H
  · rename_i hc
    cases H
    obtain ⟨zr, zf⟩ := hzr.cells hzs
    have hzc : zv.cells.size = es := by have := zr.length; rw [Array.length_toList, hzl] at this; exact this
    have hme := madeCells_eq zv.cells k
    rw [hzc] at hme
    obtain ⟨a1, a2, a3⟩ := heap_alloc w (.cells (madeCells zv.cells (k * es)) e)
    obtain ⟨b1, b2⟩ := R.fix _ a1 a2
    refine ⟨_, _, _, mksl_run ht hi hz hs hb hk hc.1 hc.2 ha, b1, b2, ?_, a3⟩
    have := Rep.tl (g := g.fix w.heap.size (.cells (madeCells zv.cells (k * es)) e)) (List.replicate k z) (some false) es (some ⟨w.heap.size, 0, none⟩) ((List.replicate k zv.cells.toList).flatMap id)
      (fun x hx => by rw [List.eq_of_mem_replicate hx]; exact hzl) ((made_reps zr k).mono b1) (.inr ⟨w.heap.size, 0, rfl, fun j v hj => by
        show cellφ (fun c => if c = w.heap.size then some _ else g.φ c) w.heap.size (0 + j) = some v
        simp only [cellφ, if_true]
        rw [Nat.zero_add, ← Array.getElem?_toList, hme]
        exact hj⟩) (fun q hq => by cases hq; simp) (fun u hu => by
        obtain ⟨l, hl, hu⟩ := List.mem_flatMap.1 hu
        rw [List.eq_of_mem_replicate hl] at hu
        exact zf u hu)
    rw [List.length_replicate] at this
    exact this
  · cases H

end
end Zv
