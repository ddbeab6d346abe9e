/-
  append and copy of ZvVal are the machine's.
-/
import Derived.Test.YtfbkbopmenilkaaZwOpF
import Derived.Laws.Append
set_option linter.unusedSimpArgs false
namespace Zv
open Go

section
variable {P : Program} {g : G} {h : Hp} {w : World}

/-- A slice's elements, in memory. -/
theorem elems_ok {x : V} {xs : List V} {a : Value} (R : Rel g h w) (H : elems h x = some xs) (ha : Rep g x a) :
    ∃ xa xc vs, a = .slice xa xs.length xc ∧ Reps g (xs.flatMap V.cells) vs ∧ (∀ u, u ∈ vs → leaf u) ∧
      (xs = [] ∨ ∃ b p, xa = some ⟨b, p, none⟩ ∧ ∀ j v, vs[j]? = some v → w.cell? ⟨b, p + j, none⟩ = some v) := by
  unfold elems at H
  split at H
  · rename_i l
    cases H
    have hd := ha.dI
    clear ha
    cases hd with | lst _ es0 cap q vs hes hc hr hz =>
    refine ⟨q, cap, vs, by rw [List.length_map], by rw [flat_d]; exact Reps.of_map_d hr, hr.leaf, ?_⟩
    rcases hz with hz | ⟨b, p, rfl, hat⟩
    · left; rw [hz]; rfl
    · exact .inr ⟨b, p, rfl, fun j v hj => cell_of R (hat j v hj)⟩
  · rename_i l nl
    cases H
    cases ha with | tl _ _ es0 q vs hes hr hz hn hf =>
    refine ⟨q, _, vs, rfl, hr, hf, ?_⟩
    rcases hz with hz | ⟨b, p, rfl, hat⟩
    · exact .inl hz
    · exact .inr ⟨b, p, rfl, fun j v hj => cell_of R (hat j v hj)⟩
  · rename_i n e tot off len
    simp only [Option.bind_eq_some_iff] at H
    obtain ⟨⟨es, els⟩, hrow, H⟩ := H
    obtain ⟨hn, rfl⟩ := row_get hrow
    simp only at H
    split at H
    · rename_i hle
      cases H
      cases ha with | own _ _ _ _ _ cap q hes hN hB hz hl hto hc hsz =>
      obtain ⟨c, ty, vs, h1, h2, h3, h4, h5, h6, h7⟩ := (R.ob n _ hn).2.2
      have hlen : ((els.drop off).take len).length = len := by rw [List.length_take, List.length_drop]; omega
      refine ⟨some q, cap, (vs.drop (off * es)).take (len * es), by rw [hlen], ?_, fun u hu => h6 u (List.mem_of_mem_drop (List.mem_of_mem_take hu)), ?_⟩
      · rw [← flat_take len (fun x hx => h4 x (List.mem_of_mem_drop hx)), ← flat_drop off h4]
        exact (h5.drop _).take _
      · rcases Nat.eq_zero_or_pos len with h0 | h0
        · left; subst h0; simp
        · right
          rcases hz with hz | rfl
          · omega
          · refine ⟨_, _, rfl, fun j v hj => ?_⟩
            rw [List.getElem?_take] at hj
            split at hj
            · rw [List.getElem?_drop] at hj
              rw [h3.1]
              exact cell_row h1 (by rw [← h7 _ _ hj]; congr 1; omega)
            · cases hj
    · cases H
  · cases H

/-- The same cells, where the world's memory is the same. -/
theorem firstCells_run {w0 : World} (hw : w0.heap = w.heap) {n m es : Nat} {xa : Option Addr} {xc : Nat} {vs : List Value} (hl : vs.length = n * es)
    (hz : n = 0 ∨ ∃ b p, xa = some ⟨b, p, none⟩ ∧ ∀ j v, vs[j]? = some v → w.cell? ⟨b, p + j, none⟩ = some v) :
    (Builtin.firstCells es n (.slice xa m xc)).run P w0 = .ok vs.toArray w0 := by
  have hcell : ∀ a, w0.cell? a = w.cell? a := fun a => by simp [World.cell?, hw]
  rcases hz with rfl | ⟨b, p, rfl, hc⟩
  · have : vs = [] := List.eq_nil_of_length_eq_zero (by simpa using hl)
    subst this
    cases xa with
    | none => rfl
    | some a => simp [Builtin.firstCells, loadCells, loadCellsFrom]
  · have := run_loadCells_list (P := P) w0 ⟨b, p, none⟩ vs (fun j v hj => by rw [add_none, hcell]; exact hc j v hj)
    rw [hl] at this
    exact this

theorem norm_flat {es : Nat} : ∀ {xs : List V} {vs : List Value}, (∀ x, x ∈ xs → x.cells.length = es) → Reps g (xs.flatMap V.cells) vs → (∀ u, u ∈ vs → leaf u) → Reps g ((xs.map norm).flatMap V.cells) vs
  | [], _, _, hr, _ => hr
  | x :: xs, vs, hes, hr, hf => by
    rw [List.flatMap_cons] at hr
    obtain ⟨h1, h2⟩ := hr.split
    rw [List.map_cons, List.flatMap_cons, ← List.take_append_drop x.cells.length vs]
    refine Reps.app ?_ (norm_flat (fun y hy => hes y (by simp [hy])) h2 (fun u hu => hf u (List.mem_of_mem_drop hu)))
    unfold norm
    split
    · rename_i y hy
      exact Reps.of_map_d (h1.toDs (toD_cells hy) (fun u hu => hf u (List.mem_of_mem_take hu)))
    · exact h1

theorem normed_es {es : Nat} {xs : List V} (hes : ∀ x, x ∈ xs → x.cells.length = es) : ∀ x, x ∈ xs.map norm → x.cells.length = es := by
  intro x hx
  obtain ⟨y, hy, rfl⟩ := List.mem_map.1 hx
  rw [norm_len]; exact hes y hy

/-- Cells of a row that is written on from its k-th cell. -/
theorem splice_end {c : Array Value} {o k : Nat} {vs xv : List Value} (hc : ∀ (j : Nat) (v : Value), vs[j]? = some v → c[o + j]? = some v) (hk : k ≤ vs.length) (hs : o + k + xv.length ≤ c.size) :
    ∀ (j : Nat) (v : Value), (vs.take k ++ xv)[j]? = some v → (c.toList.take (o + k) ++ xv ++ c.toList.drop (o + k + xv.length)).toArray[o + j]? = some v := by
  intro j v hj
  have hget : ∀ i, c.toList[i]? = c[i]? := fun i => Array.getElem?_toList
  have hta : ∀ (l : List Value) (i : Nat), l.toArray[i]? = l[i]? := fun l i => by simp
  rw [hta]
  rw [List.append_assoc]
  have l1 : (vs.take k).length = k := by rw [List.length_take]; omega
  have l2 : (c.toList.take (o + k)).length = o + k := by rw [List.length_take, Array.length_toList]; omega
  by_cases h1 : j < k
  · rw [List.getElem?_append_left (by omega), List.getElem?_take, if_pos h1] at hj
    rw [List.getElem?_append_left (by omega), List.getElem?_take, if_pos (by omega), hget]
    exact hc j v hj
  · rw [List.getElem?_append_right (by omega), l1] at hj
    rw [List.getElem?_append_right (by omega), l2, show o + j - (o + k) = j - k from by omega]
    have h2 : j - k < xv.length := by
      rcases Nat.lt_or_ge (j - k) xv.length with h' | h'
      · exact h'
      · rw [List.getElem?_eq_none h'] at hj; cases hj
    rw [List.getElem?_append_left h2]
    exact hj

/-! ### The machine's append -/
section
variable {t t2 ty e e2 : TypeId} {i : TypeInfo} {zv : Value} {es : Nat}

theorem append_room (ht : P.underlying t = some (.slice e)) (ht2 : P.underlying t2 = some (.slice e2)) (hi : P.info? e = some i) (hs : P.cellsOf e = es)
    {base : Option Addr} {sLen sCap n xc : Nat} {xa : Option Addr} {news : List Value} {w' : World} (hle : sLen + n ≤ sCap) (hf : (Builtin.firstCells es n (.slice xa n xc)).run P w = .ok news.toArray w)
    (hst : ∀ a, base = some a → (storeCells (a.add (sLen * es)) news).run P w = .ok () w') (hno : base = none → w' = w) :
    (Builtin.append_ #[t, t2] ty #[.slice base sLen sCap, .slice xa n xc]).run P w = .ok (.slice base (sLen + n) sCap) w' := by
  have hs' : i.size = es := by rw [← hs]; simp [Program.cellsOf, hi]
  cases base with
  | none =>
    obtain rfl := hno rfl
    simp [Builtin.append_, run_underlying ht, run_underlying ht2, Go.sizeOf, typeInfo, hi, hs', Builtin.lenOf, hle, hf]
  | some a =>
    have := hst a rfl
    simp [Builtin.append_, run_underlying ht, run_underlying ht2, Go.sizeOf, typeInfo, hi, hs', Builtin.lenOf, hle, hf, this]

theorem append_grow (ht : P.underlying t = some (.slice e)) (ht2 : P.underlying t2 = some (.slice e2)) (hi : P.info? e = some i) (hz : i.zero = some zv) (hs : P.cellsOf e = es)
    {base : Option Addr} {sLen sCap n xc : Nat} {xa : Option Addr} {olds news : List Value} (hgt : sCap < sLen + n)
    (ho : (Builtin.firstCells es sLen (.slice base sLen sCap)).run P w.drew = .ok olds.toArray w.drew) (hf : (Builtin.firstCells es n (.slice xa n xc)).run P w.drew = .ok news.toArray w.drew)
    (hb : (sLen + n) * i.bytes ≤ roomB) (hb1 : 1 ≤ i.bytes) :
    (Builtin.append_ #[t, t2] ty #[.slice base sLen sCap, .slice xa n xc]).run P w =
      .ok (.slice (some ⟨w.heap.size, 0, none⟩) (sLen + n) (grownCap w (sLen + n) sCap e))
        (w.drew.alloc (.cells (olds ++ news ++ (Builtin.zeroCells zv.cells (grownCap w (sLen + n) sCap e - (sLen + n))).toList).toArray e)) := by
  have hs' : i.size = es := by rw [← hs]; simp [Program.cellsOf, hi]
  have hroom : (sLen + n) * i.bytes ≤ 70368744177664 := hb
  have hle : sLen + n ≤ (sLen + n) * i.bytes := Nat.le_mul_of_pos_right _ hb1
  have hn : ¬ (sLen + n ≤ sCap) := by omega
  have hb0 : ¬ i.bytes = 0 := by omega
  have hfit : Builtin.nextslicecap (sLen + n) sCap * i.bytes ≤ 281474976710656 := by
    have h1 := nextslicecap_le hgt
    have h2 : Builtin.nextslicecap (sLen + n) sCap * i.bytes ≤ 2 * (sLen + n) * i.bytes := Nat.mul_le_mul_right _ h1
    rw [Nat.mul_assoc] at h2
    omega
  have h48' : ¬ (281474976710656 < Builtin.nextslicecap (sLen + n) sCap * i.bytes) := by omega
  simp [Builtin.append_, run_underlying ht, run_underlying ht2, Go.sizeOf, typeInfo, zeroValue, hi, hz, hs', Builtin.lenOf, hn, hb0, h48', Question.forced, ho, hf, newRow, grownCap]
  congr 2
  apply Array.ext'
  simp [List.append_assoc]

theorem grown_le {need old : Nat} {e : TypeId} (hn : need ≤ 2 ^ 62) : need ≤ grownCap w need old e := by
  unfold grownCap
  simp only [Question.cut]
  omega
end

end
end Zv
