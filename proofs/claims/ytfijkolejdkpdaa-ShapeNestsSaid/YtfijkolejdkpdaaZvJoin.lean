/-
  strings.Join, as a function that is given by what it returns: the kit's contract.
-/
import Derived.Test.YtfijkolejdkpdaaZvFun
import Derived.Room.Shelf.Join48
set_option linter.unusedSimpArgs false
namespace Zv
open Go Go.Proofs Go.Shelf

theorem bytes_ext : ∀ {a b : ByteArray}, a.data.toList = b.data.toList → a = b
  | ⟨⟨_⟩⟩, ⟨⟨_⟩⟩, h => by cases h; rfl
theorem joinL_eq (s : ByteArray) : ∀ xs : List ByteArray, (joinL xs s).data.toList = Lib.join (xs.map (·.data.toList)) s.data.toList
  | [] => rfl
  | [x] => by rw [List.map_cons, List.map_nil, Lib.join_one]; rfl
  | x :: y :: r => by
    have ih := joinL_eq s (y :: r)
    show (x ++ s ++ joinL (y :: r) s).data.toList = _
    rw [ByteArray.data_append, ByteArray.data_append, Array.toList_append, Array.toList_append, ih]
    simp [Lib.join, List.intercalate]
theorem strsD_eq : ∀ {l : List D} {xs : List ByteArray}, strsD l = some xs → l = xs.map .str
  | [], xs, h => by cases h; rfl
  | .str s :: r, xs, h => by
    simp only [strsD, Option.map_eq_some_iff] at h
    obtain ⟨ys, h1, rfl⟩ := h
    rw [strsD_eq h1]; rfl
  | .bool _ :: _, _, h => by cases h
  | .int _ _ :: _, _, h => by cases h
  | .nilp :: _, _, h => by cases h
  | .nilf :: _, _, h => by cases h
  | .nilm :: _, _, h => by cases h
  | .lst _ :: _, _, h => by cases h
  | .agg _ :: _, _, h => by cases h
theorem strs_rep {φ : Nat → Option Obj} : ∀ {xs : List ByteArray} {vs : List Value}, RepDs φ ((xs.map D.str).flatMap D.cells) vs → vs = xs.map .string
  | [], vs, h => by cases h; rfl
  | x :: xs, vs, h => by
    rw [List.map_cons, List.flatMap_cons] at h
    cases h with | cons _ _ v vs hx hs hf =>
    cases hx
    rw [strs_rep hs]; rfl
theorem prim_join {P : Program} {ρ : Ren} (L : Lays.n156 P ρ) (X : Builder.Extra P ρ) : PrimOk P (ρ.f 156) 0 := by
  refine ⟨⟨_, L.f156, rfl, rfl⟩, ?_⟩
  intro ds y hy φ w vals hφ hr
  unfold prim at hy
  split at hy
  case h_2 => cases hy
  rename_i l s _
  simp only [Option.bind_eq_some_iff] at hy
  obtain ⟨xs, hxs, hy⟩ := hy
  split at hy
  case isFalse => cases hy
  rename_i hb
  cases hy
  obtain rfl := strsD_eq hxs
  cases hr with | cons _ _ v vs h1 hs =>
  cases hs with | cons _ _ u us h2 hs =>
  cases hs
  cases h2
  cases h1 with | lst _ es cap a vs hes hc hr ha =>
  obtain rfl := strs_rep hr
  have hj := joinL_eq s xs
  have hlen : (Lib.join (xs.map (·.data.toList)) s.data.toList).length ≤ 281474976710656 := by
    rw [← hj, Array.length_toList]; exact hb.2
  have hres : (⟨(Lib.join (xs.map (·.data.toList)) s.data.toList).toArray⟩ : ByteArray) = joinL xs s := bytes_ext (by rw [← hj])
  rw [List.length_map]
  cases xs with
  | nil =>
    refine (Any.strings_Join_none L X a cap s w).mono ?_
    rintro e w' ⟨rfl, rfl⟩
    exact ⟨_, rfl, fun ψ => .str _, Fx.refl _, fun _ _ => rfl⟩
  | cons x r =>
    rcases ha with ha | ⟨b, p, rfl, hat⟩
    · cases ha
    have hcells : ∀ (j : Nat) x', (x :: r)[j]? = some x' → w.cell? ⟨b, p + j, none⟩ = some (.string x') := by
      intro j x' hx
      have := hat j (.string x') (by rw [List.getElem?_map, hx]; rfl)
      unfold cellφ at this
      split at this
      case h_2 => cases this
      rename_i c ty q hq
      simp [World.cell?, hφ _ _ hq, this]
    have hbk : b < w.heap.size := by
      have := hcells 0 x rfl
      unfold World.cell? at this
      split at this
      case h_2 => cases this
      rename_i c ty q hq
      exact (Array.getElem?_eq_some_iff.1 hq).1
    refine (Any.strings_Join_48 L X b p cap (x :: r) s w hcells hbk (by have := hb.1; omega) (by simpa using hc) hlen).mono ?_
    rintro e w' ⟨rfl, hB⟩
    exact ⟨_, rfl, fun ψ => by rw [hres]; exact .str _, ⟨hB.os, hB.tape, hB.output, hB.size⟩, hB.block⟩
end Zv
