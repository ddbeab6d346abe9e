/-
  Loads, stores and new variables of ZvVal are the machine's.
-/
import Derived.Test.YtfbkbopmenilkaaZwOpD
set_option linter.unusedSimpArgs false
namespace Zv
open Go

section
variable {P : Program} {g : G} {h : Hp} {w : World}

theorem cell_of {b p : Nat} {v : Value} (R : Rel g h w) (hc : cellφ g.φ b p = some v) : w.cell? ⟨b, p, none⟩ = some v := by
  unfold cellφ at hc
  split at hc
  · rename_i c ty fr hb
    simp [World.cell?, R.fr _ _ hb, hc]
  · cases hc

theorem cell_row {b p : Nat} {c : Array Value} {ty : TypeId} {v : Value} (hb : w.heap[b]? = some (.cells c ty (0, 0))) (hc : c[p]? = some v) : w.cell? ⟨b, p, none⟩ = some v := by
  simp [World.cell?, hb, hc]

theorem row_get {n tot es : Nat} {els : List V} (hr : h.row n tot = some (es, els)) : h.get n = some (.arr es els) ∧ els.length = tot := by
  unfold Hp.row at hr
  split at hr
  · rename_i e l hg
    split at hr
    · cases hr; exact ⟨hg, by assumption⟩
    · cases hr
  · cases hr

theorem loadVar_run {t : TypeId} {b p : Nat} {v : Value} {vs : List Value} (hu : (P.underlying t).isSome = true) (hi : (P.info? t).isSome = true) (off : Nat)
    (hv : if agOf P t = true then v = .agg ((vs.drop off).take (P.cellsOf t)).toArray ∧ off + P.cellsOf t ≤ vs.length else vs[off]? = some v)
    (hc : ∀ j u, vs[j]? = some u → w.cell? ⟨b, p + j, none⟩ = some u) : (loadVar t ⟨b, p + off, none⟩).run P w = .ok v w := by
  simp only [loadVar, Sem.run_bind, run_isAgg' hu, Result.andThen_ok]
  split at hv
  · rename_i hag
    obtain ⟨rfl, hle⟩ := hv
    rw [if_pos hag]
    have hl : ((vs.drop off).take (P.cellsOf t)).length = P.cellsOf t := by rw [List.length_take, List.length_drop]; omega
    have := run_loadCells_list (P := P) w ⟨b, p + off, none⟩ ((vs.drop off).take (P.cellsOf t)) (fun j u hj => by
      rw [add_none, Nat.add_assoc]
      refine hc (off + j) u ?_
      rw [List.getElem?_take] at hj
      split at hj
      · rw [List.getElem?_drop] at hj; exact hj
      · cases hj)
    rw [hl] at this
    simp only [Sem.run_bind, run_sizeOf' hi, Result.andThen_ok, this, Sem.run_pure]
  · rename_i hag
    rw [if_neg hag]
    simp [hc off v hv]

/-- An element of a row, in memory. -/
theorem elem_seg {n i : Nat} {es : Nat} {els : List V} {e : V} (R : Rel g h w) (hn : h.get n = some (.arr es els)) (he : els[i]? = some e) :
    ∃ seg, Reps g e.cells seg ∧ (∀ u, u ∈ seg → leaf u) ∧ seg.length = es ∧ (∀ j u, seg[j]? = some u → w.cell? ⟨(g.μ n els.length).b, (g.μ n els.length).o + i * es + j, none⟩ = some u) ∧
      (g.μ n els.length).es = es := by
  obtain ⟨c, ty, vs, h1, h2, h3, h4, h5, h6, h7⟩ := (R.ob n _ hn).2.2
  have hr := (h5.drop (i * es)).take es
  rw [flat_get h4 he] at hr
  refine ⟨(vs.drop (i * es)).take es, hr, fun u hu => h6 u (List.mem_of_mem_drop (List.mem_of_mem_take hu)), ?_, fun j u hj => ?_, h3.1⟩
  · rw [hr.length]; exact h4 e (mem_of_get he)
  · rw [List.getElem?_take] at hj
    split at hj
    · rw [List.getElem?_drop] at hj
      have := h7 _ _ hj
      exact cell_row h1 (by rw [← this]; congr 1; omega)
    · cases hj

theorem ld_ok {t : TypeId} {ag : Bool} {sz : Nat} {x z : V} {a : Value} (hu : (P.underlying t).isSome = true) (hi : (P.info? t).isSome = true) (hag : agOf P t = ag) (hs : P.cellsOf t = sz)
    (R : Rel g h w) (hl : ld ag sz h x = some z) (ha : Rep g x a) : Gives P g w (Instr.loadAt t a) z := by
  subst hag hs
  unfold ld at hl
  split at hl
  · rename_i x off
    simp only [Option.map_eq_some_iff] at hl
    obtain ⟨y, hy, rfl⟩ := hl
    cases ha with | fp _ _ b p vs hr hat =>
    obtain ⟨v, hv, he⟩ := partD_ok hy hr
    exact ⟨v, loadVar_run hu hi off he (fun j u hj => cell_of R (hat j u hj)), .d _ _ hv⟩
  · rename_i n tot i off
    simp only [Option.bind_eq_some_iff] at hl
    obtain ⟨⟨es, els⟩, hrow, e, he, hl⟩ := hl
    obtain ⟨hn, rfl⟩ := row_get hrow
    simp only at he hl
    obtain ⟨seg, s1, s2, s3, s4, s5⟩ := elem_seg R hn he
    cases ha with | ptr _ _ _ _ hN hB =>
    rw [s5]
    split at hl
    · rename_i hw
      obtain ⟨h1, rfl, h3⟩ := hw
      have hrun : (Instr.loadAt t (.pointer (some ⟨(g.μ n els.length).b, (g.μ n els.length).o + i * es + 0, none⟩))).run P w = .ok (.agg seg.toArray) w := by
        refine loadVar_run (vs := seg) hu hi 0 ?_ s4
        rw [if_pos h1]
        refine ⟨?_, by omega⟩
        rw [List.drop_zero, List.take_of_length_le (by omega)]
      refine ⟨_, hrun, ?_⟩
      split at hl
      · cases hl; exact .d _ _ (.agg _ _ (Reps.to_map_d s1 s2))
      · cases hl; exact .agg _ _ s1 s2
      · cases hl
    · obtain ⟨v, hv, hq⟩ := partV_ok hl s1 s2
      exact ⟨v, loadVar_run hu hi off hq s4, hv⟩
  · cases hl

/-! ### Stores -/
theorem leaf_one {v : Value} (h : leaf v) : v.oneCell' = true := by cases v <;> first | rfl | exact h.elim

theorem mkAgg_cells : ∀ (l : List V), (mkAgg l).cells = l := by
  have key : ∀ (l : List V) (ds : List D), asD l = some ds → ds.map V.d = l := by
    intro l
    induction l with
    | nil => intro ds h; simp [asD] at h; subst h; rfl
    | cons x l ih =>
      intro ds h
      cases x <;> simp only [asD] at h <;> first | cases h | skip
      simp only [Option.map_eq_some_iff] at h
      obtain ⟨r, hr, rfl⟩ := h
      rw [List.map_cons, ih r hr]
  intro l
  unfold mkAgg
  split
  · rename_i ds hds; exact key l ds hds
  · rfl

theorem flat_split {α β : Type} {f : α → List β} {l : List α} {i : Nat} {x : α} (h : l[i]? = some x) : l.flatMap f = (l.take i).flatMap f ++ f x ++ (l.drop (i + 1)).flatMap f := by
  have hlt := lt_of_get h
  rw [List.getElem?_eq_getElem hlt] at h
  cases h
  have e : l = l.take i ++ (l[i] :: l.drop (i + 1)) := by rw [← List.drop_eq_getElem_cons hlt, List.take_append_drop]
  rw [show l.flatMap f = (l.take i ++ (l[i] :: l.drop (i + 1))).flatMap f by rw [← e]]
  rw [List.flatMap_append, List.flatMap_cons, List.append_assoc]
theorem flat_set {α β : Type} {f : α → List β} {l : List α} {i : Nat} {x y : α} (h : l[i]? = some x) : (l.set i y).flatMap f = (l.take i).flatMap f ++ f y ++ (l.drop (i + 1)).flatMap f := by
  have hlt := lt_of_get h
  have h' : (l.set i y)[i]? = some y := by simp [hlt]
  rw [flat_split h', List.take_set, List.drop_set, if_pos (by omega)]
  congr 2
  rw [List.set_eq_of_length_le (by rw [List.length_take]; omega)]

/-- Cells of a row in which some are replaced. -/
theorem splice_at {c : Array Value} {o k : Nat} {vs xv : List Value} (hc : ∀ j v, vs[j]? = some v → c[o + j]? = some v) (hk : k + xv.length ≤ vs.length) :
    ∀ j v, (vs.take k ++ xv ++ vs.drop (k + xv.length))[j]? = some v → (c.toList.take (o + k) ++ xv ++ c.toList.drop (o + k + xv.length)).toArray[o + j]? = some v := by
  intro j v hj
  have hlast : vs.length = 0 ∨ o + vs.length ≤ c.size := by
    rcases Nat.eq_zero_or_pos vs.length with h0 | h0
    · exact .inl h0
    · right
      have := hc (vs.length - 1) vs[vs.length - 1] (by rw [List.getElem?_eq_getElem (by omega)])
      have h2 := (Array.getElem?_eq_some_iff.1 this).1
      omega
  have hs : o + k ≤ c.toList.length ∨ (k = 0 ∧ xv = [] ∧ vs = []) := by
    rcases hlast with h0 | h0
    · right
      refine ⟨by omega, List.eq_nil_of_length_eq_zero (by omega), List.eq_nil_of_length_eq_zero h0⟩
    · left; rw [Array.length_toList]; omega
  rcases hs with hs | ⟨rfl, rfl, rfl⟩
  · have hget : ∀ i, c.toList[i]? = c[i]? := fun i => Array.getElem?_toList
    have hta : ∀ (l : List Value) (i : Nat), l.toArray[i]? = l[i]? := fun l i => by simp
    rw [hta]
    rw [List.append_assoc] at hj ⊢
    have l1 : (vs.take k).length = k := by rw [List.length_take]; omega
    have l2 : (c.toList.take (o + k)).length = o + k := by rw [List.length_take]; omega
    by_cases h1 : j < k
    · rw [List.getElem?_append_left (by omega), List.getElem?_take, if_pos h1] at hj
      rw [List.getElem?_append_left (by omega), List.getElem?_take, if_pos (by omega), hget]
      exact hc j v hj
    · rw [List.getElem?_append_right (by omega), l1] at hj
      rw [List.getElem?_append_right (by omega), l2, show o + j - (o + k) = j - k from by omega]
      by_cases h2 : j - k < xv.length
      · rw [List.getElem?_append_left h2] at hj ⊢
        exact hj
      · rw [List.getElem?_append_right (by omega), List.getElem?_drop] at hj ⊢
        rw [hget]
        have := hc _ _ hj
        rw [← this]
        congr 1
        omega
  · simp at hj

theorem storeVar_run {t : TypeId} {b p : Nat} {ty : TypeId} {c : Array Value} {v : Value} (hi : (P.info? t).isSome = true) (hs : v.cells.size = P.cellsOf t) (hb : w.heap[b]? = some (.cells c ty (0, 0)))
    (hle : p + v.cells.size ≤ c.size) (hf : ∀ u, u ∈ v.cells.toList → leaf u) :
    (storeVar t ⟨b, p, none⟩ v).run P w = .ok () (w.setRow b (c.toList.take p ++ v.cells.toList ++ c.toList.drop (p + v.cells.toList.length)).toArray) := by
  have := run_storeCells_at P b p ty v.cells.toList 0 c w hb (by rw [Array.length_toList]; omega) (fun u hu => leaf_one (hf u hu))
  simp only [Nat.add_zero] at this
  simp only [storeVar, Sem.run_bind, run_sizeOf' hi, Result.andThen_ok]
  rw [if_neg (fun hh => hh hs)]
  exact this

theorem st_ok {t : TypeId} {sz : Nat} {x y : V} {a b : Value} {h' : Hp} (hi : (P.info? t).isSome = true) (hs : P.cellsOf t = sz)
    (R : Rel g h w) (hst : st sz h x y = some h') (ha : Rep g x a) (hb : Rep g y b) : GivesU P g w (Instr.storeAt t a b) h' := by
  subst hs
  unfold st at hst
  split at hst
  · rename_i n tot i off
    simp only [Option.bind_eq_some_iff] at hst
    obtain ⟨⟨es, els⟩, hrow, e, he, hst⟩ := hst
    obtain ⟨hn, rfl⟩ := row_get hrow
    simp only at he hst
    split at hst
    · rename_i hy
      obtain ⟨hy1, hy2⟩ := hy
      obtain ⟨yr, yf⟩ := hb.cells hy1
      have hbs : b.cells.size = P.cellsOf t := by have := yr.length; rw [Array.length_toList] at this; omega
      obtain ⟨c, ty, vs, h1, h2, h3, h4, h5, h6, h7⟩ := (R.ob n _ hn).2.2
      have hes : e.cells.length = es := h4 e (mem_of_get he)
      have hil := lt_of_get he
      have hvl : vs.length = els.length * es := by rw [h5.length, flat_len h4]
      have hi1 : (i + 1) * es ≤ els.length * es := Nat.mul_le_mul_right es hil
      have hi2 : (i + 1) * es = i * es + es := by rw [Nat.add_mul]; omega
      cases ha with | ptr _ _ _ _ hN hB =>
      -- the new element
      obtain ⟨e', he', hoff, hh⟩ : ∃ e', e'.cells = e.cells.take off ++ y.cells ++ e.cells.drop (off + P.cellsOf t) ∧ off + P.cellsOf t ≤ es ∧ h' = h.set n (.arr es (els.set i e')) := by
        split at hst
        · rename_i hw
          obtain ⟨rfl, hw2⟩ := hw
          cases hst
          refine ⟨y, ?_, by omega, rfl⟩
          rw [List.take_zero, List.nil_append, List.drop_of_length_le (by omega), List.append_nil]
        · split at hst
          · rename_i hw
            cases hst
            exact ⟨_, mkAgg_cells _, by omega, rfl⟩
          · cases hst
      subst hh
      have hk : i * es + off + b.cells.toList.length ≤ vs.length := by rw [Array.length_toList, hbs, hvl]; omega
      have hcs : (g.μ n els.length).o + (i * es + off) + b.cells.size ≤ c.size := by
        rw [Array.length_toList] at hk
        have := h3.2
        omega
      have hrun := storeVar_run (P := P) (t := t) (p := (g.μ n els.length).o + (i * es + off)) hi hbs h1 (by omega) yf
      obtain ⟨k1, k2, k3⟩ := heap_setRow (c' := (c.toList.take ((g.μ n els.length).o + (i * es + off)) ++ b.cells.toList ++ c.toList.drop ((g.μ n els.length).o + (i * es + off) + b.cells.toList.length)).toArray) h1
      refine ⟨_, g, ?_, Le.refl g, ?_, k3⟩
      · show (Instr.storeAt t (.pointer (some _)) b).run P w = _
        rw [h3.1, Nat.add_assoc]
        exact hrun
      · refine R.set hn (by simp [Ob.tot]) (fun d hd hne => k2 d hd hne) ?_
        simp only [ObRep]
        rw [List.length_set]
        refine ⟨_, ty, vs.take (i * es + off) ++ b.cells.toList ++ vs.drop (i * es + off + b.cells.toList.length), k1, ?_, h3, ?_, ?_, ?_, splice_at h7 hk⟩
        · rw [← h2]
          simp only [List.size_toArray, List.length_append, List.length_take, List.length_drop, Array.length_toList]
          omega
        · intro q hq
          rcases List.mem_or_eq_of_mem_set hq with hq | rfl
          · exact h4 q hq
          · rw [he']
            simp only [List.length_append, List.length_take, List.length_drop]
            omega
        · have hflat : (els.set i e').flatMap V.cells = (els.flatMap V.cells).take (i * es + off) ++ y.cells ++ (els.flatMap V.cells).drop (i * es + off + P.cellsOf t) := by
            rw [flat_set he, flat_split he, he']
            have hA : ((els.take i).flatMap V.cells).length = i * es := by
              rw [flat_len (fun x hx => h4 x (List.mem_of_mem_take hx)), List.length_take, Nat.min_eq_left (by omega)]
            have t1 : ((els.take i).flatMap V.cells ++ e.cells ++ (els.drop (i + 1)).flatMap V.cells).take (i * es + off) = (els.take i).flatMap V.cells ++ e.cells.take off := by
              rw [List.append_assoc, List.take_append, List.take_of_length_le (by omega), hA, show i * es + off - i * es = off from by omega, List.take_append_of_le_length (by omega)]
            have t2 : ((els.take i).flatMap V.cells ++ e.cells ++ (els.drop (i + 1)).flatMap V.cells).drop (i * es + off + P.cellsOf t) = e.cells.drop (off + P.cellsOf t) ++ (els.drop (i + 1)).flatMap V.cells := by
              rw [List.append_assoc, List.drop_append, List.drop_of_length_le (by omega), hA, List.nil_append, show i * es + off + P.cellsOf t - i * es = off + P.cellsOf t from by omega, List.drop_append_of_le_length (by omega)]
            rw [t1, t2]
            simp only [List.append_assoc]
          rw [hflat, Array.length_toList, hbs]
          exact ((h5.take _).app yr).app (h5.drop _)
        · intro u hu
          simp only [List.mem_append] at hu
          rcases hu with (hu | hu) | hu
          · exact h6 u (List.mem_of_mem_take hu)
          · exact yf u hu
          · exact h6 u (List.mem_of_mem_drop hu)
    · cases hst
  · cases hst

end
end Zv
