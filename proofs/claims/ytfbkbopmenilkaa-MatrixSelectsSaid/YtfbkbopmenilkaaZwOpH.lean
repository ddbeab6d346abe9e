/-
  append and copy of ZvVal are the machine's: the objects.
-/
import Derived.Test.YtfbkbopmenilkaaZwOpG
set_option linter.unusedSimpArgs false
namespace Zv
open Go

section
variable {P : Program} {g : G} {h : Hp} {w : World}
variable {t t2 ty e e2 : TypeId} {i : TypeInfo} {zv : Value} {es by_ : Nat}

theorem drew_heap (w : World) : w.drew.heap = w.heap := rfl
theorem Fx.drewAlloc (w : World) (o : Obj) : Fx w (w.drew.alloc o) := ⟨rfl, rfl, rfl, (heap_alloc w.drew o).2.2.size⟩

theorem allV_of {l : List V} (hl : ∀ x, x ∈ l → x.cells.length = es) : allV es l = true := by
  unfold allV
  exact List.all_eq_true.2 fun x hx => by simpa using hl x hx

/-- What a grown row holds. -/
theorem grow_cells {els xs : List V} {olds news : List Value} (hzc : zv.cells.size = es) (hor : Reps g (els.flatMap V.cells) olds) (hof : ∀ u, u ∈ olds → leaf u) (hoe : ∀ x, x ∈ els → x.cells.length = es)
    (hnr : Reps g (xs.flatMap V.cells) news) (hnf : ∀ u, u ∈ news → leaf u) (hne : ∀ x, x ∈ xs → x.cells.length = es) {cap : Nat} (hcap : els.length + xs.length ≤ cap) :
    let c := (olds ++ news ++ (Builtin.zeroCells zv.cells (cap - (els.length + xs.length))).toList).toArray
    (∀ x, x ∈ els ++ xs.map norm → x.cells.length = es) ∧ Reps g ((els ++ xs.map norm).flatMap V.cells) (olds ++ news) ∧ (∀ u, u ∈ olds ++ news → leaf u) ∧
      (∀ (j : Nat) (v : Value), (olds ++ news)[j]? = some v → c[j]? = some v) ∧ c.size = cap * es ∧ (els ++ xs.map norm).length * es ≤ c.size := by
  intro c
  have hol : olds.length = els.length * es := by rw [hor.length, flat_len hoe]
  have hnl : news.length = xs.length * es := by rw [hnr.length, flat_len hne]
  have hcs : c.size = cap * es := by
    show ((olds ++ news ++ (Builtin.zeroCells zv.cells (cap - (els.length + xs.length))).toList).toArray).size = cap * es
    have : (Builtin.zeroCells zv.cells (cap - (els.length + xs.length))).toList.length = (cap - (els.length + xs.length)) * es := by simp [Builtin.zeroCells, hzc]
    rw [List.size_toArray, List.length_append, List.length_append, hol, hnl, this, ← Nat.add_mul, ← Nat.add_mul]
    congr 1; omega
  refine ⟨fun x hx => ?_, ?_, fun u hu => ?_, fun j v hj => ?_, hcs, ?_⟩
  · rcases List.mem_append.1 hx with hx | hx
    · exact hoe x hx
    · exact normed_es hne x hx
  · rw [List.flatMap_append]
    exact hor.app (norm_flat hne hnr hnf)
  · rcases List.mem_append.1 hu with hu | hu
    · exact hof u hu
    · exact hnf u hu
  · have hlt := lt_of_get hj
    show ((olds ++ news ++ (Builtin.zeroCells zv.cells (cap - (els.length + xs.length))).toList).toArray)[j]? = some v
    simp only [List.getElem?_toArray]
    rw [List.getElem?_append_left hlt]
    exact hj
  · rw [hcs, List.length_append, List.length_map]
    exact Nat.mul_le_mul_right _ hcap

/-- A grown row under a new name. -/
theorem grow_fresh {els xs : List V} {olds news : List Value} {base xa : Option Addr} {sCap xc : Nat} (R : Rel g h w)
    (ht : P.underlying t = some (.slice e)) (ht2 : P.underlying t2 = some (.slice e2)) (hi : P.info? e = some i) (hz : i.zero = some zv) (hs : P.cellsOf e = es) (hzc : zv.cells.size = es) (hby : i.bytes = by_) (hb1 : 1 ≤ by_)
    (hor : Reps g (els.flatMap V.cells) olds) (hof : ∀ u, u ∈ olds → leaf u) (hoe : ∀ x, x ∈ els → x.cells.length = es)
    (hoz : els.length = 0 ∨ ∃ b p, base = some ⟨b, p, none⟩ ∧ ∀ (j : Nat) (v : Value), olds[j]? = some v → w.cell? ⟨b, p + j, none⟩ = some v)
    (hnr : Reps g (xs.flatMap V.cells) news) (hnf : ∀ u, u ∈ news → leaf u) (hne : ∀ x, x ∈ xs → x.cells.length = es)
    (hnz : xs.length = 0 ∨ ∃ b p, xa = some ⟨b, p, none⟩ ∧ ∀ (j : Nat) (v : Value), news[j]? = some v → w.cell? ⟨b, p + j, none⟩ = some v)
    (hgt : sCap < els.length + xs.length) (hroom : (els.length + xs.length) * by_ ≤ roomB) :
    GivesH P g w (Builtin.append_ #[t, t2] ty #[.slice base els.length sCap, .slice xa xs.length xc]) (.own h.next es (els.length + xs.length) 0 (els.length + xs.length)) (h.alloc (.arr es (els ++ xs.map norm))) := by
  subst hby
  have hol : olds.length = els.length * es := by rw [hor.length, flat_len hoe]
  have hnl : news.length = xs.length * es := by rw [hnr.length, flat_len hne]
  have hle : els.length + xs.length ≤ (els.length + xs.length) * i.bytes := Nat.le_mul_of_pos_right _ hb1
  have hroom' : (els.length + xs.length) * i.bytes ≤ 70368744177664 := hroom
  have hcap := grown_le (w := w) (old := sCap) (e := e) (need := els.length + xs.length) (by omega)
  have hrun := append_grow (P := P) (w := w) (ty := ty) ht ht2 hi hz hs hgt (firstCells_run (w0 := w.drew) (w := w) rfl hol hoz) (firstCells_run (w0 := w.drew) (w := w) (m := xs.length) (xc := xc) rfl hnl hnz) hroom hb1
  obtain ⟨c1, c2, c3, c4, c5, c6⟩ := grow_cells (g := g) hzc hor hof hoe hnr hnf hne hcap
  obtain ⟨k1, k2, k3⟩ := newRow_ok (es := es) (els := els ++ xs.map norm) (vs := olds ++ news) (ty := e) (w0 := w.drew) R rfl c1 c2 c3 c4 c6
  have hlen : (els ++ xs.map norm).length = els.length + xs.length := by rw [List.length_append, List.length_map]
  rw [hlen] at k1 k2 k3
  refine ⟨_, _, _, hrun, k1, k2, ?_, Fx.drewAlloc w _⟩
  refine .own h.next es (els.length + xs.length) 0 (els.length + xs.length) _ _ (by rw [k3]) (by show h.next < max g.N (h.next + 1); omega) (by simp [G.put]) (.inr ?_) hcap (by omega) (by omega) ?_
  · rw [k3]; simp
  · rw [k3]
    show 0 + (0 + _) * es ≤ _
    rw [c5]
    simp

theorem app_ok {s x z : V} {a b : Value} {h' : Hp} (R : Rel g h w)
    (ht : P.underlying t = some (.slice e)) (ht2 : P.underlying t2 = some (.slice e2)) (hi : P.info? e = some i) (hz : i.zero = some zv) (hs : P.cellsOf e = es) (hzc : zv.cells.size = es) (hby : i.bytes = by_) (hb1 : 1 ≤ by_)
    (H : app es by_ h s x = some (z, h')) (ha : Rep g s a) (hb : Rep g x b) : GivesH P g w (Builtin.append_ #[t, t2] ty #[a, b]) z h' := by
  unfold app at H
  simp only [Option.bind_eq_some_iff] at H
  obtain ⟨xs, hxs, H⟩ := H
  obtain ⟨xa, xc, news, rfl, hnr, hnf, hnz⟩ := elems_ok R hxs hb
  split at H
  case isFalse => cases H
  rename_i hall
  have hne := allV_iff hall
  have hnl : news.length = xs.length * es := by rw [hnr.length, flat_len hne]
  have hnz' : xs.length = 0 ∨ ∃ b p, xa = some ⟨b, p, none⟩ ∧ ∀ (j : Nat) (v : Value), news[j]? = some v → w.cell? ⟨b, p + j, none⟩ = some v := hnz.imp (fun h => by rw [h]; rfl) id
  have hfc := firstCells_run (P := P) (w0 := w) (w := w) (m := xs.length) (xc := xc) rfl hnl hnz'
  have hemp : (xs.map norm).isEmpty = true → xs = [] := by simp
  have hlm : (xs.map norm).length = xs.length := List.length_map ..
  -- nothing is appended
  have nothing : ∀ (base : Option Addr) (sLen sCap : Nat), xs = [] → sLen ≤ sCap → (Builtin.append_ #[t, t2] ty #[.slice base sLen sCap, .slice xa xs.length xc]).run P w = .ok (.slice base sLen sCap) w := by
    intro base sLen sCap h0 hle
    subst h0
    have hn0 : news = [] := List.eq_nil_of_length_eq_zero (by simpa using hnl)
    subst hn0
    exact append_room (P := P) (ty := ty) ht ht2 hi hs (n := 0) (by simpa using hle) hfc (fun a _ => rfl) (fun _ => rfl)
  split at H
  · -- a tight row
    rename_i l nl
    have ha0 := ha
    cases ha with | tl _ _ es0 q vs hes hr hz0 hn hf =>
    split at H
    · rename_i he
      cases H
      exact ⟨_, w, g, nothing q _ _ (hemp he) (Nat.le_refl _), Le.refl g, R, ha0, Fx.refl w⟩
    · rename_i he
      split at H
      · rename_i hc
        obtain ⟨hc1, hc2⟩ := hc
        cases H
        rw [hlm] at hc1 ⊢
        have hpos : 0 < xs.length := by
          rcases Nat.eq_zero_or_pos xs.length with h0 | h0
          · exact absurd (by rw [List.eq_nil_of_length_eq_zero h0]; rfl) he
          · exact h0
        exact grow_fresh R ht ht2 hi hz hs hzc hby hb1 hr hf (allV_iff hc2) (hz0.imp (fun h => by rw [h]; rfl) fun ⟨b, p, e1, e2⟩ => ⟨b, p, e1, fun j v hj => cell_of R (e2 j v hj)⟩) hnr hnf hne hnz' (by omega) hc1
      · cases H
  · -- an owned row
    rename_i n e' tot off len
    simp only [Option.bind_eq_some_iff] at H
    obtain ⟨⟨es1, els⟩, hrow, H⟩ := H
    obtain ⟨hn, rfl⟩ := row_get hrow
    simp only at H
    split at H
    case isFalse => cases H
    rename_i hcond
    obtain ⟨he1, he2, hle⟩ := hcond
    rw [he1] at hn
    have ha0 := ha
    obtain ⟨hnN, hnB, hob⟩ := R.ob n _ hn
    have hB' : g.B n = els.length := hnB
    obtain ⟨c, cty, vs, h1, h2, h3, h4, h5, h6, h7⟩ := hob
    cases ha with | own _ _ _ _ _ cap q hes hN hB hz0 hl hto hc hsz =>
    rw [h3.1] at hz0 hsz
    have hvl : vs.length = els.length * es := by rw [h5.length, flat_len h4]
    have hcapsz : (g.μ n els.length).o + off * es + cap * es ≤ c.size := by rw [h2, Nat.add_assoc, ← Nat.add_mul]; exact hsz
    have hmul : (off + len) * es = off * es + len * es := Nat.add_mul ..
    split at H
    · rename_i he
      cases H
      exact ⟨_, w, g, nothing (some q) _ _ (hemp he) hl, Le.refl g, R, ha0, Fx.refl w⟩
    rename_i he
    have hpos : 0 < xs.length := by
      rcases Nat.eq_zero_or_pos xs.length with h0 | h0
      · exact absurd (by rw [List.eq_nil_of_length_eq_zero h0]; rfl) he
      · exact h0
    rw [hlm] at H
    -- where there is room
    have room : len + xs.length ≤ cap → q = ⟨(g.μ n els.length).b, (g.μ n els.length).o + off * es, none⟩ ∧
        (Builtin.append_ #[t, t2] ty #[.slice (some q) len cap, .slice xa xs.length xc]).run P w =
          .ok (.slice (some q) (len + xs.length) cap) (w.setRow (g.μ n els.length).b (c.toList.take ((g.μ n els.length).o + (off + len) * es) ++ news ++ c.toList.drop ((g.μ n els.length).o + (off + len) * es + news.length)).toArray) := by
      intro hcp
      have hq : q = ⟨(g.μ n els.length).b, (g.μ n els.length).o + off * es, none⟩ := by
        rcases hz0 with hz0 | hz0
        · omega
        · exact hz0
      refine ⟨hq, append_room (P := P) (ty := ty) ht ht2 hi hs hcp hfc (fun a hq' => ?_) (fun hq' => by cases hq')⟩
      cases hq'
      rw [hq, add_none]
      have hm2 : (len + xs.length) * es ≤ cap * es := Nat.mul_le_mul_right _ hcp
      rw [Nat.add_mul] at hm2
      have hfit : (g.μ n els.length).o + (off + len) * es + 0 + news.length ≤ c.size := by rw [hmul, hnl]; omega
      have hst := run_storeCells_at P (g.μ n els.length).b ((g.μ n els.length).o + (off + len) * es) cty news 0 c w h1 hfit (fun u hu => leaf_one (hnf u hu))
      simp only [Nat.add_zero] at hst
      rw [Nat.add_assoc, ← hmul]
      exact hst
    obtain ⟨k1, k2, k3⟩ := heap_setRow (c' := (c.toList.take ((g.μ n els.length).o + (off + len) * es) ++ news ++ c.toList.drop ((g.μ n els.length).o + (off + len) * es + news.length)).toArray) h1
    split at H
    · -- over what lies behind
      rename_i hin
      cases H
      obtain ⟨hq, hrun⟩ := room (by omega)
      have hm3 : (off + len + xs.length) * es ≤ els.length * es := Nat.mul_le_mul_right _ hin
      have hm4 : (off + len + xs.length) * es = (off + len) * es + xs.length * es := Nat.add_mul ..
      have hlen : (els.take (off + len) ++ xs.map norm ++ els.drop (off + len + xs.length)).length = els.length := by
        simp only [List.length_append, List.length_take, List.length_map, List.length_drop]
        omega
      refine ⟨_, _, g, hrun, Le.refl g, ?_, ?_, k3⟩
      · refine R.set hn (by simp only [Ob.tot]; exact hlen) (fun d hd hne => k2 d hd hne) ?_
        simp only [ObRep]
        rw [hlen]
        refine ⟨_, cty, vs.take ((off + len) * es) ++ news ++ vs.drop ((off + len) * es + news.length), k1, ?_, h3, ?_, ?_, ?_, splice_at h7 (by omega)⟩
        · rw [← h2]
          simp only [List.size_toArray, List.length_append, List.length_take, List.length_drop, Array.length_toList]
          have := h3.2
          rw [← h2] at this
          omega
        · intro y hy
          simp only [List.mem_append] at hy
          rcases hy with (hy | hy) | hy
          · exact h4 y (List.mem_of_mem_take hy)
          · exact normed_es hne y hy
          · exact h4 y (List.mem_of_mem_drop hy)
        · rw [List.flatMap_append, List.flatMap_append, ← flat_take _ h4, ← flat_drop _ h4, hm4, hnl]
          exact ((h5.take _).app (norm_flat hne hnr hnf)).app (h5.drop _)
        · intro u hu
          simp only [List.mem_append] at hu
          rcases hu with (hu | hu) | hu
          · exact h6 u (List.mem_of_mem_take hu)
          · exact hnf u hu
          · exact h6 u (List.mem_of_mem_drop hu)
      · exact .own n es els.length off (len + xs.length) cap q h3.1 hN hB (by rw [h3.1]; exact hz0) (by omega) (by omega) hc (by rw [h3.1]; exact hsz)
    · rename_i hin
      split at H
      case isFalse => cases H
      rename_i hroom
      have hlt : len ≤ els.length - off := by omega
      -- what the row holds
      have olds : ∃ olds, olds = (vs.drop (off * es)).take (len * es) ∧ Reps g (((els.drop off).take len).flatMap V.cells) olds ∧ (∀ u, u ∈ olds → leaf u) ∧
          (((els.drop off).take len).length = 0 ∨ ∃ b p, some q = some ⟨b, p, none⟩ ∧ ∀ (j : Nat) (v : Value), olds[j]? = some v → w.cell? ⟨b, p + j, none⟩ = some v) := by
        refine ⟨_, rfl, ?_, fun u hu => h6 u (List.mem_of_mem_drop (List.mem_of_mem_take hu)), ?_⟩
        · rw [← flat_take len (fun x hx => h4 x (List.mem_of_mem_drop hx)), ← flat_drop off h4]
          exact (h5.drop _).take _
        · rcases Nat.eq_zero_or_pos len with h0 | h0
          · left; subst h0; simp
          · right
            rcases hz0 with hz0 | hz0
            · omega
            · refine ⟨_, _, congrArg some hz0, fun j v hj => ?_⟩
              rw [List.getElem?_take] at hj
              split at hj
              · rw [List.getElem?_drop] at hj
                exact cell_row h1 (by rw [← h7 _ _ hj]; congr 1; omega)
              · cases hj
      obtain ⟨olds, holds, ho1, ho2, ho3⟩ := olds
      have hoe : ∀ x, x ∈ (els.drop off).take len → x.cells.length = es := fun x hx => h4 x (List.mem_of_mem_drop (List.mem_of_mem_take hx))
      have hl2 : ((els.drop off).take len).length = len := by rw [List.length_take, List.length_drop]; omega
      have hol : olds.length = len * es := by rw [ho1.length, flat_len hoe, hl2]
      -- a new content that is written behind the old one, in its block
      have inRoom : ∀ hcp : len + xs.length ≤ cap, ∃ w', (Builtin.append_ #[t, t2] ty #[.slice (some q) len cap, .slice xa xs.length xc]).run P w = .ok (.slice (some q) (len + xs.length) cap) w' ∧ Fx w w' ∧
          (∀ d, d < w.heap.size → d ≠ (g.μ n els.length).b → w'.heap[d]? = w.heap[d]?) ∧
          ∃ c', w'.heap[(g.μ n els.length).b]? = some (.cells c' cty (0, 0)) ∧ c'.size = c.size ∧ (∀ (j : Nat) (v : Value), (olds ++ news)[j]? = some v → c'[(g.μ n els.length).o + off * es + j]? = some v) ∧
            (g.μ n els.length).o + off * es + (len + xs.length) * es ≤ c.size := by
        intro hcp
        obtain ⟨hq, hrun⟩ := room hcp
        have hm2 : (len + xs.length) * es ≤ cap * es := Nat.mul_le_mul_right _ hcp
        have hm5 : (len + xs.length) * es = len * es + xs.length * es := Nat.add_mul ..
        have hm6 : (off + len) * es ≤ els.length * es := Nat.mul_le_mul_right _ hle
        refine ⟨_, hrun, k3, k2, _, k1, ?_, ?_, by omega⟩
        · simp only [List.size_toArray, List.length_append, List.length_take, List.length_drop, Array.length_toList]
          omega
        · have hsp := splice_end (c := c) (o := (g.μ n els.length).o + off * es) (k := len * es) (vs := vs.drop (off * es)) (xv := news) (fun j v hj => by
            rw [List.getElem?_drop] at hj
            rw [Nat.add_assoc]
            exact h7 _ _ hj) (by rw [List.length_drop]; omega) (by omega)
          rw [← holds] at hsp
          rw [hmul, ← Nat.add_assoc]
          exact hsp
      have hallN : ∀ x, x ∈ (els.drop off).take len ++ xs.map norm → x.cells.length = es := by
        intro y hy
        rcases List.mem_append.1 hy with hy | hy
        · exact hoe y hy
        · exact normed_es hne y hy
      have hrepN : Reps g (((els.drop off).take len ++ xs.map norm).flatMap V.cells) (olds ++ news) := by
        rw [List.flatMap_append]
        exact ho1.app (norm_flat hne hnr hnf)
      have hleafN : ∀ u, u ∈ olds ++ news → leaf u := by
        intro u hu
        rcases List.mem_append.1 hu with hu | hu
        · exact ho2 u hu
        · exact hnf u hu
      have hlenN : ((els.drop off).take len ++ xs.map norm).length = len + xs.length := by rw [List.length_append, hl2, List.length_map]
      split at H
      · rename_i hoff
        subst hoff
        cases H
        simp only [List.drop_zero] at ho1 ho3 hoe hl2 hallN hrepN hlenN
        have hnew : g.B n < len + xs.length := by rw [hB']; omega
        have hobj : ∀ m o, (h.set n (.arr es (els.take len ++ xs.map norm))).get m = some o → (m = n ∧ o = .arr es (els.take len ++ xs.map norm)) ∨ (m ≠ n ∧ h.get m = some o) := by
          intro m o hm
          rw [get_set hn] at hm
          split at hm
          · cases hm; exact .inl ⟨by assumption, rfl⟩
          · exact .inr ⟨by assumption, hm⟩
        have hnx : (h.set n (.arr es (els.take len ++ xs.map norm))).next = max g.N (n + 1) := by
          show h.next = max g.N (n + 1)
          rw [R.nx]; omega
        have htot : (Ob.arr es (els.take len ++ xs.map norm)).tot = len + xs.length := hlenN
        by_cases hcp : len + xs.length ≤ cap
        · obtain ⟨w', hrun, hfx, hw', c', hc1, hc2, hc3, hc4⟩ := inRoom hcp
          have hμ : (g.put n (len + xs.length) (g.μ n els.length)).μ n (len + xs.length) = g.μ n els.length := by simp [G.put]
          have hput := R.put (h' := h.set n (.arr es (els.take len ++ xs.map norm))) (w' := w') n (.arr es (els.take len ++ xs.map norm)) (g.μ n els.length) (.inl ⟨hN, .inl (by rw [htot]; exact hnew)⟩) hnx (nodup_set R n _) hobj
            (.inr (.inl ⟨n, _, hn, rfl, fun m _ _ hmk => hmk⟩)) hw' (by
              rw [htot]
              simp only [ObRep]
              rw [hlenN, hμ]
              refine ⟨c', cty, olds ++ news, hc1, by rw [hc2, h2], ⟨h3.1, by omega⟩, hallN, hrepN.mono (Le.put (.inl ⟨hN, .inl hnew⟩)), hleafN, fun j v hj => ?_⟩
              have := hc3 j v hj
              simpa using this)
          rw [htot] at hput
          refine ⟨_, w', _, hrun, hput.1, hput.2, ?_, hfx⟩
          refine .own n es (len + xs.length) 0 (len + xs.length) cap q (by rw [hμ]; exact h3.1) (by show n < max g.N (n + 1); omega) (by simp [G.put]) ?_ hcp (by omega) (by omega) ?_
          · rw [hμ, h3.1]; exact hz0
          · rw [hμ, h3.1]; exact hsz
        · have hcap := grown_le (w := w) (old := cap) (e := e) (need := len + xs.length) (by
            have h5' : len + xs.length ≤ (len + xs.length) * by_ := Nat.le_mul_of_pos_right _ hb1
            have h6' : (len + xs.length) * by_ ≤ 70368744177664 := hroom
            omega)
          rw [hl2] at ho3
          have hrun := append_grow (P := P) (w := w) (ty := ty) (news := news) (xa := xa) (xc := xc) (n := xs.length) ht ht2 hi hz hs (Nat.lt_of_not_le hcp) (firstCells_run (w0 := w.drew) (w := w) (m := len) (xc := cap) rfl hol ho3) (firstCells_run (w0 := w.drew) (w := w) (m := xs.length) (xc := xc) rfl hnl hnz') (by rw [hby]; exact hroom) (by rw [hby]; exact hb1)
          obtain ⟨c1, c2, c3, c4, c5, c6⟩ := grow_cells (g := g) (zv := zv) (els := els.take len) (cap := grownCap w (len + xs.length) cap e) hzc ho1 ho2 hoe hnr hnf hne (by rw [hl2]; exact hcap)
          rw [hl2] at c4 c5 c6
          obtain ⟨a1, a2, a3⟩ := heap_alloc w.drew (.cells (olds ++ news ++ (Builtin.zeroCells zv.cells (grownCap w (len + xs.length) cap e - (len + xs.length))).toList).toArray e)
          have hput := R.put (h' := h.set n (.arr es (els.take len ++ xs.map norm))) (w' := w.drew.alloc (.cells (olds ++ news ++ (Builtin.zeroCells zv.cells (grownCap w (len + xs.length) cap e - (len + xs.length))).toList).toArray e)) n (.arr es (els.take len ++ xs.map norm))
            ⟨w.heap.size, 0, es, (olds ++ news ++ (Builtin.zeroCells zv.cells (grownCap w (len + xs.length) cap e - (len + xs.length))).toList).toArray.size⟩ (.inl ⟨hN, .inl (by rw [htot]; exact hnew)⟩) hnx (nodup_set R n _) hobj
            (.inl rfl) (fun b hb' _ => a2 b hb') (by
              rw [htot]
              simp only [ObRep]
              rw [hlenN]
              have hμ : ∀ pl, (g.put n (len + xs.length) pl).μ n (len + xs.length) = pl := fun pl => by simp [G.put]
              rw [hμ]
              refine ⟨_, e, olds ++ news, a1, rfl, ⟨rfl, ?_⟩, hallN, hrepN.mono (Le.put (.inl ⟨hN, .inl hnew⟩)), hleafN, fun j v hj => ?_⟩
              · rw [hlenN] at c6; rw [Nat.zero_add]; exact c6
              · rw [Nat.zero_add]; exact c4 j v hj)
          rw [htot] at hput
          refine ⟨_, _, _, hrun, hput.1, hput.2, ?_, Fx.drewAlloc w _⟩
          have hμ : ∀ pl, (g.put n (len + xs.length) pl).μ n (len + xs.length) = pl := fun pl => by simp [G.put]
          refine .own n es (len + xs.length) 0 (len + xs.length) _ _ (by rw [hμ]) (by show n < max g.N (n + 1); omega) (by simp [G.put]) (.inr ?_) hcap (by omega) (by omega) ?_
          · rw [hμ]; simp
          · rw [hμ]
            show 0 + (0 + _) * es ≤ _
            rw [c5]; simp
      · rename_i hoff
        cases H
        have hkillget : ∀ m o, (h.kill n).get m = some o → m ≠ n ∧ h.get m = some o := by
          intro m o hm
          unfold Hp.get Hp.kill at hm
          rw [look_del m R.nd] at hm
          split at hm
          · cases hm
          · exact ⟨by assumption, hm⟩
        by_cases hcp : len + xs.length ≤ cap
        · obtain ⟨w', hrun, hfx, hw', c', hc1, hc2, hc3, hc4⟩ := inRoom hcp
          have hnewB : (Ob.arr es ((els.drop off).take len ++ xs.map norm)).tot = len + xs.length := hlenN
          have hμ : ∀ pl, (g.put h.next (len + xs.length) pl).μ h.next (len + xs.length) = pl := fun pl => by simp [G.put]
          have hput := R.put (h' := (h.kill n).alloc (.arr es ((els.drop off).take len ++ xs.map norm))) (w' := w') h.next (.arr es ((els.drop off).take len ++ xs.map norm)) ⟨(g.μ n els.length).b, (g.μ n els.length).o + off * es, es, c.size⟩
            (.inr R.nx) (by show h.next + 1 = max g.N (h.next + 1); rw [R.nx]; omega) (nodup_alloc (R.kill n) _) (fun m o hm => by
              rw [get_alloc] at hm
              split at hm
              · cases hm; exact .inl ⟨by assumption, rfl⟩
              · exact .inr ⟨by assumption, (hkillget m o hm).2⟩)
            (.inr (.inl ⟨n, _, hn, rfl, fun m o hm hmk => by
              rw [get_alloc] at hm
              rw [if_neg (show ¬ m = (h.kill n).next from hmk)] at hm
              exact (hkillget m o hm).1⟩)) hw' (by
              rw [hnewB]
              simp only [ObRep]
              rw [hlenN, hμ]
              exact ⟨c', cty, olds ++ news, hc1, hc2, ⟨rfl, hc4⟩, hallN, hrepN.mono (Le.put (.inr R.nx)), hleafN, hc3⟩)
          rw [hnewB] at hput
          refine ⟨_, w', _, hrun, hput.1, hput.2, ?_, hfx⟩
          refine .own h.next es (len + xs.length) 0 (len + xs.length) cap q (by rw [hμ]) (by show h.next < max g.N (h.next + 1); omega) (by simp [G.put]) ?_ hcp (by omega) (by omega) ?_
          · rw [hμ]
            simp only [Nat.zero_mul, Nat.add_zero]
            exact hz0
          · rw [hμ]
            show (g.μ n els.length).o + off * es + (0 + cap) * es ≤ c.size
            rw [Nat.zero_add]
            exact hcapsz
        · have hgf := grow_fresh (ty := ty) (xa := xa) (xc := xc) (sCap := cap) (base := some q) (R.kill n) ht ht2 hi hz hs hzc hby hb1 ho1 ho2 hoe ho3 hnr hnf hne hnz' (by rw [hl2]; omega) (by rw [hl2]; exact hroom)
          rw [hl2] at hgf
          exact hgf
  · -- nothing onto a slice that is only read
    rename_i l
    split at H
    · rename_i he
      cases H
      have hd := ha.dI
      cases hd with | lst _ es0 cap q vs hes hc hr hz1 =>
      exact ⟨_, w, g, nothing q _ _ (hemp he) hc, Le.refl g, R, ha, Fx.refl w⟩
    · cases H
  · cases H

theorem int_i64 (n : Nat) : goInt (n : Int) = .int .i64 (n : Int) := rfl

theorem cpy_ok {s x z : V} {a b : Value} {h' : Hp} (R : Rel g h w)
    (ht : P.underlying t = some (.slice e)) (hi : (P.info? e).isSome = true) (hs : P.cellsOf e = es)
    (H : cpy es h s x = some (z, h')) (ha : Rep g s a) (hb : Rep g x b) : GivesH P g w (Builtin.copy_ #[t, t2] ty #[a, b]) z h' := by
  unfold cpy at H
  simp only [Option.bind_eq_some_iff] at H
  obtain ⟨xs, hxs, H⟩ := H
  obtain ⟨xa, xc, news, rfl, hnr, hnf, hnz⟩ := elems_ok R hxs hb
  split at H
  case isFalse => cases H
  rename_i hall
  have hne := allV_iff hall
  have hnl : news.length = xs.length * es := by rw [hnr.length, flat_len hne]
  have run : ∀ (base : Option Addr) (dLen dCap : Nat) (w' : World), (∀ q, base = some q → (storeCells q (news.take (min xs.length dLen * es))).run P w = .ok () w') → (base = none → w' = w) →
      (Builtin.copy_ #[t, t2] ty #[.slice base dLen dCap, .slice xa xs.length xc]).run P w = .ok (goInt (min xs.length dLen : Nat)) w' := by
    intro base dLen dCap w' hst hno
    have hmul : min xs.length dLen * es ≤ xs.length * es := Nat.mul_le_mul_right _ (Nat.min_le_left _ _)
    have hfc := firstCells_run (P := P) (w0 := w) (w := w) (n := min xs.length dLen) (m := xs.length) (xc := xc) (xa := xa) (es := es) (vs := news.take (min xs.length dLen * es)) rfl (by rw [List.length_take]; omega) (by
      rcases hnz with h0 | ⟨b, p, e1, e2⟩
      · left; rw [h0]; simp
      · right
        refine ⟨b, p, e1, fun j v hj => ?_⟩
        rw [List.getElem?_take] at hj
        split at hj
        · exact e2 j v hj
        · cases hj)
    have hsz : (Go.sizeOf e).run P w = .ok es w := by rw [run_sizeOf' hi, hs]
    cases base with
    | none =>
      obtain rfl := hno rfl
      simp [Builtin.copy_, run_underlying ht, Builtin.lenOf, hsz, hfc]
    | some q => simp [Builtin.copy_, run_underlying ht, Builtin.lenOf, hsz, hfc, hst q rfl]
  split at H
  · rename_i n e' tot off len
    simp only [Option.bind_eq_some_iff] at H
    obtain ⟨⟨es1, els⟩, hrow, H⟩ := H
    obtain ⟨hn, rfl⟩ := row_get hrow
    simp only at H
    split at H
    case isFalse => cases H
    rename_i hcond
    obtain ⟨hle, he1, he2⟩ := hcond
    rw [he1] at hn H
    cases H
    obtain ⟨hnN, hnB, hob⟩ := R.ob n _ hn
    obtain ⟨c, cty, vs, h1, h2, h3, h4, h5, h6, h7⟩ := hob
    cases ha with | own _ _ _ _ _ cap q hes hN hB hz0 hl hto hc hsz =>
    rw [h3.1] at hz0 hsz
    have hvl : vs.length = els.length * es := by rw [h5.length, flat_len h4]
    have hkl : (news.take (min xs.length len * es)).length = min xs.length len * es := by
      have hmul : min xs.length len * es ≤ xs.length * es := Nat.mul_le_mul_right _ (Nat.min_le_left _ _)
      rw [List.length_take]; omega
    have hm3 : (off + min xs.length len) * es ≤ els.length * es := Nat.mul_le_mul_right _ (by omega)
    have hm4 : (off + min xs.length len) * es = off * es + min xs.length len * es := Nat.add_mul ..
    have hsp := splice_at (k := off * es) (xv := news.take (min xs.length len * es)) h7 (by omega)
    obtain ⟨k1, k2, k3⟩ := heap_setRow (c' := (c.toList.take ((g.μ n els.length).o + off * es) ++ news.take (min xs.length len * es) ++ c.toList.drop ((g.μ n els.length).o + off * es + (news.take (min xs.length len * es)).length)).toArray) h1
    have hb3 := h3.2
    rw [← h2] at hb3
    -- in both cases the machine comes to this row
    have hrun : ∃ w', (Builtin.copy_ #[t, t2] ty #[.slice (some q) len cap, .slice xa xs.length xc]).run P w = .ok (goInt (min xs.length len : Nat)) w' ∧ Fx w w' ∧
        (∀ d, d < w.heap.size → d ≠ (g.μ n els.length).b → w'.heap[d]? = w.heap[d]?) ∧ ∃ c', w'.heap[(g.μ n els.length).b]? = some (.cells c' cty (0, 0)) ∧ c'.size = c.size ∧
          ∀ (j : Nat) (v : Value), (vs.take (off * es) ++ news.take (min xs.length len * es) ++ vs.drop (off * es + (news.take (min xs.length len * es)).length))[j]? = some v → c'[(g.μ n els.length).o + j]? = some v := by
      rcases hz0 with hz0 | hz0
      · -- no cell is written
        have h0 : min xs.length len = 0 := by omega
        refine ⟨w, run (some q) len cap w (fun p hp => by rw [h0]; simp [storeCells]) (fun hp => by cases hp), Fx.refl w, fun _ _ _ => rfl, c, h1, rfl, fun j v hj => ?_⟩
        rw [h0] at hj
        simp at hj
        exact h7 j v hj
      · refine ⟨_, run (some q) len cap _ (fun p hp => ?_) (fun hp => by cases hp), k3, k2, _, k1, ?_, hsp⟩
        · cases hp
          rw [hz0]
          have hst := run_storeCells_at P (g.μ n els.length).b ((g.μ n els.length).o + off * es) cty (news.take (min xs.length len * es)) 0 c w h1 (by omega) (fun u hu => leaf_one (hnf u (List.mem_of_mem_take hu)))
          simp only [Nat.add_zero] at hst
          exact hst
        · simp only [List.size_toArray, List.length_append, List.length_take, List.length_drop, Array.length_toList]
          rw [List.length_take] at hkl
          omega
    obtain ⟨w', hr, hfx, hw', c', hc1, hc2, hc3⟩ := hrun
    have hlen : (els.take off ++ xs.take (min xs.length len) ++ els.drop (off + min xs.length len)).length = els.length := by
      simp only [List.length_append, List.length_take, List.length_drop]
      omega
    refine ⟨_, w', g, hr, Le.refl g, ?_, .d _ _ (.int _ _), hfx⟩
    refine R.set hn (by simp only [Ob.tot]; exact hlen) (fun d hd hne => hw' d hd hne) ?_
    simp only [ObRep]
    rw [hlen]
    refine ⟨c', cty, _, hc1, by rw [hc2, h2], h3, ?_, ?_, ?_, hc3⟩
    · intro y hy
      simp only [List.mem_append] at hy
      rcases hy with (hy | hy) | hy
      · exact h4 y (List.mem_of_mem_take hy)
      · exact hne y (List.mem_of_mem_take hy)
      · exact h4 y (List.mem_of_mem_drop hy)
    · rw [List.flatMap_append, List.flatMap_append, ← flat_take _ h4, ← flat_drop _ h4, ← flat_take _ hne, hm4, hkl]
      exact ((h5.take _).app (hnr.take _)).app (h5.drop _)
    · intro u hu
      simp only [List.mem_append] at hu
      rcases hu with (hu | hu) | hu
      · exact h6 u (List.mem_of_mem_take hu)
      · exact hnf u (List.mem_of_mem_take hu)
      · exact h6 u (List.mem_of_mem_drop hu)
  · cases H
    cases ha with | tl _ _ es0 q vs hes hr hz0 hn hf =>
    refine ⟨_, w, g, run q 0 0 w (fun p hp => by simp [storeCells]) (fun _ => rfl), Le.refl g, R, ?_, Fx.refl w⟩
    have : min xs.length 0 = 0 := Nat.min_zero _
    rw [this]
    exact .d _ _ (.int _ _)
  · cases H

theorem elems0_eq {x : V} {l : List V} (H : elems0 x = some l) : elems h x = some l := by
  unfold elems0 at H
  split at H <;> first | (cases H; rfl) | cases H

theorem appd_ok {s x z : V} {a b : Value} (R : Rel g h w)
    (ht : P.underlying t = some (.slice e)) (ht2 : P.underlying t2 = some (.slice e2)) (hi : P.info? e = some i) (hz : i.zero = some zv) (hs : P.cellsOf e = es) (hzc : zv.cells.size = es) (hby : i.bytes = by_) (hb1 : 1 ≤ by_)
    (H : appd es by_ s x = some z) (ha : Rep g s a) (hb : Rep g x b) : GivesH P g w (Builtin.append_ #[t, t2] ty #[a, b]) z h := by
  unfold appd at H
  split at H
  case h_2 => cases H
  rename_i l nl
  simp only [Option.bind_eq_some_iff] at H
  obtain ⟨xs, hxs, H⟩ := H
  obtain ⟨xa, xc, news, rfl, hnr, hnf, hnz⟩ := elems_ok R (elems0_eq hxs) hb
  split at H
  case isFalse => cases H
  rename_i hall
  have hne := allV_iff hall
  have hnl : news.length = xs.length * es := by rw [hnr.length, flat_len hne]
  have hnz' : xs.length = 0 ∨ ∃ b p, xa = some ⟨b, p, none⟩ ∧ ∀ (j : Nat) (v : Value), news[j]? = some v → w.cell? ⟨b, p + j, none⟩ = some v := hnz.imp (fun h => by rw [h]; rfl) id
  have hfc := firstCells_run (P := P) (w0 := w) (w := w) (m := xs.length) (xc := xc) rfl hnl hnz'
  have hemp : (xs.map norm).isEmpty = true → xs = [] := by simp
  have hlm : (xs.map norm).length = xs.length := List.length_map ..
  have ha0 := ha
  cases ha with | tl _ _ es0 q vs hes hr hz0 hn hf =>
  split at H
  · rename_i he
    simp only [Option.map_eq_some_iff] at H
    obtain ⟨d, hd, rfl⟩ := H
    have h0 := hemp he
    subst h0
    have hn0 : news = [] := List.eq_nil_of_length_eq_zero (by simpa using hnl)
    subst hn0
    exact ⟨_, w, g, append_room (P := P) (ty := ty) ht ht2 hi hs (n := 0) (by simp) hfc (fun a _ => rfl) (fun _ => rfl), Le.refl g, R, .d _ _ (ha0.toD hd), Fx.refl w⟩
  · rename_i he
    split at H
    · rename_i hc
      obtain ⟨hroom, hc2⟩ := hc
      simp only [Option.map_eq_some_iff] at H
      obtain ⟨ds, hds, rfl⟩ := H
      rw [hlm] at hroom
      have hoe := allV_iff hc2
      have hpos : 0 < xs.length := by
        rcases Nat.eq_zero_or_pos xs.length with h0 | h0
        · exact absurd (by rw [List.eq_nil_of_length_eq_zero h0]; rfl) he
        · exact h0
      have hoz : l.length = 0 ∨ ∃ b p, q = some ⟨b, p, none⟩ ∧ ∀ (j : Nat) (v : Value), vs[j]? = some v → w.cell? ⟨b, p + j, none⟩ = some v := hz0.imp (fun h => by rw [h]; rfl) fun ⟨b, p, e1, e2⟩ => ⟨b, p, e1, fun j v hj => cell_of R (e2 j v hj)⟩
      subst hby
      have hol : vs.length = l.length * es := by rw [hr.length, flat_len hoe]
      have hle : l.length + xs.length ≤ (l.length + xs.length) * i.bytes := Nat.le_mul_of_pos_right _ hb1
      have hroom' : (l.length + xs.length) * i.bytes ≤ 70368744177664 := hroom
      have hcap := grown_le (w := w) (old := l.length) (e := e) (need := l.length + xs.length) (by omega)
      have hrun := append_grow (P := P) (w := w) (ty := ty) ht ht2 hi hz hs (show l.length < l.length + xs.length by omega) (firstCells_run (w0 := w.drew) (w := w) rfl hol hoz) (firstCells_run (w0 := w.drew) (w := w) (m := xs.length) (xc := xc) rfl hnl hnz') hroom hb1
      obtain ⟨c1, c2, c3, c4, c5, c6⟩ := grow_cells (g := g) hzc hr hf hoe hnr hnf hne hcap
      obtain ⟨a1, a2, a3⟩ := heap_alloc w.drew (.cells (vs ++ news ++ (Builtin.zeroCells zv.cells (grownCap w (l.length + xs.length) l.length e - (l.length + xs.length))).toList).toArray e)
      obtain ⟨b1, b2⟩ := R.fix _ a1 a2
      refine ⟨_, _, _, hrun, b1, b2, ?_, Fx.drewAlloc w _⟩
      have hlen : ds.length = l.length + xs.length := by rw [← toDs_length hds, List.length_append, List.length_map]
      have key := RepD.lst (φ := (g.fix w.heap.size (.cells (vs ++ news ++ (Builtin.zeroCells zv.cells (grownCap w (l.length + xs.length) l.length e - (l.length + xs.length))).toList).toArray e)).φ) ds es (grownCap w (l.length + xs.length) l.length e) (some ⟨w.heap.size, 0, none⟩) (vs ++ news)
        (toDs_es hds c1) (by rw [hlen]; exact hcap) ((c2.mono b1).toDs (toDs_flat hds) c3) (.inr ⟨_, _, rfl, fun j v hj => by
          show cellφ (fun c => if c = w.heap.size then some _ else g.φ c) w.heap.size (0 + j) = some v
          simp only [cellφ, if_true]
          rw [Nat.zero_add]
          exact c4 j v hj⟩)
      rw [hlen] at key
      exact .d _ _ key
    · cases H

end
end Zv
