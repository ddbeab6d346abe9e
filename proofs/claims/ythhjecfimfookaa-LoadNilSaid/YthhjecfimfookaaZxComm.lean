/-
  Parts of the proof.
-/
import Derived.Test.YthhjecfimfookaaZxOpG
import Derived.Tactics
import Derived.Orders
import Derived.OrdersIn
import Derived.RangeFuncRecord
section
set_option linter.unusedSimpArgs false
set_option linter.unusedVariables false
set_option linter.unusedSimpArgs false
namespace Zv
open Go

section
variable {P : Program} {g : G} {h : Hp} {w : World}
variable {t t2 ty e e2 : TypeId} {i : TypeInfo} {zv : Value} {es by_ : Nat}

theorem Fx.drewAlloc (w : World) (o : Obj) : Fx w (w.drew.alloc o) := ⟨rfl, rfl, rfl, (heap_alloc w.drew o).2.2.size⟩

/-- What a grown row holds. -/
theorem grow_cells {els xs : List V} {olds news : List Value} (hzc : zv.cells.size = es) (hor : Reps g (els.flatMap V.cells) olds) (hof : ∀ u, u ∈ olds → leaf u) (hoe : ∀ x, x ∈ els → x.cells.length = es)
    (hnr : Reps g (xs.flatMap V.cells) news) (hnf : ∀ u, u ∈ news → leaf u) (hne : ∀ x, x ∈ xs → x.cells.length = es) {cap : Nat} (hcap : els.length + xs.length ≤ cap) :
    let c := (olds ++ news ++ (Builtin.zeroCells zv.cells (cap - (els.length + xs.length))).toList).toArray
    (∀ x, x ∈ els ++ xs.map norm → x.cells.length = es) ∧ Reps g ((els ++ xs.map norm).flatMap V.cells) (olds ++ news) ∧ (∀ u, u ∈ olds ++ news → leaf u) ∧
      (∀ (j : Nat) (v : Value), (olds ++ news)[j]? = some v → c[j]? = some v) ∧ c.size = cap * es ∧ (els ++ xs.map norm).length * es ≤ c.size := by
  intro c
  have hol : olds.length = els.length * es := by rw [hor.length, flat_len hoe]
  have hnl : news.length = xs.length * es := by rw [hnr.length, flat_len hne]
  have hcs : c.size = cap * es := by
    show ((olds ++ news ++ (Builtin.zeroCells zv.cells (cap - (els.length + xs.length))).toList).toArray).size = cap * es
    have : (Builtin.zeroCells zv.cells (cap - (els.length + xs.length))).toList.length = (cap - (els.length + xs.length)) * es := by simp [Builtin.zeroCells, hzc]
    rw [List.size_toArray, List.length_append, List.length_append, hol, hnl, this, ← Nat.add_mul, ← Nat.add_mul]
    congr 1; omega
  refine ⟨fun x hx => ?_, ?_, fun u hu => ?_, fun j v hj => ?_, hcs, ?_⟩
  · rcases List.mem_append.1 hx with hx | hx
    · exact hoe x hx
    · exact normed_es hne x hx
  · rw [List.flatMap_append]
    exact hor.app (norm_flat hne hnr hnf)
  · rcases List.mem_append.1 hu with hu | hu
    · exact hof u hu
    · exact hnf u hu
  · have hlt := lt_of_get hj
    show ((olds ++ news ++ (Builtin.zeroCells zv.cells (cap - (els.length + xs.length))).toList).toArray)[j]? = some v
    simp only [List.getElem?_toArray]
    rw [List.getElem?_append_left hlt]
    exact hj
  · rw [hcs, List.length_append, List.length_map]
    exact Nat.mul_le_mul_right _ hcap

/-- A grown row under a new name. -/
theorem grow_fresh {els xs : List V} {olds news : List Value} {base xa : Option Addr} {sCap xc : Nat} (R : Rel g h w)
    (ht : P.underlying t = some (.slice e)) (ht2 : P.underlying t2 = some (.slice e2)) (hi : P.info? e = some i) (hz : i.zero = some zv) (hs : P.cellsOf e = es) (hzc : zv.cells.size = es) (hby : i.bytes = by_) (hb1 : 1 ≤ by_)
    (hor : Reps g (els.flatMap V.cells) olds) (hof : ∀ u, u ∈ olds → leaf u) (hoe : ∀ x, x ∈ els → x.cells.length = es)
    (hoz : els.length = 0 ∨ ∃ b p, base = some ⟨b, p, none⟩ ∧ ∀ (j : Nat) (v : Value), olds[j]? = some v → w.cell? ⟨b, p + j, none⟩ = some v)
    (hnr : Reps g (xs.flatMap V.cells) news) (hnf : ∀ u, u ∈ news → leaf u) (hne : ∀ x, x ∈ xs → x.cells.length = es)
    (hnz : xs.length = 0 ∨ ∃ b p, xa = some ⟨b, p, none⟩ ∧ ∀ (j : Nat) (v : Value), news[j]? = some v → w.cell? ⟨b, p + j, none⟩ = some v)
    (hgt : sCap < els.length + xs.length) (hroom : (els.length + xs.length) * by_ ≤ roomB) :
    GivesH P g w (Builtin.append_ #[t, t2] ty #[.slice base els.length sCap, .slice xa xs.length xc]) (.own h.next es (els.length + xs.length) 0 (els.length + xs.length)) (h.alloc (.arr es (els ++ xs.map norm))) := by
  subst hby
  have hol : olds.length = els.length * es := by rw [hor.length, flat_len hoe]
  have hnl : news.length = xs.length * es := by rw [hnr.length, flat_len hne]
  have hle : els.length + xs.length ≤ (els.length + xs.length) * i.bytes := Nat.le_mul_of_pos_right _ hb1
  have hroom' : (els.length + xs.length) * i.bytes ≤ 140737488355328 := hroom
  have hcap := grown_le (w := w) (old := sCap) (e := e) (need := els.length + xs.length) (by omega)
  have hrun := append_grow (P := P) (w := w) (ty := ty) ht ht2 hi hz hs hgt (firstCells_run (w0 := w.drew) (w := w) rfl hol hoz) (firstCells_run (w0 := w.drew) (w := w) (m := xs.length) (xc := xc) rfl hnl hnz) hroom hb1
  obtain ⟨c1, c2, c3, c4, c5, c6⟩ := grow_cells (g := g) hzc hor hof hoe hnr hnf hne hcap
  obtain ⟨k1, k2, k3⟩ := newRow_ok (es := es) (els := els ++ xs.map norm) (vs := olds ++ news) (ty := e) (w0 := w.drew) R rfl c1 c2 c3 c4 c6
  have hlen : (els ++ xs.map norm).length = els.length + xs.length := by rw [List.length_append, List.length_map]
  rw [hlen] at k1 k2 k3
  refine ⟨_, _, _, hrun, k1, k2, ?_, Fx.drewAlloc w _⟩
  refine .own h.next es (els.length + xs.length) 0 (els.length + xs.length) _ _ (by rw [k3]) (by show h.next < max g.N (h.next + 1); omega) (by simp [G.put]) (.inr ?_) hcap (by omega) (by omega) ?_
  · rw [k3]; simp
  · rw [k3]
    show 0 + (0 + _) * es ≤ _
    rw [c5]
    simp

theorem app_ok {s x z : V} {a b : Value} {h' : Hp} (R : Rel g h w)
    (ht : P.underlying t = some (.slice e)) (ht2 : P.underlying t2 = some (.slice e2)) (hi : P.info? e = some i) (hz : i.zero = some zv) (hs : P.cellsOf e = es) (hzc : zv.cells.size = es) (hby : i.bytes = by_) (hb1 : 1 ≤ by_)
    (H : app es by_ h s x = some (z, h')) (ha : Rep g s a) (hb : Rep g x b) : GivesH P g w (Builtin.append_ #[t, t2] ty #[a, b]) z h' := by
  unfold app at H
  simp only [Option.bind_eq_some_iff] at H
  obtain ⟨xs, hxs, H⟩ := H
  obtain ⟨xa, xc, news, rfl, hnr, hnf, hnz⟩ := elems_ok R hxs hb
  split at H
  case isFalse => cases H
  rename_i hall
  have hne := allV_iff hall
  have hnl : news.length = xs.length * es := by rw [hnr.length, flat_len hne]
  have hnz' : xs.length = 0 ∨ ∃ b p, xa = some ⟨b, p, none⟩ ∧ ∀ (j : Nat) (v : Value), news[j]? = some v → w.cell? ⟨b, p + j, none⟩ = some v := hnz.imp (fun h => by rw [h]; rfl) id
  have hfc := firstCells_run (P := P) (w0 := w) (w := w) (m := xs.length) (xc := xc) rfl hnl hnz'
  have hemp : (xs.map norm).isEmpty = true → xs = [] := by simp
  have hlm : (xs.map norm).length = xs.length := List.length_map ..
  -- nothing is appended
  have nothing : ∀ (base : Option Addr) (sLen sCap : Nat), xs = [] → sLen ≤ sCap → (Builtin.append_ #[t, t2] ty #[.slice base sLen sCap, .slice xa xs.length xc]).run P w = .ok (.slice base sLen sCap) w := by
    intro base sLen sCap h0 hle
    subst h0
    have hn0 : news = [] := List.eq_nil_of_length_eq_zero (by simpa using hnl)
    subst hn0
    exact append_room (P := P) (ty := ty) ht ht2 hi hs (n := 0) (by simpa using hle) hfc (fun a _ => rfl) (fun _ => rfl)
  split at H
  · -- a tight row
    rename_i l nl
    have ha0 := ha
    cases ha with | tl _ _ es0 q vs hes hr hz0 hn hf =>
    split at H
    · rename_i he
      cases H
      exact ⟨_, w, g, nothing q _ _ (hemp he) (Nat.le_refl _), Le.refl g, R, ha0, Fx.refl w⟩
    · rename_i he
      split at H
      · rename_i hc
        obtain ⟨hc1, hc2⟩ := hc
        cases H
        rw [hlm] at hc1 ⊢
        have hpos : 0 < xs.length := by
          rcases Nat.eq_zero_or_pos xs.length with h0 | h0
          · exact absurd (by rw [List.eq_nil_of_length_eq_zero h0]; rfl) he
          · exact h0
        exact grow_fresh R ht ht2 hi hz hs hzc hby hb1 hr hf (allV_iff hc2) (hz0.imp (fun h => by rw [h]; rfl) fun ⟨b, p, e1, e2⟩ => ⟨b, p, e1, fun j v hj => cell_of R (e2 j v hj)⟩) hnr hnf hne hnz' (by omega) hc1
      · cases H
  · -- an owned row
    rename_i n e' tot off len
    simp only [Option.bind_eq_some_iff] at H
    obtain ⟨⟨es1, els⟩, hrow, H⟩ := H
    obtain ⟨hn, rfl⟩ := row_get hrow
    simp only at H
    split at H
    case isFalse => cases H
    rename_i hcond
    obtain ⟨he1, he2, hle⟩ := hcond
    rw [he1] at hn
    have ha0 := ha
    obtain ⟨hnN, hnB, hob⟩ := R.ob n _ hn
    have hB' : g.B n = els.length := hnB
    obtain ⟨c, cty, vs, h1, h2, h3, h4, h5, h6, h7⟩ := hob
    cases ha with | own _ _ _ _ _ cap q hes hN hB hz0 hl hto hc hsz =>
    rw [h3.1] at hz0 hsz
    have hvl : vs.length = els.length * es := by rw [h5.length, flat_len h4]
    have hcapsz : (g.μ n els.length).o + off * es + cap * es ≤ c.size := by rw [h2, Nat.add_assoc, ← Nat.add_mul]; exact hsz
    have hmul : (off + len) * es = off * es + len * es := Nat.add_mul ..
    split at H
    · rename_i he
      cases H
      exact ⟨_, w, g, nothing (some q) _ _ (hemp he) hl, Le.refl g, R, ha0, Fx.refl w⟩
    rename_i he
    have hpos : 0 < xs.length := by
      rcases Nat.eq_zero_or_pos xs.length with h0 | h0
      · exact absurd (by rw [List.eq_nil_of_length_eq_zero h0]; rfl) he
      · exact h0
    rw [hlm] at H
    -- where there is room
    have room : len + xs.length ≤ cap → q = ⟨(g.μ n els.length).b, (g.μ n els.length).o + off * es, none⟩ ∧
        (Builtin.append_ #[t, t2] ty #[.slice (some q) len cap, .slice xa xs.length xc]).run P w =
          .ok (.slice (some q) (len + xs.length) cap) (w.setRow (g.μ n els.length).b (c.toList.take ((g.μ n els.length).o + (off + len) * es) ++ news ++ c.toList.drop ((g.μ n els.length).o + (off + len) * es + news.length)).toArray) := by
      intro hcp
      have hq : q = ⟨(g.μ n els.length).b, (g.μ n els.length).o + off * es, none⟩ := by
        rcases hz0 with hz0 | hz0
        · omega
        · exact hz0
      refine ⟨hq, append_room (P := P) (ty := ty) ht ht2 hi hs hcp hfc (fun a hq' => ?_) (fun hq' => by cases hq')⟩
      cases hq'
      rw [hq, add_none]
      have hm2 : (len + xs.length) * es ≤ cap * es := Nat.mul_le_mul_right _ hcp
      rw [Nat.add_mul] at hm2
      have hfit : (g.μ n els.length).o + (off + len) * es + 0 + news.length ≤ c.size := by rw [hmul, hnl]; omega
      have hst := run_storeCells_at P (g.μ n els.length).b ((g.μ n els.length).o + (off + len) * es) cty news 0 c w h1 hfit (fun u hu => leaf_one (hnf u hu))
      simp only [Nat.add_zero] at hst
      rw [Nat.add_assoc, ← hmul]
      exact hst
    obtain ⟨k1, k2, k3⟩ := heap_setRow (c' := (c.toList.take ((g.μ n els.length).o + (off + len) * es) ++ news ++ c.toList.drop ((g.μ n els.length).o + (off + len) * es + news.length)).toArray) h1
    split at H
    · -- over what lies behind
      rename_i hin
      cases H
      obtain ⟨hq, hrun⟩ := room (by omega)
      have hm3 : (off + len + xs.length) * es ≤ els.length * es := Nat.mul_le_mul_right _ hin
      have hm4 : (off + len + xs.length) * es = (off + len) * es + xs.length * es := Nat.add_mul ..
      have hlen : (els.take (off + len) ++ xs.map norm ++ els.drop (off + len + xs.length)).length = els.length := by
        simp only [List.length_append, List.length_take, List.length_map, List.length_drop]
        omega
      refine ⟨_, _, g, hrun, Le.refl g, ?_, ?_, k3⟩
      · refine R.set hn (by simp only [Ob.tot]; exact hlen) (fun d hd hne => k2 d hd hne) ?_
        simp only [ObRep]
        rw [hlen]
        refine ⟨_, cty, vs.take ((off + len) * es) ++ news ++ vs.drop ((off + len) * es + news.length), k1, ?_, h3, ?_, ?_, ?_, splice_at h7 (by omega)⟩
        · rw [← h2]
          simp only [List.size_toArray, List.length_append, List.length_take, List.length_drop, Array.length_toList]
          have := h3.2
          rw [← h2] at this
          omega
        · intro y hy
          simp only [List.mem_append] at hy
          rcases hy with (hy | hy) | hy
          · exact h4 y (List.mem_of_mem_take hy)
          · exact normed_es hne y hy
          · exact h4 y (List.mem_of_mem_drop hy)
        · rw [List.flatMap_append, List.flatMap_append, ← flat_take _ h4, ← flat_drop _ h4, hm4, hnl]
          exact ((h5.take _).app (norm_flat hne hnr hnf)).app (h5.drop _)
        · intro u hu
          simp only [List.mem_append] at hu
          rcases hu with (hu | hu) | hu
          · exact h6 u (List.mem_of_mem_take hu)
          · exact hnf u hu
          · exact h6 u (List.mem_of_mem_drop hu)
      · exact .own n es els.length off (len + xs.length) cap q h3.1 hN hB (by rw [h3.1]; exact hz0) (by omega) (by omega) hc (by rw [h3.1]; exact hsz)
    · rename_i hin
      split at H
      case isFalse => cases H
      rename_i hroom
      have hlt : len ≤ els.length - off := by omega
      -- what the row holds
      have olds : ∃ olds, olds = (vs.drop (off * es)).take (len * es) ∧ Reps g (((els.drop off).take len).flatMap V.cells) olds ∧ (∀ u, u ∈ olds → leaf u) ∧
          (((els.drop off).take len).length = 0 ∨ ∃ b p, some q = some ⟨b, p, none⟩ ∧ ∀ (j : Nat) (v : Value), olds[j]? = some v → w.cell? ⟨b, p + j, none⟩ = some v) := by
        refine ⟨_, rfl, ?_, fun u hu => h6 u (List.mem_of_mem_drop (List.mem_of_mem_take hu)), ?_⟩
        · rw [← flat_take len (fun x hx => h4 x (List.mem_of_mem_drop hx)), ← flat_drop off h4]
          exact (h5.drop _).take _
        · rcases Nat.eq_zero_or_pos len with h0 | h0
          · left; subst h0; simp
          · right
            rcases hz0 with hz0 | hz0
            · omega
            · refine ⟨_, _, congrArg some hz0, fun j v hj => ?_⟩
              rw [List.getElem?_take] at hj
              split at hj
              · rw [List.getElem?_drop] at hj
                exact cell_row h1 (by rw [← h7 _ _ hj]; congr 1; omega)
              · cases hj
      obtain ⟨olds, holds, ho1, ho2, ho3⟩ := olds
      have hoe : ∀ x, x ∈ (els.drop off).take len → x.cells.length = es := fun x hx => h4 x (List.mem_of_mem_drop (List.mem_of_mem_take hx))
      have hl2 : ((els.drop off).take len).length = len := by rw [List.length_take, List.length_drop]; omega
      have hol : olds.length = len * es := by rw [ho1.length, flat_len hoe, hl2]
      -- a new content that is written behind the old one, in its block
      have inRoom : ∀ hcp : len + xs.length ≤ cap, ∃ w', (Builtin.append_ #[t, t2] ty #[.slice (some q) len cap, .slice xa xs.length xc]).run P w = .ok (.slice (some q) (len + xs.length) cap) w' ∧ Fx w w' ∧
          (∀ d, d < w.heap.size → d ≠ (g.μ n els.length).b → w'.heap[d]? = w.heap[d]?) ∧
          ∃ c', w'.heap[(g.μ n els.length).b]? = some (.cells c' cty (0, 0)) ∧ c'.size = c.size ∧ (∀ (j : Nat) (v : Value), (olds ++ news)[j]? = some v → c'[(g.μ n els.length).o + off * es + j]? = some v) ∧
            (g.μ n els.length).o + off * es + (len + xs.length) * es ≤ c.size := by
        intro hcp
        obtain ⟨hq, hrun⟩ := room hcp
        have hm2 : (len + xs.length) * es ≤ cap * es := Nat.mul_le_mul_right _ hcp
        have hm5 : (len + xs.length) * es = len * es + xs.length * es := Nat.add_mul ..
        have hm6 : (off + len) * es ≤ els.length * es := Nat.mul_le_mul_right _ hle
        refine ⟨_, hrun, k3, k2, _, k1, ?_, ?_, by omega⟩
        · simp only [List.size_toArray, List.length_append, List.length_take, List.length_drop, Array.length_toList]
          omega
        · have hsp := splice_end (c := c) (o := (g.μ n els.length).o + off * es) (k := len * es) (vs := vs.drop (off * es)) (xv := news) (fun j v hj => by
            rw [List.getElem?_drop] at hj
            rw [Nat.add_assoc]
            exact h7 _ _ hj) (by rw [List.length_drop]; omega) (by omega)
          rw [← holds] at hsp
          rw [hmul, ← Nat.add_assoc]
          exact hsp
      have hallN : ∀ x, x ∈ (els.drop off).take len ++ xs.map norm → x.cells.length = es := by
        intro y hy
        rcases List.mem_append.1 hy with hy | hy
        · exact hoe y hy
        · exact normed_es hne y hy
      have hrepN : Reps g (((els.drop off).take len ++ xs.map norm).flatMap V.cells) (olds ++ news) := by
        rw [List.flatMap_append]
        exact ho1.app (norm_flat hne hnr hnf)
      have hleafN : ∀ u, u ∈ olds ++ news → leaf u := by
        intro u hu
        rcases List.mem_append.1 hu with hu | hu
        · exact ho2 u hu
        · exact hnf u hu
      have hlenN : ((els.drop off).take len ++ xs.map norm).length = len + xs.length := by rw [List.length_append, hl2, List.length_map]
      split at H
      · rename_i hoff
        subst hoff
        cases H
        simp only [List.drop_zero] at ho1 ho3 hoe hl2 hallN hrepN hlenN
        have hnew : g.B n < len + xs.length := by rw [hB']; omega
        have hobj : ∀ m o, (h.set n (.arr es (els.take len ++ xs.map norm))).get m = some o → (m = n ∧ o = .arr es (els.take len ++ xs.map norm)) ∨ (m ≠ n ∧ h.get m = some o) := by
          intro m o hm
          rw [get_set hn] at hm
          split at hm
          · cases hm; exact .inl ⟨by assumption, rfl⟩
          · exact .inr ⟨by assumption, hm⟩
        have hnx : (h.set n (.arr es (els.take len ++ xs.map norm))).next = max g.N (n + 1) := by
          show h.next = max g.N (n + 1)
          rw [R.nx]; omega
        have htot : (Ob.arr es (els.take len ++ xs.map norm)).tot = len + xs.length := hlenN
        by_cases hcp : len + xs.length ≤ cap
        · obtain ⟨w', hrun, hfx, hw', c', hc1, hc2, hc3, hc4⟩ := inRoom hcp
          have hμ : (g.put n (len + xs.length) (g.μ n els.length)).μ n (len + xs.length) = g.μ n els.length := by simp [G.put]
          have hput := R.put (h' := h.set n (.arr es (els.take len ++ xs.map norm))) (w' := w') n (.arr es (els.take len ++ xs.map norm)) (g.μ n els.length) (.inl ⟨hN, .inl (by rw [htot]; exact hnew)⟩) hnx (nodup_set R n _) hobj
            (.inr (.inl ⟨n, _, hn, rfl, fun m _ _ hmk => hmk⟩)) hw' (by
              rw [htot]
              simp only [ObRep]
              rw [hlenN, hμ]
              refine ⟨c', cty, olds ++ news, hc1, by rw [hc2, h2], ⟨h3.1, by omega⟩, hallN, hrepN.mono (Le.put (.inl ⟨hN, .inl hnew⟩)), hleafN, fun j v hj => ?_⟩
              have := hc3 j v hj
              simpa using this)
          rw [htot] at hput
          refine ⟨_, w', _, hrun, hput.1, hput.2, ?_, hfx⟩
          refine .own n es (len + xs.length) 0 (len + xs.length) cap q (by rw [hμ]; exact h3.1) (by show n < max g.N (n + 1); omega) (by simp [G.put]) ?_ hcp (by omega) (by omega) ?_
          · rw [hμ, h3.1]; exact hz0
          · rw [hμ, h3.1]; exact hsz
        · have hcap := grown_le (w := w) (old := cap) (e := e) (need := len + xs.length) (by
            have h5' : len + xs.length ≤ (len + xs.length) * by_ := Nat.le_mul_of_pos_right _ hb1
            have h6' : (len + xs.length) * by_ ≤ 140737488355328 := hroom
            omega)
          rw [hl2] at ho3
          have hrun := append_grow (P := P) (w := w) (ty := ty) (news := news) (xa := xa) (xc := xc) (n := xs.length) ht ht2 hi hz hs (Nat.lt_of_not_le hcp) (firstCells_run (w0 := w.drew) (w := w) (m := len) (xc := cap) rfl hol ho3) (firstCells_run (w0 := w.drew) (w := w) (m := xs.length) (xc := xc) rfl hnl hnz') (by rw [hby]; exact hroom) (by rw [hby]; exact hb1)
          obtain ⟨c1, c2, c3, c4, c5, c6⟩ := grow_cells (g := g) (zv := zv) (els := els.take len) (cap := grownCap w (len + xs.length) cap e) hzc ho1 ho2 hoe hnr hnf hne (by rw [hl2]; exact hcap)
          rw [hl2] at c4 c5 c6
          obtain ⟨a1, a2, a3⟩ := heap_alloc w.drew (.cells (olds ++ news ++ (Builtin.zeroCells zv.cells (grownCap w (len + xs.length) cap e - (len + xs.length))).toList).toArray e)
          have hput := R.put (h' := h.set n (.arr es (els.take len ++ xs.map norm))) (w' := w.drew.alloc (.cells (olds ++ news ++ (Builtin.zeroCells zv.cells (grownCap w (len + xs.length) cap e - (len + xs.length))).toList).toArray e)) n (.arr es (els.take len ++ xs.map norm))
            ⟨w.heap.size, 0, es, (olds ++ news ++ (Builtin.zeroCells zv.cells (grownCap w (len + xs.length) cap e - (len + xs.length))).toList).toArray.size⟩ (.inl ⟨hN, .inl (by rw [htot]; exact hnew)⟩) hnx (nodup_set R n _) hobj
            (.inl rfl) (fun b hb' _ => a2 b hb') (by
              rw [htot]
              simp only [ObRep]
              rw [hlenN]
              have hμ : ∀ pl, (g.put n (len + xs.length) pl).μ n (len + xs.length) = pl := fun pl => by simp [G.put]
              rw [hμ]
              refine ⟨_, e, olds ++ news, a1, rfl, ⟨rfl, ?_⟩, hallN, hrepN.mono (Le.put (.inl ⟨hN, .inl hnew⟩)), hleafN, fun j v hj => ?_⟩
              · rw [hlenN] at c6; rw [Nat.zero_add]; exact c6
              · rw [Nat.zero_add]; exact c4 j v hj)
          rw [htot] at hput
          refine ⟨_, _, _, hrun, hput.1, hput.2, ?_, Fx.drewAlloc w _⟩
          have hμ : ∀ pl, (g.put n (len + xs.length) pl).μ n (len + xs.length) = pl := fun pl => by simp [G.put]
          refine .own n es (len + xs.length) 0 (len + xs.length) _ _ (by rw [hμ]) (by show n < max g.N (n + 1); omega) (by simp [G.put]) (.inr ?_) hcap (by omega) (by omega) ?_
          · rw [hμ]; simp
          · rw [hμ]
            show 0 + (0 + _) * es ≤ _
            rw [c5]; simp
      · rename_i hoff
        cases H
        have hkillget : ∀ m o, (h.kill n).get m = some o → m ≠ n ∧ h.get m = some o := by
          intro m o hm
          unfold Hp.get Hp.kill at hm
          rw [look_del m R.nd] at hm
          split at hm
          · cases hm
          · exact ⟨by assumption, hm⟩
        by_cases hcp : len + xs.length ≤ cap
        · obtain ⟨w', hrun, hfx, hw', c', hc1, hc2, hc3, hc4⟩ := inRoom hcp
          have hnewB : (Ob.arr es ((els.drop off).take len ++ xs.map norm)).tot = len + xs.length := hlenN
          have hμ : ∀ pl, (g.put h.next (len + xs.length) pl).μ h.next (len + xs.length) = pl := fun pl => by simp [G.put]
          have hput := R.put (h' := (h.kill n).alloc (.arr es ((els.drop off).take len ++ xs.map norm))) (w' := w') h.next (.arr es ((els.drop off).take len ++ xs.map norm)) ⟨(g.μ n els.length).b, (g.μ n els.length).o + off * es, es, c.size⟩
            (.inr R.nx) (by show h.next + 1 = max g.N (h.next + 1); rw [R.nx]; omega) (nodup_alloc (R.kill n) _) (fun m o hm => by
              rw [get_alloc] at hm
              split at hm
              · cases hm; exact .inl ⟨by assumption, rfl⟩
              · exact .inr ⟨by assumption, (hkillget m o hm).2⟩)
            (.inr (.inl ⟨n, _, hn, rfl, fun m o hm hmk => by
              rw [get_alloc] at hm
              rw [if_neg (show ¬ m = (h.kill n).next from hmk)] at hm
              exact (hkillget m o hm).1⟩)) hw' (by
              rw [hnewB]
              simp only [ObRep]
              rw [hlenN, hμ]
              exact ⟨c', cty, olds ++ news, hc1, hc2, ⟨rfl, hc4⟩, hallN, hrepN.mono (Le.put (.inr R.nx)), hleafN, hc3⟩)
          rw [hnewB] at hput
          refine ⟨_, w', _, hrun, hput.1, hput.2, ?_, hfx⟩
          refine .own h.next es (len + xs.length) 0 (len + xs.length) cap q (by rw [hμ]) (by show h.next < max g.N (h.next + 1); omega) (by simp [G.put]) ?_ hcp (by omega) (by omega) ?_
          · rw [hμ]
            simp only [Nat.zero_mul, Nat.add_zero]
            exact hz0
          · rw [hμ]
            show (g.μ n els.length).o + off * es + (0 + cap) * es ≤ c.size
            rw [Nat.zero_add]
            exact hcapsz
        · have hgf := grow_fresh (ty := ty) (xa := xa) (xc := xc) (sCap := cap) (base := some q) (R.kill n) ht ht2 hi hz hs hzc hby hb1 ho1 ho2 hoe ho3 hnr hnf hne hnz' (by rw [hl2]; omega) (by rw [hl2]; exact hroom)
          rw [hl2] at hgf
          exact hgf
  · -- nothing onto a slice that is only read
    rename_i l
    split at H
    · rename_i he
      cases H
      have hd := ha.dI
      cases hd with | lst _ es0 cap q vs hes hc hr hz1 =>
      exact ⟨_, w, g, nothing q _ _ (hemp he) hc, Le.refl g, R, ha, Fx.refl w⟩
    · cases H
  · cases H

theorem zero_made (zc : Array Value) (n : Nat) : (Builtin.zeroCells zc n).toList = (List.replicate n zc.toList).flatMap id := by
  rw [← madeCells_eq]; rfl
theorem appz_ok {s x y z : V} {a b : Value} {h' : Hp} (R : Rel g h w)
    (ht : P.underlying t = some (.slice e)) (ht2 : P.underlying t2 = some (.int .i64)) (hi : P.info? e = some i) (hz : i.zero = some zv) (hs : P.cellsOf e = es) (hby : i.bytes = by_) (hb1 : 1 ≤ by_)
    (hzr : Rep g z zv) (hzs : stor z = true) (hzl : z.cells.length = es)
    (H : appz z es by_ h s x = some (y, h')) (ha : Rep g s a) (hb : Rep g x b) : GivesH P g w (Builtin.append_ #[t, t2] ty #[a, b]) y h' := by
  unfold appz at H
  split at H
  case h_2 => cases H
  rename_i nl
  simp only [Option.bind_eq_some_iff] at H
  obtain ⟨k, hk, H⟩ := H
  split at H
  case isFalse => cases H
  rename_i hc
  obtain ⟨hc1, hc2⟩ := hc
  obtain ⟨q, hbq⟩ : ∃ q, b = .int q (k : Int) := by
    unfold ixOf at hk
    split at hk
    · rename_i q j
      split at hk
      · rename_i hj
        cases hk
        cases hb with | d _ _ hd => cases hd with | int => exact ⟨q, by rw [show ((j.toNat : Nat) : Int) = j by omega]⟩
      · cases hk
    · cases hk
  subst hbq
  obtain ⟨zr, zf⟩ := hzr.cells hzs
  have hzc : zv.cells.size = es := by have := zr.length; rw [Array.length_toList, hzl] at this; exact this
  have ha0 := ha
  cases ha with | tl _ _ es0 p vs hes hr hz0 hn hf =>
  subst hby
  have hrun := append_zeros (P := P) (w := w) (ty := ty) (base := p) (n := k) (q := q) rfl ht ht2 hi hz hs hc1 hb1 hzc
  by_cases h0 : k = 0
  · subst h0
    rw [if_pos rfl] at H hrun
    cases H
    exact ⟨_, w, g, hrun, Le.refl g, R, ha0, Fx.refl w⟩
  · rw [if_neg h0] at H hrun
    cases H
    have hle : k ≤ k * i.bytes := Nat.le_mul_of_pos_right _ hb1
    have hcap := grown_le (w := w) (old := 0) (e := e) (need := k) (by omega)
    have hcs : ((Builtin.zeroCells zv.cells k).toList ++ (Builtin.zeroCells zv.cells (grownCap w k 0 e - k)).toList).toArray.size = grownCap w k 0 e * es := by
      rw [List.size_toArray, List.length_append]
      simp only [Builtin.zeroCells, Array.length_toList, Array.size_map, Array.size_range, hzc]
      rw [← Nat.add_mul]; congr 1; omega
    obtain ⟨k1, k2, k3⟩ := newRow_ok (es := es) (els := List.replicate k z) (vs := (List.replicate k zv.cells.toList).flatMap id) (c := ((Builtin.zeroCells zv.cells k).toList ++ (Builtin.zeroCells zv.cells (grownCap w k 0 e - k)).toList).toArray) (ty := e) (w0 := w.drew) R rfl
      (fun x hx => by rw [List.eq_of_mem_replicate hx]; exact hzl) (made_reps zr k) (fun u hu => by
        obtain ⟨l, hl, hu⟩ := List.mem_flatMap.1 hu
        rw [List.eq_of_mem_replicate hl] at hu
        exact zf u hu) (fun j u hj => by
        rw [← zero_made] at hj
        simp only [List.getElem?_toArray]
        rw [List.getElem?_append_left (lt_of_get hj)]
        exact hj) (by rw [List.length_replicate, hcs]; exact Nat.mul_le_mul_right _ hcap)
    rw [List.length_replicate] at k1 k2 k3
    refine ⟨_, _, _, hrun, k1, k2, ?_, Fx.drewAlloc w _⟩
    refine .own h.next es k 0 k _ _ (by rw [k3]) (by show h.next < max g.N (h.next + 1); omega) (by simp [G.put]) (.inr ?_) hcap (by omega) (by omega) ?_
    · rw [k3]; simp
    · rw [k3]
      show 0 + (0 + _) * es ≤ _
      rw [hcs]
      simp
theorem cpy_ok {s x z : V} {a b : Value} {h' : Hp} (R : Rel g h w)
    (ht : P.underlying t = some (.slice e)) (hi : (P.info? e).isSome = true) (hs : P.cellsOf e = es)
    (H : cpy es h s x = some (z, h')) (ha : Rep g s a) (hb : Rep g x b) : GivesH P g w (Builtin.copy_ #[t, t2] ty #[a, b]) z h' := by
  unfold cpy at H
  simp only [Option.bind_eq_some_iff] at H
  obtain ⟨xs, hxs, H⟩ := H
  obtain ⟨xa, xc, news, rfl, hnr, hnf, hnz⟩ := elems_ok R hxs hb
  split at H
  case isFalse => cases H
  rename_i hall
  have hne := allV_iff hall
  have hnl : news.length = xs.length * es := by rw [hnr.length, flat_len hne]
  have run : ∀ (base : Option Addr) (dLen dCap : Nat) (w' : World), (∀ q, base = some q → (storeCells q (news.take (min xs.length dLen * es))).run P w = .ok () w') → (base = none → w' = w) →
      (Builtin.copy_ #[t, t2] ty #[.slice base dLen dCap, .slice xa xs.length xc]).run P w = .ok (goInt (min xs.length dLen : Nat)) w' := by
    intro base dLen dCap w' hst hno
    have hmul : min xs.length dLen * es ≤ xs.length * es := Nat.mul_le_mul_right _ (Nat.min_le_left _ _)
    have hfc := firstCells_run (P := P) (w0 := w) (w := w) (n := min xs.length dLen) (m := xs.length) (xc := xc) (xa := xa) (es := es) (vs := news.take (min xs.length dLen * es)) rfl (by rw [List.length_take]; omega) (by
      rcases hnz with h0 | ⟨b, p, e1, e2⟩
      · left; rw [h0]; simp
      · right
        refine ⟨b, p, e1, fun j v hj => ?_⟩
        rw [List.getElem?_take] at hj
        split at hj
        · exact e2 j v hj
        · cases hj)
    have hsz : (Go.sizeOf e).run P w = .ok es w := by rw [run_sizeOf' hi, hs]
    cases base with
    | none =>
      obtain rfl := hno rfl
      simp [Builtin.copy_, run_underlying ht, Builtin.lenOf, hsz, hfc]
    | some q => simp [Builtin.copy_, run_underlying ht, Builtin.lenOf, hsz, hfc, hst q rfl]
  split at H
  · rename_i n e' tot off len
    simp only [Option.bind_eq_some_iff] at H
    obtain ⟨⟨es1, els⟩, hrow, H⟩ := H
    obtain ⟨hn, rfl⟩ := row_get hrow
    simp only at H
    split at H
    case isFalse => cases H
    rename_i hcond
    obtain ⟨hle, he1, he2⟩ := hcond
    rw [he1] at hn H
    cases H
    obtain ⟨hnN, hnB, hob⟩ := R.ob n _ hn
    obtain ⟨c, cty, vs, h1, h2, h3, h4, h5, h6, h7⟩ := hob
    cases ha with | own _ _ _ _ _ cap q hes hN hB hz0 hl hto hc hsz =>
    rw [h3.1] at hz0 hsz
    have hvl : vs.length = els.length * es := by rw [h5.length, flat_len h4]
    have hkl : (news.take (min xs.length len * es)).length = min xs.length len * es := by
      have hmul : min xs.length len * es ≤ xs.length * es := Nat.mul_le_mul_right _ (Nat.min_le_left _ _)
      rw [List.length_take]; omega
    have hm3 : (off + min xs.length len) * es ≤ els.length * es := Nat.mul_le_mul_right _ (by omega)
    have hm4 : (off + min xs.length len) * es = off * es + min xs.length len * es := Nat.add_mul ..
    have hsp := splice_at (k := off * es) (xv := news.take (min xs.length len * es)) h7 (by omega)
    obtain ⟨k1, k2, k3⟩ := heap_setRow (c' := (c.toList.take ((g.μ n els.length).o + off * es) ++ news.take (min xs.length len * es) ++ c.toList.drop ((g.μ n els.length).o + off * es + (news.take (min xs.length len * es)).length)).toArray) h1
    have hb3 := h3.2
    rw [← h2] at hb3
    -- in both cases the machine comes to this row
    have hrun : ∃ w', (Builtin.copy_ #[t, t2] ty #[.slice (some q) len cap, .slice xa xs.length xc]).run P w = .ok (goInt (min xs.length len : Nat)) w' ∧ Fx w w' ∧
        (∀ d, d < w.heap.size → d ≠ (g.μ n els.length).b → w'.heap[d]? = w.heap[d]?) ∧ ∃ c', w'.heap[(g.μ n els.length).b]? = some (.cells c' cty (0, 0)) ∧ c'.size = c.size ∧
          ∀ (j : Nat) (v : Value), (vs.take (off * es) ++ news.take (min xs.length len * es) ++ vs.drop (off * es + (news.take (min xs.length len * es)).length))[j]? = some v → c'[(g.μ n els.length).o + j]? = some v := by
      rcases hz0 with hz0 | hz0
      · -- no cell is written
        have h0 : min xs.length len = 0 := by omega
        refine ⟨w, run (some q) len cap w (fun p hp => by rw [h0]; simp [storeCells]) (fun hp => by cases hp), Fx.refl w, fun _ _ _ => rfl, c, h1, rfl, fun j v hj => ?_⟩
        rw [h0] at hj
        simp at hj
        exact h7 j v hj
      · refine ⟨_, run (some q) len cap _ (fun p hp => ?_) (fun hp => by cases hp), k3, k2, _, k1, ?_, hsp⟩
        · cases hp
          rw [hz0]
          have hst := run_storeCells_at P (g.μ n els.length).b ((g.μ n els.length).o + off * es) cty (news.take (min xs.length len * es)) 0 c w h1 (by omega) (fun u hu => leaf_one (hnf u (List.mem_of_mem_take hu)))
          simp only [Nat.add_zero] at hst
          exact hst
        · simp only [List.size_toArray, List.length_append, List.length_take, List.length_drop, Array.length_toList]
          rw [List.length_take] at hkl
          omega
    obtain ⟨w', hr, hfx, hw', c', hc1, hc2, hc3⟩ := hrun
    have hlen : (els.take off ++ xs.take (min xs.length len) ++ els.drop (off + min xs.length len)).length = els.length := by
      simp only [List.length_append, List.length_take, List.length_drop]
      omega
    refine ⟨_, w', g, hr, Le.refl g, ?_, .d _ _ (.int _ _), hfx⟩
    refine R.set hn (by simp only [Ob.tot]; exact hlen) (fun d hd hne => hw' d hd hne) ?_
    simp only [ObRep]
    rw [hlen]
    refine ⟨c', cty, _, hc1, by rw [hc2, h2], h3, ?_, ?_, ?_, hc3⟩
    · intro y hy
      simp only [List.mem_append] at hy
      rcases hy with (hy | hy) | hy
      · exact h4 y (List.mem_of_mem_take hy)
      · exact hne y (List.mem_of_mem_take hy)
      · exact h4 y (List.mem_of_mem_drop hy)
    · rw [List.flatMap_append, List.flatMap_append, ← flat_take _ h4, ← flat_drop _ h4, ← flat_take _ hne, hm4, hkl]
      exact ((h5.take _).app (hnr.take _)).app (h5.drop _)
    · intro u hu
      simp only [List.mem_append] at hu
      rcases hu with (hu | hu) | hu
      · exact h6 u (List.mem_of_mem_take hu)
      · exact hnf u (List.mem_of_mem_take hu)
      · exact h6 u (List.mem_of_mem_drop hu)
  · cases H
    cases ha with | tl _ _ es0 q vs hes hr hz0 hn hf =>
    refine ⟨_, w, g, run q 0 0 w (fun p hp => by simp [storeCells]) (fun _ => rfl), Le.refl g, R, ?_, Fx.refl w⟩
    have : min xs.length 0 = 0 := Nat.min_zero _
    rw [this]
    exact .d _ _ (.int _ _)
  · cases H

theorem elems0_eq {x : V} {l : List V} (H : elems0 x = some l) : elems h x = some l := by
  unfold elems0 at H
  split at H <;> first | (cases H; rfl) | cases H

theorem appd_ok {s x z : V} {a b : Value} (R : Rel g h w)
    (ht : P.underlying t = some (.slice e)) (ht2 : P.underlying t2 = some (.slice e2)) (hi : P.info? e = some i) (hz : i.zero = some zv) (hs : P.cellsOf e = es) (hzc : zv.cells.size = es) (hby : i.bytes = by_) (hb1 : 1 ≤ by_)
    (H : appd es by_ s x = some z) (ha : Rep g s a) (hb : Rep g x b) : GivesH P g w (Builtin.append_ #[t, t2] ty #[a, b]) z h := by
  unfold appd at H
  split at H
  case h_2 => cases H
  rename_i l nl
  simp only [Option.bind_eq_some_iff] at H
  obtain ⟨xs, hxs, H⟩ := H
  obtain ⟨xa, xc, news, rfl, hnr, hnf, hnz⟩ := elems_ok R (elems0_eq hxs) hb
  split at H
  case isFalse => cases H
  rename_i hall
  have hne := allV_iff hall
  have hnl : news.length = xs.length * es := by rw [hnr.length, flat_len hne]
  have hnz' : xs.length = 0 ∨ ∃ b p, xa = some ⟨b, p, none⟩ ∧ ∀ (j : Nat) (v : Value), news[j]? = some v → w.cell? ⟨b, p + j, none⟩ = some v := hnz.imp (fun h => by rw [h]; rfl) id
  have hfc := firstCells_run (P := P) (w0 := w) (w := w) (m := xs.length) (xc := xc) rfl hnl hnz'
  have hemp : (xs.map norm).isEmpty = true → xs = [] := by simp
  have hlm : (xs.map norm).length = xs.length := List.length_map ..
  have ha0 := ha
  cases ha with | tl _ _ es0 q vs hes hr hz0 hn hf =>
  split at H
  · rename_i he
    simp only [Option.map_eq_some_iff] at H
    obtain ⟨d, hd, rfl⟩ := H
    have h0 := hemp he
    subst h0
    have hn0 : news = [] := List.eq_nil_of_length_eq_zero (by simpa using hnl)
    subst hn0
    exact ⟨_, w, g, append_room (P := P) (ty := ty) ht ht2 hi hs (n := 0) (by simp) hfc (fun a _ => rfl) (fun _ => rfl), Le.refl g, R, .d _ _ (ha0.toD hd), Fx.refl w⟩
  · rename_i he
    split at H
    · rename_i hc
      obtain ⟨hroom, hc2⟩ := hc
      simp only [Option.map_eq_some_iff] at H
      obtain ⟨ds, hds, rfl⟩ := H
      rw [hlm] at hroom
      have hoe := allV_iff hc2
      have hpos : 0 < xs.length := by
        rcases Nat.eq_zero_or_pos xs.length with h0 | h0
        · exact absurd (by rw [List.eq_nil_of_length_eq_zero h0]; rfl) he
        · exact h0
      have hoz : l.length = 0 ∨ ∃ b p, q = some ⟨b, p, none⟩ ∧ ∀ (j : Nat) (v : Value), vs[j]? = some v → w.cell? ⟨b, p + j, none⟩ = some v := hz0.imp (fun h => by rw [h]; rfl) fun ⟨b, p, e1, e2⟩ => ⟨b, p, e1, fun j v hj => cell_of R (e2 j v hj)⟩
      subst hby
      have hol : vs.length = l.length * es := by rw [hr.length, flat_len hoe]
      have hle : l.length + xs.length ≤ (l.length + xs.length) * i.bytes := Nat.le_mul_of_pos_right _ hb1
      have hroom' : (l.length + xs.length) * i.bytes ≤ 140737488355328 := hroom
      have hcap := grown_le (w := w) (old := l.length) (e := e) (need := l.length + xs.length) (by omega)
      have hrun := append_grow (P := P) (w := w) (ty := ty) ht ht2 hi hz hs (show l.length < l.length + xs.length by omega) (firstCells_run (w0 := w.drew) (w := w) rfl hol hoz) (firstCells_run (w0 := w.drew) (w := w) (m := xs.length) (xc := xc) rfl hnl hnz') hroom hb1
      obtain ⟨c1, c2, c3, c4, c5, c6⟩ := grow_cells (g := g) hzc hr hf hoe hnr hnf hne hcap
      obtain ⟨a1, a2, a3⟩ := heap_alloc w.drew (.cells (vs ++ news ++ (Builtin.zeroCells zv.cells (grownCap w (l.length + xs.length) l.length e - (l.length + xs.length))).toList).toArray e)
      obtain ⟨b1, b2⟩ := R.fix _ a1 a2
      refine ⟨_, _, _, hrun, b1, b2, ?_, Fx.drewAlloc w _⟩
      have hlen : ds.length = l.length + xs.length := by rw [← toDs_length hds, List.length_append, List.length_map]
      have key := RepD.lst (φ := (g.fix w.heap.size (.cells (vs ++ news ++ (Builtin.zeroCells zv.cells (grownCap w (l.length + xs.length) l.length e - (l.length + xs.length))).toList).toArray e)).φ) ds es (grownCap w (l.length + xs.length) l.length e) (some ⟨w.heap.size, 0, none⟩) (vs ++ news)
        (toDs_es hds c1) (by rw [hlen]; exact hcap) ((c2.mono b1).toDs (toDs_flat hds) c3) (.inr ⟨_, _, rfl, fun j v hj => by
          show cellφ (fun c => if c = w.heap.size then some _ else g.φ c) w.heap.size (0 + j) = some v
          simp only [cellφ, if_true]
          rw [Nat.zero_add]
          exact c4 j v hj⟩)
      rw [hlen] at key
      exact .d _ _ key
    · cases H

end
end Zv
end
section
set_option linter.unusedSimpArgs false
set_option linter.unusedVariables false
set_option linter.unusedSimpArgs false
namespace Zv
open Go

section
variable {P : Program} {g : G} {h : Hp} {w : World}

def kkOk (P : Program) (k : KK) (t : TypeId) : Bool :=
  match k, P.underlying t with
  | .i, some (.int _) => true
  | .s, some .string => true
  | .b, some .bool => true
  | _, _ => false

theorem kk_desc {k : KK} {t : TypeId} (hk : kkOk P k t = true) : ∃ d, P.underlying t = some d ∧ ((k = .i ∧ ∃ q, d = .int q) ∨ (k = .s ∧ d = .string) ∨ (k = .b ∧ d = .bool)) := by
  unfold kkOk at hk
  split at hk
  · exact ⟨_, by assumption, .inl ⟨rfl, _, rfl⟩⟩
  · exact ⟨_, by assumption, .inr (.inl ⟨rfl, rfl⟩)⟩
  · exact ⟨_, by assumption, .inr (.inr ⟨rfl, rfl⟩)⟩
  · cases hk

theorem sameNow_ok {k : KK} {t : TypeId} {d : TypeDesc} (hk : kkOk P k t = true) (hd : P.underlying t = some d) {x y : D} {a b : Value} {r : Bool} (h : keyEq k x y = some r) (ha : RepD g.φ x a) (hb : RepD g.φ y b) :
    Instr.sameNow d a b = some r ∧ (r = true → Instr.sameBits 10000 b a = true) := by
  obtain ⟨d', hd', hc⟩ := kk_desc hk
  rw [hd] at hd'
  cases hd'
  unfold keyEq at h
  split at h
  · cases ha; cases hb
    rcases hc with ⟨_, q, rfl⟩ | ⟨e, _⟩ | ⟨e, _⟩
    · split at h
      · rename_i e; subst e; cases h
        refine ⟨by simp [Instr.sameNow], fun hr => ?_⟩
        have := eq_of_beq hr
        subst this
        simp [Instr.sameBits]
      · cases h
    · cases e
    · cases e
  · cases ha; cases hb
    rcases hc with ⟨e, _⟩ | ⟨_, rfl⟩ | ⟨e, _⟩
    · cases e
    · cases h
      refine ⟨by simp [Instr.sameNow, ba_beq], fun hr => ?_⟩
      have := of_decide_eq_true hr
      subst this
      simp [Instr.sameBits, ba_beq]
    · cases e
  · cases ha; cases hb
    rcases hc with ⟨e, _⟩ | ⟨e, _⟩ | ⟨_, rfl⟩
    · cases e
    · cases e
    · cases h
      refine ⟨by simp [Instr.sameNow], fun hr => ?_⟩
      have := eq_of_beq hr
      subst this
      simp [Instr.sameBits]
  · cases h

theorem findK_ok {kk : KK} {t : TypeId} {d : TypeDesc} (hk : kkOk P kk t = true) (hd : P.underlying t = some d) {k : D} {a : Value} (ha : RepD g.φ k a) : ∀ {kvs : List (D × V)} {es : List MapEntry} {r : Option V} (i : Nat), RepKvs g kvs es → findK kk k kvs = some r →
    ∃ q, Instr.findNow d a es i = some q ∧ ((r = none ∧ q = none) ∨ ∃ x j v, r = some x ∧ q = some (i + j, v) ∧ Rep g x v)
  | _, _, r, i, .nil, h => by simp only [findK] at h; cases h; exact ⟨none, rfl, .inl ⟨rfl, rfl⟩⟩
  | _, _, r, i, .cons k' x l e es hk' hx hs, h => by
    simp only [findK] at h
    split at h
    · rename_i hq
      cases h
      have := (sameNow_ok hk hd hq ha hk').1
      exact ⟨some (i, e.val), by simp [Instr.findNow, this], .inr ⟨x, 0, e.val, rfl, rfl, hx⟩⟩
    · rename_i hq
      have hsn := (sameNow_ok hk hd hq ha hk').1
      obtain ⟨q, h1, h2⟩ := findK_ok hk hd ha (i + 1) hs h
      refine ⟨q, by simp [Instr.findNow, hsn, h1], ?_⟩
      rcases h2 with h2 | ⟨x', j, v, e1, e2, e3⟩
      · exact .inl h2
      · exact .inr ⟨x', j + 1, v, e1, by rw [e2]; congr 2; omega, e3⟩
    · cases h

theorem checkKey_run {kk : KK} {t : TypeId} (hk : kkOk P kk t = true) (b : Bool) (a : Value) : (Instr.checkKey b 10000 t a).run P w = .ok () w := by
  obtain ⟨d, hd, hc⟩ := kk_desc hk
  have : ∀ n, (Instr.checkKey b (n + 1) t a).run P w = .ok () w := by
    intro n
    rcases hc with ⟨_, q, rfl⟩ | ⟨_, rfl⟩ | ⟨_, rfl⟩ <;> simp [Instr.checkKey, run_underlying hd]
  exact this 9999

theorem getObj_run {r : Nat} {es : Array MapEntry} {cl : Nat} (hb : w.heap[r]? = some (.map es cl)) : (getObj r).run P w = .ok (.map es cl) w := by
  simp [getObj, Sem.run, hb]

theorem entries_ok {x : V} {kvs : List (D × V)} {a : Value} (R : Rel g h w) (H : entries h x = some kvs) (ha : Rep g x a) :
    (a = .map none ∧ kvs = []) ∨ ∃ n es cl, x = .map n ∧ h.get n = some (.mp kvs) ∧ a = .map (some (g.μ n 0).b) ∧ w.heap[(g.μ n 0).b]? = some (.map es cl) ∧ RepKvs g kvs es.toList := by
  unfold entries at H
  split at H
  · rename_i n
    split at H
    · rename_i q hq
      cases H
      obtain ⟨es, cl, h1, h2⟩ := (R.ob n _ hq).2.2
      cases ha
      exact .inr ⟨n, es, cl, rfl, hq, rfl, h1, h2⟩
    · cases H
  · cases H
    cases ha.dI
    exact .inl ⟨rfl, rfl⟩
  · cases H

theorem RepKvs.length : ∀ {l : List (D × V)} {es : List MapEntry}, RepKvs g l es → es.length = l.length
  | _, _, .nil => rfl
  | _, _, .cons _ _ _ _ _ _ _ hs => by simp [RepKvs.length hs]

theorem lenM_ok {t k e ty : TypeId} {x z : V} {a : Value} (R : Rel g h w) (ht : P.underlying t = some (.map k e)) (H : lenM h x = some z) (ha : Rep g x a) : Gives P g w (Builtin.len_ #[t] ty #[a]) z := by
  unfold lenM at H
  simp only [Option.map_eq_some_iff] at H
  obtain ⟨kvs, hk, rfl⟩ := H
  rcases entries_ok R hk ha with ⟨rfl, rfl⟩ | ⟨n, es, cl, rfl, h1, rfl, h2, h3⟩
  · exact ⟨goInt 0, by simp [Builtin.len_, run_underlying ht], .d _ _ (.int _ _)⟩
  · refine ⟨goInt es.size, by simp [Builtin.len_, run_underlying ht, getObj_run h2], ?_⟩
    have := h3.length
    rw [Array.length_toList] at this
    rw [this]
    exact .d _ _ (.int _ _)

theorem lk_ok {t k e : TypeId} {i : TypeInfo} {zv : Value} {kk : KK} {z : V} {ok : Bool} {m x y : V} {a b : Value} (R : Rel g h w) (ht : P.underlying t = some (.map k e)) (hkk : kkOk P kk k = true)
    (hi : P.info? e = some i) (hz : i.zero = some zv) (hzr : Rep g z zv) (H : lk kk z ok h m x = some y) (ha : Rep g m a) (hb : Rep g x b) : Gives P g w (Instr.lookup t a b ok) y := by
  unfold lk at H
  split at H
  case h_2 => cases H
  rename_i q
  simp only [Option.bind_eq_some_iff, Option.map_eq_some_iff] at H
  obtain ⟨kvs, hkvs, r, hr, rfl⟩ := H
  obtain ⟨d, hd, _⟩ := kk_desc hkk
  have hzero : (zeroValue e).run P w = .ok zv w := by simp [zeroValue, typeInfo, hi, hz]
  have fin : ∀ v, (Instr.lookup t a b ok).run P w = .ok (if ok = true then .tuple #[v, .bool r.isSome] else v) w → Rep g (r.getD z) v → Gives P g w (Instr.lookup t a b ok) (if ok = true then .tup [r.getD z, .d (.bool r.isSome)] else r.getD z) := by
    intro v h5 h6
    refine ⟨_, h5, ?_⟩
    cases ok
    · exact h6
    · exact .tup _ [v, .bool r.isSome] (.cons _ _ _ _ h6 (.cons _ _ _ _ (.d _ _ (.bool _)) .nil))
  rcases entries_ok R hkvs ha with ⟨rfl, rfl⟩ | ⟨n, es, cl, rfl, h1, rfl, h2, h3⟩
  · simp only [findK] at hr
    cases hr
    refine fin zv ?_ hzr
    have hfind : (Instr.findKey k b []).run P w = .ok none w := by
      simp only [Instr.findKey, Sem.run_bind, run_underlying hd, Result.andThen_ok, Instr.findNow, Sem.run_pure]
    simp only [Instr.lookup, Sem.run_bind, run_underlying ht, Result.andThen_ok, checkKey_run hkk, Sem.run_pure, hfind, hzero]
    cases ok <;> rfl
  · obtain ⟨q', hq1, hq2⟩ := findK_ok hkk hd hb.dI 0 h3 hr
    have hfind : (Instr.findKey k b es.toList).run P w = .ok q' w := by
      simp only [Instr.findKey, Sem.run_bind, run_underlying hd, Result.andThen_ok, hq1, Sem.run_pure]
    rcases hq2 with ⟨rfl, rfl⟩ | ⟨x', j, v, rfl, rfl, hv⟩
    · refine fin zv ?_ hzr
      simp only [Instr.lookup, Sem.run_bind, run_underlying ht, Result.andThen_ok, getObj_run h2, checkKey_run hkk, Sem.run_pure, hfind, hzero]
      cases ok <;> rfl
    · refine fin v ?_ hv
      simp only [Instr.lookup, Sem.run_bind, run_underlying ht, Result.andThen_ok, getObj_run h2, checkKey_run hkk, Sem.run_pure, hfind]
      cases ok <;> rfl

theorem putK_ok {kk : KK} {t : TypeId} {d : TypeDesc} (hk : kkOk P kk t = true) (hd : P.underlying t = some d) {k : D} {x : V} {a v : Value} (ha : RepD g.φ k a) (hv : Rep g x v) : ∀ {kvs s : List (D × V)} {es : List MapEntry} (i : Nat), RepKvs g kvs es → putK kk k x kvs = some s →
    (Instr.findNow d a es i = some none ∧ s = kvs ++ [(k, x)]) ∨
      ∃ j e u, Instr.findNow d a es i = some (some (i + j, u)) ∧ es[j]? = some e ∧ Instr.sameBits 10000 e.key a = true ∧ RepKvs g s (es.set j { e with key := a, val := v })
  | _, s, _, i, .nil, h => by simp only [putK] at h; cases h; exact .inl ⟨rfl, rfl⟩
  | _, s, _, i, .cons k' x' l e es hk' hx hs, h => by
    simp only [putK] at h
    split at h
    · rename_i hq
      cases h
      have := sameNow_ok hk hd hq ha hk'
      refine .inr ⟨0, e, e.val, by simp [Instr.findNow, this.1], rfl, this.2 rfl, ?_⟩
      exact .cons k x l _ es ha hv hs
    · rename_i hq
      simp only [Option.map_eq_some_iff] at h
      obtain ⟨s', hs', rfl⟩ := h
      have hsn := (sameNow_ok hk hd hq ha hk').1
      rcases putK_ok hk hd ha hv (i + 1) hs hs' with ⟨h1, rfl⟩ | ⟨j, e', u, h1, h2, h3, h4⟩
      · exact .inl ⟨by simp [Instr.findNow, hsn, h1], rfl⟩
      · refine .inr ⟨j + 1, e', u, by simp [Instr.findNow, hsn, h1]; omega, by simpa using h2, h3, ?_⟩
        exact .cons k' x' s' e _ hk' hx h4
    · cases h

theorem RepKvs.snoc {k : D} {x : V} {e : MapEntry} (hk : RepD g.φ k e.key) (hx : Rep g x e.val) : ∀ {l : List (D × V)} {es : List MapEntry}, RepKvs g l es → RepKvs g (l ++ [(k, x)]) (es ++ [e])
  | _, _, .nil => .cons k x [] e [] hk hx .nil
  | _, _, .cons k' x' l e' es hk' hx' hs => .cons k' x' _ e' _ hk' hx' (RepKvs.snoc hk hx hs)

theorem heap_setObj {r : Nat} {o o' : Obj} (hb : w.heap[r]? = some o) :
    ({ w with heap := w.heap.setIfInBounds r o' } : World).heap[r]? = some o' ∧ (∀ d, d < w.heap.size → d ≠ r → ({ w with heap := w.heap.setIfInBounds r o' } : World).heap[d]? = w.heap[d]?) ∧ Fx w { w with heap := w.heap.setIfInBounds r o' } := by
  have hlt := (Array.getElem?_eq_some_iff.1 hb).1
  refine ⟨by simp [hlt], fun d hd hne => ?_, ⟨rfl, rfl, rfl, by simp⟩⟩
  simp only [Array.getElem?_setIfInBounds]
  rw [if_neg (fun e => hne e.symm)]

theorem mu_ok {t k e : TypeId} {kk : KK} {m x y : V} {a b c : Value} {h' : Hp} (R : Rel g h w) (ht : P.underlying t = some (.map k e)) (hkk : kkOk P kk k = true)
    (H : mu kk h m x y = some h') (ha : Rep g m a) (hb : Rep g x b) (hc : Rep g y c) : GivesU P g w (Instr.mapUpdate t a b c) h' := by
  unfold mu at H
  split at H
  case h_2 => cases H
  rename_i n q
  split at H
  case h_2 => cases H
  rename_i kvs hn
  split at H
  case isFalse => cases H
  simp only [Option.map_eq_some_iff] at H
  obtain ⟨s, hs, rfl⟩ := H
  obtain ⟨d, hd, _⟩ := kk_desc hkk
  obtain ⟨es, cl, h1, h2⟩ := (R.ob n _ hn).2.2
  cases ha
  have hset : ∀ o', (setObj (g.μ n 0).b o').run P w = .ok () { w with heap := w.heap.setIfInBounds (g.μ n 0).b o' } := fun o' => by simp [setObj, Sem.run, h1]
  have fin : ∀ (es' : Array MapEntry) (cl' : Nat), RepKvs g s es'.toList → (Instr.mapUpdate t (.map (some (g.μ n 0).b)) b c).run P w = .ok () { w with heap := w.heap.setIfInBounds (g.μ n 0).b (.map es' cl') } → GivesU P g w (Instr.mapUpdate t (.map (some (g.μ n 0).b)) b c) (h.set n (.mp s)) := by
    intro es' cl' hr hrun
    obtain ⟨k1, k2, k3⟩ := heap_setObj (o' := .map es' cl') h1
    exact ⟨_, g, hrun, Le.refl g, R.set hn rfl (fun d hd hne => k2 d hd hne) ⟨es', cl', k1, hr⟩, k3⟩
  rcases putK_ok hkk hd hb.dI hc.norm 0 h2 hs with ⟨f1, rfl⟩ | ⟨j, e', u, f1, f2, f3, f4⟩
  · refine fin (es.push { key := b, val := c, born := cl }) (cl + 1) (by rw [Array.toList_push]; exact RepKvs.snoc hb.dI hc.norm h2) ?_
    have hfind : (Instr.findKey k b es.toList).run P w = .ok none w := by
      simp only [Instr.findKey, Sem.run_bind, run_underlying hd, Result.andThen_ok, f1, Sem.run_pure]
    simp only [Instr.mapUpdate, Sem.run_bind, run_underlying ht, Result.andThen_ok, getObj_run h1, checkKey_run hkk, hfind, hset]
  · have hfind : (Instr.findKey k b es.toList).run P w = .ok (some (0 + j, u)) w := by
      simp only [Instr.findKey, Sem.run_bind, run_underlying hd, Result.andThen_ok, f1, Sem.run_pure]
    rw [Nat.zero_add] at hfind
    have f2' : es[j]? = some e' := by rw [← Array.getElem?_toList]; exact f2
    have hm : (es.modify j fun e => { e with key := b, val := c }).toList = es.toList.set j { e' with key := b, val := c } := by
      apply List.ext_getElem?
      intro l
      rw [Array.getElem?_toList, Array.getElem?_modify, List.getElem?_set]
      have hjl : j < es.toList.length := lt_of_get f2
      by_cases hl : j = l
      · subst hl
        rw [if_pos rfl, if_pos rfl, if_pos hjl, f2']
        rfl
      · rw [if_neg hl, if_neg hl, Array.getElem?_toList]
    refine fin (es.modify j fun e => { e with key := b, val := c }) cl (by rw [hm]; exact f4) ?_
    have hkey : (Instr.keyThatStays e'.key b).run P w = .ok b w := by simp [Instr.keyThatStays, f3]
    simp only [Instr.mapUpdate, Sem.run_bind, run_underlying ht, Result.andThen_ok, getObj_run h1, checkKey_run hkk, hfind, f2', Option.map_some, Option.getD_some, hkey, hset]

theorem mkmap_ok {t : TypeId} (R : Rel g h w) : GivesH P g w (Instr.makeMap t none) (.map h.next) (h.alloc (.mp [])) := by
  obtain ⟨a1, a2, a3⟩ := heap_alloc w (.map #[] 0)
  have hμ : (g.put h.next 0 ⟨w.heap.size, 0, 0, 0⟩).μ h.next 0 = ⟨w.heap.size, 0, 0, 0⟩ := by simp [G.put]
  have := R.alloc (.mp []) ⟨w.heap.size, 0, 0, 0⟩ rfl a2 (by
    simp only [Ob.tot, ObRep]
    rw [hμ]
    exact ⟨#[], 0, a1, .nil⟩)
  refine ⟨.map (some w.heap.size), w.alloc (.map #[] 0), _, rfl, this.1, this.2, ?_, a3⟩
  have hr := Rep.map (g := g.put h.next 0 ⟨w.heap.size, 0, 0, 0⟩) h.next (by show h.next < max g.N (h.next + 1); omega)
  rw [hμ] at hr
  exact hr
theorem mkmapR_ok {t k e : TypeId} {q : IntKind} {n : Int} (R : Rel g h w) (ht : P.underlying t = some (.map k e)) : GivesH P g w (Instr.makeMap t (some (.int q n))) (.map h.next) (h.alloc (.mp [])) := by
  obtain ⟨v, w', g', h1, h2⟩ := mkmap_ok (P := P) (t := t) R
  refine ⟨v, w', g', ?_, h2⟩
  rw [← h1]
  simp [Instr.makeMap, run_underlying ht, asInt, asIntOf]

/-! ### Structs of scalars -/

def fsOk (P : Program) : Nat → List KK → List Field → Bool
  | _, [], [] => true
  | i, k :: ks, f :: fs => f.offset == i && (f.name != "_") && kkOk P k f.type && fsOk P (i + 1) ks fs
  | _, _, _ => false

def eqTyOk (P : Program) (ks : List KK) (t : TypeId) : Bool :=
  match P.underlying t with
  | some (.struct fs) => !P.stoodInHeld t && !P.eqGuardType P.depth t && fsOk P 0 ks fs.toList
  | _ => false

theorem eqIn_scalar {k : KK} {t : TypeId} (hk : kkOk P k t = true) (d : Nat) {x y : D} {a b : Value} {r : Bool} (h : keyEq k x y = some r) (ha : RepD g.φ x a) (hb : RepD g.φ y b) :
    (Op.equalIn (d + 1) t a b).run P w = .ok r w := by
  obtain ⟨q, hd, hc⟩ := kk_desc hk
  unfold keyEq at h
  split at h
  · cases ha; cases hb
    rcases hc with ⟨_, q, rfl⟩ | ⟨e, _⟩ | ⟨e, _⟩
    · split at h
      · rename_i e; subst e; cases h
        simp [Op.equalIn, run_underlying hd]
      · cases h
    · cases e
    · cases e
  · cases ha; cases hb
    rcases hc with ⟨e, _⟩ | ⟨_, rfl⟩ | ⟨e, _⟩
    · cases e
    · cases h
      simp [Op.equalIn, run_underlying hd, ba_beq]
    · cases e
  · cases ha; cases hb
    rcases hc with ⟨e, _⟩ | ⟨e, _⟩ | ⟨_, rfl⟩
    · cases e
    · cases e
    · cases h
      simp [Op.equalIn, run_underlying hd]
  · cases h

theorem part_scalar {k : KK} {t : TypeId} (hk : kkOk P k t = true) {cs : Array Value} {off : Nat} {v : Value} (hv : cs[off]? = some v) : (part t cs off).run P w = .ok v w := by
  obtain ⟨q, hd, hc⟩ := kk_desc hk
  have hag : agOf P t = false := by
    unfold agOf
    rw [hd]
    rcases hc with ⟨_, q, rfl⟩ | ⟨_, rfl⟩ | ⟨_, rfl⟩ <;> rfl
  simp only [part, Sem.run_bind, run_isAgg' (by rw [hd]; rfl), Result.andThen_ok, hag]
  simp [hv]

theorem forIn_eq (d : Nat) (xs ys : Array Value) : ∀ (fs : List Field) (ks : List KK) (i : Nat) (l m : List D) (r : Bool), fsOk P i ks fs = true → D.eqs ks l m = some r →
    (∀ j x, l[j]? = some x → ∃ v, xs[i + j]? = some v ∧ RepD g.φ x v) → (∀ j x, m[j]? = some x → ∃ v, ys[i + j]? = some v ∧ RepD g.φ x v) →
    ∃ s : Option Bool × Unit, (forIn fs (none, ()) (fun (f : Field) (_ : Option Bool × Unit) =>
        (if f.name ≠ "_" then do
          let a ← part f.type xs f.offset
          let b ← part f.type ys f.offset
          let c ← Op.equalIn (d + 1) f.type a b
          if (!c) = true then pure (ForInStep.done (some false, ())) else pure (ForInStep.yield (none, ()))
        else pure (ForInStep.yield (none, ())) : Sem (ForInStep (Option Bool × Unit))))).run P w = .ok s w ∧ (s = (none, ()) ∧ r = true ∨ s = (some false, ()) ∧ r = false)
  | [], [], i, [], [], r, _, h, _, _ => by
    simp only [D.eqs] at h
    cases h
    exact ⟨(none, ()), rfl, .inl ⟨rfl, rfl⟩⟩
  | f :: fs, k :: ks, i, x :: l, y :: m, r, hf, h, hx, hy => by
    simp only [fsOk, Bool.and_eq_true] at hf
    obtain ⟨⟨⟨ho, hn⟩, hk⟩, hf'⟩ := hf
    simp only [D.eqs] at h
    cases h1 : keyEq k x y with
    | none => rw [h1] at h; cases h
    | some b1 =>
      cases h2 : D.eqs ks l m with
      | none => rw [h1, h2] at h; cases h
      | some b2 =>
        rw [h1, h2] at h
        cases h
        obtain ⟨vx, hvx, rx⟩ := hx 0 x rfl
        obtain ⟨vy, hvy, ry⟩ := hy 0 y rfl
        have ho' : f.offset = i := by simpa using ho
        have hn' : f.name ≠ "_" := by simpa using hn
        have e := eqIn_scalar (w := w) hk d h1 rx ry
        rw [Nat.add_zero] at hvx hvy
        rw [List.forIn_cons]
        simp only [if_pos hn', Sem.run_bind, ho', part_scalar hk hvx, part_scalar hk hvy, Result.andThen_ok, e]
        cases b1
        · exact ⟨(some false, ()), rfl, .inr ⟨rfl, rfl⟩⟩
        · simp only [Bool.not_true, Bool.false_eq_true, if_false, Sem.run_pure, Result.andThen_ok, Bool.true_and]
          exact forIn_eq d xs ys fs ks (i + 1) l m b2 hf' h2 (fun j z hz => by
            have := hx (j + 1) z (by simpa using hz)
            rwa [show i + (j + 1) = i + 1 + j from by omega] at this) (fun j z hz => by
            have := hy (j + 1) z (by simpa using hz)
            rwa [show i + (j + 1) = i + 1 + j from by omega] at this)
  | [], _ :: _, _, _, _, _, hf, _, _, _ => by cases hf
  | _ :: _, [], _, _, _, _, hf, _, _, _ => by cases hf
  | [], [], _, _ :: _, _, _, _, h, _, _ => by cases h
  | [], [], _, [], _ :: _, _, _, h, _, _ => by cases h
  | _ :: _, _ :: _, _, [], _, _, _, h, _, _ => by cases h
  | _ :: _, _ :: _, _, _ :: _, [], _, _, h, _, _ => by cases h

theorem aggEq_run {ks : List KK} {t : TypeId} (ht : eqTyOk P ks t = true) (d : Nat) {l m : List D} {r : Bool} {a b : Value} (h : D.eqs ks l m = some r) (ha : RepD g.φ (.agg l) a) (hb : RepD g.φ (.agg m) b) :
    (Op.equalIn (d + 2) t a b).run P w = .ok r w := by
  unfold eqTyOk at ht
  split at ht
  case h_2 => cases ht
  rename_i fs hu
  simp only [Bool.and_eq_true, Bool.not_eq_true'] at ht
  obtain ⟨⟨h1, _⟩, h3⟩ := ht
  cases ha with | agg _ vs hr =>
  cases hb with | agg _ us hq =>
  have hx : ∀ (l : List D) (vs : List Value), RepDs g.φ l vs → ∀ j x, l[j]? = some x → ∃ v, vs.toArray[0 + j]? = some v ∧ RepD g.φ x v := by
    intro l vs hr j x hj
    obtain ⟨v, hv, hx⟩ := hr.get hj
    exact ⟨v, by simpa using hv, hx⟩
  obtain ⟨s, hs, hsr⟩ := forIn_eq (P := P) (w := w) (g := g) d vs.toArray us.toArray fs.toList ks 0 l m r h3 h (hx l vs hr) (hx m us hq)
  rw [Op.equalIn]
  simp only [Sem.run_bind, run_underlying hu, Result.andThen_ok, run_program, h1, Bool.false_eq_true, if_false]
  rw [← Array.forIn_toList, hs]
  rcases hsr with ⟨rfl, rfl⟩ | ⟨rfl, rfl⟩
  · rfl
  · rfl

theorem aggBin_ok {ks : List KK} {op : BinOp} {x y z : V} {a b : Value} {t : TypeId} (ht : eqTyOk P ks t = true) (h : aggBin ks op x y = some z) (ha : Rep g x a) (hb : Rep g y b) (ox oy : Operand) :
    Gives P g w (do eqGuard op t ox oy a b; binOp op t a b) z := by
  unfold aggBin at h
  split at h
  case h_2 => cases h
  rename_i l m
  have hda := ha.dI
  have hdb := hb.dI
  have hguard : ∀ op, (eqGuard op t ox oy a b).run P w = .ok () w := by
    intro op
    cases hda with | agg _ vs hr =>
    cases hdb with | agg _ us hq =>
    have h2 : P.eqGuardType P.depth t = false := by
      unfold eqTyOk at ht
      split at ht
      · simp only [Bool.and_eq_true, Bool.not_eq_true'] at ht; exact ht.1.2
      · cases ht
    cases op <;> simp [eqGuard, h2]
  have hb2 : ∀ r, D.eqs ks l m = some r → (Op.equal t a b).run P w = .ok r w := fun r hr => aggEq_run ht 9998 hr hda hdb
  have e1 : binOp .eql t a b = (do pure (.bool (← Op.equal t a b))) ∧ binOp .neq t a b = (do pure (.bool (!(← Op.equal t a b)))) := by
    cases hda with | agg _ vs hr =>
    cases hdb with | agg _ us hq =>
    exact ⟨rfl, rfl⟩
  split at h
  · rename_i r hr
    cases h
    refine ⟨.bool r, ?_, .d _ _ (.bool _)⟩
    simp only [Sem.run_bind, hguard, Result.andThen_ok, e1.1, hb2 r hr, Sem.run_pure]
  · rename_i r hr
    cases h
    refine ⟨.bool (!r), ?_, .d _ _ (.bool _)⟩
    simp only [Sem.run_bind, hguard, Result.andThen_ok, e1.2, hb2 r hr, Sem.run_pure]
  · cases h

end
end Zv
end
section
set_option linter.unusedSimpArgs false
set_option linter.unusedVariables false
set_option linter.unusedSimpArgs false
namespace Zv
open Go

/-! ### Equality that is computed -/
mutual
theorem D.beq_eq : ∀ {a b : D}, D.beq a b = true → a = b
  | .bool a, .bool b, h => by simp [D.beq] at h; rw [h]
  | .int k a, .int k' b, h => by simp [D.beq] at h; rw [h.1, h.2]
  | .str a, .str b, h => by simp [D.beq] at h; rw [h]
  | .nilp, .nilp, _ => rfl
  | .nilf, .nilf, _ => rfl
  | .nilm, .nilm, _ => rfl
  | .lst a, .lst b, h => congrArg D.lst (D.beqs_eq (by simpa [D.beq] using h))
  | .agg a, .agg b, h => congrArg D.agg (D.beqs_eq (by simpa [D.beq] using h))
  | .bool _, .int _ _, h | .bool _, .str _, h | .bool _, .nilp, h | .bool _, .nilf, h | .bool _, .nilm, h | .bool _, .lst _, h | .bool _, .agg _, h => by simp [D.beq] at h
  | .int _ _, .bool _, h | .int _ _, .str _, h | .int _ _, .nilp, h | .int _ _, .nilf, h | .int _ _, .nilm, h | .int _ _, .lst _, h | .int _ _, .agg _, h => by simp [D.beq] at h
  | .str _, .int _ _, h | .str _, .bool _, h | .str _, .nilp, h | .str _, .nilf, h | .str _, .nilm, h | .str _, .lst _, h | .str _, .agg _, h => by simp [D.beq] at h
  | .nilp, .int _ _, h | .nilp, .str _, h | .nilp, .bool _, h | .nilp, .nilf, h | .nilp, .nilm, h | .nilp, .lst _, h | .nilp, .agg _, h => by simp [D.beq] at h
  | .nilf, .int _ _, h | .nilf, .str _, h | .nilf, .bool _, h | .nilf, .nilp, h | .nilf, .nilm, h | .nilf, .lst _, h | .nilf, .agg _, h => by simp [D.beq] at h
  | .nilm, .int _ _, h | .nilm, .str _, h | .nilm, .bool _, h | .nilm, .nilp, h | .nilm, .nilf, h | .nilm, .lst _, h | .nilm, .agg _, h => by simp [D.beq] at h
  | .lst _, .int _ _, h | .lst _, .str _, h | .lst _, .bool _, h | .lst _, .nilp, h | .lst _, .nilf, h | .lst _, .nilm, h | .lst _, .agg _, h => by simp [D.beq] at h
  | .agg _, .int _ _, h | .agg _, .str _, h | .agg _, .bool _, h | .agg _, .nilp, h | .agg _, .nilf, h | .agg _, .nilm, h | .agg _, .lst _, h => by simp [D.beq] at h
theorem D.beqs_eq : ∀ {a b : List D}, D.beqs a b = true → a = b
  | [], [], _ => rfl
  | a :: r, b :: s, h => by simp only [D.beqs, Bool.and_eq_true] at h; rw [D.beq_eq h.1, D.beqs_eq h.2]
  | [], _ :: _, h => by simp [D.beqs] at h
  | _ :: _, [], h => by simp [D.beqs] at h
end
mutual
theorem D.beq_refl : ∀ a : D, D.beq a a = true
  | .bool _ | .int _ _ | .str _ | .nilp | .nilf | .nilm => by simp [D.beq]
  | .lst a | .agg a => by simp only [D.beq]; exact D.beqs_refl a
theorem D.beqs_refl : ∀ a : List D, D.beqs a a = true
  | [] => rfl
  | a :: r => by simp only [D.beqs, D.beq_refl a, D.beqs_refl r, Bool.and_self]
end

mutual
theorem V.beq_eq : ∀ {a b : V}, V.beq a b = true → a = b := by
  intro a b h
  cases a <;> cases b <;> simp only [V.beq, Bool.and_eq_true, beq_iff_eq, Bool.false_eq_true] at h
  · rw [D.beq_eq h]
  · rw [V.beqs_eq h.1, h.2]
  · obtain ⟨⟨⟨⟨rfl, rfl⟩, rfl⟩, rfl⟩, rfl⟩ := h; rfl
  · obtain ⟨⟨⟨rfl, rfl⟩, rfl⟩, rfl⟩ := h; rfl
  · rw [D.beq_eq h.1, h.2]
  · rw [h.1, V.beqs_eq h.2]
  · rw [V.beqs_eq h]
  · rw [V.beqs_eq h]
  · rw [h]
  · rw [h]
  · rfl
  · rfl
  · rw [h.1, D.beq_eq h.2]
  · rfl
  · rw [h.1, D.beq_eq h.2]
theorem V.beqs_eq : ∀ {a b : List V}, V.beqs a b = true → a = b
  | [], [], _ => rfl
  | a :: r, b :: s, h => by simp only [V.beqs, Bool.and_eq_true] at h; rw [V.beq_eq h.1, V.beqs_eq h.2]
  | [], _ :: _, h => by simp [V.beqs] at h
  | _ :: _, [], h => by simp [V.beqs] at h
end
mutual
theorem V.beq_refl : ∀ a : V, V.beq a a = true
  | .d x => by simp only [V.beq]; exact D.beq_refl x
  | .tl a n => by simp only [V.beq, V.beqs_refl a]; simp
  | .own .. | .ptr .. | .map .. | .yld .. | .ub | .undef | .nif => by simp [V.beq]
  | .ifc t x | .pan t x => by simp [V.beq, D.beq_refl]
  | .fp x o => by simp only [V.beq, D.beq_refl x]; simp
  | .clo f a => by simp only [V.beq, V.beqs_refl a]; simp
  | .agg a | .tup a => by simp only [V.beq]; exact V.beqs_refl a
theorem V.beqs_refl : ∀ a : List V, V.beqs a a = true
  | [] => rfl
  | a :: r => by simp only [V.beqs, V.beq_refl a, V.beqs_refl r, Bool.and_self]
end
theorem kvsBeq_eq : ∀ {a b : List (D × V)}, kvsBeq a b = true → a = b
  | [], [], _ => rfl
  | (a, v) :: r, (b, u) :: s, h => by simp only [kvsBeq, Bool.and_eq_true] at h; rw [D.beq_eq h.1.1, V.beq_eq h.1.2, kvsBeq_eq h.2]
  | [], _ :: _, h => by simp [kvsBeq] at h
  | _ :: _, [], h => by simp [kvsBeq] at h
theorem kvsBeq_refl : ∀ a : List (D × V), kvsBeq a a = true
  | [] => rfl
  | (a, v) :: r => by simp only [kvsBeq, D.beq_refl, V.beq_refl, kvsBeq_refl r, Bool.and_self]
theorem envBeq_eq : ∀ {a b : List (Nat × V)}, envBeq a b = true → a = b
  | [], [], _ => rfl
  | (a, v) :: r, (b, u) :: s, h => by simp only [envBeq, Bool.and_eq_true, beq_iff_eq] at h; rw [h.1.1, V.beq_eq h.1.2, envBeq_eq h.2]
  | [], _ :: _, h => by simp [envBeq] at h
  | _ :: _, [], h => by simp [envBeq] at h
theorem envBeq_refl : ∀ a : List (Nat × V), envBeq a a = true
  | [] => rfl
  | (a, v) :: r => by simp only [envBeq, V.beq_refl, envBeq_refl r, Bool.and_self, beq_self_eq_true]
theorem Ob.beq_eq : ∀ {a b : Ob}, Ob.beq a b = true → a = b
  | .arr e l, .arr f m, h => by simp only [Ob.beq, Bool.and_eq_true, beq_iff_eq] at h; rw [h.1, V.beqs_eq h.2]
  | .mp a, .mp b, h => congrArg Ob.mp (kvsBeq_eq (by simpa [Ob.beq] using h))
  | .lp a e s, .lp b f t, h => by simp only [Ob.beq, Bool.and_eq_true, beq_iff_eq, decide_eq_true_eq] at h; rw [h.1.1, envBeq_eq h.1.2, h.2]
  | .lp _ _ _, .arr _ _, h => by simp [Ob.beq] at h
  | .lp _ _ _, .mp _, h => by simp [Ob.beq] at h
  | .arr _ _, .lp _ _ _, h => by simp [Ob.beq] at h
  | .mp _, .lp _ _ _, h => by simp [Ob.beq] at h
  | .arr _ _, .mp _, h => by simp [Ob.beq] at h
  | .mp _, .arr _ _, h => by simp [Ob.beq] at h
theorem Ob.beq_refl : ∀ a : Ob, Ob.beq a a = true
  | .arr e l => by simp [Ob.beq, V.beqs_refl]
  | .mp a => by simp [Ob.beq, kvsBeq_refl]
  | .lp a e s => by simp [Ob.beq, envBeq_refl]
theorem objsBeq_eq : ∀ {a b : List (Nat × Ob)}, objsBeq a b = true → a = b
  | [], [], _ => rfl
  | (n, a) :: r, (m, b) :: s, h => by simp only [objsBeq, Bool.and_eq_true, beq_iff_eq] at h; rw [h.1.1, Ob.beq_eq h.1.2, objsBeq_eq h.2]
  | [], _ :: _, h => by simp [objsBeq] at h
  | _ :: _, [], h => by simp [objsBeq] at h
theorem objsBeq_refl : ∀ a : List (Nat × Ob), objsBeq a a = true
  | [] => rfl
  | (n, a) :: r => by simp [objsBeq, Ob.beq_refl, objsBeq_refl r]

theorem ldk_ld {ag : Bool} {sz : Nat} {h : Hp} {k a v : V} (H : ldk ag sz h k a = some v) : ld ag sz h a = some v := by
  cases k <;> try cases H
  cases a <;> try cases H
  simp only [ldk] at H
  split at H
  · exact H
  · cases H
theorem quiet_eq {h : Hp} {r : V × Hp} {q : V × Hp} (H : quiet h r = some q) : q = r ∧ r.2 = h := by
  unfold quiet at H
  split at H
  · rename_i hc
    cases H
    obtain ⟨x, h2⟩ := r
    have := objsBeq_eq hc.1
    have e : h = h2 := by cases h; cases h2; simp_all
    subst e
    exact ⟨rfl, rfl⟩
  · cases H

/-! ### Operands -/
section
variable {P : Program} {g : G} {h : Hp} {w : World}

def mtOpd : Operand → Opd → Bool
  | .tmp t, .t n => t == n
  | .const v, .c x => rc x v
  | .func f, .c x => rc x (.func (.func f) #[] #[])
  | _, _ => false
def mtOpds : List Operand → List Opd → Bool
  | [], [] => true
  | x :: l, y :: m => mtOpd x y && mtOpds l m
  | _, _ => false
def mtOpdO : Option Operand → Option Opd → Bool
  | none, none => true
  | some x, some y => mtOpd x y
  | _, _ => false

def EnvRep (g : G) (e : Env) (a : Act) : Prop := ∀ t, Rep g (e.get t) (a.tmps.getD t undef)

theorem opd_ok {o : Operand} {x : Opd} {e : Env} {a : Act} (hm : mtOpd o x = true) (he : EnvRep g e a) : Rep g (e.ev x) (a.eval o) := by
  cases o <;> cases x <;> simp only [mtOpd, Bool.false_eq_true] at hm
  · have := eq_of_beq hm; subst this; exact he _
  · exact rc_ok hm
  · exact rc_ok hm
theorem opds_ok {e : Env} {a : Act} (he : EnvRep g e a) : ∀ {l : List Operand} {m : List Opd}, mtOpds l m = true → Reps g (m.map e.ev) (l.map a.eval)
  | [], [], _ => .nil
  | x :: l, y :: m, h => by
    simp only [mtOpds, Bool.and_eq_true] at h
    exact .cons _ _ _ _ (opd_ok h.1 he) (opds_ok he h.2)
  | [], _ :: _, h => by cases h
  | _ :: _, [], h => by cases h
theorem opdO_ok {o : Option Operand} {x : Option Opd} {e : Env} {a : Act} (hm : mtOpdO o x = true) (he : EnvRep g e a) : RepO g (x.map e.ev) (o.map a.eval) := by
  cases o <;> cases x <;> simp only [mtOpdO, Bool.false_eq_true] at hm
  · exact trivial
  · exact opd_ok hm he

/-! ### Operations -/

/-- The element type of a slice type, where its size and zero value are known. -/
def elT (P : Program) (t : TypeId) : Option (TypeId × TypeInfo × Value) :=
  match P.underlying t with
  | some (.slice e) => match P.info? e with
    | some i => match i.zero with
      | some z => some (e, i, z)
      | none => none
    | none => none
  | _ => none
theorem elT_ok {t e : TypeId} {i : TypeInfo} {z : Value} (H : elT P t = some (e, i, z)) : P.underlying t = some (.slice e) ∧ P.info? e = some i ∧ i.zero = some z := by
  unfold elT at H
  split at H
  · split at H
    · split at H
      · cases H; exact ⟨by assumption, by assumption, by assumption⟩
      · cases H
    · cases H
  · cases H

def zeroT (P : Program) (t : TypeId) : Option Value :=
  match P.info? t with
  | some i => i.zero
  | none => none
theorem zeroT_ok {t : TypeId} {z : Value} (H : zeroT P t = some z) : ∃ i, P.info? t = some i ∧ i.zero = some z := by
  unfold zeroT at H
  split at H
  · exact ⟨_, by assumption, H⟩
  · cases H

def fieldT (P : Program) (t : TypeId) (i : Nat) : Option Field :=
  match P.underlying t with
  | some (.struct fs) => fs[i]?
  | _ => none
theorem fieldT_ok {t : TypeId} {i : Nat} {f : Field} (H : fieldT P t i = some f) : ∃ fs, P.underlying t = some (.struct fs) ∧ fs[i]? = some f := by
  unfold fieldT at H
  split at H
  · exact ⟨_, by assumption, H⟩
  · cases H

def mtParts (P : Program) (fs : Array Field) : List (Nat × Operand) → List (Nat × Nat × Opd) → Bool
  | [], [] => true
  | (i, x) :: l, (off, sz, y) :: m => (match fs[i]? with
      | some f => f.offset == off && P.cellsOf f.type == sz
      | none => false) && mtOpd x y && mtParts P fs l m
  | _, _ => false
def mtSeq : Nat → List (Nat × Operand) → List Opd → Bool
  | _, [], [] => true
  | k, (i, x) :: l, y :: m => i == k && mtOpd x y && mtSeq (k + 1) l m
  | _, _, _ => false

def isNilC (k : NK) : Operand → Bool
  | .const (.pointer none) => decide (k = .p)
  | .const .nilFunc => decide (k = .f)
  | .const (.map none) => decide (k = .m)
  | .const (.slice none 0 0) => decide (k = .s)
  | .const .nilIface => decide (k = .i)
  | _ => false
theorem isNilC_ok {k : NK} {o : Operand} (H : isNilC k o = true) (a : Act) : a.eval o = nilOf k := by
  unfold isNilC at H
  split at H <;> first | (have := of_decide_eq_true H; subst this; rfl) | cases H

def mtOp (P : Program) (o : Oper) (op : AOp) : Bool :=
  match op with
  | .mv x => match o.op with
    | .move y => mtOpd y x
    | .assign y => mtOpd y x
    | _ => false
  | .pick c a b => match o.op with
    | .pick c' a' b' => mtOpd c' c && mtOpd a' a && mtOpd b' b
    | _ => false
  | .alloc es z => match o.op with
    | .alloc t => match zeroT P t with
      | some zv => rc z zv && stor z && z.cells.length == es
      | none => false
    | _ => false
  | .box _ x => match o.op with
    | .box _ y => mtOpd y x
    | _ => false
  | .build z ps => match o.op with
    | .build t qs => match P.underlying t with
      | some (.struct fs) => (match zeroT P t with
        | some zv => rcLs z zv.cells.toList
        | none => false) && fs.toList.all (fun f => (P.info? f.type).isSome) && mtParts P fs qs.toList ps
      | _ => false
    | _ => false
  | .bsl es xs => match o.op with
    | .buildSlice t n qs => (match elT P t with
      | some (e, _, _) => P.cellsOf e == es
      | none => false) && xs.length == n && decide (n * es ≤ 2 ^ 24) && mtSeq 0 qs.toList xs
    | _ => false
  | .bslO es xs => match o.op with
    | .buildSlice t n qs => (match elT P t with
      | some (e, _, _) => P.cellsOf e == es
      | none => false) && xs.length == n && decide (n * es ≤ 2 ^ 24) && mtSeq 0 qs.toList xs
    | _ => false
  | .ld ag sz a => match o.op with
    | .load t b => (P.underlying t).isSome && (P.info? t).isSome && agOf P t == ag && P.cellsOf t == sz && mtOpd b a
    | _ => false
  | .ldf ag sz a => match o.op with
    | .load t b => (P.underlying t).isSome && (P.info? t).isSome && agOf P t == ag && P.cellsOf t == sz && mtOpd b a
    | _ => false
  | .st sz a x => match o.op with
    | .store t b y => (P.info? t).isSome && P.cellsOf t == sz && mtOpd b a && mtOpd y x
    | _ => false
  | .stk _ sz a x => match o.op with
    | .store t b y => (P.info? t).isSome && P.cellsOf t == sz && mtOpd b a && mtOpd y x
    | _ => false
  | .nilck x => match o.op with
    | .nilCheck y => mtOpd y x
    | _ => false
  | .bin op x y => match o.op with
    | .binOp op' _ x' y' _ => decide (op = op') && mtOpd x' x && mtOpd y' y
    | _ => false
  | .binB op x y => match o.op with
    | .binOp op' t x' y' _ => decide (op = op') && (match P.underlying t with
      | some .bool => true
      | _ => false) && mtOpd x' x && mtOpd y' y
    | _ => false
  | .nilBin k op x => match o.op with
    | .binOp op' t x' y' _ => decide (op = op') && nkOk P k t && ((isNilC k y' && mtOpd x' x) || (isNilC k x' && mtOpd y' x))
    | _ => false
  | .aggBin ks op x y => match o.op with
    | .binOp op' t x' y' _ => decide (op = op') && eqTyOk P ks t && mtOpd x' x && mtOpd y' y
    | _ => false
  | .un op x => match o.op with
    | .unOp op' _ x' => decide (op = op') && mtOpd x' x
    | _ => false
  | .conv k x => match o.op with
    | .convert s d y => (P.underlying s).isSome && (match P.underlying d with
      | some (.int q) => decide (q = k)
      | _ => false) && mtOpd y x
    | _ => false
  | .mkf f caps => match o.op with
    | .makeFunc (.func f') first cs => f == f' && first.isEmpty && mtOpds cs.toList caps
    | _ => false
  | .mkmap => match o.op with
    | .makeMap _ none => true
    | .makeMap t (some (.const (.int _ _))) => (match P.underlying t with
      | some (.map _ _) => true
      | _ => false)
    | _ => false
  | .mksl z es b n => match o.op with
    | .makeSlice t l c => (match elT P t with
      | some (e, i, zv) => P.cellsOf e == es && i.bytes == b && rc z zv && stor z && z.cells.length == es
      | none => false) && mtOpd l n && mtOpd c n
    | _ => false
  | .mkslT z b n => match o.op with
    | .makeSlice t l c => (match elT P t with
      | some (e, i, zv) => i.bytes == b && rc z zv && stor z && z.cells.length == P.cellsOf e
      | none => false) && mtOpd l n && mtOpd c n
    | _ => false
  | .slcS x lo hi => match o.op with
    | .slice t y lo' hi' none => (match P.underlying t with
      | some .string => true
      | _ => false) && mtOpd y x && mtOpdO lo' lo && mtOpdO hi' hi
    | _ => false
  | .slc es x lo hi => match o.op with
    | .slice t y lo' hi' none => (match P.underlying t with
      | some (.slice e) => (P.info? e).isSome && P.cellsOf e == es
      | _ => false) && mtOpd y x && mtOpdO lo' lo && mtOpdO hi' hi
    | _ => false
  | .slc3 es x lo hi mx => match o.op with
    | .slice t y lo' hi' mx' => (match P.underlying t with
      | some (.slice e) => (P.info? e).isSome && P.cellsOf e == es
      | _ => false) && mtOpd y x && mtOpdO lo' lo && mtOpdO hi' hi && mtOpdO mx' mx && hi.isSome && mx.isSome
    | _ => false
  | .fa off x => match o.op with
    | .fieldAddr t y i => (match fieldT P t i with
      | some f => f.offset == off && (P.info? f.type).isSome && !(P.cellsOf f.type == 0)
      | none => false) && mtOpd y x
    | _ => false
  | .fld ag off sz x => match o.op with
    | .field t y i => (match fieldT P t i with
      | some f => f.offset == off && (P.underlying f.type).isSome && (P.info? f.type).isSome && agOf P f.type == ag && P.cellsOf f.type == sz
      | none => false) && mtOpd y x
    | _ => false
  | .ia es x i => match o.op with
    | .indexAddr t y j => (match P.underlying t with
      | some (.slice e) => (P.info? e).isSome && P.cellsOf e == es
      | _ => false) && mtOpd y x && mtOpd j i
    | _ => false
  | .ixS x i => match o.op with
    | .index t y j => (match P.underlying t with
      | some .string => true
      | _ => false) && mtOpd y x && mtOpd j i
    | _ => false
  | .lk kk z ok m k => match o.op with
    | .lookup t x y ok' => (match P.underlying t with
      | some (.map q e) => kkOk P kk q && (match zeroT P e with
        | some zv => rc z zv
        | none => false)
      | _ => false) && ok == ok' && mtOpd x m && mtOpd y k
    | _ => false
  | .mu kk m k x => match o.op with
    | .mapUpdate t m' k' x' => (match P.underlying t with
      | some (.map q _) => kkOk P kk q
      | _ => false) && mtOpd m' m && mtOpd k' k && mtOpd x' x
    | .insert t m' k' x' => (match P.underlying t with
      | some (.map q _) => kkOk P kk q
      | _ => false) && mtOpd m' m && mtOpd k' k && mtOpd x' x
    | _ => false
  | .lenS x => match o.op with
    | .call ⟨.builtin .len, ⟨[y]⟩, ⟨[t]⟩⟩ => (match P.underlying t with
      | some .string => true
      | _ => false) && mtOpd y x
    | _ => false
  | .lenL x => match o.op with
    | .call ⟨.builtin .len, ⟨[y]⟩, ⟨[t]⟩⟩ => (match P.underlying t with
      | some (.slice _) => true
      | _ => false) && mtOpd y x
    | _ => false
  | .capT x => match o.op with
    | .call ⟨.builtin .cap, ⟨[y]⟩, ⟨[t]⟩⟩ => (match P.underlying t with
      | some (.slice _) => true
      | _ => false) && mtOpd y x
    | _ => false
  | .ldk _ ag sz a => match o.op with
    | .load t b => (P.underlying t).isSome && (P.info? t).isSome && agOf P t == ag && P.cellsOf t == sz && mtOpd b a
    | _ => false
  | .callk _ f nm xs => match o.op with
    | .call ⟨.value f', args, _⟩ => mtOpd f' f && mtOpds args.toList xs && nm.length == xs.length
    | _ => false
  | .callz _ f nm xs => match o.op with
    | .call ⟨.value f', args, _⟩ => mtOpd f' f && mtOpds args.toList xs && nm.length == xs.length
    | _ => false
  | .mkif t x => match o.op with
    | .makeInterface t' y => t == t' && (match P.underlying t with
      | some (.interface _) => false
      | some _ => true
      | none => false) && mtOpd y x
    | _ => false
  | .tas t x => match o.op with
    | .typeAssert y _ t' true => t == t' && (match P.underlying t with
      | some (.interface _) => false
      | some _ => true
      | none => false) && mtOpd y x
    | _ => false
  | .pnc x => match o.op with
    | .panic y => mtOpd y x
    | _ => false
  | .stuck => match o.op with
    | .panic _ => true
    | .makeInterface _ _ => true
    | _ => false
  | .appz z es b s x => match o.op with
    | .call ⟨.builtin .append, ⟨[s', x']⟩, ⟨[t, t2]⟩⟩ => (match elT P t with
      | some (e, i, zv) => P.cellsOf e == es && i.bytes == b && decide (1 ≤ b) && rc z zv && stor z && z.cells.length == es
      | none => false) && (match P.underlying t2 with
      | some (.int .i64) => true
      | _ => false) && mtOpd s' s && mtOpd x' x
    | _ => false
  | .lenM x => match o.op with
    | .call ⟨.builtin .len, ⟨[y]⟩, ⟨[t]⟩⟩ => (match P.underlying t with
      | some (.map _ _) => true
      | _ => false) && mtOpd y x
    | _ => false
  | .app es b s x => match o.op with
    | .call ⟨.builtin .append, ⟨[s', x']⟩, ⟨[t, t2]⟩⟩ => (match elT P t with
      | some (e, i, zv) => P.cellsOf e == es && i.bytes == b && decide (1 ≤ b) && zv.cells.size == es
      | none => false) && (match P.underlying t2 with
      | some (.slice _) => true
      | _ => false) && mtOpd s' s && mtOpd x' x
    | _ => false
  | .appn es b s x => match o.op with
    | .call ⟨.builtin .append, ⟨[s', x']⟩, ⟨[t, t2]⟩⟩ => (match elT P t with
      | some (e, i, zv) => P.cellsOf e == es && i.bytes == b && decide (1 ≤ b) && zv.cells.size == es
      | none => false) && (match P.underlying t2 with
      | some (.slice _) => true
      | _ => false) && mtOpd s' s && mtOpd x' x
    | _ => false
  | .appf es b s x => match o.op with
    | .call ⟨.builtin .append, ⟨[s', x']⟩, ⟨[t, t2]⟩⟩ => (match elT P t with
      | some (e, i, zv) => P.cellsOf e == es && i.bytes == b && decide (1 ≤ b) && zv.cells.size == es
      | none => false) && (match P.underlying t2 with
      | some (.slice _) => true
      | _ => false) && mtOpd s' s && mtOpd x' x
    | _ => false
  | .appd es b s x => match o.op with
    | .call ⟨.builtin .append, ⟨[s', x']⟩, ⟨[t, t2]⟩⟩ => (match elT P t with
      | some (e, i, zv) => P.cellsOf e == es && i.bytes == b && decide (1 ≤ b) && zv.cells.size == es
      | none => false) && (match P.underlying t2 with
      | some (.slice _) => true
      | _ => false) && mtOpd s' s && mtOpd x' x
    | _ => false
  | .cpy es s x => match o.op with
    | .call ⟨.builtin .copy, ⟨[s', x']⟩, ⟨[t, _]⟩⟩ => (match elT P t with
      | some (e, _, _) => P.cellsOf e == es
      | none => false) && mtOpd s' s && mtOpd x' x
    | _ => false
  | .ext i x => match o.op with
    | .extract y j => i == j && mtOpd y x
    | _ => false
  | .call f nm xs => match o.op with
    | .call ⟨.value f', args, _⟩ => mtOpd f' f && mtOpds args.toList xs && nm.length == xs.length
    | _ => false
  | .calln f nm xs => match o.op with
    | .call ⟨.value f', args, _⟩ => mtOpd f' f && mtOpds args.toList xs && nm.length == xs.length
    | _ => false
  | .callf f nm xs => match o.op with
    | .call ⟨.value f', args, _⟩ => mtOpd f' f && mtOpds args.toList xs && nm.length == xs.length
    | _ => false

end
end Zv
end
section
set_option linter.unusedSimpArgs false
set_option linter.unusedVariables false
set_option linter.unusedSimpArgs false
namespace Zv
open Go

section
variable {P : Program} {g : G} {h : Hp} {w : World}

/-- What an operation of a region gives (no call of a function). -/
def GivesN (P : Program) (g : G) (w : World) (s : Sem Next) (x : V) (h' : Hp) : Prop :=
  ∃ nx v w' g', s.run P w = .ok nx w' ∧ (nx = .value v ∨ (nx = .skip ∧ v = undef)) ∧ Le g g' ∧ Rel g' h' w' ∧ Rep g' x v ∧ Fx w w'

theorem GivesN.value {s : Sem Value} {x : V} {h' : Hp} (hg : GivesH P g w s x h') : GivesN P g w (do pure (.value (← s))) x h' := by
  obtain ⟨v, w', g', h1, h2, h3, h4, h5⟩ := hg
  exact ⟨.value v, v, w', g', by simp [h1], .inl rfl, h2, h3, h4, h5⟩
theorem GivesN.unit {s : Sem Unit} {h' : Hp} (hg : GivesU P g w s h') : GivesN P g w (do s; pure .skip) (.tup []) h' := by
  obtain ⟨w', g', h1, h2, h3, h5⟩ := hg
  exact ⟨.skip, undef, w', g', by simp [h1], .inr ⟨rfl, rfl⟩, h2, h3, .tup [] [] .nil, h5⟩
theorem GivesN.pureV {s : Sem Value} {x : V} (R : Rel g h w) (hg : Gives P g w s x) : GivesN P g w (do pure (.value (← s))) x h := GivesN.value (hg.h R)

theorem pureV_some {h h' : Hp} {o : Option V} {x : V} (H : pureV h o = some (x, h')) : o = some x ∧ h' = h := by
  unfold Zv.pureV at H
  simp only [Option.map_eq_some_iff] at H
  obtain ⟨v, hv, e⟩ := H
  cases e
  exact ⟨hv, rfl⟩

theorem eqGuard_ok {op : BinOp} {t : TypeId} {ox oy : Operand} {x : V} {a b : Value} (ha : Rep g x a) (hx : ∀ l, x ≠ .d (.agg l)) (hx2 : ∀ l, x ≠ .agg l) (hx3 : x ≠ .undef) (hx4 : x ≠ .nif) :
    (eqGuard op t ox oy a b).run P w = .ok () w := by
  have : ∀ (q : Value), (∀ cs, q ≠ .agg cs) → q ≠ .nilIface → (eqGuard op t ox oy q b).run P w = .ok () w := by
    intro q h1 h2
    cases op <;> cases q <;> first | rfl | (exact absurd rfl (h1 _)) | (exact absurd rfl h2)
  refine this a (fun cs e => ?_) (fun e => ?_)
  · subst e
    cases ha with
    | d _ _ h => cases h with | agg l vs hr => exact hx l rfl
    | agg l vs hr hf => exact hx2 l rfl
    | undef => exact hx3 rfl
  · subst e
    cases ha with
    | d _ _ h => cases h
    | undef => exact hx3 rfl
    | nif => exact hx4 rfl
theorem rep_agg {x : V} {cs : Array Value} (ha : Rep g x (.agg cs)) : (∃ l, x = .d (.agg l)) ∨ (∃ l, x = .agg l) ∨ x = .undef := by
  cases ha with
  | d _ _ h => cases h with | agg l vs hr => exact .inl ⟨l, rfl⟩
  | agg l vs hr hf => exact .inr (.inl ⟨l, rfl⟩)
  | undef => exact .inr (.inr rfl)
theorem isNilC_const {k : NK} {o : Operand} (H : isNilC k o = true) : ∃ v, o = .const v := by
  unfold isNilC at H
  split at H <;> first | exact ⟨_, rfl⟩ | cases H
theorem eqGuard_c {op : BinOp} {t : TypeId} {ox oy : Operand} {a b : Value} (hc : (∃ v, ox = .const v) ∨ ∃ v, oy = .const v) (h1 : ∀ cs, a ≠ .agg cs) : (eqGuard op t ox oy a b).run P w = .ok () w := by
  by_cases h : op = .eql ∨ op = .neq
  · cases a with
    | agg cs => exact absurd rfl (h1 cs)
    | nilIface =>
      cases b with
      | nilIface =>
        rcases hc with ⟨v, rfl⟩ | ⟨v, rfl⟩
        · rcases h with rfl | rfl <;> rfl
        · rcases h with rfl | rfl <;> cases ox <;> rfl
      | _ => rcases h with rfl | rfl <;> rfl
    | _ => rcases h with rfl | rfl <;> rfl
  · cases op <;> first | rfl | exact absurd (.inl rfl) h | exact absurd (.inr rfl) h

theorem bin_shape {op : BinOp} {x y z : V} (H : bin op x y = some z) : (∃ k n, x = .d (.int k n)) ∨ ∃ s, x = .d (.str s) := by
  unfold bin at H
  split at H
  · exact .inl ⟨_, _, rfl⟩
  · exact .inr ⟨_, rfl⟩
  · cases H
theorem binB_shape {op : BinOp} {x y z : V} (H : binB op x y = some z) : ∃ b, x = .d (.bool b) := by
  unfold binB at H
  split at H
  · exact ⟨_, rfl⟩
  · cases H
theorem isNil_shape {k : NK} {x : V} {b : Bool} (H : isNil k x = some b) : (∀ l, x ≠ .d (.agg l)) ∧ (∀ l, x ≠ .agg l) ∧ x ≠ .undef := by
  refine ⟨fun l e => ?_, fun l e => ?_, fun e => ?_⟩
  · subst e; cases k <;> simp [isNil] at H
  · subst e; cases k <;> simp [isNil] at H
  · subst e; cases k <;> simp [isNil] at H

theorem nilBin_shape {k : NK} {op : BinOp} {x z : V} (H : nilBin k op x = some z) : (∀ l, x ≠ .d (.agg l)) ∧ (∀ l, x ≠ .agg l) ∧ x ≠ .undef := by
  have ub : ubOf k x = some z → (∀ l, x ≠ .d (.agg l)) ∧ (∀ l, x ≠ .agg l) ∧ x ≠ .undef := by
    intro h
    refine ⟨fun l e => ?_, fun l e => ?_, fun e => ?_⟩
    · subst e; cases k <;> simp [ubOf] at h
    · subst e; cases k <;> simp [ubOf] at h
    · subst e; cases k <;> simp [ubOf] at h
  unfold nilBin at H
  split at H
  · exact isNil_shape (by assumption)
  · exact isNil_shape (by assumption)
  · exact ub H
  · exact ub H
  · cases H
theorem ix_unique {x : V} {n : Nat} {a b : Value} (H : ixOf x = some n) (ha : Rep g x a) (hb : Rep g x b) : a = b := by
  unfold ixOf at H
  split at H
  · rw [ha.intI, hb.intI]
  · cases H

theorem parts_ok {fs : Array Field} {e : Env} {a : Act} (he : EnvRep g e a) : ∀ {l : List (Nat × Operand)} {m : List (Nat × Nat × Opd)}, mtParts P fs l m = true →
    RepParts g (fun j => (fs[j]?).map fun f => (f.offset, P.cellsOf f.type)) (m.map fun p => (p.1, p.2.1, e.ev p.2.2)) (l.map fun p => (p.1, a.eval p.2))
  | [], [], _ => .nil
  | (i, x) :: l, (off, sz, y) :: m, H => by
    simp only [mtParts, Bool.and_eq_true] at H
    obtain ⟨⟨h1, h2⟩, h3⟩ := H
    split at h1
    · rename_i f hf
      simp only [Bool.and_eq_true, beq_iff_eq] at h1
      exact .cons off sz i _ _ _ _ (by simp [hf, h1.1, h1.2]) (opd_ok h2 he) (parts_ok he h3)
    · cases h1
  | [], _ :: _, H => by cases H
  | _ :: _, [], H => by cases H

theorem seq_reps {e : Env} {a : Act} (he : EnvRep g e a) : ∀ {l : List (Nat × Operand)} {m : List Opd} {k : Nat}, mtSeq k l m = true →
    Reps g (m.map e.ev) (l.map fun p => a.eval p.2) ∧ l.map (fun p => (p.1, a.eval p.2)) = ((l.map fun p => a.eval p.2).zipIdx k).map (fun p => (p.2, p.1)) ∧ l.length = m.length
  | [], [], _, _ => ⟨.nil, rfl, rfl⟩
  | (i, x) :: l, y :: m, k, H => by
    simp only [mtSeq, Bool.and_eq_true, beq_iff_eq] at H
    obtain ⟨⟨rfl, h2⟩, h3⟩ := H
    obtain ⟨i1, i2, i3⟩ := seq_reps he h3
    refine ⟨.cons _ _ _ _ (opd_ok h2 he) i1, ?_, by simp [i3]⟩
    simp only [List.map_cons, List.zipIdx_cons, i2]
  | [], _ :: _, _, H => by cases H
  | _ :: _, [], _, H => by cases H

theorem all_stor {es : Nat} {l : List V} (H : l.all (fun v => stor v && v.cells.length == es) = true) : ∀ x, x ∈ l → stor x = true ∧ x.cells.length = es := by
  intro x hx
  have := List.all_eq_true.1 H x hx
  simpa using this

theorem Rel.frz {n es : Nat} {els : List V} (R : Rel g h w) (hn : h.get n = some (.arr es els)) : ∃ o, w.heap[blk g n (.arr es els)]? = some o ∧ Le g (g.fix (blk g n (.arr es els)) o) ∧ Rel (g.fix (blk g n (.arr es els)) o) (h.kill n) w := by
  obtain ⟨hnN, hnB, c, ty, vs, h1, h2, h3, h4, h5, h6, h7⟩ := R.ob n _ hn
  refine ⟨.cells c ty (0, 0), h1, ?_⟩
  have hnone := R.out n _ hn
  have hle : Le g (g.fix (blk g n (.arr es els)) (.cells c ty (0, 0))) := by
    refine ⟨fun b q hq => ?_, Nat.le_refl _, fun _ _ => Nat.le_refl _, fun _ _ _ _ => rfl, rfl, rfl⟩
    show (if b = blk g n (.arr es els) then some (.cells c ty (0, 0)) else g.φ b) = some q
    rw [if_neg (fun e => by rw [e, hnone] at hq; cases hq)]
    exact hq
  have hkillget : ∀ m o, (h.kill n).get m = some o → m ≠ n ∧ h.get m = some o := by
    intro m o hm
    unfold Hp.get Hp.kill at hm
    rw [look_del m R.nd] at hm
    split at hm
    · cases hm
    · exact ⟨by assumption, hm⟩
  have R' := R.kill n
  refine ⟨hle, ⟨R'.nx, fun b q hq => ?_, R'.nd, fun m o hm => ?_, R'.sep, fun m o hm => ?_, fun b q hq => ?_, R'.kpo⟩⟩
  · have hq' : (if b = blk g n (.arr es els) then some (Obj.cells c ty (0, 0)) else g.φ b) = some q := hq
    split at hq'
    · rename_i e; subst e; cases hq'; exact h1
    · exact R.fr b q hq'
  · obtain ⟨k1, k2, k3⟩ := R'.ob m o hm
    exact ⟨k1, k2, k3.mono hle k1 (by omega) rfl⟩
  · obtain ⟨hne, hm'⟩ := hkillget m o hm
    show (if blk g m o = blk g n (.arr es els) then some (Obj.cells c ty (0, 0)) else g.φ (blk g m o)) = none
    rw [if_neg (R.sep m n o _ hm' hn hne)]
    exact R.out m o hm'
  · refine ⟨(R.kp b q hq).1, ?_⟩
    show (if b = blk g n (.arr es els) then some (Obj.cells c ty (0, 0)) else g.φ b) = none
    rw [if_neg (fun e => by rw [e, show (g.fix (blk g n (.arr es els)) (.cells c ty (0, 0))).F = g.F from rfl, R.kpo n _ hn] at hq; cases hq)]
    exact (R.kp b q hq).2

theorem frz_ok {x : V} {v : Value} {y : V} {h' : Hp} (R : Rel g h w) (H : frz h x = some (y, h')) (hx : Rep g x v) : ∃ g', Le g g' ∧ Rel g' h' w ∧ Rep g' y v := by
  unfold frz at H
  split at H
  · rename_i n e tot off len
    simp only [Option.bind_eq_some_iff] at H
    obtain ⟨⟨es, els⟩, hrow, H⟩ := H
    obtain ⟨hn, rfl⟩ := row_get hrow
    simp only at H
    split at H
    · rename_i hle
      simp only [Option.map_eq_some_iff] at H
      obtain ⟨ds, hds, heq⟩ := H
      cases heq
      obtain ⟨o, ho, hle', R'⟩ := R.frz hn
      obtain ⟨hnN, hnB, c, ty, vs, h1, h2, h3, h4, h5, h6, h7⟩ := R.ob n _ hn
      have ho' : o = .cells c ty (0, 0) := by
        have : w.heap[(g.μ n els.length).b]? = some o := ho
        rw [h1] at this; cases this; rfl
      subst ho'
      refine ⟨_, hle', R', ?_⟩
      cases hx with | own _ _ _ _ _ cap q hes hN hB hz0 hl hto hc hsz =>
      have hl2 : ((els.drop off).take len).length = len := by rw [List.length_take, List.length_drop]; omega
      have hdl : ds.length = len := by rw [← toDs_length hds, hl2]
      rw [← hdl]
      refine .d _ _ (.lst ds es cap (some q) ((vs.drop (off * es)).take (len * es)) (toDs_es hds (fun y hy => h4 y (List.mem_of_mem_drop (List.mem_of_mem_take hy)))) (by omega) ?_ ?_)
      · have hr : Reps g (((els.drop off).take len).flatMap V.cells) ((vs.drop (off * es)).take (len * es)) := by
          rw [← flat_take len (fun x hx => h4 x (List.mem_of_mem_drop hx)), ← flat_drop off h4]
          exact (h5.drop _).take _
        exact ((hr.mono hle').toDs (toDs_flat hds) (fun u hu => h6 u (List.mem_of_mem_drop (List.mem_of_mem_take hu))))
      · rcases Nat.eq_zero_or_pos len with h0 | h0
        · left; exact List.eq_nil_of_length_eq_zero (by omega)
        · right
          rcases hz0 with hz0 | hz0
          · omega
          · refine ⟨_, _, congrArg some hz0, fun j v hj => ?_⟩
            rw [List.getElem?_take] at hj
            split at hj
            · rw [List.getElem?_drop] at hj
              have := h7 _ _ hj
              show cellφ (fun b => if b = blk g n (.arr es els) then some _ else g.φ b) (g.μ n els.length).b _ = some v
              simp only [cellφ, blk, Ob.tot, if_true]
              rw [h3.1, Nat.add_assoc]
              exact this
            · cases hj
    · cases H
  · rename_i n tot i off
    simp only [Option.bind_eq_some_iff, Option.map_eq_some_iff] at H
    obtain ⟨⟨es, els⟩, hrow, e, he, H⟩ := H
    split at H
    case h_2 => cases H; exact ⟨g, Le.refl g, R, hx⟩
    rename_i x hx'
    cases H
    obtain ⟨hn, rfl⟩ := row_get hrow
    obtain ⟨o, ho, hle', R'⟩ := R.frz hn
    obtain ⟨seg, hc1, hc2, hc3, hc4, hc5⟩ := elem_seg R hn he
    obtain ⟨hnN, hnB, c, ty, vs, h1, h2, h3, h4, h5, h6, h7⟩ := R.ob n _ hn
    have ho' : o = .cells c ty (0, 0) := by
      have : w.heap[(g.μ n els.length).b]? = some o := ho
      rw [h1] at this; cases this; rfl
    subst ho'
    refine ⟨_, hle', R', ?_⟩
    cases hx with | ptr _ _ _ _ hN hB =>
    refine Rep.fp (g := g.fix (blk g n (.arr es els)) (.cells c ty (0, 0))) x off _ _ seg ?_ ?_
    · exact (hc1.mono hle').toDs (toD_cells hx') hc2
    · intro j v hj
      have hcell := hc4 j v hj
      unfold World.cell? at hcell
      simp only [h1] at hcell
      show cellφ (fun b => if b = blk g n (.arr es els) then some _ else g.φ b) (g.μ n els.length).b _ = some v
      simp only [cellφ, blk, Ob.tot, if_true]
      rw [hc5]; simpa using hcell
  · simp only [Option.map_eq_some_iff] at H
    obtain ⟨d, hd, heq⟩ := H
    cases heq
    exact ⟨g, Le.refl g, R, .d _ _ (hx.toD hd)⟩

theorem frzs_ok : ∀ {l : List V} {vs : List Value} {g : G} {h h' : Hp} {w : World} {ds : List D}, Rel g h w → frzs l h = some (ds, h') → Reps g l vs → ∃ g', Le g g' ∧ Rel g' h' w ∧ Reps g' (ds.map .d) vs
  | [], vs, g, h, h', w, ds, R, H, hx => by
    cases H
    exact ⟨g, Le.refl g, R, hx⟩
  | v :: l, vs, g, h, h', w, ds, R, H, hx => by
    simp only [frzs, Option.bind_eq_some_iff] at H
    obtain ⟨⟨y, h1⟩, hf, H⟩ := H
    split at H
    · rename_i x hy
      simp only at hy
      subst hy
      simp only [Option.map_eq_some_iff] at H
      obtain ⟨⟨ds', h2⟩, hr, heq⟩ := H
      cases heq
      cases hx with | cons _ u _ us hu hus =>
      obtain ⟨g1, l1, R1, r1⟩ := frz_ok R hf hu
      obtain ⟨g2, l2, R2, r2⟩ := frzs_ok R1 hr (hus.mono l1)
      exact ⟨g2, l1.trans l2, R2, .cons _ _ _ _ (r1.mono l2) r2⟩
    · cases H
theorem fzd_ok {x : V} {v : Value} {y : V} {h' : Hp} (R : Rel g h w) (H : fzd h x = some (y, h')) (hx : Rep g x v) : ∃ g', Le g g' ∧ Rel g' h' w ∧ Rep g' y v := by
  unfold fzd at H
  split at H
  · rename_i n tot i off
    simp only [Option.bind_eq_some_iff] at H
    obtain ⟨⟨es, els⟩, hrow, e, he, H⟩ := H
    obtain ⟨hn, rfl⟩ := row_get hrow
    obtain ⟨seg0, hd1, hd2, hd3, hd4, hd5⟩ := elem_seg R hn he
    have key : ∀ (g1 : G) (h1 : Hp) (z : D), Le g g1 → Rel g1 h1 w → h1.get n = some (.arr es els) → Reps g1 (z.cells.map .d) seg0 → ∃ g', Le g g' ∧ Rel g' (h1.kill n) w ∧ Rep g' (.fp z off) v := by
      intro g1 h1 z l1 R1 hn1 hz
      have hx1 := hx.mono l1
      obtain ⟨o, ho, hle', R'⟩ := R1.frz hn1
      obtain ⟨seg, hc1, hc2, hc3, hc4, hc5⟩ := elem_seg R1 hn1 he
      obtain ⟨hnN, hnB, c, ty, vs, k1, k2, k3, k4, k5, k6, k7⟩ := R1.ob n _ hn1
      have ho' : o = .cells c ty (0, 0) := by
        have : w.heap[(g1.μ n els.length).b]? = some o := ho
        rw [k1] at this; cases this; rfl
      subst ho'
      have hμ := l1.μ n els.length (R.ob n _ hn).1 (by have := (R.ob n _ hn).2.1; rw [this]; exact Nat.le_refl _)
      have hss : seg0 = seg := by
        apply List.ext_getElem?
        intro j
        by_cases hj : j < es
        · obtain ⟨u, hu⟩ : ∃ u, seg0[j]? = some u := ⟨_, List.getElem?_eq_getElem (by omega)⟩
          obtain ⟨u', hu'⟩ : ∃ u, seg[j]? = some u := ⟨_, List.getElem?_eq_getElem (by omega)⟩
          have e1 := hd4 j u hu
          have e2 := hc4 j u' hu'
          rw [hμ] at e2
          rw [e1] at e2
          rw [hu, hu']; exact e2
        · rw [List.getElem?_eq_none (by omega), List.getElem?_eq_none (by omega)]
      subst hss
      refine ⟨_, l1.trans hle', R', ?_⟩
      cases hx1 with | ptr _ _ _ _ hN hB =>
      refine Rep.fp (g := g1.fix (blk g1 n (.arr es els)) (.cells c ty (0, 0))) z off _ _ seg0 ?_ ?_
      · exact (hz.mono hle').toDs (toDs_map_d z.cells) hc2
      · intro j v hj
        have hcell := hc4 j v hj
        unfold World.cell? at hcell
        simp only [k1] at hcell
        show cellφ (fun b => if b = blk g1 n (.arr es els) then some _ else g1.φ b) (g1.μ n els.length).b _ = some v
        simp only [cellφ, blk, Ob.tot, if_true]
        rw [hc5]; simpa using hcell
    split at H
    · rename_i x
      cases H
      exact key g h x (Le.refl g) R hn hd1
    · rename_i l
      simp only [Option.bind_eq_some_iff] at H
      obtain ⟨⟨ds, h1⟩, hf, H⟩ := H
      split at H
      · rename_i hsm
        cases H
        have hg1 : h1.get n = some (.arr es els) := by
          simp only [sameAt, hn] at hsm
          split at hsm
          · rename_i a b ha hb
            cases ha
            rw [hb, Ob.beq_eq hsm]
          · cases hsm
        obtain ⟨g1, l1, R1, r1⟩ := frzs_ok R hf hd1
        exact key g1 h1 (.agg ds) l1 R1 hg1 r1
      · cases H
    · cases H
  · cases H

/-! ### A region in the order of its text -/

theorem GivesN.frz {s : Sem Next} {x y : V} {h1 h' : Hp} (H : frz h1 x = some (y, h')) (hg : GivesN P g w s x h1) : GivesN P g w s y h' := by
  obtain ⟨nx, v, w', g', k1, k2, k3, k4, k5, k6⟩ := hg
  obtain ⟨g2, l1, l2, l3⟩ := frz_ok k4 H k5
  exact ⟨nx, v, w', g2, k1, k2, k3.trans l1, l2, l3, k6⟩
theorem op_ok {cf : Cf} {o : Oper} {op : AOp} {e : Env} {a : Act} {x : V} {h' : Hp} (hm : mtOp P o op = true) (he : EnvRep g e a) (R : Rel g h w) (H : opX cf e h op = some (x, h'))
    (hnp : ∀ x, op ≠ .pnc x) (hnc : ∀ f nm xs, (op ≠ .call f nm xs ∧ op ≠ .calln f nm xs ∧ op ≠ .callf f nm xs) ∧ ∀ k, op ≠ .callk k f nm xs ∧ op ≠ .callz k f nm xs) : GivesN P g w (execOp a.eval o) x h' := by
  cases op with
  | mv y =>
    simp only [opX] at H
    cases H
    simp only [mtOp] at hm
    split at hm
    · rename_i z hz
      exact ⟨.value (a.eval z), _, w, g, by simp [execOp, hz], .inl rfl, Le.refl g, R, opd_ok hm he, Fx.refl w⟩
    · rename_i z hz
      exact ⟨.value (a.eval z), _, w, g, by simp [execOp, hz], .inl rfl, Le.refl g, R, opd_ok hm he, Fx.refl w⟩
    · cases hm
  | pick c y z =>
    simp only [opX] at H
    obtain ⟨H1, hh1⟩ := pureV_some H
    clear H
    subst hh1
    have H := H1
    clear H1
    simp only [mtOp] at hm
    split at hm
    · rename_i c' y' z' hz
      simp only [Bool.and_eq_true] at hm
      simp only [execOp, hz]
      have := pick_ok (P := P) (w := w) H (opd_ok hm.1.1 he) (opd_ok hm.1.2 he) (opd_ok hm.2 he)
      obtain ⟨v, h1, h2⟩ := this
      refine ⟨.value v, v, w, g, ?_, .inl rfl, Le.refl g, R, h2, Fx.refl w⟩
      simp only [Sem.run_bind, Sem.run_pure] at h1 ⊢
      cases hb : (asBool (a.eval c')).run P w with
      | ok q w1 => rw [hb] at h1; simp only [Result.andThen_ok] at h1 ⊢; cases h1; rfl
      | halt q w1 => rw [hb] at h1; cases h1
    · cases hm
  | alloc es z =>
    simp only [opX] at H
    cases H
    simp only [mtOp] at hm
    split at hm
    · rename_i t hz
      split at hm
      · rename_i zv hzv
        simp only [Bool.and_eq_true, beq_iff_eq] at hm
        obtain ⟨i, hi, hzz⟩ := zeroT_ok hzv
        simp only [execOp, hz]
        exact GivesN.value (alloc_ok R hi hzz (rc_ok hm.1.1) hm.1.2 hm.2 _)
      · cases hm
    · cases hm
  | box es y =>
    simp only [opX] at H
    split at H
    · rename_i hc
      cases H
      simp only [mtOp] at hm
      split at hm
      · rename_i t z hz
        simp only [execOp, hz]
        exact GivesN.value (box_ok R (opd_ok hm he) hc.1 hc.2)
      · cases hm
    · cases H
  | build z ps =>
    simp only [opX] at H
    obtain ⟨H1, hh1⟩ := pureV_some H
    clear H
    subst hh1
    have H := H1
    clear H1
    simp only [mtOp] at hm
    split at hm
    · rename_i t qs hz
      split at hm
      · rename_i fs hfs
        simp only [Bool.and_eq_true] at hm
        obtain ⟨⟨m1, m2⟩, m3⟩ := hm
        split at m1
        · rename_i zv hzv
          obtain ⟨i, hi, hzz⟩ := zeroT_ok hzv
          obtain ⟨r1, r2⟩ := rcLs_ok (g := g) m1
          simp only [execOp, hz]
          refine GivesN.pureV R (build_ok hfs hi hzz r1 r2 (fun f hf => List.all_eq_true.1 m2 f hf) ?_ H)
          have := parts_ok (P := P) he m3
          simpa using this
        · cases m1
      · cases hm
    · cases hm
  | bsl es xs =>
    simp only [opX] at H
    split at H
    · rename_i hc
      cases H
      simp only [mtOp] at hm
      split at hm
      · rename_i t n qs hz
        simp only [Bool.and_eq_true, beq_iff_eq, decide_eq_true_eq] at hm
        obtain ⟨⟨⟨m1, m2⟩, m3⟩, m4⟩ := hm
        split at m1
        · rename_i e1 i1 z1 hel
          obtain ⟨e1', e2', e3'⟩ := elT_ok hel
          obtain ⟨s1, s2, s3⟩ := seq_reps he m4
          have hlen : (qs.toList.map fun p => a.eval p.2).length = n := by rw [List.length_map, s3, m2]
          have hb := bsl_ok R e1' e2' e3' (by simpa using m1) (by rw [hlen]; exact m3) s1 (all_stor hc)
          rw [hlen, ← s2] at hb
          simp only [execOp, hz]
          have hq : (qs.map fun x => (x.1, a.eval x.2)) = (qs.toList.map fun p => (p.1, a.eval p.2)).toArray := by
            apply Array.ext'; simp
          rw [show (qs.map fun (x : Nat × Operand) => match x with | (i, x) => (i, a.eval x)) = (qs.map fun x => (x.1, a.eval x.2)) from rfl, hq]
          rw [List.map_map] at hb
          exact GivesN.value hb
        · cases m1
      · cases hm
    · cases H
  | bslO es xs =>
    simp only [opX] at H
    split at H
    · rename_i hc
      cases H
      simp only [mtOp] at hm
      split at hm
      · rename_i t n qs hz
        simp only [Bool.and_eq_true, beq_iff_eq, decide_eq_true_eq] at hm
        obtain ⟨⟨⟨m1, m2⟩, m3⟩, m4⟩ := hm
        split at m1
        · rename_i e1 i1 z1 hel
          obtain ⟨e1', e2', e3'⟩ := elT_ok hel
          obtain ⟨s1, s2, s3⟩ := seq_reps he m4
          have hlen : (qs.toList.map fun p => a.eval p.2).length = n := by rw [List.length_map, s3, m2]
          have hb := bslO_ok R e1' e2' e3' (by simpa using m1) (by rw [hlen]; exact m3) s1 (all_stor hc)
          rw [hlen, ← s2, List.length_map] at hb
          simp only [execOp, hz]
          have hq : (qs.map fun x => (x.1, a.eval x.2)) = (qs.toList.map fun p => (p.1, a.eval p.2)).toArray := by
            apply Array.ext'; simp
          rw [show (qs.map fun (x : Nat × Operand) => match x with | (i, x) => (i, a.eval x)) = (qs.map fun x => (x.1, a.eval x.2)) from rfl, hq]
          rw [List.map_map] at hb
          exact GivesN.value hb
        · cases m1
      · cases hm
    · cases H
  | ld ag sz y =>
    simp only [opX] at H
    obtain ⟨H1, hh1⟩ := pureV_some H
    clear H
    subst hh1
    have H := H1
    clear H1
    simp only [mtOp] at hm
    split at hm
    · rename_i t z hz
      simp only [Bool.and_eq_true, beq_iff_eq] at hm
      obtain ⟨⟨⟨⟨m1, m2⟩, m3⟩, m4⟩, m5⟩ := hm
      simp only [execOp, hz]
      exact GivesN.pureV R (ld_ok m1 m2 m3 m4 R H (opd_ok m5 he))
    · cases hm
  | ldf ag sz y =>
    simp only [opX] at H
    obtain ⟨H1, hh1⟩ := pureV_some H
    clear H
    subst hh1
    have H := H1
    clear H1
    simp only [mtOp] at hm
    split at hm
    · rename_i t z hz
      simp only [Bool.and_eq_true, beq_iff_eq] at hm
      obtain ⟨⟨⟨⟨m1, m2⟩, m3⟩, m4⟩, m5⟩ := hm
      simp only [execOp, hz]
      have H' : ld ag sz h' (e.ev y) = some x := by
        unfold ldf at H
        split at H
        · exact H
        · cases H
      exact GivesN.pureV R (ld_ok m1 m2 m3 m4 R H' (opd_ok m5 he))
    · cases hm
  | st sz y z =>
    simp only [opX, Option.map_eq_some_iff] at H
    obtain ⟨h1, hst, heq⟩ := H
    cases heq
    simp only [mtOp] at hm
    split at hm
    · rename_i t b c hz
      simp only [Bool.and_eq_true, beq_iff_eq] at hm
      obtain ⟨⟨⟨m1, m2⟩, m3⟩, m4⟩ := hm
      simp only [execOp, hz]
      exact GivesN.unit (st_ok m1 m2 R hst (opd_ok m3 he) (opd_ok m4 he))
    · cases hm
  | stk k sz y z =>
    simp only [opX, Option.bind_eq_some_iff] at H
    obtain ⟨h1, hst, heq⟩ := H
    split at heq
    case isFalse => cases heq
    cases heq
    simp only [mtOp] at hm
    split at hm
    · rename_i t b c hz
      simp only [Bool.and_eq_true, beq_iff_eq] at hm
      obtain ⟨⟨⟨m1, m2⟩, m3⟩, m4⟩ := hm
      simp only [execOp, hz]
      exact GivesN.unit (st_ok m1 m2 R hst (opd_ok m3 he) (opd_ok m4 he))
    · cases hm
  | nilck y =>
    simp only [opX] at H
    obtain ⟨H1, hh1⟩ := pureV_some H
    clear H
    subst hh1
    have H := H1
    clear H1
    simp only [mtOp] at hm
    split at hm
    · rename_i z hz
      have hy := opd_ok hm he
      have hrun : (execOp a.eval o).run P w = .ok (.value (a.eval z)) w := by
        simp only [execOp, hz]
        unfold nilck at H
        split at H <;> first | cases H | skip
        · rename_i hev; rw [hev] at hy; generalize a.eval z = q at hy ⊢; cases hy; rfl
        · rename_i hev; rw [hev] at hy; generalize a.eval z = q at hy ⊢; cases hy; rfl
        · rename_i hev; rw [hev] at hy; generalize a.eval z = q at hy ⊢; cases hy; rfl
      have hx : x = e.ev y := by
        unfold nilck at H
        split at H <;> first | (cases H; (rename_i hev; rw [hev])) | cases H
      exact ⟨_, _, w, g, hrun, .inl rfl, Le.refl g, R, by rw [hx]; exact hy, Fx.refl w⟩
    · cases hm
  | bin op y z =>
    simp only [opX] at H
    obtain ⟨H1, hh1⟩ := pureV_some H
    clear H
    subst hh1
    have H := H1
    clear H1
    simp only [mtOp] at hm
    split at hm
    · rename_i op' t y' z' t' hz
      simp only [Bool.and_eq_true, decide_eq_true_eq] at hm
      obtain ⟨⟨rfl, m2⟩, m3⟩ := hm
      simp only [execOp, hz]
      have hy := opd_ok m2 he
      obtain ⟨v, h1, h2⟩ := bin_ok (P := P) (w := w) t H hy (opd_ok m3 he)
      have hgd : (eqGuard op t y' z' (a.eval y') (a.eval z')).run P w = .ok () w := by
        rcases bin_shape H with ⟨k, n, hs⟩ | ⟨s, hs⟩
        · exact eqGuard_ok hy (by rw [hs]; simp) (by rw [hs]; simp) (by rw [hs]; simp) (by rw [hs]; simp)
        · exact eqGuard_ok hy (by rw [hs]; simp) (by rw [hs]; simp) (by rw [hs]; simp) (by rw [hs]; simp)
      exact ⟨.value v, v, w, g, by simp only [Sem.run_bind, hgd, Result.andThen_ok, h1, Sem.run_pure], .inl rfl, Le.refl g, R, h2, Fx.refl w⟩
    · cases hm
  | binB op y z =>
    simp only [opX] at H
    obtain ⟨H1, hh1⟩ := pureV_some H
    clear H
    subst hh1
    have H := H1
    clear H1
    simp only [mtOp] at hm
    split at hm
    · rename_i op' t y' z' t' hz
      simp only [Bool.and_eq_true, decide_eq_true_eq] at hm
      obtain ⟨⟨⟨rfl, m1⟩, m2⟩, m3⟩ := hm
      simp only [execOp, hz]
      have hy := opd_ok m2 he
      have ht : P.underlying t = some .bool := by
        split at m1
        · assumption
        · cases m1
      obtain ⟨v, h1, h2⟩ := binB_ok (P := P) (w := w) ht H hy (opd_ok m3 he)
      have hgd : (eqGuard op t y' z' (a.eval y') (a.eval z')).run P w = .ok () w := by
        obtain ⟨b, hs⟩ := binB_shape H
        exact eqGuard_ok hy (by rw [hs]; simp) (by rw [hs]; simp) (by rw [hs]; simp) (by rw [hs]; simp)
      exact ⟨.value v, v, w, g, by simp only [Sem.run_bind, hgd, Result.andThen_ok, h1, Sem.run_pure], .inl rfl, Le.refl g, R, h2, Fx.refl w⟩
    · cases hm
  | nilBin k op y =>
    simp only [opX] at H
    obtain ⟨H1, hh1⟩ := pureV_some H
    clear H
    subst hh1
    have H := H1
    clear H1
    simp only [mtOp] at hm
    split at hm
    · rename_i op' t y' z' t' hz
      simp only [Bool.and_eq_true, decide_eq_true_eq, Bool.or_eq_true] at hm
      obtain ⟨⟨rfl, m1⟩, m2⟩ := hm
      simp only [execOp, hz]
      obtain ⟨q1, q2, q3⟩ := nilBin_shape H
      rcases m2 with ⟨n1, n2⟩ | ⟨n1, n2⟩
      · have hy := opd_ok n2 he
        rw [isNilC_ok n1 a]
        obtain ⟨v, h1, h2⟩ := (nilBin_ok (P := P) (w := w) m1 H hy).1
        have hgd : (eqGuard op t y' z' (a.eval y') (nilOf k)).run P w = .ok () w := eqGuard_c (.inr (isNilC_const n1)) (fun cs e => by
          rw [e] at hy
          rcases rep_agg hy with ⟨l, h⟩ | ⟨l, h⟩ | h
          · exact q1 l h
          · exact q2 l h
          · exact q3 h)
        exact ⟨.value v, v, w, g, by simp only [Sem.run_bind, hgd, Result.andThen_ok, h1, Sem.run_pure], .inl rfl, Le.refl g, R, h2, Fx.refl w⟩
      · have hy := opd_ok n2 he
        rw [isNilC_ok n1 a]
        obtain ⟨v, h1, h2⟩ := (nilBin_ok (P := P) (w := w) m1 H hy).2
        have hgd : (eqGuard op t y' z' (nilOf k) (a.eval z')).run P w = .ok () w := eqGuard_c (.inl (isNilC_const n1)) (fun cs e => by cases k <;> cases e)
        exact ⟨.value v, v, w, g, by simp only [Sem.run_bind, hgd, Result.andThen_ok, h1, Sem.run_pure], .inl rfl, Le.refl g, R, h2, Fx.refl w⟩
    · cases hm
  | aggBin ks op y z =>
    simp only [opX] at H
    obtain ⟨H1, hh1⟩ := pureV_some H
    clear H
    subst hh1
    have H := H1
    clear H1
    simp only [mtOp] at hm
    split at hm
    · rename_i op' t y' z' t' hz
      simp only [Bool.and_eq_true, decide_eq_true_eq] at hm
      obtain ⟨⟨⟨rfl, m1⟩, m2⟩, m3⟩ := hm
      simp only [execOp, hz]
      exact GivesN.pureV R (aggBin_ok m1 H (opd_ok m2 he) (opd_ok m3 he) y' z')
    · cases hm
  | un op y =>
    simp only [opX] at H
    obtain ⟨H1, hh1⟩ := pureV_some H
    clear H
    subst hh1
    have H := H1
    clear H1
    simp only [mtOp] at hm
    split at hm
    · rename_i op' t y' hz
      simp only [Bool.and_eq_true, decide_eq_true_eq] at hm
      obtain ⟨rfl, m2⟩ := hm
      simp only [execOp, hz]
      exact GivesN.pureV R (un_ok H (opd_ok m2 he))
    · cases hm
  | conv k y =>
    simp only [opX] at H
    obtain ⟨H1, hh1⟩ := pureV_some H
    clear H
    subst hh1
    have H := H1
    clear H1
    simp only [mtOp] at hm
    split at hm
    · rename_i s d y' hz
      simp only [Bool.and_eq_true] at hm
      obtain ⟨⟨m1, m2⟩, m3⟩ := hm
      split at m2
      · rename_i q hq
        have := of_decide_eq_true m2
        subst this
        simp only [execOp, hz]
        exact GivesN.pureV R (conv_ok m1 hq H (opd_ok m3 he))
      · cases m2
    · cases hm
  | mkf f caps =>
    simp only [opX] at H
    cases H
    simp only [mtOp] at hm
    split at hm
    · rename_i f' first cs hz
      simp only [Bool.and_eq_true, beq_iff_eq] at hm
      obtain ⟨⟨rfl, m2⟩, m3⟩ := hm
      have hfirst : first = #[] := by simpa using m2
      subst hfirst
      have hr := Rep.clo (g := g) f _ _ (opds_ok he m3)
      have e9 : execOp a.eval o = (do pure (.value (← (pure (.func (.func f) #[] (cs.toList.map a.eval).toArray) : Sem Value)))) := by
        simp only [execOp, hz, Instr.makeFunc]
        congr 3
        · simp
        · apply Array.ext'; simp
      rw [e9]
      exact GivesN.pureV R ⟨_, rfl, hr⟩
    · cases hm
  | mkmap =>
    simp only [opX] at H
    cases H
    simp only [mtOp] at hm
    split at hm
    · rename_i t hz
      simp only [execOp, hz]
      exact GivesN.value (mkmap_ok R)
    · rename_i t k n hz
      split at hm
      · rename_i k' e' ht
        simp only [execOp, hz]
        exact GivesN.value (mkmapR_ok R ht)
      · cases hm
    · cases hm
  | mksl z es b y =>
    simp only [opX] at H
    simp only [mtOp] at hm
    split at hm
    · rename_i t l c hz
      simp only [Bool.and_eq_true] at hm
      obtain ⟨⟨m1, m2⟩, m3⟩ := hm
      split at m1
      · rename_i e1 i1 z1 hel
        simp only [Bool.and_eq_true, beq_iff_eq] at m1
        obtain ⟨e1', e2', e3'⟩ := elT_ok hel
        obtain ⟨⟨⟨⟨n1, n2⟩, n3⟩, n4⟩, n5⟩ := m1
        simp only [execOp, hz]
        have hl := opd_ok m2 he
        have heq : a.eval c = a.eval l := by
          have H' := H
          unfold mkslO at H'
          simp only [Option.bind_eq_some_iff] at H'
          obtain ⟨k, hk, _⟩ := H'
          exact ix_unique hk (opd_ok m3 he) hl
        rw [heq]
        exact GivesN.value (mkslO_ok R e1' e2' e3' n1 n2 (rc_ok n3) n4 n5 H hl)
      · cases m1
    · cases hm
  | mkslT z b y =>
    simp only [opX] at H
    obtain ⟨H1, hh1⟩ := pureV_some H
    clear H
    subst hh1
    have H := H1
    clear H1
    simp only [mtOp] at hm
    split at hm
    · rename_i t l c hz
      simp only [Bool.and_eq_true] at hm
      obtain ⟨⟨m1, m2⟩, m3⟩ := hm
      split at m1
      · rename_i e1 i1 z1 hel
        simp only [Bool.and_eq_true, beq_iff_eq] at m1
        obtain ⟨e1', e2', e3'⟩ := elT_ok hel
        obtain ⟨⟨⟨n2, n3⟩, n4⟩, n5⟩ := m1
        simp only [execOp, hz]
        have hl := opd_ok m2 he
        have heq : a.eval c = a.eval l := by
          have H' := H
          unfold mkslT at H'
          simp only [Option.bind_eq_some_iff] at H'
          obtain ⟨k, hk, _⟩ := H'
          exact ix_unique hk (opd_ok m3 he) hl
        rw [heq]
        exact GivesN.value (mkslT_ok R e1' e2' e3' rfl n2 (rc_ok n3) n4 n5 H hl)
      · cases m1
    · cases hm
  | slcS y lo hi =>
    simp only [opX] at H
    obtain ⟨H1, hh1⟩ := pureV_some H
    clear H
    subst hh1
    have H := H1
    clear H1
    simp only [mtOp] at hm
    split at hm
    · rename_i t y' lo' hi' hz
      simp only [Bool.and_eq_true] at hm
      obtain ⟨⟨⟨m1, m2⟩, m3⟩, m4⟩ := hm
      split at m1
      · rename_i ht
        simp only [execOp, hz]
        exact GivesN.pureV R (slcS_ok ht H (opd_ok m2 he) (opdO_ok m3 he) (opdO_ok m4 he))
      · cases m1
    · cases hm
  | slc es y lo hi =>
    simp only [opX] at H
    obtain ⟨H1, hh1⟩ := pureV_some H
    clear H
    subst hh1
    have H := H1
    clear H1
    simp only [mtOp] at hm
    split at hm
    · rename_i t y' lo' hi' hz
      simp only [Bool.and_eq_true] at hm
      obtain ⟨⟨⟨m1, m2⟩, m3⟩, m4⟩ := hm
      split at m1
      · rename_i e1 ht
        simp only [Bool.and_eq_true, beq_iff_eq] at m1
        simp only [execOp, hz]
        exact GivesN.pureV R (slc_ok ht m1.1 m1.2 H (opd_ok m2 he) (opdO_ok m3 he) (opdO_ok m4 he))
      · cases m1
    · cases hm
  | slc3 es y lo hi mx =>
    simp only [opX] at H
    obtain ⟨H1, hh1⟩ := pureV_some H
    clear H
    subst hh1
    have H := H1
    clear H1
    simp only [mtOp] at hm
    split at hm
    · rename_i t y' lo' hi' mx' hz
      simp only [Bool.and_eq_true] at hm
      obtain ⟨⟨⟨⟨⟨⟨m1, m2⟩, m3⟩, m4⟩, m5⟩, m6⟩, m7⟩ := hm
      split at m1
      · rename_i e1 ht
        simp only [Bool.and_eq_true, beq_iff_eq] at m1
        simp only [execOp, hz]
        exact GivesN.pureV R (slc3_ok ht m1.1 m1.2 (by simpa using m6) (by simpa using m7) H (opd_ok m2 he) (opdO_ok m3 he) (opdO_ok m4 he) (opdO_ok m5 he))
      · cases m1
    · cases hm
  | fa off y =>
    simp only [opX] at H
    obtain ⟨H1, hh1⟩ := pureV_some H
    clear H
    subst hh1
    have H := H1
    clear H1
    simp only [mtOp] at hm
    split at hm
    · rename_i t y' i hz
      simp only [Bool.and_eq_true] at hm
      obtain ⟨m1, m2⟩ := hm
      split at m1
      · rename_i f hf
        simp only [Bool.and_eq_true, beq_iff_eq, Bool.not_eq_true', beq_eq_false_iff_ne] at m1
        obtain ⟨fs, hfs, hfi⟩ := fieldT_ok hf
        simp only [execOp, hz]
        exact GivesN.pureV R (fa_ok hfs hfi m1.1.1 m1.1.2 m1.2 H (opd_ok m2 he))
      · cases m1
    · cases hm
  | fld ag off sz y =>
    simp only [opX] at H
    obtain ⟨H1, hh1⟩ := pureV_some H
    clear H
    subst hh1
    have H := H1
    clear H1
    simp only [mtOp] at hm
    split at hm
    · rename_i t y' i hz
      simp only [Bool.and_eq_true] at hm
      obtain ⟨m1, m2⟩ := hm
      split at m1
      · rename_i f hf
        simp only [Bool.and_eq_true, beq_iff_eq] at m1
        obtain ⟨fs, hfs, hfi⟩ := fieldT_ok hf
        simp only [execOp, hz]
        exact GivesN.pureV R (fld_ok hfs hfi m1.1.1.1.1 m1.1.1.1.2 m1.1.1.2 m1.1.2 m1.2 H (opd_ok m2 he))
      · cases m1
    · cases hm
  | ia es y i =>
    simp only [opX] at H
    obtain ⟨H1, hh1⟩ := pureV_some H
    clear H
    subst hh1
    have H := H1
    clear H1
    simp only [mtOp] at hm
    split at hm
    · rename_i t y' i' hz
      simp only [Bool.and_eq_true] at hm
      obtain ⟨⟨m1, m2⟩, m3⟩ := hm
      split at m1
      · rename_i e1 ht
        simp only [Bool.and_eq_true, beq_iff_eq] at m1
        simp only [execOp, hz]
        exact GivesN.pureV R (ia_ok ht m1.1 m1.2 H (opd_ok m2 he) (opd_ok m3 he))
      · cases m1
    · cases hm
  | ixS y i =>
    simp only [opX] at H
    obtain ⟨H1, hh1⟩ := pureV_some H
    clear H
    subst hh1
    have H := H1
    clear H1
    simp only [mtOp] at hm
    split at hm
    · rename_i t y' i' hz
      simp only [Bool.and_eq_true] at hm
      obtain ⟨⟨m1, m2⟩, m3⟩ := hm
      split at m1
      · rename_i ht
        simp only [execOp, hz]
        exact GivesN.pureV R (ixS_ok ht H (opd_ok m2 he) (opd_ok m3 he))
      · cases m1
    · cases hm
  | lk kk z ok m k =>
    simp only [opX] at H
    obtain ⟨H1, hh1⟩ := pureV_some H
    clear H
    subst hh1
    have H := H1
    clear H1
    simp only [mtOp] at hm
    split at hm
    · rename_i t m' k' ok' hz
      simp only [Bool.and_eq_true, beq_iff_eq] at hm
      obtain ⟨⟨⟨m1, rfl⟩, m3⟩, m4⟩ := hm
      split at m1
      · rename_i q e1 ht
        simp only [Bool.and_eq_true] at m1
        obtain ⟨n1, n2⟩ := m1
        split at n2
        · rename_i zv hzv
          obtain ⟨i, hi, hzz⟩ := zeroT_ok hzv
          simp only [execOp, hz]
          exact GivesN.pureV R (lk_ok R ht n1 hi hzz (rc_ok n2) H (opd_ok m3 he) (opd_ok m4 he))
        · cases n2
      · cases m1
    · cases hm
  | mu kk m k y =>
    simp only [opX, Option.map_eq_some_iff] at H
    obtain ⟨h1, hst, heq⟩ := H
    cases heq
    simp only [mtOp] at hm
    split at hm
    · rename_i t m' k' y' hz
      simp only [Bool.and_eq_true] at hm
      obtain ⟨⟨⟨m1, m2⟩, m3⟩, m4⟩ := hm
      split at m1
      · rename_i q e1 ht
        simp only [execOp, hz]
        exact GivesN.unit (mu_ok R ht m1 hst (opd_ok m2 he) (opd_ok m3 he) (opd_ok m4 he))
      · cases m1
    · rename_i t m' k' y' hz
      simp only [Bool.and_eq_true] at hm
      obtain ⟨⟨⟨m1, m2⟩, m3⟩, m4⟩ := hm
      split at m1
      · rename_i q e1 ht
        simp only [execOp, hz]
        exact GivesN.unit (mu_ok R ht m1 hst (opd_ok m2 he) (opd_ok m3 he) (opd_ok m4 he))
      · cases m1
    · cases hm
  | lenS y =>
    simp only [opX] at H
    obtain ⟨H1, hh1⟩ := pureV_some H
    clear H
    subst hh1
    have H := H1
    clear H1
    simp only [mtOp] at hm
    split at hm
    · rename_i y' t hz
      simp only [Bool.and_eq_true] at hm
      obtain ⟨m1, m2⟩ := hm
      split at m1
      · rename_i ht
        have e1 : execOp a.eval o = (do pure (.value (← Builtin.len_ #[t] o.type #[a.eval y']))) := by simp [execOp, hz, resolve, invoke, builtin]
        rw [e1]
        exact GivesN.pureV R (lenS_ok (ty := o.type) ht H (opd_ok m2 he))
      · cases m1
    · cases hm
  | lenL y =>
    simp only [opX] at H
    obtain ⟨H1, hh1⟩ := pureV_some H
    clear H
    subst hh1
    have H := H1
    clear H1
    simp only [mtOp] at hm
    split at hm
    · rename_i y' t hz
      simp only [Bool.and_eq_true] at hm
      obtain ⟨m1, m2⟩ := hm
      split at m1
      · rename_i e1 ht
        have e1 : execOp a.eval o = (do pure (.value (← Builtin.len_ #[t] o.type #[a.eval y']))) := by simp [execOp, hz, resolve, invoke, builtin]
        rw [e1]
        exact GivesN.pureV R (lenL_ok (ty := o.type) ht H (opd_ok m2 he))
      · cases m1
    · cases hm
  | pnc y => exact absurd rfl (hnp y)
  | mkif t y =>
    simp only [opX] at H
    obtain ⟨H1, hh1⟩ := pureV_some H
    clear H
    subst hh1
    simp only [mtOp] at hm
    split at hm
    · rename_i t' y' hz
      simp only [Bool.and_eq_true, beq_iff_eq] at hm
      obtain ⟨⟨rfl, ht⟩, hy⟩ := hm
      simp only [execOp, hz]
      simp only [mkif, Option.map_eq_some_iff] at H1
      obtain ⟨z, hz2, rfl⟩ := H1
      have hr := (opd_ok hy he).toD hz2
      have hd : ∃ d, P.underlying t = some d ∧ ∀ m, d ≠ .interface m := by
        split at ht
        · cases ht
        · rename_i d hd hnd; exact ⟨d, hnd, fun m e => hd m e⟩
        · cases ht
      obtain ⟨d, hd1, hd2⟩ := hd
      refine ⟨.value (.iface t (a.eval y')), _, w, g, ?_, .inl rfl, Le.refl g, R, .ifc t z _ hr, Fx.refl w⟩
      simp only [Instr.makeInterface, Sem.run_bind, run_underlying hd1, Result.andThen_ok]
      cases d <;> first | rfl | exact absurd rfl (hd2 _)
    · cases hm
  | tas t y =>
    simp only [opX] at H
    obtain ⟨H1, hh1⟩ := pureV_some H
    clear H
    subst hh1
    simp only [mtOp] at hm
    split at hm
    · rename_i y' q t' hz
      simp only [Bool.and_eq_true, beq_iff_eq] at hm
      obtain ⟨⟨rfl, ht⟩, hy⟩ := hm
      simp only [execOp, hz]
      have hr := opd_ok hy he
      unfold tas at H1
      split at H1
      · rename_i u z hu
        split at H1
        · rename_i hut
          cases H1
          subst hut
          rw [hu] at hr
          generalize a.eval y' = fv at hr
          cases hr with | ifc _ _ v hv =>
          have hd : ∃ d, P.underlying u = some d ∧ ∀ m, d ≠ .interface m := by
            split at ht
            · cases ht
            · rename_i d hd hnd; exact ⟨d, hnd, fun m e => hd m e⟩
            · cases ht
          obtain ⟨d, hd1, hd2⟩ := hd
          refine ⟨.value (.tuple #[v, .bool true]), _, w, g, ?_, .inl rfl, Le.refl g, R, .tup _ [v, .bool true] (.cons _ _ _ _ (.d _ _ hv) (.cons _ _ _ _ (.d _ _ (.bool true)) .nil)), Fx.refl w⟩
          simp only [Instr.typeAssert, Sem.run_bind, run_underlying hd1, Result.andThen_ok]
          cases d <;> first | simp | exact absurd rfl (hd2 _)
        · cases H1
      · cases H1
    · cases hm
  | stuck => simp only [opX] at H; cases H
  | ldk k ag sz y =>
    simp only [opX] at H
    obtain ⟨H1, hh1⟩ := pureV_some H
    clear H
    subst hh1
    have H : ld ag sz h' (e.ev y) = some x := ldk_ld H1
    clear H1
    simp only [mtOp] at hm
    split at hm
    · rename_i t z hz
      simp only [Bool.and_eq_true, beq_iff_eq] at hm
      obtain ⟨⟨⟨⟨m1, m2⟩, m3⟩, m4⟩, m5⟩ := hm
      simp only [execOp, hz]
      exact GivesN.pureV R (ld_ok m1 m2 m3 m4 R H (opd_ok m5 he))
    · cases hm
  | capT y =>
    simp only [opX] at H
    obtain ⟨H1, hh1⟩ := pureV_some H
    clear H
    subst hh1
    have H := H1
    clear H1
    simp only [mtOp] at hm
    split at hm
    · rename_i y' t hz
      simp only [Bool.and_eq_true] at hm
      obtain ⟨m1, m2⟩ := hm
      split at m1
      · rename_i e1 ht
        have e1 : execOp a.eval o = (do pure (.value (← Builtin.cap_ #[t] o.type #[a.eval y']))) := by simp [execOp, hz, resolve, invoke, builtin]
        rw [e1]
        exact GivesN.pureV R (capT_ok (ty := o.type) ht H (opd_ok m2 he))
      · cases m1
    · cases hm
  | appz z es b s y =>
    simp only [opX] at H
    simp only [mtOp] at hm
    split at hm
    · rename_i s' y' t t2 hz
      simp only [Bool.and_eq_true] at hm
      obtain ⟨⟨⟨m1, m2⟩, m3⟩, m4⟩ := hm
      split at m1
      · rename_i e1 i1 z1 hel
        simp only [Bool.and_eq_true, beq_iff_eq, decide_eq_true_eq] at m1
        obtain ⟨e1', e2', e3'⟩ := elT_ok hel
        obtain ⟨⟨⟨⟨⟨n1, n2⟩, n3⟩, n4⟩, n5⟩, n6⟩ := m1
        split at m2
        · rename_i ht2
          have e9 : execOp a.eval o = (do pure (.value (← Builtin.append_ #[t, t2] o.type #[a.eval s', a.eval y']))) := by simp [execOp, hz, resolve, invoke, builtin]
          rw [e9]
          exact GivesN.value (appz_ok (ty := o.type) R e1' ht2 e2' e3' n1 n2 n3 (rc_ok n4) n5 n6 H (opd_ok m3 he) (opd_ok m4 he))
        · cases m2
      · cases m1
    · cases hm
  | lenM y =>
    simp only [opX] at H
    obtain ⟨H1, hh1⟩ := pureV_some H
    clear H
    subst hh1
    have H := H1
    clear H1
    simp only [mtOp] at hm
    split at hm
    · rename_i y' t hz
      simp only [Bool.and_eq_true] at hm
      obtain ⟨m1, m2⟩ := hm
      split at m1
      · rename_i k1 e1 ht
        have e1 : execOp a.eval o = (do pure (.value (← Builtin.len_ #[t] o.type #[a.eval y']))) := by simp [execOp, hz, resolve, invoke, builtin]
        rw [e1]
        exact GivesN.pureV R (lenM_ok (ty := o.type) R ht H (opd_ok m2 he))
      · cases m1
    · cases hm
  | app es b s y =>
    simp only [opX] at H
    simp only [mtOp] at hm
    split at hm
    · rename_i s' y' t t2 hz
      simp only [Bool.and_eq_true] at hm
      obtain ⟨⟨⟨m1, m2⟩, m3⟩, m4⟩ := hm
      split at m1
      · rename_i e1 i1 z1 hel
        simp only [Bool.and_eq_true, beq_iff_eq, decide_eq_true_eq] at m1
        obtain ⟨e1', e2', e3'⟩ := elT_ok hel
        split at m2
        · rename_i e2 ht2
          have e9 : execOp a.eval o = (do pure (.value (← Builtin.append_ #[t, t2] o.type #[a.eval s', a.eval y']))) := by simp [execOp, hz, resolve, invoke, builtin]
          rw [e9]
          exact GivesN.value (app_ok (ty := o.type) R e1' ht2 e2' e3' m1.1.1.1 m1.2 m1.1.1.2 m1.1.2 H (opd_ok m3 he) (opd_ok m4 he))
        · cases m2
      · cases m1
    · cases hm
  | appn es b s y =>
    simp only [opX] at H
    have H' : app es b h (e.ev s) (e.ev y) = some (x, h') := by
      unfold appn at H
      split at H
      · exact H
      · cases H
    simp only [mtOp] at hm
    split at hm
    · rename_i s' y' t t2 hz
      simp only [Bool.and_eq_true] at hm
      obtain ⟨⟨⟨m1, m2⟩, m3⟩, m4⟩ := hm
      split at m1
      · rename_i e1 i1 z1 hel
        simp only [Bool.and_eq_true, beq_iff_eq, decide_eq_true_eq] at m1
        obtain ⟨e1', e2', e3'⟩ := elT_ok hel
        split at m2
        · rename_i e2 ht2
          have e9 : execOp a.eval o = (do pure (.value (← Builtin.append_ #[t, t2] o.type #[a.eval s', a.eval y']))) := by simp [execOp, hz, resolve, invoke, builtin]
          rw [e9]
          exact GivesN.value (app_ok (ty := o.type) R e1' ht2 e2' e3' m1.1.1.1 m1.2 m1.1.1.2 m1.1.2 H' (opd_ok m3 he) (opd_ok m4 he))
        · cases m2
      · cases m1
    · cases hm
  | appf es b s y =>
    simp only [opX] at H
    simp only [Option.bind_eq_some_iff] at H
    obtain ⟨⟨x1, h1⟩, H', Hf⟩ := H
    simp only [mtOp] at hm
    split at hm
    · rename_i s' y' t t2 hz
      simp only [Bool.and_eq_true] at hm
      obtain ⟨⟨⟨m1, m2⟩, m3⟩, m4⟩ := hm
      split at m1
      · rename_i e1 i1 z1 hel
        simp only [Bool.and_eq_true, beq_iff_eq, decide_eq_true_eq] at m1
        obtain ⟨e1', e2', e3'⟩ := elT_ok hel
        split at m2
        · rename_i e2 ht2
          have e9 : execOp a.eval o = (do pure (.value (← Builtin.append_ #[t, t2] o.type #[a.eval s', a.eval y']))) := by simp [execOp, hz, resolve, invoke, builtin]
          rw [e9]
          exact GivesN.frz Hf (GivesN.value (app_ok (ty := o.type) R e1' ht2 e2' e3' m1.1.1.1 m1.2 m1.1.1.2 m1.1.2 H' (opd_ok m3 he) (opd_ok m4 he)))
        · cases m2
      · cases m1
    · cases hm
  | appd es b s y =>
    simp only [opX] at H
    obtain ⟨H1, hh1⟩ := pureV_some H; subst hh1
    simp only [mtOp] at hm
    split at hm
    · rename_i s' y' t t2 hz
      simp only [Bool.and_eq_true] at hm
      obtain ⟨⟨⟨m1, m2⟩, m3⟩, m4⟩ := hm
      split at m1
      · rename_i e1 i1 z1 hel
        simp only [Bool.and_eq_true, beq_iff_eq, decide_eq_true_eq] at m1
        obtain ⟨e1', e2', e3'⟩ := elT_ok hel
        split at m2
        · rename_i e2 ht2
          have e9 : execOp a.eval o = (do pure (.value (← Builtin.append_ #[t, t2] o.type #[a.eval s', a.eval y']))) := by simp [execOp, hz, resolve, invoke, builtin]
          rw [e9]
          exact GivesN.value (appd_ok (ty := o.type) R e1' ht2 e2' e3' m1.1.1.1 m1.2 m1.1.1.2 m1.1.2 H1 (opd_ok m3 he) (opd_ok m4 he))
        · cases m2
      · cases m1
    · cases hm
  | cpy es s y =>
    simp only [opX] at H
    simp only [mtOp] at hm
    split at hm
    · rename_i s' y' t t2 hz
      simp only [Bool.and_eq_true] at hm
      obtain ⟨⟨m1, m2⟩, m3⟩ := hm
      split at m1
      · rename_i e1 i1 z1 hel
        obtain ⟨e1', e2', e3'⟩ := elT_ok hel
        have e9 : execOp a.eval o = (do pure (.value (← Builtin.copy_ #[t, t2] o.type #[a.eval s', a.eval y']))) := by simp [execOp, hz, resolve, invoke, builtin]
        rw [e9]
        exact GivesN.value (cpy_ok (ty := o.type) R e1' (by rw [e2']; rfl) (by simpa using m1) H (opd_ok m2 he) (opd_ok m3 he))
      · cases m1
    · cases hm
  | ext i y =>
    simp only [opX] at H
    obtain ⟨H1, hh1⟩ := pureV_some H
    clear H
    subst hh1
    have H := H1
    clear H1
    simp only [mtOp] at hm
    split at hm
    · rename_i y' j hz
      simp only [Bool.and_eq_true, beq_iff_eq] at hm
      obtain ⟨rfl, m2⟩ := hm
      simp only [execOp, hz]
      exact GivesN.pureV R (ext_ok H (opd_ok m2 he))
    · cases hm
  | call f nm xs => exact absurd rfl (hnc f nm xs).1.1
  | calln f nm xs => exact absurd rfl (hnc f nm xs).1.2.1
  | callf f nm xs => exact absurd rfl (hnc f nm xs).1.2.2
  | callk k f nm xs => exact absurd rfl ((hnc f nm xs).2 k).1
  | callz k f nm xs => exact absurd rfl ((hnc f nm xs).2 k).2

end
end Zv
end
section
set_option linter.unusedSimpArgs false
set_option linter.unusedVariables false
set_option linter.unusedSimpArgs false
namespace Zv
open Go

section
variable {P : Program} {g : G} {h : Hp} {w : World}

abbrev Cs := Nat → List V → Hp → Option (V × Hp)

/-- Everything is let in; the loop's record whose round it is. -/
abbrev FR (r : Option Nat) : Fence := { Fence.wide with round := r }
abbrev CTy := Nat → Array Tmp → Code → Code → Nat → Prop

/-- What a call comes to: the function called or the round. -/
def Doing (P : Program) (nx : Next) (w : World) (R : Ending → World → Prop) : Prop := match nx with
  | .enter f args => CallsIn (FR none) 0 P f args w R
  | .round l f tmps asg bdy => RoundIn (FR none) 0 P l f tmps asg bdy w R
  | _ => False

/-- The panic with a value of a type. -/
def chainOf (t : TypeId) (v : Value) : List PanicEntry := [{ v := .iface t v, recovered := false }]
/-- What a result says of how a call ends. -/
def RepE (g : G) (x : V) (e : Ending) : Prop := (isPan x = none ∧ ∃ v, e = .returned v ∧ Rep g x v) ∨ ∃ t y v, x = .pan t y ∧ e = .panicked (chainOf t v) ∧ RepD g.φ y v
theorem rep_np {x : V} {v : Value} (h : Rep g x v) : isPan x = none := by
  cases h <;> rfl
theorem RepE.of {x : V} {v : Value} (h : Rep g x v) : RepE g x (.returned v) := .inl ⟨rep_np h, v, rfl, h⟩
theorem RepE.np {x : V} {e : Ending} (h : RepE g x e) (hx : isPan x = none) : ∃ v, e = .returned v ∧ Rep g x v := by
  rcases h with ⟨_, h⟩ | ⟨t, y, v, rfl, _⟩
  · exact h
  · cases hx
theorem RepE.pan {t : Nat} {y : D} {e : Ending} (h : RepE g (.pan t y) e) : ∃ v, e = .panicked (chainOf t v) ∧ RepD g.φ y v := by
  rcases h with ⟨hx, _⟩ | ⟨t', y', v, hq, h1, h2⟩
  · cases hx
  · cases hq; exact ⟨v, h1, h2⟩
/-- The calls of c are the machine's. -/
structure CallOk (P : Program) (CC : CTy) (c : Cs) : Prop where
  fn : ∀ f vs h r h', f ≠ YF → c f vs h = some (r, h') →
    (∃ fn, P.funcs[f]? = some fn ∧ fn.body.isSome = true ∧ (fn.name == "runtime.NumGoroutine") = false) ∧
    ∀ (g : G) (w : World) (vals : List Value), Rel g h w → g.C = CC → Reps g vs vals →
      Calls P f vals.toArray w fun e w' => ∃ g', Le g g' ∧ Rel g' h' w' ∧ RepE g' r e ∧ Fx w w'
  yl : ∀ n vs h r h', c YF (.yld n :: vs) h = some (r, h') →
    ∀ (g : G) (w : World) (vals : List Value), Rel g h w → g.C = CC → n < g.N → Reps g vs vals →
      ∃ f tmps asg bdy, (Instr.yield (g.μ n 0).b vals.toArray).run P w = .ok (.round (g.μ n 0).b f tmps asg bdy) w ∧
        RoundIn (FR none) 0 P (g.μ n 0).b f tmps asg bdy w fun e w' => ∃ v, e = .returned v ∧ ∃ g', Le g g' ∧ Rel g' h' w' ∧ Rep g' r v ∧ Fx w w'

def mtG (ops : Array Oper) : Option (Nat × Bool) → Option (Nat × Bool) → Bool
  | none, none => true
  | some (j, b), some (t, b') => b == b' && (match (ops[j]?).bind (·.dst) with
    | some u => u == t
    | none => false)
  | _, _ => false

theorem want_ok {ops : Array Oper} {o : Oper} {gd : Option (Nat × Bool)} {e : Env} {a : Act} {b : Bool} (hm : mtG ops o.guard gd = true) (he : EnvRep g e a) (H : want e gd = some b) :
    Region.wanted o (yielded ops a.tmps) = b := by
  unfold Region.wanted
  cases hgo : o.guard with
  | none =>
    cases gd with
    | none => cases H; rfl
    | some q => rw [hgo] at hm; cases hm
  | some p =>
  cases gd with
  | none => rw [hgo] at hm; cases hm
  | some p' =>
    obtain ⟨j, q⟩ := p
    obtain ⟨t, q'⟩ := p'
    rw [hgo] at hm
    simp only [mtG]at hm
    simp only [Bool.and_eq_true, beq_iff_eq] at hm
    obtain ⟨rfl, h3⟩ := hm
    split at h3
    · rename_i u hu
      simp only [beq_iff_eq] at h3
      subst h3
      have hr := he u
      simp only [want] at H
      split at H
      · rename_i c hc
        rw [hc] at hr
        have hv := hr.boolI
        cases H
        have hg : a.tmps[u]? = some (.bool c) := by
          rw [Array.getD_eq_getD_getElem?] at hv
          cases ht : a.tmps[u]? with
          | none => rw [ht] at hv; cases hv
          | some z => rw [ht] at hv; simp at hv; rw [hv]
        simp [yielded, hu, hg]
      · rename_i hc
        rw [hc] at hr
        cases H
        have hv : a.tmps.getD u undef = .tuple #[] := by
          generalize a.tmps.getD u undef = z at hr
          cases hr with | tup _ vs hs => cases hs; rfl
        have hg : a.tmps[u]? = none ∨ a.tmps[u]? = some (.tuple #[]) := by
          rw [Array.getD_eq_getD_getElem?] at hv
          cases ht : a.tmps[u]? with
          | none => exact .inl rfl
          | some z => rw [ht] at hv; simp at hv; rw [hv]; exact .inr rfl
        rcases hg with hg | hg <;> simp [yielded, hu, hg]
      · cases H
    · cases h3

theorem env_put {e : Env} {a : Act} {x : V} {v : Value} (dst : Option Nat) (hd : ∀ d, dst = some d → d < a.tmps.size) (he : EnvRep g e a) (hx : Rep g x v) : EnvRep g (e.putO dst x) (a.put dst v) := by
  intro t
  cases dst with
  | none => exact he t
  | some d =>
    show Rep g (if t = d then x else e.get t) ((a.tmps.setIfInBounds d v).getD t undef)
    have hlt := hd d rfl
    rw [Array.getD_eq_getD_getElem?, Array.getElem?_setIfInBounds]
    by_cases h : t = d
    · subst h; rw [if_pos rfl, if_pos rfl, if_pos hlt]; exact hx
    · rw [if_neg h, if_neg (fun e => h e.symm), ← Array.getD_eq_getD_getElem?]; exact he t

theorem EnvRep.mono {g' : G} {e : Env} {a : Act} (hle : Le g g') (he : EnvRep g e a) : EnvRep g' e a := fun t => (he t).mono hle

theorem put_size (a : Act) (dst : Option Nat) (v : Value) : (a.put dst v).tmps.size = a.tmps.size ∧ (a.put dst v).defers = a.defers := by
  cases dst <;> simp [Act.put]

theorem put_other {a : Act} {dst : Option Nat} {v : Value} {t : Nat} (h : dst ≠ some t) : (a.put dst v).tmps.getD t undef = a.tmps.getD t undef := by
  cases dst with
  | none => rfl
  | some d =>
    have hne : d ≠ t := fun e => h (by rw [e])
    simp [Act.put, Array.getElem?_setIfInBounds_ne hne]

theorem norm_args : ∀ {bs : List Bool} {vs : List V} {vals : List Value}, bs.length = vs.length → Reps g vs vals → Reps g (normArgs bs vs) vals
  | [], [], _, _, h => h
  | b :: bs, x :: l, _, hl, h => by
    cases h with | cons _ _ v vs hx hs =>
    refine .cons _ _ v vs ?_ (norm_args (by simpa using hl) hs)
    split
    · exact hx.norm
    · exact hx
  | [], _ :: _, _, hl, _ => by cases hl
  | _ :: _, [], _, hl, _ => by cases hl

/-- A call of a function, in a region. -/
theorem call_ok {CC : CTy} {c : Cs} (HC : CallOk P CC c) {o : Oper} {f : Opd} {nm : List Bool} {xs : List Opd} {e : Env} {a : Act} {x : V} {h' : Hp} {f' : Operand} {args : Array Operand} {ts : Array TypeId}
    (ho : o.op = .call ⟨.value f', args, ts⟩) (hf : mtOpd f' f = true) (hx : mtOpds args.toList xs = true) (hn : nm.length = xs.length) (he : EnvRep g e a) (R : Rel g h w) (hCC : g.C = CC)
    (H : callee c (e.ev f) (normArgs nm (xs.map e.ev)) h = some (x, h')) :
    ∃ nx, (execOp a.eval o).run P w = .ok nx w ∧ Doing P nx w fun e w' => ∃ g', Le g g' ∧ Rel g' h' w' ∧ RepE g' x e ∧ Fx w w' := by
  have hfr := opd_ok hf he
  generalize e.ev f = fv at H hfr
  cases fv with
  | clo fid caps =>
    simp only [callee] at H
    by_cases hy : fid = YF
    · rw [if_pos hy] at H; cases H
    rw [if_neg hy] at H
    obtain ⟨⟨fn, hfn, hb, hname⟩, hcall⟩ := HC.fn _ _ _ _ _ hy H
    generalize hfe : a.eval f' = fval at hfr
    cases hfr with | clo _ _ cv hcr =>
    have hxr := norm_args (by rw [hn, List.length_map]) (opds_ok he hx)
    refine ⟨.enter fid (args.toList.map a.eval ++ cv).toArray, ?_, ?_⟩
    · have hb' : fn.body.isNone = false := by cases hq : fn.body <;> simp_all
      simp only [execOp, ho, resolve, hfe, Deferred.ofValue, invoke, callFunc, Sem.run_bind, Sem.run_pure, Result.andThen_ok, run_program, hfn, hname, hb', Bool.false_eq_true, if_false]
      congr 2
      apply Array.ext'
      simp
    · exact callsIn_wide.2 (hcall g w _ R hCC (hxr.app hcr))
  | yld n =>
    simp only [callee] at H
    generalize hfe : a.eval f' = fval at hfr
    cases hfr with | yld _ hN =>
    have hxr := norm_args (by rw [hn, List.length_map]) (opds_ok he hx)
    obtain ⟨fr, tmps, asg, bdy, r1, r2⟩ := HC.yl n _ _ _ _ H g w _ R hCC hN hxr
    refine ⟨.round (g.μ n 0).b fr tmps asg bdy, ?_, RoundIn.mono (F := FR none) r2 (by
      rintro e2 w2 ⟨v, rfl, g', l1, l2, l3, l4⟩
      exact ⟨g', l1, l2, .of l3, l4⟩)⟩
    have e1 : (args.toList.map a.eval).toArray = args.map a.eval := by apply Array.ext'; simp
    rw [e1] at r1
    simp only [execOp, ho, resolve, hfe, Deferred.ofValue, invoke, callFunc, Sem.run_bind, Sem.run_pure, Result.andThen_ok, Array.append_empty, Array.empty_append]
    exact r1
  | _ => cases H

theorem mtOp_nd {o : Oper} {op : AOp} (h : mtOp P o op = true) : ∀ c, o.op ≠ .defer c := by
  intro c hc
  cases op <;> simp [mtOp, hc] at h

theorem CallsIn.inRound' {ro : Option Nat} {f : FuncId} {args : Array Value} {w : World} {R : Ending → World → Prop} (h : CallsIn (FR none) 0 P f args w R) : CallsIn (FR ro) (0 - 1) P f args w R := h
theorem RoundIn.inRound' {ro : Option Nat} {l : Nat} {f : FuncId} {tmps : Array Value} {asg bdy : Code} {w : World} {R : Ending → World → Prop} (h : RoundIn (FR none) 0 P l f tmps asg bdy w R) : RoundIn (FR ro) (0 - 1) P l f tmps asg bdy w R := h

theorem frz_np {h h' : Hp} {x y : V} (H : frz h x = some (y, h')) : isPan x = none := by
  cases x <;> first | rfl | (simp [frz, toD] at H)
theorem step_ok {CC : CTy} {c : Cs} (HC : CallOk P CC c) {ro : Option Nat} {ops : Array Oper} {Q : Exit → Act → World → Prop} {i N : Nat} {o : Oper} {dst : Option Nat} {op : AOp} {gd : Option (Nat × Bool)} {e e' : Env} {a : Act} {h' : Hp} {Kn : Act → World → Prop}
    (ho : ops[i]? = some o) (hd : o.dst = dst) (hdn : ∀ d, dst = some d → d < N) (hg : mtG ops o.guard gd = true) (hm : mtOp P o op = true) (he : EnvRep g e a) (R : Rel g h w) (hCC : g.C = CC) (hN : a.tmps.size = N)
    (H : itX (callee c) e h (.o dst op gd) = some (e', h'))
    (K : ∀ a' w' g', Le g g' → Rel g' h' w' → EnvRep g' e' a' → a'.tmps.size = N → a'.defers = a.defers → Fx w w' → (∀ t, dst ≠ some t → a'.tmps.getD t undef = a.tmps.getD t undef) → Kn a' w') : wpOpIn (FR ro) 0 P ops Q i Kn a w := by
  simp only [itX, Option.bind_eq_some_iff] at H
  obtain ⟨b, hb, H⟩ := H
  have hw := want_ok hg he hb
  simp only [wpOpIn, ho, hw]
  subst hd
  have hdn' : ∀ d, o.dst = some d → d < a.tmps.size := fun d hd => by rw [hN]; exact hdn d hd
  split at H
  · rename_i hbt
    subst hbt
    simp only [if_true, Oper.wpIn]
    simp only [Option.map_eq_some_iff] at H
    obtain ⟨⟨x, h1⟩, hop0, hq⟩ := H
    cases hq
    obtain ⟨hop, hxp⟩ := np_some hop0
    have fin : ∀ v w' g', Le g g' → Rel g' h1 w' → Rep g' x v → Fx w w' → Kn (a.put o.dst v) w' := by
      intro v w' g' l1 l2 l3 l4
      exact K _ w' g' l1 l2 (env_put o.dst hdn' (he.mono l1) l3) (by rw [(put_size a o.dst v).1]; exact hN) (put_size a o.dst v).2 l4 (fun t ht => put_other ht)
    by_cases hc : ∃ f nm xs, op = .call f nm xs ∨ op = .calln f nm xs ∨ op = .callf f nm xs ∨ ∃ k, op = .callk k f nm xs ∨ op = .callz k f nm xs
    · obtain ⟨f, nm, xs, hc⟩ := hc
      have hcall : ∃ f' args ts x0 h0, o.op = .call ⟨.value f', args, ts⟩ ∧ mtOpd f' f = true ∧ mtOpds args.toList xs = true ∧ nm.length = xs.length ∧ callee c (e.ev f) (normArgs nm (xs.map e.ev)) h = some (x0, h0) ∧ isPan x0 = none ∧ ((x0 = x ∧ h0 = h1) ∨ frz h0 x0 = some (x, h1)) := by
        rcases hc with rfl | rfl | rfl | ⟨k, rfl | rfl⟩
        · simp only [mtOp] at hm
          split at hm
          · rename_i f' args ts hop'
            simp only [Bool.and_eq_true, beq_iff_eq] at hm
            exact ⟨f', args, ts, x, h1, hop', hm.1.1, hm.1.2, hm.2, hop, hxp, .inl ⟨rfl, rfl⟩⟩
          · cases hm
        · simp only [mtOp] at hm
          split at hm
          · rename_i f' args ts hop'
            simp only [Bool.and_eq_true, beq_iff_eq] at hm
            simp only [opX, Option.bind_eq_some_iff] at hop
            obtain ⟨r, hr, hq⟩ := hop
            obtain ⟨q1, q2⟩ := quiet_eq hq
            exact ⟨f', args, ts, x, h1, hop', hm.1.1, hm.1.2, hm.2, by rw [(np_some hr).1, ← q1], hxp, .inl ⟨rfl, rfl⟩⟩
          · cases hm
        · simp only [mtOp] at hm
          split at hm
          · rename_i f' args ts hop'
            simp only [Bool.and_eq_true, beq_iff_eq] at hm
            simp only [opX, Option.bind_eq_some_iff] at hop
            obtain ⟨r, hr, hq⟩ := hop
            exact ⟨f', args, ts, r.1, r.2, hop', hm.1.1, hm.1.2, hm.2, hr, frz_np hq, .inr hq⟩
          · cases hm
        · simp only [mtOp] at hm
          split at hm
          · rename_i f' args ts hop'
            simp only [Bool.and_eq_true, beq_iff_eq] at hm
            simp only [opX, Option.bind_eq_some_iff] at hop
            obtain ⟨r, hr, hq⟩ := hop
            split at hq
            · cases hq
              exact ⟨f', args, ts, x, h1, hop', hm.1.1, hm.1.2, hm.2, hr, hxp, .inl ⟨rfl, rfl⟩⟩
            · cases hq
          · cases hm
        · simp only [mtOp] at hm
          split at hm
          · rename_i f' args ts hop'
            simp only [Bool.and_eq_true, beq_iff_eq] at hm
            simp only [opX, Option.bind_eq_some_iff] at hop
            obtain ⟨r, hr, q, hq1, hq⟩ := hop
            split at hq
            · cases hq
              exact ⟨f', args, ts, r.1, r.2, hop', hm.1.1, hm.1.2, hm.2, hr, frz_np hq1, .inr hq1⟩
            · cases hq
          · cases hm
      obtain ⟨f', args, ts, x0, h0, c1, c2, c3, c4, c5, c7, c6⟩ := hcall
      have fin0 : ∀ v w' g', Le g g' → Rel g' h0 w' → Rep g' x0 v → Fx w w' → Kn (a.put o.dst v) w' := by
        intro v w' g' l1 l2 l3 l4
        rcases c6 with ⟨rfl, rfl⟩ | c6
        · exact fin v w' g' l1 l2 l3 l4
        · obtain ⟨g2, k1, k2, k3⟩ := frz_ok l2 c6 l3
          exact fin v w' g2 (l1.trans k1) k2 k3 l4
      obtain ⟨nx, r1, r2⟩ := call_ok HC c1 c2 c3 c4 he R hCC c5
      refine ⟨fun _ _ => trivial, ?_⟩
      rw [Oper.semAt_eq _ _ _ (mtOp_nd hm), r1]
      cases nx with
      | enter f args =>
        refine ⟨fun hd => (by cases hd), CallsIn.mono (F := FR ro) (CallsIn.inRound' r2) ?_⟩
        rintro e2 w2 ⟨g', l1, l2, l3, l4⟩
        obtain ⟨v, rfl, l3'⟩ := l3.np c7
        exact fin0 v w2 g' l1 l2 l3' l4
      | round l f tmps asg bdy =>
        refine ⟨fun hd => (by cases hd), RoundIn.mono (F := FR ro) (RoundIn.inRound' r2) ?_⟩
        rintro e2 w2 ⟨g', l1, l2, l3, l4⟩
        obtain ⟨v, rfl, l3'⟩ := l3.np c7
        exact fin0 v w2 g' l1 l2 l3' l4
      | _ => exact r2.elim
    · have hnc : ∀ f nm xs, (op ≠ .call f nm xs ∧ op ≠ .calln f nm xs ∧ op ≠ .callf f nm xs) ∧ ∀ k, op ≠ .callk k f nm xs ∧ op ≠ .callz k f nm xs := fun f nm xs => ⟨⟨fun e => hc ⟨f, nm, xs, .inl e⟩, fun e => hc ⟨f, nm, xs, .inr (.inl e)⟩, fun e => hc ⟨f, nm, xs, .inr (.inr (.inl e))⟩⟩, fun k => ⟨fun e => hc ⟨f, nm, xs, .inr (.inr (.inr ⟨k, .inl e⟩))⟩, fun e => hc ⟨f, nm, xs, .inr (.inr (.inr ⟨k, .inr e⟩))⟩⟩⟩
      have hnp : ∀ y, op ≠ .pnc y := by
        rintro y rfl
        simp only [opX, pureV, Option.map_eq_some_iff] at hop
        obtain ⟨v, hv, hq⟩ := hop
        cases hq
        unfold pnc at hv
        split at hv <;> cases hv
        cases hxp
      obtain ⟨nx, v, w', g', r1, r2, l1, l2, l3, l4⟩ := op_ok hm he R hop hnp hnc
      refine ⟨fun _ _ => trivial, ?_⟩
      rw [Oper.semAt_eq _ _ _ (mtOp_nd hm), r1]
      rcases r2 with rfl | ⟨rfl, rfl⟩
      · exact fin v w' g' l1 l2 l3 l4
      · exact fin _ w' g' l1 l2 l3 l4
  · rename_i hbt
    have : b = false := by cases b <;> simp_all
    subst this
    simp only [Bool.false_eq_true, if_false]
    cases H
    refine ⟨fun _ _ => trivial, ?_⟩
    exact K _ w g (Le.refl g) R (env_put o.dst hdn' he (.tup [] [] .nil)) (by rw [(put_size a o.dst undef).1]; exact hN) (put_size a o.dst undef).2 (Fx.refl w) (fun t ht => put_other ht)

/-! ### Words without a counterpart -/

def dstOk (N : Nat) : Option Nat → Bool
  | none => true
  | some d => decide (d < N)

def mtIts (P : Program) (ops : Array Oper) (N : Nat) : Nat → List It → Bool
  | i, [] => i == ops.size
  | i, .o dst op gd :: r => (match ops[i]? with
    | some o => decide (o.dst = dst) && dstOk N dst && mtG ops o.guard gd && mtOp P o op
    | none => false) && mtIts P ops N (i + 1) r
  | i, .frz _ :: r => mtIts P ops N i r
  | i, .fzd _ :: r => mtIts P ops N i r
  | i, .kill _ :: r => mtIts P ops N i r

theorem env_put_same {e : Env} {a : Act} {x : V} (t : Nat) (he : EnvRep g e a) (hx : Rep g x (a.tmps.getD t undef)) : EnvRep g (e.put t x) a := by
  intro u
  show Rep g (if u = t then x else e.get u) _
  split
  · rename_i h; subst h; exact hx
  · exact he u

theorem its_ok {CC : CTy} {c : Cs} (HC : CallOk P CC c) {ro : Option Nat} {ops : Array Oper} {Q : Exit → Act → World → Prop} {N : Nat} : ∀ (its : List It) (i : Nat) {g : G} {h : Hp} {w : World} {e e' : Env} {a : Act} {h' : Hp},
    mtIts P ops N i its = true → itsX (callee c) its e h = some (e', h') → EnvRep g e a → Rel g h w → g.C = CC → a.tmps.size = N →
    (∀ a' w' g', Le g g' → Rel g' h' w' → EnvRep g' e' a' → a'.tmps.size = N → a'.defers = a.defers → Fx w w' → Q .normal a' w') → wpOpsIn (FR ro) 0 P ops Q (List.range' i (ops.size - i)) a w
  | [], i, g, h, w, e, e', a, h', hm, H, he, R, hCC, hN, K => by
    simp only [mtIts, beq_iff_eq] at hm
    subst hm
    cases H
    rw [Nat.sub_self]
    exact K a w g (Le.refl g) R he hN rfl (Fx.refl w)
  | .o dst op gd :: r, i, g, h, w, e, e', a, h', hm, H, he, R, hCC, hN, K => by
    simp only [mtIts, Bool.and_eq_true] at hm
    obtain ⟨h1, h2⟩ := hm
    split at h1
    · rename_i o ho
      simp only [Bool.and_eq_true, decide_eq_true_eq] at h1
      obtain ⟨⟨⟨hd, hdn⟩, hg⟩, hm'⟩ := h1
      simp only [itsX, Option.bind_eq_some_iff] at H
      obtain ⟨⟨e1, h1'⟩, hi, hr⟩ := H
      have hlt : i < ops.size := (Array.getElem?_eq_some_iff.1 ho).1
      rw [show ops.size - i = (ops.size - (i + 1)) + 1 from by omega, List.range'_succ, wpOpsIn_cons]
      refine step_ok HC ho hd (fun d hd' => by subst hd'; simpa [dstOk] using hdn) hg hm' he R hCC hN hi (fun a' w' g' l1 l2 l3 l4 l5 l6 _ => ?_)
      exact its_ok HC r (i + 1) h2 hr l3 l2 (l1.C.trans hCC) l4 (fun a2 w2 g2 m1 m2 m3 m4 m5 m6 => K a2 w2 g2 (l1.trans m1) m2 m3 m4 (m5.trans l5) (l6.trans m6))
    · cases h1
  | .frz t :: r, i, g, h, w, e, e', a, h', hm, H, he, R, hCC, hN, K => by
    simp only [itsX, itX, Option.bind_eq_some_iff, Option.map_eq_some_iff] at H
    obtain ⟨⟨e1, h1'⟩, ⟨⟨y, h2⟩, hf, heq⟩, hr⟩ := H
    cases heq
    obtain ⟨g', l1, l2, l3⟩ := frz_ok R hf (he t)
    exact its_ok HC r i hm hr (env_put_same t (he.mono l1) l3) l2 (l1.C.trans hCC) hN (fun a2 w2 g2 m1 m2 m3 m4 m5 m6 => K a2 w2 g2 (l1.trans m1) m2 m3 m4 m5 m6)
  | .fzd t :: r, i, g, h, w, e, e', a, h', hm, H, he, R, hCC, hN, K => by
    simp only [itsX, itX, Option.bind_eq_some_iff, Option.map_eq_some_iff] at H
    obtain ⟨⟨e1, h1'⟩, ⟨⟨y, h2⟩, hf, heq⟩, hr⟩ := H
    cases heq
    obtain ⟨g', l1, l2, l3⟩ := fzd_ok R hf (he t)
    exact its_ok HC r i hm hr (env_put_same t (he.mono l1) l3) l2 (l1.C.trans hCC) hN (fun a2 w2 g2 m1 m2 m3 m4 m5 m6 => K a2 w2 g2 (l1.trans m1) m2 m3 m4 m5 m6)
  | .kill t :: r, i, g, h, w, e, e', a, h', hm, H, he, R, hCC, hN, K => by
    simp only [itsX, Option.bind_eq_some_iff] at H
    obtain ⟨⟨e1, h1'⟩, hk, hr⟩ := H
    have : e1 = e.put t .undef ∧ (h1' = h ∨ ∃ n, h1' = h.kill n) := by
      simp only [itX] at hk
      split at hk <;> cases hk
      · exact ⟨rfl, .inr ⟨_, rfl⟩⟩
      · exact ⟨rfl, .inr ⟨_, rfl⟩⟩
      · exact ⟨rfl, .inl rfl⟩
    obtain ⟨rfl, hh⟩ := this
    have R' : Rel g h1' w := by
      rcases hh with rfl | ⟨n, rfl⟩
      · exact R
      · exact R.kill n
    exact its_ok HC r i hm hr (env_put_same t he (.undef _)) R' hCC hN K

theorem opP_cases {op : AOp} (h : opP op = true) : (∃ x, op = .pnc x) ∨ (∃ f nm xs, op = .call f nm xs ∨ ∃ k, op = .callk k f nm xs) := by
  cases op <;> first | cases h; done | skip
  · exact .inr ⟨_, _, _, .inl rfl⟩
  · exact .inr ⟨_, _, _, .inr ⟨_, rfl⟩⟩
  · exact .inl ⟨_, rfl⟩
theorem panF_some {op : AOp} {v : V} {p : Nat × D} (h : panF op v = some (some p)) : v = .pan p.1 p.2 ∧ opP op = true := by
  unfold panF at h
  split at h
  · cases h
  · rename_i q hq
    split at h
    · rename_i ho
      cases h
      refine ⟨?_, ho⟩
      cases v <;> first | cases hq | skip
      rfl
    · cases h
/-- An item that panics. -/
theorem step_pan {CC : CTy} {c : Cs} (HC : CallOk P CC c) {ro : Option Nat} {ops : Array Oper} {Q : Exit → Act → World → Prop} {i : Nat} {o : Oper} {dst : Option Nat} {op : AOp} {gd : Option (Nat × Bool)} {e e' : Env} {a : Act} {h' : Hp} {t : Nat} {y : D} {Kn : Act → World → Prop}
    (ho : ops[i]? = some o) (hg : mtG ops o.guard gd = true) (hm : mtOp P o op = true) (he : EnvRep g e a) (R : Rel g h w) (hCC : g.C = CC)
    (H : itP (callee c) e h (.o dst op gd) = some (some (t, y), e', h'))
    (K : ∀ w' g' v, Le g g' → Rel g' h' w' → RepD g'.φ y v → Fx w w' → Q (.panic (chainOf t v)) a w') : wpOpIn (FR ro) 0 P ops Q i Kn a w := by
  simp only [itP, Option.bind_eq_some_iff] at H
  obtain ⟨b, hb, H⟩ := H
  have hw := want_ok hg he hb
  simp only [wpOpIn, ho, hw]
  split at H
  case isFalse => cases H
  rename_i hbt
  subst hbt
  simp only [if_true, Oper.wpIn]
  simp only [Option.bind_eq_some_iff, Option.map_eq_some_iff, Prod.mk.injEq] at H
  obtain ⟨⟨x, h1⟩, hop, p, hp, rfl, _, rfl⟩ := H
  obtain ⟨hx, hopp⟩ := panF_some hp
  simp only at hx
  subst hx
  refine ⟨fun _ _ => trivial, ?_⟩
  rw [Oper.semAt_eq _ _ _ (mtOp_nd hm)]
  rcases opP_cases hopp with ⟨z, rfl⟩ | ⟨f, nm, xs, hc⟩
  · simp only [mtOp] at hm
    split at hm
    · rename_i z' hz
      simp only [opX, pureV, Option.map_eq_some_iff] at hop
      obtain ⟨v, hv, hq⟩ := hop
      cases hq
      have hr := opd_ok hm he
      unfold pnc at hv
      split at hv
      · rename_i u q hu
        cases hv
        rw [hu] at hr
        generalize hfe : a.eval z' = fv at hr
        cases hr with | ifc _ _ v hv =>
        have : (execOp a.eval o).run P w = .halt (.panic (.iface t v)) w := by
          simp only [execOp, hz, hfe, Instr.panic]
          rfl
        rw [this]
        exact K w g v (Le.refl g) R hv (Fx.refl w)
      · cases hv
    · cases hm
  · have hcall : ∃ f' args ts, o.op = .call ⟨.value f', args, ts⟩ ∧ mtOpd f' f = true ∧ mtOpds args.toList xs = true ∧ nm.length = xs.length ∧ callee c (e.ev f) (normArgs nm (xs.map e.ev)) h = some (.pan t y, h1) := by
      rcases hc with rfl | ⟨k, rfl⟩
      · simp only [mtOp] at hm
        split at hm
        · rename_i f' args ts hop'
          simp only [Bool.and_eq_true, beq_iff_eq] at hm
          exact ⟨f', args, ts, hop', hm.1.1, hm.1.2, hm.2, hop⟩
        · cases hm
      · simp only [mtOp] at hm
        split at hm
        · rename_i f' args ts hop'
          simp only [Bool.and_eq_true, beq_iff_eq] at hm
          simp only [opX, Option.bind_eq_some_iff] at hop
          obtain ⟨r, hr, hq⟩ := hop
          split at hq
          · cases hq
            exact ⟨f', args, ts, hop', hm.1.1, hm.1.2, hm.2, hr⟩
          · cases hq
        · cases hm
    obtain ⟨f', args, ts, c1, c2, c3, c4, c5⟩ := hcall
    obtain ⟨nx, r1, r2⟩ := call_ok HC c1 c2 c3 c4 he R hCC c5
    rw [r1]
    cases nx with
    | enter f args =>
      refine ⟨fun hd => (by cases hd), CallsIn.mono (F := FR ro) (CallsIn.inRound' r2) ?_⟩
      rintro e2 w2 ⟨g', l1, l2, l3, l4⟩
      obtain ⟨v, rfl, l3'⟩ := l3.pan
      exact K w2 g' v l1 l2 l3' l4
    | round l f tmps asg bdy =>
      refine ⟨fun hd => (by cases hd), RoundIn.mono (F := FR ro) (RoundIn.inRound' r2) ?_⟩
      rintro e2 w2 ⟨g', l1, l2, l3, l4⟩
      obtain ⟨v, rfl, l3'⟩ := l3.pan
      exact K w2 g' v l1 l2 l3' l4
    | _ => exact r2.elim
/-- Items that end in a panic. -/
theorem its_pan {CC : CTy} {c : Cs} (HC : CallOk P CC c) {ro : Option Nat} {ops : Array Oper} {Q : Exit → Act → World → Prop} {N t : Nat} {y : D} : ∀ (its : List It) (i : Nat) {g : G} {h : Hp} {w : World} {e e' : Env} {a : Act} {h' : Hp},
    mtIts P ops N i its = true → itsP (callee c) its e h = some (some (t, y), e', h') → EnvRep g e a → Rel g h w → g.C = CC → a.tmps.size = N →
    (∀ a' w' g' v, Le g g' → Rel g' h' w' → (∀ t, t ∉ dstsI its → a'.tmps.getD t undef = a.tmps.getD t undef) → RepD g'.φ y v → a'.tmps.size = N → a'.defers = a.defers → Fx w w' → Q (.panic (chainOf t v)) a' w') → wpOpsIn (FR ro) 0 P ops Q (List.range' i (ops.size - i)) a w
  | [], i, g, h, w, e, e', a, h', hm, H, he, R, hCC, hN, K => by cases H
  | .o dst op gd :: r, i, g, h, w, e, e', a, h', hm, H, he, R, hCC, hN, K => by
    simp only [mtIts, Bool.and_eq_true] at hm
    obtain ⟨h1, h2⟩ := hm
    split at h1
    · rename_i o ho
      simp only [Bool.and_eq_true, decide_eq_true_eq] at h1
      obtain ⟨⟨⟨hd, hdn⟩, hg⟩, hm'⟩ := h1
      simp only [itsP, Option.bind_eq_some_iff] at H
      obtain ⟨⟨p, e1, h1'⟩, hi, hr⟩ := H
      have hlt : i < ops.size := (Array.getElem?_eq_some_iff.1 ho).1
      rw [show ops.size - i = (ops.size - (i + 1)) + 1 from by omega, List.range'_succ, wpOpsIn_cons]
      cases p with
      | some q =>
        obtain ⟨t', y'⟩ := q
        cases hr
        exact step_pan HC ho hg hm' he R hCC hi fun w' g' v l1 l2 l3 l4 => K a w' g' v l1 l2 (fun _ _ => rfl) l3 hN rfl l4
      | none =>
        refine step_ok HC ho hd (fun d hd' => by subst hd'; simpa [dstOk] using hdn) hg hm' he R hCC hN (itP_X hi) (fun a' w' g' l1 l2 l3 l4 l5 l6 l7 => ?_)
        exact its_pan HC r (i + 1) h2 hr l3 l2 (l1.C.trans hCC) l4 (fun a2 w2 g2 v m1 m2 m3 m4 m5 m6 m7 => K a2 w2 g2 v (l1.trans m1) m2 (fun u hu => by
          have hu' : u ∉ dstsI r ∧ dst ≠ some u := by
            cases dst with
            | none => exact ⟨hu, fun h => by cases h⟩
            | some d =>
              have hu : u ∉ d :: dstsI r := hu
              rw [List.mem_cons, not_or] at hu
              exact ⟨hu.2, fun h => hu.1 (by cases h; rfl)⟩
          rw [m3 u hu'.1, l7 u hu'.2]) m4 m5 (m6.trans l5) (l6.trans m7))
    · cases h1
  | .frz t' :: r, i, g, h, w, e, e', a, h', hm, H, he, R, hCC, hN, K => by
    simp only [itsP, itP, itX, Option.bind_eq_some_iff, Option.map_eq_some_iff] at H
    obtain ⟨⟨p, e1, h1'⟩, ⟨s, ⟨⟨z, h2⟩, hf, heq⟩, hs⟩, hr⟩ := H
    cases heq
    cases hs
    obtain ⟨g', l1, l2, l3⟩ := frz_ok R hf (he t')
    exact its_pan HC r i hm hr (env_put_same t' (he.mono l1) l3) l2 (l1.C.trans hCC) hN (fun a2 w2 g2 v m1 m2 m3 m4 m5 m6 m7 => K a2 w2 g2 v (l1.trans m1) m2 m3 m4 m5 m6 m7)
  | .fzd t' :: r, i, g, h, w, e, e', a, h', hm, H, he, R, hCC, hN, K => by
    simp only [itsP, itP, itX, Option.bind_eq_some_iff, Option.map_eq_some_iff] at H
    obtain ⟨⟨p, e1, h1'⟩, ⟨s, ⟨⟨z, h2⟩, hf, heq⟩, hs⟩, hr⟩ := H
    cases heq
    cases hs
    obtain ⟨g', l1, l2, l3⟩ := fzd_ok R hf (he t')
    exact its_pan HC r i hm hr (env_put_same t' (he.mono l1) l3) l2 (l1.C.trans hCC) hN (fun a2 w2 g2 v m1 m2 m3 m4 m5 m6 m7 => K a2 w2 g2 v (l1.trans m1) m2 m3 m4 m5 m6 m7)
  | .kill t' :: r, i, g, h, w, e, e', a, h', hm, H, he, R, hCC, hN, K => by
    simp only [itsP, itP, Option.bind_eq_some_iff, Option.map_eq_some_iff] at H
    obtain ⟨⟨p, e1, h1'⟩, ⟨s, hk, hs⟩, hr⟩ := H
    cases hs
    have : s.1 = e.put t' .undef ∧ (s.2 = h ∨ ∃ n, s.2 = h.kill n) := by
      simp only [itX] at hk
      split at hk <;> cases hk
      · exact ⟨rfl, .inr ⟨_, rfl⟩⟩
      · exact ⟨rfl, .inr ⟨_, rfl⟩⟩
      · exact ⟨rfl, .inl rfl⟩
    obtain ⟨h3, hh⟩ := this
    have R' : Rel g s.2 w := by
      rcases hh with h4 | ⟨n, h4⟩
      · rw [h4]; exact R
      · rw [h4]; exact R.kill n
    refine its_pan HC r i hm hr (by rw [h3]; exact env_put_same t' he (.undef _)) R' hCC hN K

theorem env_keepP {g g' : G} {e : Env} {a a' : Act} {its : List It} (kp : Option (List Nat)) (he : EnvRep g e a) (hle : Le g g') (hs : ∀ t, t ∉ dstsI its → a'.tmps.getD t undef = a.tmps.getD t undef) : EnvRep g' (keepP its kp e) a' := by
  intro t
  cases kp with
  | none => exact .undef _
  | some l =>
    show Rep g' (Env.get ((l.filter fun t => !(dstsI its).contains t).map fun t => (t, e.get t)) t) _
    have key : ∀ l : List Nat, (∀ u, u ∈ l → u ∉ dstsI its) → Rep g' (Env.get (l.map fun t => (t, e.get t)) t) (a'.tmps.getD t undef) := by
      intro l
      induction l with
      | nil => intro _; exact .undef _
      | cons u l ih =>
        intro hl
        show Rep g' (if t = u then e.get u else Env.get (l.map fun t => (t, e.get t)) t) _
        split
        · rename_i h; subst h
          rw [hs t (hl t (.head _))]
          exact (he t).mono hle
        · exact ih fun q hq => hl q (.tail _ hq)
    refine key _ fun u hu => ?_
    have := (List.mem_filter.1 hu).2
    simpa using this

end
end Zv
end
section
set_option linter.unusedSimpArgs false
set_option linter.unusedVariables false
set_option linter.unusedSimpArgs false
namespace Zv
open Go

def Opd.us : Opd → List Nat
  | .t n => [n]
  | .c _ => []
def usO : Option Opd → List Nat
  | none => []
  | some x => x.us
def usL : List Opd → List Nat
  | [] => []
  | x :: l => x.us ++ usL l
def usP : List (Nat × Nat × Opd) → List Nat
  | [] => []
  | p :: l => p.2.2.us ++ usP l

def AOp.us : AOp → List Nat
  | .mv x | .box _ x | .ld _ _ x | .nilck x | .nilBin _ _ x | .un _ x | .conv _ x | .mksl _ _ _ x | .mkslT _ _ x | .fa _ x | .fld _ _ _ x
  | .lenS x | .lenL x | .lenM x | .capT x | .ext _ x | .ldf _ _ x | .mkif _ x | .tas _ x | .pnc x => x.us
  | .pick c a b => c.us ++ (a.us ++ b.us)
  | .alloc _ _ | .mkmap | .stuck => []
  | .build _ ps => usP ps
  | .bsl _ xs | .bslO _ xs | .mkf _ xs => usL xs
  | .ldk k _ _ a => k.us ++ a.us
  | .callk k f _ xs | .callz k f _ xs => k.us ++ (f.us ++ usL xs)
  | .stk k _ a x => k.us ++ (a.us ++ x.us)
  | .st _ x y | .bin _ x y | .binB _ x y | .aggBin _ _ x y | .ia _ x y | .ixS x y | .lk _ _ _ x y | .app _ _ x y | .appn _ _ x y | .appf _ _ x y | .appd _ _ x y | .appz _ _ _ x y | .cpy _ x y => x.us ++ y.us
  | .slcS x lo hi | .slc _ x lo hi => x.us ++ (usO lo ++ usO hi)
  | .slc3 _ x lo hi mx => x.us ++ (usO lo ++ (usO hi ++ usO mx))
  | .mu _ m k x => m.us ++ (k.us ++ x.us)
  | .call f _ xs | .calln f _ xs | .callf f _ xs => f.us ++ usL xs

/-- 0: a value alone; 1: it reads the heap; 2: a call that leaves the heap as it is; 3: it makes an object; 4: any other -/
def AOp.kd : AOp → Nat
  | .ld .. | .lk .. | .lenM .. => 1
  | .ldk .. => 5
  | .callk .. | .callz .. | .stk .. => 6
  | .calln .. => 2
  | .alloc .. | .box .. | .bslO .. | .mksl .. | .mkmap | .appn .. => 3
  | .st .. | .mu .. | .stuck | .appz .. | .app .. | .appf .. | .cpy .. | .call .. | .callf .. | .pnc .. => 4
  | _ => 0

variable {cf : Cf} {e e' : Env} {h : Hp}

theorem ev_congr {x : Opd} {l : List Nat} (H : ∀ t, t ∈ l → Env.get e t = Env.get e' t) (hs : ∀ t, t ∈ x.us → t ∈ l) : e.ev x = e'.ev x := by
  cases x with
  | t n => exact H n (hs n (by simp [Opd.us]))
  | c v => rfl
theorem evO_congr {x : Option Opd} {l : List Nat} (H : ∀ t, t ∈ l → Env.get e t = Env.get e' t) (hs : ∀ t, t ∈ usO x → t ∈ l) : x.map e.ev = x.map e'.ev := by
  cases x with
  | none => rfl
  | some y => exact congrArg some (ev_congr H hs)
theorem evL_congr {l : List Nat} (H : ∀ t, t ∈ l → Env.get e t = Env.get e' t) : ∀ {xs : List Opd}, (∀ t, t ∈ usL xs → t ∈ l) → xs.map e.ev = xs.map e'.ev
  | [], _ => rfl
  | x :: xs, hs => by
    rw [List.map_cons, List.map_cons, ev_congr H (fun t ht => hs t (List.mem_append_left _ ht)), evL_congr H (fun t ht => hs t (List.mem_append_right _ ht))]
theorem evP_congr {l : List Nat} (H : ∀ t, t ∈ l → Env.get e t = Env.get e' t) : ∀ {xs : List (Nat × Nat × Opd)}, (∀ t, t ∈ usP xs → t ∈ l) → xs.map (fun p => (p.1, p.2.1, e.ev p.2.2)) = xs.map (fun p => (p.1, p.2.1, e'.ev p.2.2))
  | [], _ => rfl
  | x :: xs, hs => by
    rw [List.map_cons, List.map_cons, ev_congr H (fun t ht => hs t (List.mem_append_left _ ht)), evP_congr H (fun t ht => hs t (List.mem_append_right _ ht))]

theorem opX_congr {op : AOp} (H : ∀ t, t ∈ op.us → Env.get e t = Env.get e' t) : opX cf e h op = opX cf e' h op := by
  cases op <;> simp only [AOp.us, List.mem_append] at H <;> simp only [opX]
  case mv x => rw [ev_congr H (fun t ht => ht)]
  case pick c a b => rw [ev_congr (x := c) (l := c.us) (fun t ht => H t (.inl ht)) (fun t ht => ht), ev_congr (x := a) (l := a.us) (fun t ht => H t (.inr (.inl ht))) (fun t ht => ht), ev_congr (x := b) (l := b.us) (fun t ht => H t (.inr (.inr ht))) (fun t ht => ht)]
  case box es x => rw [ev_congr H (fun t ht => ht)]
  case build z ps => rw [evP_congr H (fun t ht => ht)]
  case bsl es xs => rw [evL_congr H (fun t ht => ht), show (xs.map fun x => norm (e.ev x)) = (xs.map e.ev).map norm by rw [List.map_map]; rfl, evL_congr H (fun t ht => ht), List.map_map]; rfl
  case bslO es xs => rw [evL_congr H (fun t ht => ht), show (xs.map fun x => norm (e.ev x)) = (xs.map e.ev).map norm by rw [List.map_map]; rfl, evL_congr H (fun t ht => ht), List.map_map]; rfl
  case mkf f xs => rw [evL_congr H (fun t ht => ht)]
  case slcS x lo hi => rw [ev_congr (x := x) (l := x.us) (fun t ht => H t (.inl ht)) (fun t ht => ht), evO_congr (x := lo) (l := usO lo) (fun t ht => H t (.inr (.inl ht))) (fun t ht => ht), evO_congr (x := hi) (l := usO hi) (fun t ht => H t (.inr (.inr ht))) (fun t ht => ht)]
  case slc es x lo hi => rw [ev_congr (x := x) (l := x.us) (fun t ht => H t (.inl ht)) (fun t ht => ht), evO_congr (x := lo) (l := usO lo) (fun t ht => H t (.inr (.inl ht))) (fun t ht => ht), evO_congr (x := hi) (l := usO hi) (fun t ht => H t (.inr (.inr ht))) (fun t ht => ht)]
  case slc3 es x lo hi mx => rw [ev_congr (x := x) (l := x.us) (fun t ht => H t (.inl ht)) (fun t ht => ht), evO_congr (x := lo) (l := usO lo) (fun t ht => H t (.inr (.inl ht))) (fun t ht => ht), evO_congr (x := hi) (l := usO hi) (fun t ht => H t (.inr (.inr (.inl ht)))) (fun t ht => ht), evO_congr (x := mx) (l := usO mx) (fun t ht => H t (.inr (.inr (.inr ht)))) (fun t ht => ht)]
  case mu kk m k x => rw [ev_congr (x := m) (l := m.us) (fun t ht => H t (.inl ht)) (fun t ht => ht), ev_congr (x := k) (l := k.us) (fun t ht => H t (.inr (.inl ht))) (fun t ht => ht), ev_congr (x := x) (l := x.us) (fun t ht => H t (.inr (.inr ht))) (fun t ht => ht)]
  case call f nm xs => rw [ev_congr (x := f) (l := f.us) (fun t ht => H t (.inl ht)) (fun t ht => ht), evL_congr (xs := xs) (l := usL xs) (fun t ht => H t (.inr ht)) (fun t ht => ht)]
  case ldk k ag sz a => rw [ev_congr (x := k) (l := k.us) (fun t ht => H t (.inl ht)) (fun t ht => ht), ev_congr (x := a) (l := a.us) (fun t ht => H t (.inr ht)) (fun t ht => ht)]
  case callk k f nm xs => rw [ev_congr (x := k) (l := k.us) (fun t ht => H t (.inl ht)) (fun t ht => ht), ev_congr (x := f) (l := f.us) (fun t ht => H t (.inr (.inl ht))) (fun t ht => ht), evL_congr (xs := xs) (l := usL xs) (fun t ht => H t (.inr (.inr ht))) (fun t ht => ht)]
  case callz k f nm xs => rw [ev_congr (x := k) (l := k.us) (fun t ht => H t (.inl ht)) (fun t ht => ht), ev_congr (x := f) (l := f.us) (fun t ht => H t (.inr (.inl ht))) (fun t ht => ht), evL_congr (xs := xs) (l := usL xs) (fun t ht => H t (.inr (.inr ht))) (fun t ht => ht)]
  case stk k sz a x => rw [ev_congr (x := k) (l := k.us) (fun t ht => H t (.inl ht)) (fun t ht => ht), ev_congr (x := a) (l := a.us) (fun t ht => H t (.inr (.inl ht))) (fun t ht => ht), ev_congr (x := x) (l := x.us) (fun t ht => H t (.inr (.inr ht))) (fun t ht => ht)]
  case callf f nm xs => rw [ev_congr (x := f) (l := f.us) (fun t ht => H t (.inl ht)) (fun t ht => ht), evL_congr (xs := xs) (l := usL xs) (fun t ht => H t (.inr ht)) (fun t ht => ht)]
  case calln f nm xs => rw [ev_congr (x := f) (l := f.us) (fun t ht => H t (.inl ht)) (fun t ht => ht), evL_congr (xs := xs) (l := usL xs) (fun t ht => H t (.inr ht)) (fun t ht => ht)]
  all_goals first
    | rfl
    | rw [ev_congr H (fun t ht => ht)]
    | (rename_i x y; rw [ev_congr (x := x) (l := x.us) (fun t ht => H t (.inl ht)) (fun t ht => ht), ev_congr (x := y) (l := y.us) (fun t ht => H t (.inr ht)) (fun t ht => ht)])

theorem pureV_eq {h h' : Hp} {x : Option V} {v : V} (H : pureV h x = some (v, h')) : x = some v ∧ h' = h := by
  cases x with
  | none => cases H
  | some y => cases H; exact ⟨rfl, rfl⟩

theorem kd0 {op : AOp} {v : V} {h' : Hp} (hk : op.kd = 0) (H : opX cf e h op = some (v, h')) : h' = h ∧ ∀ h2, opX cf e h2 op = some (v, h2) := by
  cases op <;> (first | (exfalso; revert hk; simp [AOp.kd]; done) | skip) <;> simp only [opX] at H ⊢
  case mv x => cases H; exact ⟨rfl, fun _ => rfl⟩
  case mkf f xs => cases H; exact ⟨rfl, fun _ => rfl⟩
  case bsl es xs =>
    split at H
    · rename_i hc; cases H; exact ⟨rfl, fun h2 => by rw [if_pos hc]⟩
    · cases H
  case ldf ag sz a =>
    obtain ⟨h1, h2⟩ := pureV_eq H
    refine ⟨h2, fun h2 => ?_⟩
    unfold ldf at h1
    split at h1
    · rename_i x off hx
      rw [hx] at h1 ⊢
      simp only [ldf, ld] at h1 ⊢; rw [h1]; rfl
    · cases h1
  all_goals
    obtain ⟨h1, h2⟩ := pureV_eq H
    exact ⟨h2, fun h2 => by rw [h1]; rfl⟩

theorem kd2 {op : AOp} {v : V} {h' : Hp} (hk : op.kd ≤ 2) (H : opX cf e h op = some (v, h')) : h' = h := by
  by_cases h0 : op.kd = 0
  · exact (kd0 h0 H).1
  cases op <;> (first | (exfalso; revert hk h0; simp [AOp.kd]; done) | skip) <;> simp only [opX] at H
  case calln f nm xs =>
    simp only [Option.bind_eq_some_iff] at H
    obtain ⟨r, hr, hq⟩ := H
    unfold quiet at hq
    split at hq <;> cases hq
    rfl
  all_goals exact (pureV_eq H).2

theorem appn4 {es b : Nat} {h : Hp} {l k : List V} {nl : Option Bool} {v : V} {h' : Hp} (H : (if allV es k = true then (if (k.map norm).isEmpty = true then some (V.tl l nl, h) else if (l.length + (k.map norm).length) * b ≤ roomB ∧ allV es l = true then some (V.own h.next es (l.length + (k.map norm).length) 0 (l.length + (k.map norm).length), h.alloc (.arr es (l ++ k.map norm))) else none) else none) = some (v, h')) : h' = h ∨ ∃ ob, h' = h.alloc ob := by
  by_cases c1 : allV es k = true
  · rw [if_pos c1] at H
    by_cases c2 : (k.map norm).isEmpty = true
    · rw [if_pos c2] at H; cases H; exact .inl rfl
    · rw [if_neg c2] at H
      split at H <;> cases H
      exact .inr ⟨_, rfl⟩
  · rw [if_neg c1] at H; cases H

theorem appn3 {es b : Nat} {h : Hp} {s x : V} {v : V} {h' : Hp} (H : appn es b h s x = some (v, h')) : h' = h ∨ ∃ ob, h' = h.alloc ob := by
  cases s
  case tl l nl =>
   simp only [appn, app, Option.bind_eq_some_iff] at H
   obtain ⟨k, _, H⟩ := H
   exact appn4 H
  all_goals cases H

theorem kd3 {op : AOp} {v : V} {h' : Hp} (hk : op.kd = 3) (H : opX cf e h op = some (v, h')) : h' = h ∨ ∃ ob, h' = h.alloc ob := by
  cases op <;> (first | (exfalso; revert hk; simp [AOp.kd]; done) | skip) <;> simp only [opX] at H
  case alloc => cases H; exact .inr ⟨_, rfl⟩
  case mkmap => cases H; exact .inr ⟨_, rfl⟩
  case box => split at H <;> cases H; exact .inr ⟨_, rfl⟩
  case bslO => split at H <;> cases H; exact .inr ⟨_, rfl⟩
  case mksl =>
    simp only [mkslO, Option.bind_eq_some_iff] at H
    obtain ⟨k, _, H⟩ := H
    split at H <;> cases H
    exact .inr ⟨_, rfl⟩
  case appn ES b s x => exact appn3 H

def KeysLt (h : Hp) : Prop := ∀ n o, h.get n = some o → n < h.next
theorem KeysLt.alloc {ob : Ob} {n : Nat} {o : Ob} (K : KeysLt h) (H : h.get n = some o) : (h.alloc ob).get n = some o := by
  have := K n o H
  show (if n = h.next then some ob else look h.objs n) = some o
  rw [if_neg (by omega)]
  exact H
theorem KeysLt.row {ob : Ob} {n tot : Nat} {r : Nat × List V} (K : KeysLt h) (H : h.row n tot = some r) : (h.alloc ob).row n tot = some r := by
  unfold Hp.row at H ⊢
  split at H
  · rename_i es els hg
    rw [K.alloc hg]
    exact H
  · cases H
theorem KeysLt.entries {ob : Ob} {m : V} {r : List (D × V)} (K : KeysLt h) (H : entries h m = some r) : entries (h.alloc ob) m = some r := by
  unfold Zv.entries at H ⊢
  split at H
  · split at H
    · rename_i hg; rw [K.alloc hg]; exact H
    · cases H
  · exact H
  · cases H

theorem kd1 {op : AOp} {v : V} {h' : Hp} (hk : op.kd = 1) (K : KeysLt h) (ob : Ob) (H : opX cf e h op = some (v, h')) : opX cf e (h.alloc ob) op = some (v, h.alloc ob) := by
  cases op <;> (first | (exfalso; revert hk; simp [AOp.kd]; done) | skip) <;> simp only [opX] at H ⊢
  case ld ag sz a =>
    obtain ⟨h1, _⟩ := pureV_eq H
    have : ld ag sz (h.alloc ob) (e.ev a) = some v := by
      unfold ld at h1 ⊢
      split at h1
      · exact h1
      · simp only [Option.bind_eq_some_iff] at h1 ⊢
        obtain ⟨r, hr, h1⟩ := h1
        exact ⟨r, K.row hr, h1⟩
      · cases h1
    rw [this]; rfl
  case lk kk z ok m k =>
    obtain ⟨h1, _⟩ := pureV_eq H
    have : lk kk z ok (h.alloc ob) (e.ev m) (e.ev k) = some v := by
      unfold lk at h1 ⊢
      split at h1
      · simp only [Option.bind_eq_some_iff] at h1 ⊢
        obtain ⟨r, hr, h1⟩ := h1
        exact ⟨r, K.entries hr, h1⟩
      · cases h1
    rw [this]; rfl
  case lenM x =>
    obtain ⟨h1, _⟩ := pureV_eq H
    have : lenM (h.alloc ob) (e.ev x) = some v := by
      unfold lenM at h1 ⊢
      simp only [Option.map_eq_some_iff] at h1 ⊢
      obtain ⟨r, hr, h1⟩ := h1
      exact ⟨r, K.entries hr, h1⟩
    rw [this]; rfl

/-- The name that a value leads to at once is below N. -/
def NL (N : Nat) : V → Prop
  | .ptr n _ _ _ => n < N
  | .map n => n < N
  | _ => True
theorem NL.mono {N M : Nat} {v : V} (H : NL N v) (hle : N ≤ M) : NL M v := by
  cases v <;> first | trivial | exact Nat.lt_of_lt_of_le H hle
def AOp.addr : AOp → Option Opd
  | .ld _ _ a => some a
  | .lk _ _ _ m _ => some m
  | .lenM x => some x
  | _ => none
theorem row_back {ob : Ob} {n tot : Nat} (hn : n < h.next) : (h.alloc ob).row n tot = h.row n tot := by
  unfold Hp.row
  rw [show (h.alloc ob).get n = h.get n from if_neg (by omega)]
theorem entries_back {ob : Ob} {m : V} (hn : NL h.next m) : entries (h.alloc ob) m = entries h m := by
  unfold Zv.entries
  cases m with
  | map n => simp only; rw [show (h.alloc ob).get n = h.get n from if_neg (by have : n < h.next := hn; omega)]
  | d x => cases x <;> rfl
  | _ => rfl
theorem kd1r {op : AOp} {v : V} {h' : Hp} (hk : op.kd = 1) {ob : Ob} (hn : ∀ x, op.addr = some x → NL h.next (e.ev x)) (H : opX cf e (h.alloc ob) op = some (v, h')) : opX cf e h op = some (v, h) := by
  cases op <;> (first | (exfalso; revert hk; simp [AOp.kd]; done) | skip) <;> simp only [opX] at H ⊢
  case ld ag sz a =>
    obtain ⟨h1, _⟩ := pureV_eq H
    have hn' := hn a rfl
    have : ld ag sz h (e.ev a) = some v := by
      unfold ld at h1 ⊢
      split at h1
      · exact h1
      · rename_i hx
        rw [row_back (by rw [hx] at hn'; exact hn')] at h1
        exact h1
      · cases h1
    rw [this]; rfl
  case lk kk z ok m k =>
    obtain ⟨h1, _⟩ := pureV_eq H
    have hn' := hn m rfl
    have : lk kk z ok h (e.ev m) (e.ev k) = some v := by
      unfold lk at h1 ⊢
      rw [entries_back hn'] at h1
      exact h1
    rw [this]; rfl
  case lenM x =>
    obtain ⟨h1, _⟩ := pureV_eq H
    have hn' := hn x rfl
    have : lenM h (e.ev x) = some v := by
      unfold lenM at h1 ⊢
      rw [entries_back hn'] at h1
      exact h1
    rw [this]; rfl

/-! ### Items -/

def itV (cf : Cf) (e : Env) (h : Hp) (op : AOp) (g : Option (Nat × Bool)) : Option (V × Hp) :=
  (want e g).bind fun w => if w = true then np (opX cf e h op) else some (.tup [], h)

theorem npi {x : Option (V × Hp)} {v : V} {h' h2 : Hp} {y : Option (V × Hp)} (H : np y = some (v, h')) (hx : x = some (v, h2)) : np x = some (v, h2) := by
  rw [hx]; exact np_of (np_some H).2
theorem itX_eq (dst : Option Nat) (op : AOp) (g : Option (Nat × Bool)) : itX cf e h (.o dst op g) = (itV cf e h op g).map fun r => (e.putO dst r.1, r.2) := by
  simp only [itX, itV]
  cases want e g with
  | none => rfl
  | some w => cases w <;> rfl

def usG : Option (Nat × Bool) → List Nat
  | none => []
  | some p => [p.1]

theorem itV_congr {op : AOp} {g : Option (Nat × Bool)} (H : ∀ t, t ∈ usG g ++ op.us → Env.get e t = Env.get e' t) : itV cf e h op g = itV cf e' h op g := by
  have h1 : want e g = want e' g := by
    cases g with
    | none => rfl
    | some p => simp only [want]; rw [H p.1 (by simp [usG])]
  unfold itV
  rw [h1, opX_congr (fun t ht => H t (List.mem_append_right _ ht))]

theorem itV0 {op : AOp} {g : Option (Nat × Bool)} {v : V} {h' : Hp} (hk : op.kd = 0) (H : itV cf e h op g = some (v, h')) : h' = h ∧ ∀ h2, itV cf e h2 op g = some (v, h2) := by
  unfold itV at H ⊢
  simp only [Option.bind_eq_some_iff] at H ⊢
  obtain ⟨w, hw, H⟩ := H
  cases w with
  | true =>
    rw [if_pos rfl] at H
    exact ⟨(kd0 hk (np_some H).1).1, fun h2 => ⟨true, hw, by rw [if_pos rfl]; exact npi H ((kd0 hk (np_some H).1).2 h2)⟩⟩
  | false => cases H; exact ⟨rfl, fun h2 => ⟨false, hw, rfl⟩⟩
theorem itV2 {op : AOp} {g : Option (Nat × Bool)} {v : V} {h' : Hp} (hk : op.kd ≤ 2) (H : itV cf e h op g = some (v, h')) : h' = h := by
  unfold itV at H
  simp only [Option.bind_eq_some_iff] at H
  obtain ⟨w, hw, H⟩ := H
  cases w with
  | true => rw [if_pos rfl] at H; exact kd2 hk (np_some H).1
  | false => cases H; rfl
theorem itV3 {op : AOp} {g : Option (Nat × Bool)} {v : V} {h' : Hp} (hk : op.kd = 3) (H : itV cf e h op g = some (v, h')) : h' = h ∨ ∃ ob, h' = h.alloc ob := by
  unfold itV at H
  simp only [Option.bind_eq_some_iff] at H
  obtain ⟨w, hw, H⟩ := H
  cases w with
  | true => rw [if_pos rfl] at H; exact kd3 hk (np_some H).1
  | false => cases H; exact .inl rfl
theorem itV1 {op : AOp} {g : Option (Nat × Bool)} {v : V} {h' : Hp} (hk : op.kd = 1) (K : KeysLt h) (ob : Ob) (H : itV cf e h op g = some (v, h')) : itV cf e (h.alloc ob) op g = some (v, h.alloc ob) := by
  unfold itV at H ⊢
  simp only [Option.bind_eq_some_iff] at H ⊢
  obtain ⟨w, hw, H⟩ := H
  cases w with
  | true => rw [if_pos rfl] at H; exact ⟨true, hw, by rw [if_pos rfl]; exact npi H (kd1 hk K ob (np_some H).1)⟩
  | false => cases H; exact ⟨false, hw, rfl⟩

theorem itV1r {op : AOp} {g : Option (Nat × Bool)} {v : V} {h' : Hp} (hk : op.kd = 1) {ob : Ob} (hn : ∀ x, op.addr = some x → NL h.next (e.ev x)) (H : itV cf e (h.alloc ob) op g = some (v, h')) : itV cf e h op g = some (v, h) := by
  unfold itV at H ⊢
  simp only [Option.bind_eq_some_iff] at H ⊢
  obtain ⟨w, hw, H⟩ := H
  cases w with
  | true => rw [if_pos rfl] at H; exact ⟨true, hw, by rw [if_pos rfl]; exact npi H (kd1r hk hn (np_some H).1)⟩
  | false => cases H; exact ⟨false, hw, rfl⟩

def rdk (k : Nat) : Bool := decide (k ≤ 2) || k == 5
theorem itV2r {op : AOp} {g : Option (Nat × Bool)} {v : V} {h' : Hp} (hk : rdk op.kd = true) (H : itV cf e h op g = some (v, h')) : h' = h := by
  unfold rdk at hk
  rw [Bool.or_eq_true, decide_eq_true_eq, beq_iff_eq] at hk
  rcases hk with hk | hk
  · exact itV2 hk H
  · cases op <;> (first | (exfalso; revert hk; simp [AOp.kd]; done) | skip)
    unfold itV at H
    simp only [Option.bind_eq_some_iff] at H
    obtain ⟨w, hw, H⟩ := H
    cases w with
    | true => rw [if_pos rfl] at H; exact (pureV_eq (np_some H).1).2
    | false => cases H; rfl
def kdOk (x i : Nat) : Bool := x == 0 || i == 0 || (rdk x && rdk i) || (x == 1 && i == 3) || (x == 3 && i == 1)

def apartI (dx : Option Nat) (ux : List Nat) (di : Option Nat) (ui : List Nat) : Bool :=
  (match dx with
   | none => true
   | some d => !ui.contains d && !decide (di = some d)) &&
  (match di with
   | none => true
   | some d => !ux.contains d)

/-- A load out of an object, and a call that leaves this object as it was. -/
def pairK : AOp → AOp → Bool
  | .ldk (.t n) _ _ _, .callk (.t m) _ _ _ => n == m
  | .callk (.t m) _ _ _, .ldk (.t n) _ _ _ => n == m
  | .ldk (.t n) _ _ _, .callz (.t m) _ _ _ => n == m
  | .callz (.t m) _ _ _, .ldk (.t n) _ _ _ => n == m
  | .ldk (.t n) _ _ _, .stk (.t m) _ _ _ => n == m
  | .stk (.t m) _ _ _, .ldk (.t n) _ _ _ => n == m
  | _, _ => false
theorem pairK_kd {a b : AOp} (h : pairK a b = true) : (a.kd = 5 ∨ a.kd = 6) ∧ (b.kd = 5 ∨ b.kd = 6) := by
  unfold pairK at h
  split at h
  · exact ⟨.inl rfl, .inr rfl⟩
  · exact ⟨.inr rfl, .inl rfl⟩
  · exact ⟨.inl rfl, .inr rfl⟩
  · exact ⟨.inr rfl, .inl rfl⟩
  · exact ⟨.inl rfl, .inr rfl⟩
  · exact ⟨.inr rfl, .inl rfl⟩
  · cases h
/-- May the second one go ahead of the first? -/
def indep : It → It → Bool
  | .o dx ox gx, .o di oi gi => (kdOk ox.kd oi.kd || pairK ox oi) && apartI dx (usG gx ++ ox.us) di (usG gi ++ oi.us)
  | _, _ => false

theorem apart_ok {dx di : Option Nat} {ux ui : List Nat} (H : apartI dx ux di ui = true) : (∀ d, dx = some d → d ∉ ui ∧ di ≠ some d) ∧ (∀ d, di = some d → d ∉ ux) := by
  unfold apartI at H
  simp only [Bool.and_eq_true] at H
  refine ⟨fun d hd => ?_, fun d hd => ?_⟩
  · have := H.1; subst hd; simpa using this
  · have := H.2; subst hd; simpa using this

theorem get_putO {d : Option Nat} {v : V} {t : Nat} (H : d ≠ some t) : Env.get (e.putO d v) t = Env.get e t := by
  cases d with
  | none => rfl
  | some q => show (if t = q then v else e.get t) = e.get t; rw [if_neg (fun hq => H (by rw [hq]))]

def EqE (e e' : Env) : Prop := ∀ t, Env.get e t = Env.get e' t

theorem EqE.putO {d : Option Nat} {v : V} (H : EqE e e') : EqE (e.putO d v) (e'.putO d v) := by
  cases d with
  | none => exact H
  | some q => intro t; show (if t = q then v else e.get t) = if t = q then v else e'.get t; rw [H t]

theorem putO_comm {d d' : Option Nat} {v v' : V} (H : ∀ q, d = some q → d' ≠ some q) : EqE ((e.putO d v).putO d' v') ((e.putO d' v').putO d v) := by
  intro t
  cases d with
  | none => rfl
  | some q =>
    cases d' with
    | none => rfl
    | some q' =>
      show (if t = q' then v' else if t = q then v else e.get t) = if t = q then v else if t = q' then v' else e.get t
      have := H q rfl
      by_cases h1 : t = q'
      · by_cases h2 : t = q
        · exfalso; subst h1; subst h2; exact this rfl
        · simp [h1, h2]
          intro h3; subst h3; exact absurd rfl this
      · simp [h1]

theorem same_row {h h' : Hp} {n tot : Nat} (H : sameAt h h' (.ptr n tot 0 0) = true) : h'.get n = h.get n := by
  simp only [sameAt] at H
  cases h1 : h.get n with
  | none => rw [h1] at H; cases H
  | some a =>
    cases h2 : h'.get n with
    | none => rw [h1, h2] at H; cases H
    | some b => rw [h1, h2] at H; rw [Ob.beq_eq H]
theorem sameAt_ptr {h h' : Hp} {n t1 i1 o1 : Nat} (H : sameAt h h' (.ptr n t1 i1 o1) = true) : h'.get n = h.get n := same_row (tot := t1) H
theorem ldk_eq {ag : Bool} {sz : Nat} {h h' : Hp} {k a : V} (hs : sameAt h h' k = true) : ldk ag sz h' k a = ldk ag sz h k a := by
  cases k <;> try rfl
  rename_i n tot i off
  cases a <;> try rfl
  rename_i m t2 i2 o2
  simp only [ldk]
  split
  · rename_i e
    subst e
    have := sameAt_ptr hs
    simp only [ld, Hp.row, this]
  · rfl
theorem opk {k k' : Opd} {ag : Bool} {sz : Nat} {a f : Opd} {nm : List Bool} {xs : List Opd} {h h2 : Hp} {vi : V} (hk : e.ev k = e.ev k') (hq : opX cf e h (.callk k' f nm xs) = some (vi, h2)) : ldk ag sz h2 (e.ev k) (e.ev a) = ldk ag sz h (e.ev k) (e.ev a) := by
  simp only [opX, Option.bind_eq_some_iff] at hq
  obtain ⟨r, _, hq⟩ := hq
  split at hq
  · rename_i hs
    cases hq
    rw [hk]
    exact ldk_eq hs
  · cases hq
theorem opkz {k k' : Opd} {ag : Bool} {sz : Nat} {a f : Opd} {nm : List Bool} {xs : List Opd} {h h2 : Hp} {vi : V} (hk : e.ev k = e.ev k') (hq : opX cf e h (.callz k' f nm xs) = some (vi, h2)) : ldk ag sz h2 (e.ev k) (e.ev a) = ldk ag sz h (e.ev k) (e.ev a) := by
  simp only [opX, Option.bind_eq_some_iff] at hq
  obtain ⟨r, _, q, _, hq⟩ := hq
  split at hq
  · rename_i hs
    cases hq
    rw [hk]
    exact ldk_eq hs
  · cases hq
theorem opks {k k' : Opd} {ag : Bool} {sz sz' : Nat} {a b x : Opd} {h h2 : Hp} {vi : V} (hk : e.ev k = e.ev k') (hq : opX cf e h (.stk k' sz' b x) = some (vi, h2)) : ldk ag sz h2 (e.ev k) (e.ev a) = ldk ag sz h (e.ev k) (e.ev a) := by
  simp only [opX, Option.bind_eq_some_iff] at hq
  obtain ⟨r, _, hq⟩ := hq
  split at hq
  · rename_i hs
    cases hq
    rw [hk]
    exact ldk_eq hs
  · cases hq
theorem itV5 {k : Opd} {ag : Bool} {sz : Nat} {a : Opd} {g : Option (Nat × Bool)} {v : V} {h h' : Hp} (H : itV cf e h (.ldk k ag sz a) g = some (v, h')) : h' = h ∧ ∀ h2, ldk ag sz h2 (e.ev k) (e.ev a) = ldk ag sz h (e.ev k) (e.ev a) → itV cf e h2 (.ldk k ag sz a) g = some (v, h2) := by
  unfold itV at H ⊢
  simp only [Option.bind_eq_some_iff] at H ⊢
  obtain ⟨w, hw, H⟩ := H
  cases w with
  | true =>
    simp only [if_true, opX] at H
    obtain ⟨h1, rfl⟩ := pureV_eq (np_some H).1
    exact ⟨rfl, fun h2 he => ⟨true, hw, by rw [if_pos rfl]; exact npi H (by simp only [opX, he, h1]; rfl)⟩⟩
  | false => cases H; exact ⟨rfl, fun h2 _ => ⟨false, hw, rfl⟩⟩
theorem itV6 {k k' : Opd} {ag : Bool} {sz : Nat} {a f : Opd} {nm : List Bool} {xs : List Opd} {g : Option (Nat × Bool)} {v : V} {h h2 : Hp} (hk : e.ev k = e.ev k') (H : itV cf e h (.callk k' f nm xs) g = some (v, h2)) : ldk ag sz h2 (e.ev k) (e.ev a) = ldk ag sz h (e.ev k) (e.ev a) := by
  unfold itV at H
  simp only [Option.bind_eq_some_iff] at H
  obtain ⟨w, hw, H⟩ := H
  cases w with
  | true => rw [if_pos rfl] at H; exact opk hk (np_some H).1
  | false => cases H; rfl
theorem itV6z {k k' : Opd} {ag : Bool} {sz : Nat} {a f : Opd} {nm : List Bool} {xs : List Opd} {g : Option (Nat × Bool)} {v : V} {h h2 : Hp} (hk : e.ev k = e.ev k') (H : itV cf e h (.callz k' f nm xs) g = some (v, h2)) : ldk ag sz h2 (e.ev k) (e.ev a) = ldk ag sz h (e.ev k) (e.ev a) := by
  unfold itV at H
  simp only [Option.bind_eq_some_iff] at H
  obtain ⟨w, hw, H⟩ := H
  cases w with
  | true => rw [if_pos rfl] at H; exact opkz hk (np_some H).1
  | false => cases H; rfl
theorem itV6s {k k' : Opd} {ag : Bool} {sz sz' : Nat} {a b x : Opd} {g : Option (Nat × Bool)} {v : V} {h h2 : Hp} (hk : e.ev k = e.ev k') (H : itV cf e h (.stk k' sz' b x) g = some (v, h2)) : ldk ag sz h2 (e.ev k) (e.ev a) = ldk ag sz h (e.ev k) (e.ev a) := by
  unfold itV at H
  simp only [Option.bind_eq_some_iff] at H
  obtain ⟨w, hw, H⟩ := H
  cases w with
  | true => rw [if_pos rfl] at H; exact opks hk (np_some H).1
  | false => cases H; rfl
theorem swap {dx di : Option Nat} {ox oi : AOp} {gx gi : Option (Nat × Bool)} {vx vi : V} {h1 h2 : Hp} (hi : indep (.o dx ox gx) (.o di oi gi) = true) (hK : oi.kd = 3 → KeysLt h) (hN : oi.kd = 1 → ∀ x, oi.addr = some x → NL h.next (e.ev x))
    (Hx : itV cf e h ox gx = some (vx, h1)) (Hi : itV cf (e.putO dx vx) h1 oi gi = some (vi, h2)) :
    ∃ h3, itV cf e h oi gi = some (vi, h3) ∧ itV cf (e.putO di vi) h3 ox gx = some (vx, h2) := by
  simp only [indep, Bool.and_eq_true] at hi
  obtain ⟨hk, ha⟩ := hi
  obtain ⟨a1, a2⟩ := apart_ok ha
  rw [itV_congr (e' := e) (fun t ht => get_putO (fun hd => (a1 t hd).1 ht))] at Hi
  have cx : ∀ h', itV cf (e.putO di vi) h' ox gx = itV cf e h' ox gx := fun h' => itV_congr fun t ht => get_putO (fun hd => a2 t hd ht)
  rw [Bool.or_eq_true] at hk
  rcases hk with hk | hk
  case inr =>
    unfold pairK at hk
    split at hk
    · rename_i n ag sz a m f nm xs
      have hnm : n = m := by simpa using hk
      subst hnm
      obtain ⟨rfl, hb⟩ := itV5 Hx
      refine ⟨h2, Hi, ?_⟩
      rw [cx]
      exact hb h2 (itV6 rfl Hi)
    · rename_i m f nm xs n ag sz a
      have hnm : n = m := by simpa using hk
      subst hnm
      obtain ⟨rfl, hb⟩ := itV5 Hi
      exact ⟨h, hb h (itV6 rfl Hx).symm, by rw [cx]; exact Hx⟩
    · rename_i n ag sz a m f nm xs
      have hnm : n = m := by simpa using hk
      subst hnm
      obtain ⟨rfl, hb⟩ := itV5 Hx
      refine ⟨h2, Hi, ?_⟩
      rw [cx]
      exact hb h2 (itV6z rfl Hi)
    · rename_i m f nm xs n ag sz a
      have hnm : n = m := by simpa using hk
      subst hnm
      obtain ⟨rfl, hb⟩ := itV5 Hi
      exact ⟨h, hb h (itV6z rfl Hx).symm, by rw [cx]; exact Hx⟩
    · rename_i n ag sz a m sz' b x
      have hnm : n = m := by simpa using hk
      subst hnm
      obtain ⟨rfl, hb⟩ := itV5 Hx
      refine ⟨h2, Hi, ?_⟩
      rw [cx]
      exact hb h2 (itV6s rfl Hi)
    · rename_i m sz' b x n ag sz a
      have hnm : n = m := by simpa using hk
      subst hnm
      obtain ⟨rfl, hb⟩ := itV5 Hi
      exact ⟨h, hb h (itV6s rfl Hx).symm, by rw [cx]; exact Hx⟩
    · cases hk
  simp only [kdOk, Bool.or_eq_true, Bool.and_eq_true, beq_iff_eq, decide_eq_true_eq] at hk
  rcases hk with (((hk | hk) | ⟨hk, hk'⟩) | ⟨hk, hk'⟩) | ⟨hk, hk'⟩
  · obtain ⟨rfl, h5⟩ := itV0 hk Hx
    exact ⟨h2, Hi, by rw [cx]; exact h5 h2⟩
  · obtain ⟨rfl, h5⟩ := itV0 hk Hi
    exact ⟨h, h5 h, by rw [cx]; exact Hx⟩
  · have e1 := itV2r hk Hx
    subst e1
    have e2 := itV2r hk' Hi
    subst e2
    exact ⟨_, Hi, by rw [cx]; exact Hx⟩
  · have e1 := itV2 (by omega) Hx
    subst e1
    refine ⟨h2, Hi, ?_⟩
    rw [cx]
    rcases itV3 hk' Hi with rfl | ⟨ob, rfl⟩
    · exact Hx
    · exact itV1 hk (hK hk') ob Hx
  · have e2 := itV2 (by omega) Hi
    subst e2
    refine ⟨h, ?_, by rw [cx]; exact Hx⟩
    rcases itV3 hk Hx with rfl | ⟨ob, rfl⟩
    · exact Hi
    · exact itV1r hk' (hN hk') Hi

theorem itsX_congr : ∀ {its : List It} {e e' : Env} {h : Hp} {e1 : Env} {h1 : Hp}, EqE e e' → itsX cf its e h = some (e1, h1) → ∃ e1', itsX cf its e' h = some (e1', h1) ∧ EqE e1 e1'
  | [], _, _, _, _, _, hq, H => by cases H; exact ⟨_, rfl, hq⟩
  | i :: r, e, e', h, e1, h1, hq, H => by
    simp only [itsX, Option.bind_eq_some_iff] at H ⊢
    obtain ⟨⟨e2, h2⟩, hi, H⟩ := H
    have : ∃ e2', itX cf e' h i = some (e2', h2) ∧ EqE e2 e2' := by
      cases i with
      | o dst op g =>
        rw [itX_eq] at hi ⊢
        rw [← itV_congr (fun t _ => hq t)]
        simp only [Option.map_eq_some_iff] at hi ⊢
        obtain ⟨⟨v, h3⟩, h4, h5⟩ := hi
        cases h5
        exact ⟨_, ⟨_, h4, rfl⟩, hq.putO⟩
      | frz t =>
        simp only [itX] at hi ⊢
        rw [← hq t]
        simp only [Option.map_eq_some_iff] at hi ⊢
        obtain ⟨⟨v, h3⟩, h4, h5⟩ := hi
        cases h5
        exact ⟨_, ⟨_, h4, rfl⟩, hq.putO (d := some t)⟩
      | fzd t =>
        simp only [itX] at hi ⊢
        rw [← hq t]
        simp only [Option.map_eq_some_iff] at hi ⊢
        obtain ⟨⟨v, h3⟩, h4, h5⟩ := hi
        cases h5
        exact ⟨_, ⟨_, h4, rfl⟩, hq.putO (d := some t)⟩
      | kill t =>
        simp only [itX] at hi ⊢
        rw [← hq t]
        split at hi <;> cases hi <;> exact ⟨_, rfl, hq.putO (d := some t)⟩
    obtain ⟨e2', k1, k2⟩ := this
    obtain ⟨e1', k3, k4⟩ := itsX_congr k2 H
    exact ⟨e1', ⟨_, k1, k3⟩, k4⟩

theorem EqE.trans {a b c : Env} (h : EqE a b) (k : EqE b c) : EqE a c := fun t => (h t).trans (k t)
theorem EqE.symm {a b : Env} (h : EqE a b) : EqE b a := fun t => (h t).symm

theorem bubble {di : Option Nat} {oi : AOp} {gi : Option (Nat × Bool)} {post : List It} {h2 : Hp} {e1 : Env} : ∀ {pre : List It} {e : Env} {h : Hp}, (∀ x, x ∈ pre → indep x (.o di oi gi) = true) → (oi.kd = 3 → KeysLt h) → (oi.kd = 1 → ∀ x, oi.addr = some x → NL h.next (e.ev x)) →
    itsX cf (pre ++ .o di oi gi :: post) e h = some (e1, h2) → ∃ vi h3 e1', itV cf e h oi gi = some (vi, h3) ∧ itsX cf (pre ++ post) (e.putO di vi) h3 = some (e1', h2) ∧ EqE e1' e1
  | [], e, h, _, _, _, H => by
    simp only [List.nil_append, itsX, itX_eq, Option.bind_eq_some_iff, Option.map_eq_some_iff] at H ⊢
    obtain ⟨a, ⟨⟨v, h3⟩, h4, h5⟩, H⟩ := H
    cases h5
    exact ⟨v, h3, e1, h4, H, fun _ => rfl⟩
  | x :: r, e, h, hin, hK, hN, H => by
    have hix := hin x (List.mem_cons_self ..)
    cases x with
    | o dx ox gx =>
      simp only [List.cons_append, itsX, Option.bind_eq_some_iff] at H
      obtain ⟨⟨ex, hx⟩, hxi, H⟩ := H
      dsimp only at H
      rw [itX_eq] at hxi
      simp only [Option.map_eq_some_iff] at hxi
      obtain ⟨⟨vx, hx'⟩, hv, hq⟩ := hxi
      injection hq with hq1 hq2
      subst hq1; subst hq2
      have hK' : oi.kd = 3 → KeysLt hx' := by
        intro h3
        have hk : ox.kd ≤ 2 := by
          have hp : pairK ox oi = false := by
            cases hp : pairK ox oi with
            | false => rfl
            | true => have := (pairK_kd hp).2; omega
          simp only [indep, kdOk, rdk, h3, hp, Bool.and_eq_true, Bool.or_eq_true, beq_iff_eq, decide_eq_true_eq, Bool.false_eq_true, or_false] at hix
          omega
        rw [itV2 hk hv]
        exact hK h3
      have hN' : oi.kd = 1 → ∀ x, oi.addr = some x → NL hx'.next ((e.putO dx vx).ev x) := by
        intro h1 x hx
        have hk : ox.kd ≤ 3 ∨ ox.kd = 5 := by
          have hp : pairK ox oi = false := by
            cases hp : pairK ox oi with
            | false => rfl
            | true => have := (pairK_kd hp).2; omega
          simp only [indep, kdOk, rdk, h1, hp, Bool.and_eq_true, Bool.or_eq_true, beq_iff_eq, decide_eq_true_eq, Bool.false_eq_true, or_false] at hix
          omega
        have hle : h.next ≤ hx'.next := by
          by_cases h3 : ox.kd = 3
          · rcases itV3 h3 hv with rfl | ⟨ob, rfl⟩
            · exact Nat.le_refl _
            · exact Nat.le_succ _
          · rw [itV2r (by unfold rdk; rw [Bool.or_eq_true, decide_eq_true_eq, beq_iff_eq]; omega) hv]; exact Nat.le_refl _
        have hap := hix
        simp only [indep, Bool.and_eq_true] at hap
        obtain ⟨a1, _⟩ := apart_ok hap.2
        have hev : (e.putO dx vx).ev x = e.ev x := by
          refine ev_congr (l := x.us) (fun t ht => get_putO (fun hd => (a1 t hd).1 ?_)) (fun t ht => ht)
          refine List.mem_append_right _ ?_
          cases oi <;> simp only [AOp.addr, Option.some.injEq, reduceCtorEq] at hx <;> subst hx <;> simp [AOp.us, ht]
        rw [hev]
        exact (hN h1 x hx).mono hle
      obtain ⟨vi, h3, e1', k1, k2, k3⟩ := bubble (pre := r) (fun y hy => hin y (List.mem_cons_of_mem _ hy)) hK' hN' H
      obtain ⟨h4, s1, s2⟩ := swap hix hK hN hv k1
      simp only [indep, Bool.and_eq_true] at hix
      obtain ⟨a1, a2⟩ := apart_ok hix.2
      obtain ⟨e1'', k4, k5⟩ := itsX_congr (putO_comm (fun q hq => (a1 q hq).2)) k2
      refine ⟨vi, h4, e1'', s1, ?_, k5.symm.trans k3⟩
      simp only [List.cons_append, itsX, Option.bind_eq_some_iff, itX_eq, s2, Option.map_some]
      exact ⟨_, rfl, k4⟩
    | frz t => cases hix
    | fzd t => cases hix
    | kill t => cases hix

end Zv
end
