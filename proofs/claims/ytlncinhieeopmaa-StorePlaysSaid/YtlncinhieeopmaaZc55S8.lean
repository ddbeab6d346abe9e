/-
  What changes the reference's store.
-/
import Derived.Test.YtlncinhieeopmaaZc55S7
set_option linter.unusedSimpArgs false
set_option maxHeartbeats 4000000
namespace Zc55
open Go Zv Zs

/-- A copy of words: nothing, or a new row. -/
def cpV (q : Nat) (l : List Wd) : V := if l = [] then .tl [] (some false) else .own q 2 l.length 0 l.length
def cpH (h : Hp) (l : List Wd) : Hp := if l = [] then h else ⟨(h.next, .arr 2 ((l.map eW).map .d)) :: h.objs, h.next + 1⟩
theorem app_cp {h : Hp} {v : V} {l : List Wd} (he : elems h v = some ((l.map eW).map .d)) (hl : l.length < 2 ^ 20) : app 2 16 h (.tl [] (some false)) v = some (cpV h.next l, cpH h l) := by
  have hx : allV 2 ((l.map eW).map V.d) = true := by simp [allV, V.cells, D.cells]
  have hn : ((l.map eW).map V.d).map norm = (l.map eW).map V.d := by simp [norm, toD]
  unfold app
  simp only [he, Option.bind_some, hx, if_true, hn]
  by_cases h0 : l = []
  · subst h0; rfl
  · have hi : ((l.map eW).map V.d).isEmpty = false := by cases l; exact absurd rfl h0; rfl
    simp only [hi, Bool.false_eq_true, if_false, List.length_nil, List.length_map, Nat.zero_add, List.nil_append, cpV, cpH, h0]
    rw [if_pos ⟨by unfold roomB; omega, by simp [allV]⟩]
    rfl
theorem cp_mk (u : Bool) (t : Int) (q : Nat) (l : List Wd) : mkAgg [.d (.bool u), .d (.int .i64 t), cpV q l] = rcV ⟨u, t, l, if l = [] then .tl (some false) else .row q⟩ := by
  unfold rcV rwV cpV
  by_cases h : l = []
  · simp [h]
  · simp [h]
theorem cpH_get (h : Hp) (l : List Wd) (m : Nat) (hm : m < h.next) : (cpH h l).get m = h.get m := by
  unfold cpH
  split
  · rfl
  · rw [get_mk, if_neg (by omega)]; rfl
theorem cpH_low {h : Hp} (L : Low h) (l : List Wd) : Low (cpH h l) := by
  unfold cpH
  split
  · exact L
  · exact low_top L _
theorem cpH_next (h : Hp) (l : List Wd) : h.next ≤ (cpH h l).next ∧ (l ≠ [] → (cpH h l).next = h.next + 1 ∧ (cpH h l).get h.next = some (.arr 2 ((l.map eW).map .d))) := by
  unfold cpH
  split
  · rename_i h0; exact ⟨Nat.le_refl _, fun h => absurd h0 h⟩
  · exact ⟨Nat.le_succ _, fun _ => ⟨rfl, by rw [get_mk, if_pos rfl]⟩⟩

theorem ld_rcell {h : Hp} {nt nc : Nat} {cs : List RC} {fv : V} (P : RP h.get nt nc cs fv) {O : Nat → Prop} {i : Nat} {r : List Nat} (F : FV h.get nt nc O fv (i :: r)) :
    (∃ a, ia 1 fv (.d (.int .i64 0)) = some a ∧ ld false 1 h a = some (.d (eI i))) ∧ ∃ v, slc 1 fv (some (.d (.int .i64 1))) none = some v ∧ FV h.get nt nc O v r := by
  rcases F with ⟨nl, rfl⟩ | ⟨nf, tot, off, els, rfl, hg, ht, ho, he, hO, h1, h2⟩
  · refine ⟨⟨.fp (eI i) 0, by simp [ia, ixOf, toD, D.cells], rfl⟩, .tl (r.map nI) nl, ?_, .inl ⟨nl, rfl⟩⟩
    have ha : allV 1 ((i :: r).map nI) = true := by simp [allV, V.cells, D.cells]
    simp [slc, bnd, ixOf, allV, V.cells, D.cells]
  · have hi : els[off]? = some (nI i) := by
      have : ((els.drop off).take (i :: r).length)[0]? = some (nI i) := by rw [he]; rfl
      rw [List.getElem?_take_of_lt (by simp), List.getElem?_drop, Nat.add_zero] at this
      exact this
    refine ⟨⟨.ptr nf tot off 0, by simp [ia, ixOf], ?_⟩, .own nf 1 tot (off + 1) r.length, by simp [slc, bnd, ixOf], .inr ⟨nf, tot, off + 1, els, rfl, hg, ht, by simp at ho; omega, ?_, hO, h1, h2⟩⟩
    · rw [ld_one, row_lk, hg, rowOf_arr, if_pos ht]
      simp [hi, V.cells, D.cells]
    · have : (els.drop off).take (r.length + 1) = nI i :: r.map nI := he
      rw [← List.drop_drop]
      have h3 : els.drop off = nI i :: (els.drop off).drop 1 := by
        cases hq : els.drop off with
        | nil => rw [hq] at this; simp at this
        | cons a b => rw [hq] at this; simp at this; rw [this.1]; rfl
      rw [h3] at this
      simpa using this

theorem rtake_ok {h : Hp} {nt nc : Nat} {O : Nat → Prop} {S : St} (R : RS h nt nc O S) (L : Low h) (tag : Int) (wl : List Wd) (hw : wl.length < 2 ^ 20) :
    ∃ r, callW tab 30 [.ptr nt 1 0 0, .d (eI tag), .d (eWs wl)] h = some r ∧ r.1 = .tup [.d (eI (takeS S tag wl).1.1), .d (eI (takeS S tag wl).1.2)] ∧ Rft h nt nc O (takeS S tag wl).2 r.2 := by
  apply call_wpE (fn := f30) rfl rfl
  obtain ⟨⟨cs, fv, P, F, hab, hown⟩, hok, hos⟩ := R
  have R0 : RS h nt nc O S := ⟨⟨cs, fv, P, F, hab, hown⟩, hok, hos⟩
  have A0 := R0.same L h.next (Nat.le_refl _)
  have hwd := rwords_ok P wl (by omega)
  rw [hab] at hwd
  have e1 : ((24 : Int) < (wl.length : Int)) = (24 < wl.length) := by apply propext; omega
  unfold takeS
  by_cases h0 : tag < 0
  · (simp only [e30, h0, ws, wsl, opX, int, Zv.bool, intBin, reduceIte, ↓reduceIte, Nat.reduceEqDiff, Nat.reduceAdd, Nat.reduceSub, Nat.reduceLeDiff, Int.reduceLT, Int.reduceLE, Int.reduceEq, Int.reduceBEq, Int.reduceNe, Int.reduceBNe, reduceCtorEq, Nat.reduceBEq] <;> repeat' (first | refine wpG_s ?_ ?_ | refine wpC_s ?_ ?_) <;> intro hgo <;> (try simp only [decide_eq_true_eq, decide_eq_false_iff_not, Bool.not_eq_true', Bool.not_eq_false'] at hgo) <;> simp only [hgo, e30, h0, ws, wsl, opX, int, Zv.bool, intBin, reduceIte, ↓reduceIte, Nat.reduceEqDiff, Nat.reduceAdd, Nat.reduceSub, Nat.reduceLeDiff, Int.reduceLT, Int.reduceLE, Int.reduceEq, Int.reduceBEq, Int.reduceNe, Int.reduceBNe, reduceCtorEq, Nat.reduceBEq])
    exact ⟨_, rfl, rfl, A0⟩
  · by_cases h1 : 24 < wl.length
    · (simp only [e30, h0, e1, h1, ws, wsl, opX, int, Zv.bool, intBin, reduceIte, ↓reduceIte, Nat.reduceEqDiff, Nat.reduceAdd, Nat.reduceSub, Nat.reduceLeDiff, Int.reduceLT, Int.reduceLE, Int.reduceEq, Int.reduceBEq, Int.reduceNe, Int.reduceBNe, reduceCtorEq, Nat.reduceBEq] <;> repeat' (first | refine wpG_s ?_ ?_ | refine wpC_s ?_ ?_) <;> intro hgo <;> (try simp only [decide_eq_true_eq, decide_eq_false_iff_not, Bool.not_eq_true', Bool.not_eq_false'] at hgo) <;> simp only [hgo, e30, h0, e1, h1, ws, wsl, opX, int, Zv.bool, intBin, reduceIte, ↓reduceIte, Nat.reduceEqDiff, Nat.reduceAdd, Nat.reduceSub, Nat.reduceLeDiff, Int.reduceLT, Int.reduceLE, Int.reduceEq, Int.reduceBEq, Int.reduceNe, Int.reduceBNe, reduceCtorEq, Nat.reduceBEq])
      exact ⟨_, rfl, rfl, A0⟩
    · by_cases h2 : wErr (usedA S.cells) wl = 0
      · rw [h2] at hwd
        obtain ⟨c1, c2, c3⟩ := fvcells F
        cases hf : S.free with
        | nil =>
          rw [hf] at c3
          (simp only [e30, h0, e1, h1, hwd, h2, P.row, c1, c3, Int.cast_ofNat_Int, ws, wsl, opX, int, Zv.bool, intBin, reduceIte, ↓reduceIte, Nat.reduceEqDiff, Nat.reduceAdd, Nat.reduceSub, Nat.reduceLeDiff, Int.reduceLT, Int.reduceLE, Int.reduceEq, Int.reduceBEq, Int.reduceNe, Int.reduceBNe, reduceCtorEq, Nat.reduceBEq] <;> repeat' (first | refine wpG_s ?_ ?_ | refine wpC_s ?_ ?_) <;> intro hgo <;> (try simp only [decide_eq_true_eq, decide_eq_false_iff_not, Bool.not_eq_true', Bool.not_eq_false'] at hgo) <;> simp only [hgo, e30, h0, e1, h1, hwd, h2, P.row, c1, c3, Int.cast_ofNat_Int, ws, wsl, opX, int, Zv.bool, intBin, reduceIte, ↓reduceIte, Nat.reduceEqDiff, Nat.reduceAdd, Nat.reduceSub, Nat.reduceLeDiff, Int.reduceLT, Int.reduceLE, Int.reduceEq, Int.reduceBEq, Int.reduceNe, Int.reduceBNe, reduceCtorEq, Nat.reduceBEq])
          exact ⟨_, rfl, rfl, A0⟩
        | cons i r =>
          rw [hf] at F c3
          obtain ⟨⟨a, ha, hla⟩, v, hsl, F'⟩ := ld_rcell P F
          have hir : i ∉ r ∧ r.Nodup := by have := hok.nd; rw [hf] at this; exact List.nodup_cons.1 this
          obtain ⟨ac, hac, hacu⟩ := (hok.mem i).1 (by rw [hf]; exact List.mem_cons_self)
          have hiA := lt_of_get hac
          have hlt : i < cs.length := by rw [← hab, List.length_map] at hiA; exact hiA
          obtain ⟨c, hc⟩ := get_of_lt hlt
          have e2 : (((r.length + 1 : Nat) : Int) == 0) = false := by simp; omega
          obtain ⟨d1, d2, d3⟩ := fvcells F'
          have hs := P.s
          have hnt := low_lt L P.s
          have hnc := low_lt L P.c
          have n1 : (nt = nc) = False := by simp [P.ne]
          have n2 : (nc = nt) = False := by simp [Ne.symm P.ne]
          -- Free = Free[1:]
          have hst1 : st 1 h (.ptr nt 1 0 1) v = some (h.set nt (.arr 2 [.agg [.own nc 3 cs.length 0 cs.length, v]])) := by
            rw [st_in (sz := 1) (off := 1) (es := 2) P.row (by rfl) d2 (by rw [d1]; rfl) (by simp [V.cells]) (by omega) (by omega)]
            rw [d1]; rfl
          generalize hh1 : h.set nt (.arr 2 [.agg [.own nc 3 cs.length 0 cs.length, v]]) = h1' at hst1
          have hg1 : ∀ m, h1'.get m = if m = nt then some (.arr 2 [.agg [.own nc 3 cs.length 0 cs.length, v]]) else h.get m := by
            intro m; rw [← hh1, get_sets, hs]; rfl
          have hx1 : h1'.next = h.next := by rw [← hh1]; rfl
          have hl1 : Low h1' := by rw [← hh1]; exact low_set L _ _
          have hrow1 : h1'.row nt 1 = some (2, [.agg [.own nc 3 cs.length 0 cs.length, v]]) := by rw [row_lk, hg1, if_pos rfl]; rfl
          have happ : appn 2 16 h1' (.tl [] (some false)) (.d (eWs wl)) = some (cpV h1'.next wl, cpH h1' wl) := app_cp (h := h1') (v := .d (eWs wl)) (l := wl) rfl (by omega)
          have hgc : (cpH h1' wl).get nc = some (.arr 3 (cs.map rcV)) := by rw [cpH_get _ _ _ (by rw [hx1]; exact hnc), hg1, if_neg (by rw [n2]; simp)]; exact P.c
          have hrc : (cpH h1' wl).row nc cs.length = some (3, cs.map rcV) := by rw [row_lk, hgc, rowOf_arr, if_pos (by simp)]
          have hst2 := st_all (sz := 3) (i := i) (e := rcV c) (x := rcV ⟨true, tag, wl, if wl = [] then .tl (some false) else .row h1'.next⟩) hrc (by rw [List.getElem?_map, hc]; rfl) (by
            unfold rcV rwV; by_cases h : wl = [] <;> simp [h, mkAgg, asD, stor]) (by rw [rcV_cells]; rfl)
          have cp1 : (cpV h1'.next wl).cells = [cpV h1'.next wl] ∧ stor (cpV h1'.next wl) = true := by unfold cpV; split <;> exact ⟨rfl, rfl⟩
          have hia3 := ia_own (es := 3) (n := nc) (tot := cs.length) .i64 hlt
          (simp only [e30, h0, e1, h1, hwd, h2, P.row, c1, c3, e2, ha, hla, hsl, hst1, hrow1, happ, cp1.1, cp1.2, cp_mk, hia3, hst2, Option.map_some, Option.map_none, ws, wsl, opX, int, Zv.bool, intBin, reduceIte, ↓reduceIte, Nat.reduceEqDiff, Nat.reduceAdd, Nat.reduceSub, Nat.reduceLeDiff, Int.reduceLT, Int.reduceLE, Int.reduceEq, Int.reduceBEq, Int.reduceNe, Int.reduceBNe, reduceCtorEq, Nat.reduceBEq] <;> repeat' (first | refine wpG_s ?_ ?_ | refine wpC_s ?_ ?_) <;> intro hgo <;> (try simp only [decide_eq_true_eq, decide_eq_false_iff_not, Bool.not_eq_true', Bool.not_eq_false'] at hgo) <;> simp only [hgo, e30, h0, e1, h1, hwd, h2, P.row, c1, c3, e2, ha, hla, hsl, hst1, hrow1, happ, cp1.1, cp1.2, cp_mk, hia3, hst2, Option.map_some, Option.map_none, ws, wsl, opX, int, Zv.bool, intBin, reduceIte, ↓reduceIte, Nat.reduceEqDiff, Nat.reduceAdd, Nat.reduceSub, Nat.reduceLeDiff, Int.reduceLT, Int.reduceLE, Int.reduceEq, Int.reduceBEq, Int.reduceNe, Int.reduceBNe, reduceCtorEq, Nat.reduceBEq])
          refine ⟨_, rfl, rfl, ?_⟩
          rw [← List.map_set]
          generalize hcd : (⟨true, tag, wl, if wl = [] then .tl (some false) else .row h1'.next⟩ : RC) = c'
          have hg2 : ∀ m, ((cpH h1' wl).set nc (.arr 3 ((cs.set i c').map rcV))).get m = if m = nc then some (.arr 3 ((cs.set i c').map rcV)) else (cpH h1' wl).get m := by
            intro m; rw [get_sets, hgc]; rfl
          have hc'w : c'.words = wl := by rw [← hcd]
          have hold : ∀ m, m < h.next → m ≠ nc → m ≠ nt → ((cpH h1' wl).set nc (.arr 3 ((cs.set i c').map rcV))).get m = h.get m := by
            intro m hm hmc hmt
            rw [hg2, if_neg hmc, cpH_get _ _ _ (by rw [hx1]; exact hm), hg1, if_neg hmt]
          have hnx := cpH_next h1' wl
          rw [hx1] at hnx
          have hset : ∀ (j : Nat) c2, (cs.set i c')[j]? = some c2 → (j = i ∧ c2 = c') ∨ (j ≠ i ∧ cs[j]? = some c2) := by
            intro j c2 h
            by_cases hj : j = i
            · subst hj; rw [List.getElem?_set_self hlt] at h; cases h; exact .inl ⟨rfl, rfl⟩
            · rw [List.getElem?_set_ne (Ne.symm hj)] at h; exact .inr ⟨hj, h⟩
          have hwn : ∀ n, c'.wh = .row n → n = h.next ∧ wl ≠ [] := by
            intro n hn; rw [← hcd] at hn; simp only at hn
            split at hn
            · cases hn
            · rename_i hne; cases hn; exact ⟨hx1, hne⟩
          refine ⟨⟨⟨cs.set i c', v, ⟨?_, ?_, ?_, ?_, P.ne⟩, F'.mono ?_ (fun _ h => .inl h), ?_, ?_⟩, ?_, ?_⟩, ?_, low_set (cpH_low hl1 wl) _ _, hnx.1⟩
          · rw [hg2, if_neg (by rw [n1]; simp), cpH_get _ _ _ (by rw [hx1]; exact hnt), hg1, if_pos rfl, List.length_set]
          · rw [hg2, if_pos rfl]
          · intro j c2 n h3 h4
            rcases hset j c2 h3 with ⟨rfl, rfl⟩ | ⟨hj, h5⟩
            · obtain ⟨rfl, hne⟩ := hwn n h4
              have := (hnx.2 hne).2
              rw [hc'w]
              exact ⟨by rw [hg2, if_neg (by omega)]; exact this, by omega, by omega⟩
            · obtain ⟨q1, q2, q3⟩ := P.w j c2 n h5 h4
              exact ⟨by rw [hold n (low_lt L q1) q3 q2]; exact q1, q2, q3⟩
          · intro c2 h3 h4
            rcases List.mem_or_eq_of_mem_set h3 with h3 | rfl
            · exact P.e c2 h3 h4
            · rw [← hcd] at h4 ⊢
              by_cases hne : wl = []
              · exact hne
              · exact absurd (by simp [hne]) (h4 h1'.next)
          · intro n o ho hn q1 q2
            exact hold n (low_lt L ho) q2 q1
          · rw [List.map_set, hab, ← hcd]; rfl
          · intro c2 h3 n h4
            rcases List.mem_or_eq_of_mem_set h3 with h3 | rfl
            · exact .inl (hown c2 h3 n h4)
            · obtain ⟨rfl, hne⟩ := hwn n h4
              refine .inr ⟨Nat.le_refl _, ?_⟩
              have := (hnx.2 hne).1
              show h.next < (cpH h1' wl).next
              omega
          · refine ⟨hir.2, fun j => ?_, fun c2 h3 => ?_⟩
            rotate_left
            · rcases List.mem_or_eq_of_mem_set h3 with h3 | rfl
              · exact hok.sm c2 h3
              · show wl.length ≤ 24
                omega
            have hm := hok.mem j
            rw [hf] at hm
            by_cases hj : j = i
            · subst hj
              simp only [List.getElem?_set_self hiA]
              constructor
              · intro h; exact absurd h hir.1
              · rintro ⟨x, hx, hx2⟩; cases hx; cases hx2
            · rw [List.getElem?_set_ne (Ne.symm hj), ← hm, List.mem_cons]
              constructor
              · exact fun h => .inr h
              · rintro (h | h)
                · exact absurd h hj
                · exact h
          · exact ⟨.inl hos.1, .inl hos.2⟩
          · intro n hn hO
            exact hold n hn (fun (e : n = nc) => hO (by rw [e]; exact hos.2)) (fun (e : n = nt) => hO (by rw [e]; exact hos.1))
      · have e2 : (wErr (usedA S.cells) wl != 0) = true := by simp [h2]
        (simp only [e30, h0, e1, h1, hwd, e2, h2, ws, wsl, opX, int, Zv.bool, intBin, reduceIte, ↓reduceIte, Nat.reduceEqDiff, Nat.reduceAdd, Nat.reduceSub, Nat.reduceLeDiff, Int.reduceLT, Int.reduceLE, Int.reduceEq, Int.reduceBEq, Int.reduceNe, Int.reduceBNe, reduceCtorEq, Nat.reduceBEq] <;> repeat' (first | refine wpG_s ?_ ?_ | refine wpC_s ?_ ?_) <;> intro hgo <;> (try simp only [decide_eq_true_eq, decide_eq_false_iff_not, Bool.not_eq_true', Bool.not_eq_false'] at hgo) <;> simp only [hgo, e30, h0, e1, h1, hwd, e2, h2, ws, wsl, opX, int, Zv.bool, intBin, reduceIte, ↓reduceIte, Nat.reduceEqDiff, Nat.reduceAdd, Nat.reduceSub, Nat.reduceLeDiff, Int.reduceLT, Int.reduceLE, Int.reduceEq, Int.reduceBEq, Int.reduceNe, Int.reduceBNe, reduceCtorEq, Nat.reduceBEq])
        exact ⟨_, rfl, rfl, A0⟩

theorem app_give {h : Hp} {nt nc : Nat} {O : Nat → Prop} {v : V} {fr : List Nat} (F : FV h.get nt nc O v fr) (i : Nat) (hl : fr.length < 2 ^ 22) (hnt : nt < h.next) (hnc : nc < h.next) :
    ∃ v' h', app 1 8 h (.tl [.d (eI i)] (some false)) v = some (v', h') ∧ FV h'.get nt nc (fun n => O n ∨ (h.next ≤ n ∧ n < h'.next)) v' (i :: fr) ∧ h.next ≤ h'.next ∧ (Low h → Low h') ∧ ∀ m, m < h.next → h'.get m = h.get m := by
  have he : elems h v = some (fr.map nI) := by
    rcases F with ⟨nl, rfl⟩ | ⟨nf, tot, off, els, rfl, hg, ht, ho, he, _⟩
    · rfl
    · simp only [elems, row_lk, hg, rowOf_arr, ht, if_true, Option.bind_some]
      rw [if_pos ho, he]
  have hx : allV 1 (fr.map nI) = true := by simp [allV, V.cells, D.cells]
  have hn : (fr.map nI).map norm = fr.map nI := by simp [norm, toD]
  by_cases h0 : fr = []
  · subst h0
    refine ⟨.tl [.d (eI i)] (some false), h, ?_, .inl ⟨some false, rfl⟩, Nat.le_refl _, fun h => h, fun _ _ => rfl⟩
    unfold app
    rw [he]
    rfl
  · refine ⟨.own h.next 1 (1 + fr.length) 0 (1 + fr.length), ⟨(h.next, .arr 1 (nI i :: fr.map nI)) :: h.objs, h.next + 1⟩, ?_, .inr ⟨h.next, 1 + fr.length, 0, nI i :: fr.map nI, by rw [List.length_cons, Nat.add_comm], by rw [get_mk, if_pos rfl], by simp; omega, by simp; omega, ?_, .inr ⟨Nat.le_refl _, Nat.lt_succ_self _⟩, by omega, by omega⟩, Nat.le_succ _, fun L => low_top L _, fun m hm => by rw [get_mk, if_neg (by omega)]; rfl⟩
    · unfold app
      simp only [he, Option.bind_some, hx, if_true, hn]
      have hi : (fr.map nI).isEmpty = false := by cases fr; exact absurd rfl h0; rfl
      simp only [hi, Bool.false_eq_true, if_false, List.length_cons, List.length_nil, List.length_map, Nat.zero_add]
      rw [if_pos ⟨by unfold roomB; omega, by simp [allV, V.cells, D.cells]⟩]
      rfl
    · rw [List.drop_zero, List.take_of_length_le (by simp)]; rfl

theorem rgive_ok {h : Hp} {nt nc : Nat} {O : Nat → Prop} {S : St} (R : RS h nt nc O S) (L : Low h) (hN : S.cells.length ≤ 2 ^ 20) (n : Int) :
    ∃ r, callW tab 31 [.ptr nt 1 0 0, .d (eI n)] h = some r ∧ r.1 = .d (eI (giveS S n).1) ∧ Rft h nt nc O (giveS S n).2 r.2 := by
  apply call_wpE (fn := f31) rfl rfl
  obtain ⟨⟨cs, fv, P, F, hab, hown⟩, hok, hos⟩ := R
  have R0 : RS h nt nc O S := ⟨⟨cs, fv, P, F, hab, hown⟩, hok, hos⟩
  have A0 := R0.same L h.next (Nat.le_refl _)
  have hst := rstate_ok P n
  rw [hab] at hst
  unfold giveS
  by_cases h0 : sErrA S.cells n = 0
  · rw [h0] at hst
    obtain ⟨i, a, rfl, ha, hu⟩ := sErrA_ok h0
    have hiA := lt_of_get ha
    have hlt : i < cs.length := by rw [← hab, List.length_map] at hiA; exact hiA
    obtain ⟨c, hc⟩ := get_of_lt hlt
    have hs := P.s
    have hnt := low_lt L P.s
    have hnc := low_lt L P.c
    have n1 : (nt = nc) = False := by simp [P.ne]
    have n2 : (nc = nt) = False := by simp [Ne.symm P.ne]
    have hfl := hok.len
    have hif : i ∉ S.free := by
      intro hm
      obtain ⟨x, hx, hx2⟩ := (hok.mem i).1 hm
      rw [ha] at hx; cases hx; rw [hu] at hx2; cases hx2
    have hst1 := st_all (sz := 3) (i := i) (e := rcV c) (x := .agg [.d (.bool false), .d (eI 0), .tl [] (some true)]) P.cells (by rw [List.getElem?_map, hc]; rfl) rfl rfl
    have hset : (cs.map rcV).set i (.agg [.d (.bool false), .d (eI 0), .tl [] (some true)]) = (cs.set i ⟨false, 0, [], .tl (some true)⟩).map rcV := by rw [List.map_set]; rfl
    rw [hset] at hst1
    generalize hh1 : h.set nc (.arr 3 ((cs.set i ⟨false, 0, [], .tl (some true)⟩).map rcV)) = h1 at hst1
    have hg1 : ∀ m, h1.get m = if m = nc then some (.arr 3 ((cs.set i ⟨false, 0, [], .tl (some true)⟩).map rcV)) else h.get m := by
      intro m; rw [← hh1, get_sets, P.c]; rfl
    have hx1 : h1.next = h.next := by rw [← hh1]; rfl
    have hl1 : Low h1 := by rw [← hh1]; exact low_set L _ _
    have hrow1 : h1.row nt 1 = some (2, [.agg [.own nc 3 cs.length 0 cs.length, fv]]) := by rw [row_lk, hg1, if_neg (by rw [n1]; simp)]; exact P.row
    have F1 : FV h1.get nt nc O fv S.free := F.mono (fun n o ho hO q1 q2 => by rw [hg1, if_neg q2]) (fun _ h => h)
    obtain ⟨v', h2, happ, F2, hx2, hl2, hg2⟩ := app_give F1 i (by omega) (by rw [hx1]; exact hnt) (by rw [hx1]; exact hnc)
    have hl2 := hl2 hl1
    have hrow2 : h2.row nt 1 = some (2, [.agg [.own nc 3 cs.length 0 cs.length, fv]]) := by rw [row_lk, hg2 nt (by rw [hx1]; exact hnt), ← row_lk]; exact hrow1
    obtain ⟨d1, d2, d3⟩ := fvcells F2
    obtain ⟨c1, c2, c3⟩ := fvcells F
    have hst2 : st 1 h2 (.ptr nt 1 0 1) v' = some (h2.set nt (.arr 2 [.agg [.own nc 3 cs.length 0 cs.length, v']])) := by
      rw [st_in (sz := 1) (off := 1) (es := 2) hrow2 (by rfl) d2 (by rw [d1]; rfl) (by simp [V.cells]) (by omega) (by omega)]
      rw [d1]; rfl
    have mk1 : mkAgg [.d (.bool false), .d (.int .i64 0), .tl [] (some true)] = .agg [.d (.bool false), .d (eI 0), .tl [] (some true)] := rfl
    (simp only [e31, hst, h0, P.row, ia_own (es := 3) (n := nc) (tot := cs.length) .i64 hlt, hst1, hrow1, c1, happ, hst2, Int.toNat_natCast, ws, wsl, opX, int, Zv.bool, intBin, reduceIte, ↓reduceIte, Nat.reduceEqDiff, Nat.reduceAdd, Nat.reduceSub, Nat.reduceLeDiff, Int.reduceLT, Int.reduceLE, Int.reduceEq, Int.reduceBEq, Int.reduceNe, Int.reduceBNe, reduceCtorEq, Nat.reduceBEq] <;> repeat' (first | refine wpG_s ?_ ?_ | refine wpC_s ?_ ?_) <;> intro hgo <;> (try simp only [decide_eq_true_eq, decide_eq_false_iff_not, Bool.not_eq_true', Bool.not_eq_false'] at hgo) <;> simp only [hgo, e31, hst, h0, P.row, ia_own (es := 3) (n := nc) (tot := cs.length) .i64 hlt, hst1, hrow1, c1, happ, hst2, Int.toNat_natCast, ws, wsl, opX, int, Zv.bool, intBin, reduceIte, ↓reduceIte, Nat.reduceEqDiff, Nat.reduceAdd, Nat.reduceSub, Nat.reduceLeDiff, Int.reduceLT, Int.reduceLE, Int.reduceEq, Int.reduceBEq, Int.reduceNe, Int.reduceBNe, reduceCtorEq, Nat.reduceBEq])
    refine ⟨_, rfl, rfl, ?_⟩
    have hg3 : ∀ m, (h2.set nt (.arr 2 [.agg [.own nc 3 cs.length 0 cs.length, v']])).get m = if m = nt then some (.arr 2 [.agg [.own nc 3 cs.length 0 cs.length, v']]) else h2.get m := by
      intro m
      have : h2.get nt = some (.arr 2 [.agg [.own nc 3 cs.length 0 cs.length, fv]]) := by rw [hg2 nt (by rw [hx1]; exact hnt), hg1, if_neg (by rw [n1]; simp)]; exact hs
      rw [get_sets, this]; rfl
    have hold : ∀ m, m < h.next → m ≠ nc → m ≠ nt → (h2.set nt (.arr 2 [.agg [.own nc 3 cs.length 0 cs.length, v']])).get m = h.get m := by
      intro m hm q1 q2
      rw [hg3, if_neg q2, hg2 m (by rw [hx1]; exact hm), hg1, if_neg q1]
    rw [hx1] at hx2 F2
    have hset2 : ∀ (j : Nat) c2, (cs.set i ⟨false, 0, [], .tl (some true)⟩)[j]? = some c2 → (j = i ∧ c2 = ⟨false, 0, [], .tl (some true)⟩) ∨ (j ≠ i ∧ cs[j]? = some c2) := by
      intro j c2 h
      by_cases hj : j = i
      · subst hj; rw [List.getElem?_set_self hlt] at h; cases h; exact .inl ⟨rfl, rfl⟩
      · rw [List.getElem?_set_ne (Ne.symm hj)] at h; exact .inr ⟨hj, h⟩
    refine ⟨⟨⟨cs.set i ⟨false, 0, [], .tl (some true)⟩, v', ⟨?_, ?_, ?_, ?_, P.ne⟩, F2.mono ?_ (fun _ h => h), ?_, ?_⟩, ?_, ?_⟩, ?_, low_set hl2 _ _, hx2⟩
    · rw [hg3, if_pos rfl, List.length_set]
    · rw [hg3, if_neg (by rw [n2]; simp), hg2 nc (by rw [hx1]; exact hnc), hg1, if_pos rfl]
    · intro j c2 n h3 h4
      rcases hset2 j c2 h3 with ⟨rfl, rfl⟩ | ⟨hj, h5⟩
      · cases h4
      · obtain ⟨q1, q2, q3⟩ := P.w j c2 n h5 h4
        exact ⟨by rw [hold n (low_lt L q1) q3 q2]; exact q1, q2, q3⟩
    · intro c2 h3 h4
      rcases List.mem_or_eq_of_mem_set h3 with h3 | rfl
      · exact P.e c2 h3 h4
      · rfl
    · intro n o ho hn q1 q2
      rw [hg3, if_neg q1]
    · rw [List.map_set, hab]; rfl
    · intro c2 h3 n h4
      rcases List.mem_or_eq_of_mem_set h3 with h3 | rfl
      · exact .inl (hown c2 h3 n h4)
      · cases h4
    · refine ⟨List.nodup_cons.2 ⟨hif, hok.nd⟩, fun j => ?_, fun c2 h2 => ?_⟩
      rotate_left
      · rcases List.mem_or_eq_of_mem_set h2 with h2 | rfl
        · exact hok.sm c2 h2
        · simp
      have hm := hok.mem j
      by_cases hj : j = i
      · subst hj
        simp only [List.getElem?_set_self hiA]
        exact ⟨fun _ => ⟨_, rfl, rfl⟩, fun _ => List.mem_cons_self⟩
      · rw [List.getElem?_set_ne (Ne.symm hj), ← hm, List.mem_cons]
        constructor
        · rintro (h | h)
          · exact absurd h hj
          · exact h
        · exact fun h => .inr h
    · exact ⟨.inl hos.1, .inl hos.2⟩
    · intro n hn hO
      exact hold n hn (fun (e : n = nc) => hO (by rw [e]; exact hos.2)) (fun (e : n = nt) => hO (by rw [e]; exact hos.1))
  · have e2 : (sErrA S.cells n != 0) = true := by simp [h0]
    (simp only [e31, hst, h0, e2, ws, wsl, opX, int, Zv.bool, intBin, reduceIte, ↓reduceIte, Nat.reduceEqDiff, Nat.reduceAdd, Nat.reduceSub, Nat.reduceLeDiff, Int.reduceLT, Int.reduceLE, Int.reduceEq, Int.reduceBEq, Int.reduceNe, Int.reduceBNe, reduceCtorEq, Nat.reduceBEq] <;> repeat' (first | refine wpG_s ?_ ?_ | refine wpC_s ?_ ?_) <;> intro hgo <;> (try simp only [decide_eq_true_eq, decide_eq_false_iff_not, Bool.not_eq_true', Bool.not_eq_false'] at hgo) <;> simp only [hgo, e31, hst, h0, e2, ws, wsl, opX, int, Zv.bool, intBin, reduceIte, ↓reduceIte, Nat.reduceEqDiff, Nat.reduceAdd, Nat.reduceSub, Nat.reduceLeDiff, Int.reduceLT, Int.reduceLE, Int.reduceEq, Int.reduceBEq, Int.reduceNe, Int.reduceBNe, reduceCtorEq, Nat.reduceBEq])
    exact ⟨_, rfl, rfl, A0⟩

theorem rput_ok {h : Hp} {nt nc : Nat} {O : Nat → Prop} {S : St} (R : RS h nt nc O S) (L : Low h) (n k : Int) (w : Wd) :
    ∃ r, callW tab 33 [.ptr nt 1 0 0, .d (eI n), .d (eI k), .d (eW w)] h = some r ∧ r.1 = .d (eI (putS S n k w).1) ∧ Rft h nt nc O (putS S n k w).2 r.2 := by
  apply call_wpE (fn := f33) rfl rfl
  obtain ⟨⟨cs, fv, P, F, hab, hown⟩, hok, hos⟩ := R
  have R0 : RS h nt nc O S := ⟨⟨cs, fv, P, F, hab, hown⟩, hok, hos⟩
  have A0 := R0.same L (h.next + 1) (Nat.le_succ _)
  have P1 : RP (⟨h.objs, h.next + 1⟩ : Hp).get nt nc cs fv := P
  have hst := rstate_ok P1 n
  rw [hab] at hst
  have hwd := rwords_ok P1 [w] (by simp)
  rw [hab] at hwd
  have ntl : norm (.tl [.d (eW w)] (some false)) = .d (eWs [w]) := rfl
  unfold putS
  by_cases h0 : sErrA S.cells n = 0
  · rw [h0] at hst
    obtain ⟨i, a, rfl, ha, hu⟩ := sErrA_ok h0
    have hiA := lt_of_get ha
    have hlt : i < cs.length := by rw [← hab, List.length_map] at hiA; exact hiA
    obtain ⟨c, hc⟩ := get_of_lt hlt
    have hac : a = rab c := by rw [← hab, List.getElem?_map, hc] at ha; cases ha; rfl
    subst hac
    have hs := P.s
    have hnt := low_lt L P.s
    have hnc := low_lt L P.c
    rw [if_neg (by rw [h0]; simp)]
    simp only [Int.toNat_natCast, ha, rab]
    have hlen := (P.words hc).2.len
    have hc3 := ia_own (es := 3) (n := nc) (tot := cs.length) .i64 hlt
    have prow := P1.row
    have pcel := P1.cells
    by_cases hk0 : k < 0
    · rw [if_pos (.inl hk0)]
      (simp only [e33, hst, prow, pcel, hc3, hk0, List.getElem?_map, hc, rcV_cells, ws, wsl, opX, int, Zv.bool, intBin, reduceIte, ↓reduceIte, Nat.reduceEqDiff, Nat.reduceAdd, Nat.reduceSub, Nat.reduceLeDiff, Int.reduceLT, Int.reduceLE, Int.reduceEq, Int.reduceBEq, Int.reduceNe, Int.reduceBNe, reduceCtorEq, Nat.reduceBEq] <;> repeat' (first | refine wpG_s ?_ ?_ | refine wpC_s ?_ ?_) <;> intro hgo <;> (try simp only [decide_eq_true_eq, decide_eq_false_iff_not, Bool.not_eq_true', Bool.not_eq_false'] at hgo) <;> simp only [hgo, e33, hst, prow, pcel, hc3, hk0, List.getElem?_map, hc, rcV_cells, ws, wsl, opX, int, Zv.bool, intBin, reduceIte, ↓reduceIte, Nat.reduceEqDiff, Nat.reduceAdd, Nat.reduceSub, Nat.reduceLeDiff, Int.reduceLT, Int.reduceLE, Int.reduceEq, Int.reduceBEq, Int.reduceNe, Int.reduceBNe, reduceCtorEq, Nat.reduceBEq])
      exact ⟨_, rfl, rfl, A0⟩
    · by_cases hk1 : (c.words.length : Int) ≤ k
      · rw [if_pos (.inr hk1)]
        (simp only [e33, hst, prow, pcel, hc3, hk0, hk1, List.getElem?_map, hc, rcV_cells, hlen, ws, wsl, opX, int, Zv.bool, intBin, reduceIte, ↓reduceIte, Nat.reduceEqDiff, Nat.reduceAdd, Nat.reduceSub, Nat.reduceLeDiff, Int.reduceLT, Int.reduceLE, Int.reduceEq, Int.reduceBEq, Int.reduceNe, Int.reduceBNe, reduceCtorEq, Nat.reduceBEq] <;> repeat' (first | refine wpG_s ?_ ?_ | refine wpC_s ?_ ?_) <;> intro hgo <;> (try simp only [decide_eq_true_eq, decide_eq_false_iff_not, Bool.not_eq_true', Bool.not_eq_false'] at hgo) <;> simp only [hgo, e33, hst, prow, pcel, hc3, hk0, hk1, List.getElem?_map, hc, rcV_cells, hlen, ws, wsl, opX, int, Zv.bool, intBin, reduceIte, ↓reduceIte, Nat.reduceEqDiff, Nat.reduceAdd, Nat.reduceSub, Nat.reduceLeDiff, Int.reduceLT, Int.reduceLE, Int.reduceEq, Int.reduceBEq, Int.reduceNe, Int.reduceBNe, reduceCtorEq, Nat.reduceBEq])
        exact ⟨_, rfl, rfl, A0⟩
      · rw [if_neg (by omega)]
        obtain ⟨j, rfl⟩ : ∃ j : Nat, k = j := ⟨k.toNat, by omega⟩
        have hjl : j < c.words.length := by omega
        have hk1' : ¬ c.words.length ≤ j := by omega
        by_cases h2 : wErr (usedA S.cells) [w] = 0
        · rw [if_neg (by rw [h2]; simp)]
          rw [h2] at hwd
          have hne : c.words ≠ [] := by intro e; rw [e] at hjl; simp at hjl
          have hl24 : c.words.length ≤ 24 := by have := hok.sm _ (List.mem_of_getElem? ha); exact this
          have hel := (P1.words hc).2.els
          have happ := app_cp hel (by omega)
          have hcv : cpV (h.next + 1) c.words = .own (h.next + 1) 2 c.words.length 0 c.words.length := by unfold cpV; rw [if_neg hne]
          have hch : cpH ⟨h.objs, h.next + 1⟩ c.words = ⟨(h.next + 1, .arr 2 ((c.words.map eW).map .d)) :: h.objs, h.next + 2⟩ := by unfold cpH; rw [if_neg hne]
          simp only [hcv, hch] at happ
          obtain ⟨w0, hw0⟩ := get_of_lt hjl
          have hrq := row_hd (h.next + 1) 2 ((c.words.map eW).map V.d) h.objs (h.next + 2) c.words.length
          rw [if_pos (by simp)] at hrq
          have hst2 := st_all (sz := 2) (x := .d (eW w)) (i := j) (e := .d (eW w0)) hrq (by simp [hw0]) rfl rfl
          have hset : ((c.words.map eW).map V.d).set j (.d (eW w)) = ((c.words.set j w).map eW).map .d := by rw [List.map_set, List.map_set]
          rw [hset, set_hd] at hst2
          generalize hcd : (⟨c.used, c.tag, c.words.set j w, .row (h.next + 1)⟩ : RC) = c'
          have hg3 : ∀ m, Hp.get ⟨(h.next + 1, .arr 2 (((c.words.set j w).map eW).map .d)) :: h.objs, h.next + 2⟩ m = if m = h.next + 1 then some (.arr 2 (((c.words.set j w).map eW).map .d)) else h.get m := fun m => rfl
          have hrt3 : Hp.row ⟨(h.next + 1, .arr 2 (((c.words.set j w).map eW).map .d)) :: h.objs, h.next + 2⟩ nt 1 = some (2, [.agg [.own nc 3 cs.length 0 cs.length, fv]]) := by rw [row_lk, hg3, if_neg (by omega), hs]; rfl
          have hrc3 : Hp.row ⟨(h.next + 1, .arr 2 (((c.words.set j w).map eW).map .d)) :: h.objs, h.next + 2⟩ nc cs.length = some (3, cs.map rcV) := by rw [row_lk, hg3, if_neg (by omega), P.c, rowOf_arr, if_pos (by simp)]
          have hst4 := st_in (sz := 1) (off := 2) (es := 3) (i := i) (e := rcV c) (x := .own (h.next + 1) 2 c.words.length 0 c.words.length) hrc3 (by rw [List.getElem?_map, hc]; rfl) rfl rfl (by rw [rcV_cells]; simp) (by omega) (by omega)
          have hset4 : (cs.map rcV).set i (mkAgg ((rcV c).cells.take 2 ++ (V.own (h.next + 1) 2 c.words.length 0 c.words.length).cells ++ (rcV c).cells.drop (2 + 1))) = (cs.set i c').map rcV := by
            rw [List.map_set, rcV_cells, ← hcd]
            congr 1
            show mkAgg [.d (.bool c.used), .d (eI c.tag), .own (h.next + 1) 2 c.words.length 0 c.words.length] = mkAgg [.d (.bool c.used), .d (eI c.tag), .own (h.next + 1) 2 (c.words.set j w).length 0 (c.words.set j w).length]
            rw [List.length_set]
          rw [hset4] at hst4
          obtain ⟨c1, c2, c3⟩ := fvcells F
          (simp only [e33, hst, prow, pcel, hc3, hk0, hk1', List.getElem?_map, hc, rcV_cells, hlen, hwd, ntl, happ, ia_own (es := 2) (n := h.next + 1) (tot := c.words.length) .i64 hjl, hst2, hrt3, hst4, ws, wsl, opX, int, Zv.bool, intBin, reduceIte, ↓reduceIte, Nat.reduceEqDiff, Nat.reduceAdd, Nat.reduceSub, Nat.reduceLeDiff, Int.reduceLT, Int.reduceLE, Int.reduceEq, Int.reduceBEq, Int.reduceNe, Int.reduceBNe, reduceCtorEq, Nat.reduceBEq] <;> repeat' (first | refine wpG_s ?_ ?_ | refine wpC_s ?_ ?_) <;> intro hgo <;> (try simp only [decide_eq_true_eq, decide_eq_false_iff_not, Bool.not_eq_true', Bool.not_eq_false'] at hgo) <;> simp only [hgo, e33, hst, prow, pcel, hc3, hk0, hk1', List.getElem?_map, hc, rcV_cells, hlen, hwd, ntl, happ, ia_own (es := 2) (n := h.next + 1) (tot := c.words.length) .i64 hjl, hst2, hrt3, hst4, ws, wsl, opX, int, Zv.bool, intBin, reduceIte, ↓reduceIte, Nat.reduceEqDiff, Nat.reduceAdd, Nat.reduceSub, Nat.reduceLeDiff, Int.reduceLT, Int.reduceLE, Int.reduceEq, Int.reduceBEq, Int.reduceNe, Int.reduceBNe, reduceCtorEq, Nat.reduceBEq])
          refine ⟨_, rfl, rfl, ?_⟩
          have hg4 : ∀ m, (Hp.set ⟨(h.next + 1, .arr 2 (((c.words.set j w).map eW).map .d)) :: h.objs, h.next + 2⟩ nc (.arr 3 ((cs.set i c').map rcV))).get m = if m = nc then some (.arr 3 ((cs.set i c').map rcV)) else if m = h.next + 1 then some (.arr 2 (((c.words.set j w).map eW).map .d)) else h.get m := by
            intro m
            rw [get_sets, hg3, hg3, if_neg (show ¬ nc = h.next + 1 by omega), P.c]; rfl
          have hold : ∀ m, m < h.next → m ≠ nc → (Hp.set ⟨(h.next + 1, .arr 2 (((c.words.set j w).map eW).map .d)) :: h.objs, h.next + 2⟩ nc (.arr 3 ((cs.set i c').map rcV))).get m = h.get m := by
            intro m hm q1
            rw [hg4, if_neg q1, if_neg (by omega)]
          have hset2 : ∀ (j : Nat) c2, (cs.set i c')[j]? = some c2 → (j = i ∧ c2 = c') ∨ (j ≠ i ∧ cs[j]? = some c2) := by
            intro j c2 h
            by_cases hj : j = i
            · subst hj; rw [List.getElem?_set_self hlt] at h; cases h; exact .inl ⟨rfl, rfl⟩
            · rw [List.getElem?_set_ne (Ne.symm hj)] at h; exact .inr ⟨hj, h⟩
          have hw' : c'.words = c.words.set j w := by rw [← hcd]
          refine ⟨⟨⟨cs.set i c', fv, ⟨?_, ?_, ?_, ?_, P.ne⟩, F.mono ?_ (fun _ h => .inl h), ?_, ?_⟩, ?_, ?_⟩, ?_, ?_, ?_⟩
          · rw [hold nt hnt P.ne, List.length_set]; exact hs
          · rw [hg4, if_pos rfl]
          · intro y c2 n h3 h4
            rcases hset2 y c2 h3 with ⟨rfl, rfl⟩ | ⟨hy, h5⟩
            · rw [← hcd] at h4; cases h4
              rw [hw']
              exact ⟨by rw [hg4, if_neg (by omega), if_pos rfl], by omega, by omega⟩
            · obtain ⟨q1, q2, q3⟩ := P.w y c2 n h5 h4
              exact ⟨by rw [hold n (low_lt L q1) q3]; exact q1, q2, q3⟩
          · intro c2 h3 h4
            rcases List.mem_or_eq_of_mem_set h3 with h3 | rfl
            · exact P.e c2 h3 h4
            · rw [← hcd] at h4; exact absurd rfl (h4 _)
          · intro n o ho hn q1 q2
            exact hold n (low_lt L ho) q2
          · rw [List.map_set, hab, ← hcd]; rfl
          · intro c2 h3 n h4
            rcases List.mem_or_eq_of_mem_set h3 with h3 | rfl
            · exact .inl (hown c2 h3 n h4)
            · rw [← hcd] at h4; cases h4
              exact .inr ⟨Nat.le_succ _, Nat.lt_succ_self _⟩
          · refine ⟨hok.nd, fun y => ?_, fun c2 h2 => ?_⟩
            · rw [hok.mem y]
              by_cases hy : i = y
              · subst hy
                rw [List.getElem?_set_self hiA, ha]
                constructor
                · rintro ⟨x, hx, hx2⟩; cases hx; exact ⟨_, rfl, hx2⟩
                · rintro ⟨x, hx, hx2⟩; cases hx; exact ⟨_, rfl, hx2⟩
              · rw [List.getElem?_set_ne hy]
            · rcases List.mem_or_eq_of_mem_set h2 with h2 | rfl
              · exact hok.sm c2 h2
              · simpa using hl24
          · exact ⟨.inl hos.1, .inl hos.2⟩
          · intro x hx hO
            exact hold x hx (fun (e : x = nc) => hO (by rw [e]; exact hos.2))
          · have := low_set (low_top (h := ⟨h.objs, h.next + 1⟩) (fun m hm => L m (Nat.le_trans (Nat.le_succ _) hm)) (.arr 2 (((c.words.set j w).map eW).map .d))) nc (.arr 3 ((cs.set i c').map rcV))
            exact this
          · show h.next ≤ h.next + 2
            omega
        · rw [if_pos h2]
          have e2 : (wErr (usedA S.cells) [w] != 0) = true := by simp [h2]
          (simp only [e33, hst, prow, pcel, hc3, hk0, hk1', List.getElem?_map, hc, rcV_cells, hlen, hwd, ntl, e2, ws, wsl, opX, int, Zv.bool, intBin, reduceIte, ↓reduceIte, Nat.reduceEqDiff, Nat.reduceAdd, Nat.reduceSub, Nat.reduceLeDiff, Int.reduceLT, Int.reduceLE, Int.reduceEq, Int.reduceBEq, Int.reduceNe, Int.reduceBNe, reduceCtorEq, Nat.reduceBEq] <;> repeat' (first | refine wpG_s ?_ ?_ | refine wpC_s ?_ ?_) <;> intro hgo <;> (try simp only [decide_eq_true_eq, decide_eq_false_iff_not, Bool.not_eq_true', Bool.not_eq_false'] at hgo) <;> simp only [hgo, e33, hst, prow, pcel, hc3, hk0, hk1', List.getElem?_map, hc, rcV_cells, hlen, hwd, ntl, e2, ws, wsl, opX, int, Zv.bool, intBin, reduceIte, ↓reduceIte, Nat.reduceEqDiff, Nat.reduceAdd, Nat.reduceSub, Nat.reduceLeDiff, Int.reduceLT, Int.reduceLE, Int.reduceEq, Int.reduceBEq, Int.reduceNe, Int.reduceBNe, reduceCtorEq, Nat.reduceBEq])
          exact ⟨_, rfl, rfl, A0⟩
  · rw [if_pos h0]
    have e2 : (sErrA S.cells n != 0) = true := by simp [h0]
    (simp only [e33, hst, e2, ws, wsl, opX, int, Zv.bool, intBin, reduceIte, ↓reduceIte, Nat.reduceEqDiff, Nat.reduceAdd, Nat.reduceSub, Nat.reduceLeDiff, Int.reduceLT, Int.reduceLE, Int.reduceEq, Int.reduceBEq, Int.reduceNe, Int.reduceBNe, reduceCtorEq, Nat.reduceBEq] <;> repeat' (first | refine wpG_s ?_ ?_ | refine wpC_s ?_ ?_) <;> intro hgo <;> (try simp only [decide_eq_true_eq, decide_eq_false_iff_not, Bool.not_eq_true', Bool.not_eq_false'] at hgo) <;> simp only [hgo, e33, hst, e2, ws, wsl, opX, int, Zv.bool, intBin, reduceIte, ↓reduceIte, Nat.reduceEqDiff, Nat.reduceAdd, Nat.reduceSub, Nat.reduceLeDiff, Int.reduceLT, Int.reduceLE, Int.reduceEq, Int.reduceBEq, Int.reduceNe, Int.reduceBNe, reduceCtorEq, Nat.reduceBEq])
    exact ⟨_, rfl, rfl, A0⟩
-- ws, wsl, opX, int, Zv.bool, intBin, reduceIte, ↓reduceIte, Nat.reduceEqDiff, Nat.reduceAdd, Nat.reduceSub, Nat.reduceLeDiff, Int.reduceLT, Int.reduceLE, Int.reduceEq, Int.reduceBEq, Int.reduceNe, Int.reduceBNe, reduceCtorEq, Nat.reduceBEq
end Zc55
