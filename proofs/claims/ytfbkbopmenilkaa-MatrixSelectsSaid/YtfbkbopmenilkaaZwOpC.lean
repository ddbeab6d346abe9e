/-
  The operations of ZvVal that cut slices and strings, and that build structs, are the machine's.
-/
import Derived.Test.YtfbkbopmenilkaaZwOpB
set_option linter.unusedSimpArgs false
namespace Zv
open Go

section
variable {P : Program} {g : G} {w : World}

/-- An operand that may be missing. -/
def RepO (g : G) : Option V → Option Value → Prop
  | none, none => True
  | some x, some a => Rep g x a
  | _, _ => False

theorem bound_run {x : V} {a : Value} {n y : Nat} (code : BoundsCode) (h : ixOf x = some n) (ha : Rep g x a) (hn : n ≤ y) : (Instr.sliceBound a y code).run P w = .ok n w := by
  obtain ⟨k, rfl⟩ := ixOf_ok h ha
  have h2 : (0 : Int) ≤ (n : Int) ∧ (n : Int) ≤ (y : Int) := by omega
  simp [Instr.sliceBound, asIntOf, h2, hn]

theorem bounds_run (b : Bool) {len cap l h : Nat} {lo hi : Option V} {alo ahi : Option Value} (hh : bnd len hi = some h) (hl : bnd 0 lo = some l) (h1 : l ≤ h) (h2 : h ≤ cap)
    (rlo : RepO g lo alo) (rhi : RepO g hi ahi) : (Instr.sliceBounds b len cap alo ahi none).run P w = .ok (l, h, cap) w := by
  cases hi with
  | none =>
    cases ahi with
    | some _ => exact rhi.elim
    | none =>
      cases hh
      cases lo with
      | none => cases alo with
        | some _ => exact rlo.elim
        | none => cases hl; rfl
      | some x => cases alo with
        | none => exact rlo.elim
        | some a =>
          simp only [Instr.sliceBounds, Sem.run_bind, Sem.run_pure, Result.andThen_ok]
          rw [bound_run _ hl rlo h1]
          rfl
  | some y =>
    cases ahi with
    | none => exact rhi.elim
    | some c =>
      have e := bound_run (P := P) (w := w) (if b = true then .sliceAcap else .sliceAlen) hh rhi h2
      cases lo with
      | none => cases alo with
        | some _ => exact rlo.elim
        | none =>
          cases hl
          simp only [Instr.sliceBounds, Sem.run_bind, Sem.run_pure, Result.andThen_ok, e]
      | some x => cases alo with
        | none => exact rlo.elim
        | some a =>
          simp only [Instr.sliceBounds, Sem.run_bind, Sem.run_pure, Result.andThen_ok, e]
          rw [bound_run _ hl rlo h1]
          rfl

theorem bounds3_run {len cap l h m : Nat} {lo hi mx : Option V} {alo ahi amx : Option Value} (hh : bnd len hi = some h) (hl : bnd 0 lo = some l) (hm : bnd len mx = some m) (hs : hi.isSome = true) (hs2 : mx.isSome = true)
    (h1 : l ≤ h) (h2 : h ≤ m) (h3 : m ≤ cap) (rlo : RepO g lo alo) (rhi : RepO g hi ahi) (rmx : RepO g mx amx) : (Instr.sliceBounds true len cap alo ahi amx).run P w = .ok (l, h, m) w := by
  cases mx with
  | none => cases hs2
  | some z => cases amx with
    | none => exact rmx.elim
    | some c =>
      cases hi with
      | none => cases hs
      | some y => cases ahi with
        | none => exact rhi.elim
        | some d =>
          have e1 := bound_run (P := P) (w := w) (y := cap) .slice3Acap hm rmx h3
          have e2 := bound_run (P := P) (w := w) (y := m) .slice3B hh rhi h2
          cases lo with
          | none => cases alo with
            | some _ => exact rlo.elim
            | none =>
              cases hl
              simp [Instr.sliceBounds, e1, e2]
          | some x => cases alo with
            | none => exact rlo.elim
            | some a =>
              have e3 := bound_run (P := P) (w := w) (y := h) .slice3C hl rlo h1
              simp [Instr.sliceBounds, e1, e2, e3]

theorem slcS_ok {t : TypeId} {x z : V} {lo hi : Option V} {a : Value} {alo ahi : Option Value} (ht : P.underlying t = some .string) (h : slcS x lo hi = some z) (ha : Rep g x a) (rlo : RepO g lo alo) (rhi : RepO g hi ahi) :
    Gives P g w (Instr.sliceAt t a alo ahi none) z := by
  unfold slcS at h
  split at h
  · rename_i s
    obtain rfl := ha.strI
    simp only [Option.bind_eq_some_iff] at h
    obtain ⟨m, hm, l, hl, h⟩ := h
    split at h
    · rename_i hle
      cases h
      have e := bounds_run (P := P) (w := w) (g := g) false hm hl hle.1 hle.2 rlo rhi
      refine ⟨.string (s.extract l m), ?_, .d _ _ (.str _)⟩
      simp [Instr.sliceAt, Instr.slice, run_underlying ht, e]
    · cases h
  · cases h

theorem slice_run {t e : TypeId} (ht : P.underlying t = some (.slice e)) (he : (P.info? e).isSome = true) (q : Option Addr) {len cap l h m : Nat} {alo ahi amx : Option Value}
    (hb : (Instr.sliceBounds true len cap alo ahi amx).run P w = .ok (l, h, m) w) :
    (Instr.sliceAt t (.slice q len cap) alo ahi amx).run P w = .ok (.slice (if m = l then q else q.map (·.add (l * P.cellsOf e))) (h - l) (m - l)) w := by
  simp [Instr.sliceAt, Instr.slice, run_underlying ht, hb, run_sizeOf' he]

theorem allD_iff {es : Nat} {l : List D} (h : allD es l = true) : ∀ x, x ∈ l → x.cells.length = es := by
  unfold allD at h
  intro x hx
  have := List.all_eq_true.1 h x hx
  simpa using this
theorem allV_iff {es : Nat} {l : List V} (h : allV es l = true) : ∀ x, x ∈ l → x.cells.length = es := by
  unfold allV at h
  intro x hx
  have := List.all_eq_true.1 h x hx
  simpa using this

theorem sub_mem {α : Type} {l : List α} {a b : Nat} {x : α} (h : x ∈ (l.take a).drop b) : x ∈ l := List.mem_of_mem_take (List.mem_of_mem_drop h)

theorem flat_sub {α β : Type} {f : α → List β} {es : Nat} {l : List α} (a b : Nat) (h : ∀ x, x ∈ l → (f x).length = es) : ((l.take a).drop b).flatMap f = ((l.flatMap f).take (a * es)).drop (b * es) := by
  rw [flat_take a h, flat_drop b (fun x hx => h x (List.mem_of_mem_take hx))]

theorem flat_d (l : List D) : (l.map V.d).flatMap V.cells = (l.flatMap D.cells).map V.d := by
  induction l with
  | nil => rfl
  | cons x l ih => simp only [List.map_cons, List.flatMap_cons, ih, List.map_append]; rfl

theorem len_sub {α : Type} {l : List α} {a b : Nat} (h : a ≤ l.length) : ((l.take a).drop b).length = a - b := by
  rw [List.length_drop, List.length_take, Nat.min_eq_left h]

theorem slc_ok {t e : TypeId} {es : Nat} {x z : V} {lo hi : Option V} {a : Value} {alo ahi : Option Value} (ht : P.underlying t = some (.slice e)) (he : (P.info? e).isSome = true) (hs : P.cellsOf e = es)
    (h : slc es x lo hi = some z) (ha : Rep g x a) (rlo : RepO g lo alo) (rhi : RepO g hi ahi) : Gives P g w (Instr.sliceAt t a alo ahi none) z := by
  unfold slc at h
  split at h
  · rename_i xs
    simp only [Option.bind_eq_some_iff] at h
    obtain ⟨m, hm, l, hl, h⟩ := h
    have hd := ha.dI
    clear ha
    cases hd with | lst _ es0 cap q vs hes hc hr hz =>
    split at h
    · rename_i hle
      obtain ⟨h1, h2, h3⟩ := hle
      cases h
      refine ⟨_, slice_run ht he q (bounds_run (P := P) (w := w) (g := g) true hm hl h1 (Nat.le_trans h2 hc) rlo rhi), ?_⟩
      rw [hs, show m - l = ((xs.take m).drop l).length from (len_sub h2).symm]
      refine .d _ _ (.lst _ es (cap - l) _ ((vs.take (m * es)).drop (l * es)) (fun x hx => allD_iff h3 x (sub_mem hx)) (by rw [len_sub h2]; omega) ?_ ?_)
      · rw [flat_sub m l (allD_iff h3)]
        exact (hr.take _).drop _
      · by_cases hemp : (xs.take m).drop l = []
        · exact .inl hemp
        · right
          have hpos : l < m := by
            rcases Nat.lt_or_ge l m with h' | h'
            · exact h'
            · exact absurd (List.drop_of_length_le (by rw [List.length_take]; omega)) hemp
          rcases hz with hz | ⟨b', p, rfl, hat⟩
          · subst hz; simp at hemp
          · refine ⟨b', p + l * es, ?_, ((hat.take _).drop _)⟩
            rw [if_neg (by omega)]
            simp [add_none]
    · cases h
  · rename_i xs nl
    simp only [Option.bind_eq_some_iff] at h
    obtain ⟨m, hm, l, hl, h⟩ := h
    cases ha with | tl _ _ es0 q vs hes hr hz hn hf =>
    split at h
    · rename_i hle
      obtain ⟨h1, h2, h3⟩ := hle
      subst h2
      cases h
      refine ⟨_, slice_run ht he q (bounds_run (P := P) (w := w) (g := g) true hm hl h1 (Nat.le_refl _) rlo rhi), ?_⟩
      rw [hs, show xs.length - l = (xs.drop l).length from (List.length_drop).symm]
      refine .tl _ _ es _ (vs.drop (l * es)) (fun x hx => allV_iff h3 x (List.mem_of_mem_drop hx)) ?_ ?_ ?_ (fun u hu => hf u (List.mem_of_mem_drop hu))
      · rw [← flat_drop l (allV_iff h3)]
        exact hr.drop _
      · by_cases hemp : xs.drop l = []
        · exact .inl hemp
        · right
          have hpos : l < xs.length := by
            rcases Nat.lt_or_ge l xs.length with h' | h'
            · exact h'
            · exact absurd (List.drop_of_length_le h') hemp
          rcases hz with hz | ⟨b', p, rfl, hat⟩
          · subst hz; simp at hemp
          · refine ⟨b', p + l * es, ?_, hat.drop _⟩
            rw [if_neg (by omega)]
            simp [add_none]
      · intro b hb
        rw [hn b hb]
        split
        · rfl
        · simp
    · cases h
  · rename_i n e' tot off len
    simp only [Option.bind_eq_some_iff] at h
    obtain ⟨m, hm, l, hl, h⟩ := h
    split at h
    · rename_i hle
      obtain ⟨h1, h2, h3⟩ := hle
      cases h
      cases ha with | own _ _ _ _ _ cap q hes hN hB hz hlc hto hc hsz =>
      refine ⟨_, slice_run ht he (some q) (bounds_run (P := P) (w := w) (g := g) true hm hl h1 (Nat.le_trans h2 hlc) rlo rhi), ?_⟩
      rw [hs]
      have hsome : (if cap = l then some q else (some q).map (·.add (l * es))) = some (if cap = l then q else q.add (l * es)) := by split <;> rfl
      rw [hsome]
      refine .own n e' tot (off + l) (m - l) (cap - l) _ hes hN hB ?_ (by omega) (by omega) (by omega) ?_
      · by_cases hcl : cap = l
        · left; omega
        · right
          rcases hz with hz | rfl
          · omega
          · rw [if_neg hcl, add_none, hes, ← h3, Nat.add_mul, Nat.add_assoc]
      · rw [show off + l + (cap - l) = off + cap from by omega]
        exact hsz
    · cases h
  · cases h

theorem slc3_ok {t e : TypeId} {es : Nat} {x z : V} {lo hi mx : Option V} {a : Value} {alo ahi amx : Option Value} (ht : P.underlying t = some (.slice e)) (he : (P.info? e).isSome = true) (hs : P.cellsOf e = es)
    (hi1 : hi.isSome = true) (mx1 : mx.isSome = true)
    (h : slc3 es x lo hi mx = some z) (ha : Rep g x a) (rlo : RepO g lo alo) (rhi : RepO g hi ahi) (rmx : RepO g mx amx) : Gives P g w (Instr.sliceAt t a alo ahi amx) z := by
  unfold slc3 at h
  split at h
  · rename_i xs
    simp only [Option.bind_eq_some_iff] at h
    obtain ⟨m, hm, l, hl, k, hk, h⟩ := h
    have hd := ha.dI
    clear ha
    cases hd with | lst _ es0 cap q vs hes hc hr hz =>
    split at h
    · rename_i hle
      obtain ⟨h1, h2, rfl, h3⟩ := hle
      cases h
      refine ⟨_, slice_run ht he q (bounds3_run (P := P) (w := w) (g := g) hm hl hk hi1 mx1 h1 (Nat.le_refl _) (Nat.le_trans h2 hc) rlo rhi rmx), ?_⟩
      rw [hs]
      have hlen : k - l = (((xs.take k).drop l).map V.d).length := by rw [List.length_map, len_sub h2]
      rw [hlen]
      refine .tl _ _ es _ ((vs.take (k * es)).drop (l * es)) ?_ ?_ ?_ (fun q hq => by cases hq) (fun u hu => hr.leaf u (List.mem_of_mem_take (List.mem_of_mem_drop hu)))
      · intro x hx
        obtain ⟨y, hy, rfl⟩ := List.mem_map.1 hx
        show (y.cells.map V.d).length = es
        rw [List.length_map]
        exact allD_iff h3 y (sub_mem hy)
      · rw [flat_d, flat_sub k l (allD_iff h3)]
        exact Reps.of_map_d ((hr.take _).drop _)
      · by_cases hemp : (xs.take k).drop l = []
        · exact .inl (by rw [hemp]; rfl)
        · right
          have hpos : l < k := by
            rcases Nat.lt_or_ge l k with h' | h'
            · exact h'
            · exact absurd (List.drop_of_length_le (by rw [List.length_take]; omega)) hemp
          rcases hz with hz | ⟨b', p, rfl, hat⟩
          · subst hz; simp at hemp
          · refine ⟨b', p + l * es, ?_, ((hat.take _).drop _)⟩
            rw [if_neg (by omega)]
            simp [add_none]
    · cases h
  · rename_i xs nl
    simp only [Option.bind_eq_some_iff] at h
    obtain ⟨m, hm, l, hl, k, hk, h⟩ := h
    cases ha with | tl _ _ es0 q vs hes hr hz hn hf =>
    split at h
    · rename_i hle
      obtain ⟨h1, h2, rfl, h3⟩ := hle
      cases h
      refine ⟨_, slice_run ht he q (bounds3_run (P := P) (w := w) (g := g) hm hl hk hi1 mx1 h1 (Nat.le_refl _) h2 rlo rhi rmx), ?_⟩
      rw [hs]
      have hlen : k - l = ((xs.take k).drop l).length := (len_sub h2).symm
      rw [hlen]
      refine .tl _ _ es _ ((vs.take (k * es)).drop (l * es)) (fun x hx => allV_iff h3 x (sub_mem hx)) ?_ ?_ ?_ (fun u hu => hf u (List.mem_of_mem_take (List.mem_of_mem_drop hu)))
      · rw [flat_sub k l (allV_iff h3)]
        exact (hr.take _).drop _
      · by_cases hemp : (xs.take k).drop l = []
        · exact .inl hemp
        · right
          have hpos : l < k := by
            rcases Nat.lt_or_ge l k with h' | h'
            · exact h'
            · exact absurd (List.drop_of_length_le (by rw [List.length_take]; omega)) hemp
          rcases hz with hz | ⟨b', p, rfl, hat⟩
          · subst hz; simp at hemp
          · refine ⟨b', p + l * es, ?_, ((hat.take _).drop _)⟩
            rw [if_neg (by omega)]
            simp [add_none]
      · intro b hb
        rw [hn b hb]
        split
        · rfl
        · simp
    · cases h
  · cases h

/-! ### Structs -/

theorem splice_len {α : Type} {cs v : List α} {off : Nat} (h : off + v.length ≤ cs.length) : (cs.take off ++ v ++ cs.drop (off + v.length)).length = cs.length := by
  simp only [List.length_append, List.length_take, List.length_drop]
  omega

theorem fold_set : ∀ (v : List Value) (cs : Array Value) (off i : Nat), off + i + v.length ≤ cs.size →
    ((v.zipIdx i).foldl (fun cs (p : Value × Nat) => cs.setIfInBounds (off + p.2) p.1) cs).toList = cs.toList.take (off + i) ++ v ++ cs.toList.drop (off + i + v.length)
  | [], cs, off, i, h => by simp
  | c :: v, cs, off, i, h => by
    simp only [List.zipIdx_cons, List.foldl_cons]
    rw [fold_set v _ off (i + 1) (by simp at h ⊢; omega)]
    have e := list_seg_step cs.toList (off + i) c v (by simp at h ⊢; omega)
    simpa [Array.toList_setIfInBounds, Nat.add_assoc] using e

/-- The parts that are laid: fields by number, with their places. -/
inductive RepParts (g : G) (place : Nat → Option (Nat × Nat)) : List (Nat × Nat × V) → List (Nat × Value) → Prop
  | nil : RepParts g place [] []
  | cons (off sz i : Nat) (x : V) (a : Value) (l : List (Nat × Nat × V)) (m : List (Nat × Value)) (hp : place i = some (off, sz)) (h : Rep g x a) (r : RepParts g place l m) :
      RepParts g place ((off, sz, x) :: l) ((i, a) :: m)

theorem fill_ok {place : Nat → Option (Nat × Nat)} : ∀ {l : List (Nat × Nat × V)} {m : List (Nat × Value)} {cs : List V} {vs : Array Value} {zs : List V}, RepParts g place l m → Reps g cs vs.toList → (∀ u, u ∈ vs.toList → leaf u) →
    lay cs l = some zs → ∃ us : Array Value, Instr.fill place vs m = some us ∧ Reps g zs us.toList ∧ ∀ u, u ∈ us.toList → leaf u
  | [], _, cs, vs, zs, .nil, hr, hf, h => by
    simp only [lay] at h; cases h; exact ⟨vs, rfl, hr, hf⟩
  | _, _, cs, vs, zs, .cons off sz i x a l m hp hx r, hr, hf, h => by
    simp only [lay] at h
    split at h
    · rename_i hc
      obtain ⟨h1, h2, h3⟩ := hc
      obtain ⟨hcr, hcf⟩ := hx.cells h1
      have hsz : a.cells.size = sz := by have := hcr.length; rw [Array.length_toList] at this; omega
      have hvs : vs.size = cs.length := by have := hr.length; rw [Array.length_toList] at this; exact this
      simp only [Instr.fill, hp]
      have hno : ¬ ((decide (a.cells.size ≠ sz) || decide (off + a.cells.size > vs.size)) = true) := by
        simp only [hsz, hvs, ne_eq, not_true_eq_false, decide_false, Bool.false_or, decide_eq_true_eq]
        omega
      rw [if_neg hno]
      have e : (Array.foldl (fun (cs : Array Value) (p : Value × Nat) => cs.setIfInBounds (off + p.2) p.1) vs a.cells.zipIdx) = (vs.toList.take off ++ a.cells.toList ++ vs.toList.drop (off + sz)).toArray := by
        apply Array.ext'
        rw [← Array.foldl_toList, Array.toList_zipIdx]
        have hle : off + 0 + a.cells.toList.length ≤ vs.size := by rw [Array.length_toList, hsz, hvs]; omega
        have := fold_set a.cells.toList vs off 0 hle
        simp only [Nat.add_zero] at this
        rw [this, Array.length_toList, hsz]
      have hgoal := fill_ok (place := place) (vs := (vs.toList.take off ++ a.cells.toList ++ vs.toList.drop (off + sz)).toArray) r (((hr.take off).app hcr).app (hr.drop (off + sz))) (by
        intro u hu
        simp only [List.mem_append] at hu
        rcases hu with (hu | hu) | hu
        · exact hf u (List.mem_of_mem_take hu)
        · exact hcf u hu
        · exact hf u (List.mem_of_mem_drop hu)) h
      rw [← e] at hgoal
      exact hgoal
    · cases h

theorem build_ok {t : TypeId} {fs : Array Field} {zv : Value} {z : List V} {ps : List (Nat × Nat × V)} {as : Array (Nat × Value)} {y : V} {i : TypeInfo}
    (ht : P.underlying t = some (.struct fs)) (hi : P.info? t = some i) (hz : i.zero = some zv) (hzr : Reps g z zv.cells.toList) (hzf : ∀ u, u ∈ zv.cells.toList → leaf u)
    (hfs : ∀ f, f ∈ fs.toList → (P.info? f.type).isSome = true) (hp : RepParts g (fun j => (fs[j]?).map fun f => (f.offset, P.cellsOf f.type)) ps as.toList)
    (h : (lay z ps).map mkAgg = some y) : Gives P g w (Instr.build t as) y := by
  simp only [Option.map_eq_some_iff] at h
  obtain ⟨zs, hzs, rfl⟩ := h
  have hm : (fs.mapM (fun f : Field => (do pure (f.offset, ← Go.sizeOf f.type) : Sem (Nat × Nat)))).run P w = .ok (fs.map fun f => (f.offset, P.cellsOf f.type)) w := by
    rw [← Array.toArray_toList (xs := fs)]
    rw [List.mapM_toArray]
    have : ∀ (l : List Field), (∀ f, f ∈ l → (P.info? f.type).isSome = true) → (l.mapM (fun f : Field => (do pure (f.offset, ← Go.sizeOf f.type) : Sem (Nat × Nat)))).run P w = .ok (l.map fun f => (f.offset, P.cellsOf f.type)) w := by
      intro l
      induction l with
      | nil => intro _; rfl
      | cons f l ih =>
        intro hl
        rw [List.mapM_cons]
        simp only [Sem.run_bind, run_sizeOf' (hl f (by simp)), Result.andThen_ok, Sem.run_pure, ih (fun q hq => hl q (by simp [hq]))]
        rfl
    rw [Sem.run_map, this fs.toList hfs]
    simp only [Result.andThen_ok]
    congr 1
    apply Array.ext'
    simp
  obtain ⟨us, hus, hr, hf⟩ := fill_ok (place := fun j => (fs[j]?).map fun f => (f.offset, P.cellsOf f.type)) (vs := zv.cells) hp hzr hzf hzs
  have hpl : (fun j : Nat => (fs.map (fun f : Field => (f.offset, P.cellsOf f.type)))[j]?) = (fun j : Nat => (fs[j]?).map (fun f : Field => (f.offset, P.cellsOf f.type))) := by
    funext j
    simp
  have hg : Rep g (mkAgg zs) (.agg us) := by
    have := Rep.mkAgg hr hf
    simpa using this
  refine ⟨.agg us, ?_, hg⟩
  simp only [Instr.build, zeroValue, typeInfo, Sem.run_bind, run_program, Result.andThen_ok, hi, Sem.run_pure, hz, run_underlying ht, hm]
  rw [hpl, hus]
  rfl

/-! ### Constants -/

def rcDL : D → Value → Bool
  | .bool a, .bool b => a == b
  | .int k n, .int k' n' => decide (k = k') && n == n'
  | .str a, .string b => decide (a = b)
  | .nilp, .pointer none => true
  | .nilf, .nilFunc => true
  | .nilm, .map none => true
  | .lst [], .slice none 0 0 => true
  | _, _ => false
def rcL : V → Value → Bool
  | .d x, v => rcDL x v
  | .tl [] (some true), .slice none 0 0 => true
  | .clo f [], .func (.func f') a b => f == f' && a.isEmpty && b.isEmpty
  | _, _ => false
def rcLs : List V → List Value → Bool
  | [], [] => true
  | x :: l, v :: vs => rcL x v && rcLs l vs
  | _, _ => false
def rcDLs : List D → List Value → Bool
  | [], [] => true
  | x :: l, v :: vs => rcDL x v && rcDLs l vs
  | _, _ => false
/-- Does a value stand for a constant? -/
def rc : V → Value → Bool
  | .d (.agg l), .agg vs => rcDLs l vs.toList
  | .agg l, .agg vs => rcLs l vs.toList
  | x, v => rcL x v

theorem rcDL_ok {φ : Nat → Option Obj} {x : D} {v : Value} (h : rcDL x v = true) : RepD φ x v ∧ leaf v := by
  unfold rcDL at h
  split at h
  · simp at h; subst h; exact ⟨.bool _, trivial⟩
  · simp at h; obtain ⟨rfl, rfl⟩ := h; exact ⟨.int _ _, trivial⟩
  · simp at h; subst h; exact ⟨.str _, trivial⟩
  · exact ⟨.nilp, trivial⟩
  · exact ⟨.nilf, trivial⟩
  · exact ⟨.nilm, trivial⟩
  · exact ⟨.lst [] 0 0 none [] (by simp) (by simp) .nil (.inl rfl), trivial⟩
  · cases h
theorem rcL_ok {x : V} {v : Value} (h : rcL x v = true) : Rep g x v ∧ leaf v := by
  unfold rcL at h
  split at h
  · exact ⟨.d _ _ (rcDL_ok h).1, (rcDL_ok (φ := g.φ) h).2⟩
  · exact ⟨.tl [] (some true) 0 none [] (by simp) .nil (.inl rfl) (fun q hq => by cases hq; simp) (by simp), trivial⟩
  · simp at h; obtain ⟨⟨rfl, rfl⟩, rfl⟩ := h; exact ⟨.clo _ [] [] .nil, trivial⟩
  · cases h
theorem rcDLs_ok {φ : Nat → Option Obj} : ∀ {l : List D} {vs : List Value}, rcDLs l vs = true → RepDs φ l vs
  | [], [], _ => .nil
  | x :: l, v :: vs, h => by
    simp only [rcDLs, Bool.and_eq_true] at h
    exact .cons x l v vs (rcDL_ok h.1).1 (rcDLs_ok h.2) (rcDL_ok (φ := φ) h.1).2
  | [], _ :: _, h => by cases h
  | _ :: _, [], h => by cases h
theorem rcLs_ok : ∀ {l : List V} {vs : List Value}, rcLs l vs = true → Reps g l vs ∧ ∀ u, u ∈ vs → leaf u
  | [], [], _ => ⟨.nil, by simp⟩
  | x :: l, v :: vs, h => by
    simp only [rcLs, Bool.and_eq_true] at h
    have ih := rcLs_ok h.2
    refine ⟨.cons x l v vs (rcL_ok h.1).1 ih.1, fun u hu => ?_⟩
    rcases List.mem_cons.1 hu with rfl | hu
    · exact (rcL_ok (g := g) h.1).2
    · exact ih.2 u hu
  | [], _ :: _, h => by cases h
  | _ :: _, [], h => by cases h
theorem rc_ok {x : V} {v : Value} (h : rc x v = true) : Rep g x v := by
  unfold rc at h
  split at h
  · have := rcDLs_ok (φ := g.φ) h
    exact .d _ _ (by simpa using RepD.agg _ _ this)
  · have := rcLs_ok (g := g) h
    simpa using Rep.agg _ _ this.1 this.2
  · exact (rcL_ok h).1

end
end Zv
