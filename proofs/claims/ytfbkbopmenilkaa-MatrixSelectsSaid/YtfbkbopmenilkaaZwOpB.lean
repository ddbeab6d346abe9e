/-
  The operations of ZvVal on addresses, slices and struct values are the machine's.
-/
import Derived.Test.YtfbkbopmenilkaaZwOpA
import Derived.Laws.World
import Derived.ChangeKeysEq
set_option linter.unusedSimpArgs false
namespace Zv
open Go

section
variable {P : Program} {g : G} {w : World}

theorem add_none (b p n : Nat) : (⟨b, p, none⟩ : Addr).add n = ⟨b, p + n, none⟩ := by
  unfold Addr.add
  split
  · rename_i h; subst h; rfl
  · rfl

/-! ### Segments of cells -/
theorem flat_len {α β : Type} {f : α → List β} {es : Nat} : ∀ {l : List α}, (∀ x, x ∈ l → (f x).length = es) → (l.flatMap f).length = l.length * es
  | [], _ => by simp
  | x :: l, h => by
    rw [List.flatMap_cons, List.length_append, flat_len (fun y hy => h y (by simp [hy])), h x (by simp), List.length_cons, Nat.add_mul]
    omega
theorem flat_drop {α β : Type} {f : α → List β} {es : Nat} : ∀ {l : List α} (k : Nat), (∀ x, x ∈ l → (f x).length = es) → (l.flatMap f).drop (k * es) = (l.drop k).flatMap f
  | l, 0, _ => by simp
  | [], k + 1, _ => by simp
  | x :: l, k + 1, h => by
    rw [List.flatMap_cons, List.drop_succ_cons, ← flat_drop k (fun y hy => h y (by simp [hy])), List.drop_append]
    have e : (f x).length = es := h x (by simp)
    rw [List.drop_of_length_le (by rw [e, Nat.add_mul]; omega), List.nil_append, e]
    congr 1
    rw [Nat.add_mul]; omega
theorem flat_take {α β : Type} {f : α → List β} {es : Nat} : ∀ {l : List α} (k : Nat), (∀ x, x ∈ l → (f x).length = es) → (l.flatMap f).take (k * es) = (l.take k).flatMap f
  | l, 0, _ => by simp
  | [], k + 1, _ => by simp
  | x :: l, k + 1, h => by
    rw [List.flatMap_cons, List.take_succ_cons, List.flatMap_cons, ← flat_take k (fun y hy => h y (by simp [hy])), List.take_append]
    have e : (f x).length = es := h x (by simp)
    rw [List.take_of_length_le (by rw [e, Nat.add_mul]; omega), e]
    congr 2
    rw [Nat.add_mul]; omega
theorem flat_get {α β : Type} {f : α → List β} {es : Nat} {l : List α} {k : Nat} {x : α} (h : ∀ x, x ∈ l → (f x).length = es) (hk : l[k]? = some x) : ((l.flatMap f).drop (k * es)).take es = f x := by
  rw [flat_drop k h]
  have hd : l.drop k = x :: l.drop (k + 1) := by
    have hlt : k < l.length := by
      rcases Nat.lt_or_ge k l.length with h' | h'
      · exact h'
      · rw [List.getElem?_eq_none h'] at hk; cases hk
    rw [List.drop_eq_getElem_cons hlt]
    rw [List.getElem?_eq_getElem hlt] at hk
    cases hk; rfl
  rw [hd, List.flatMap_cons]
  have e : (f x).length = es := h x (List.mem_of_getElem? hk)
  rw [List.take_append, ← e]
  simp

theorem At.drop {φ : Nat → Option Obj} {b p : Nat} {vs : List Value} (h : At φ b p vs) (k : Nat) : At φ b (p + k) (vs.drop k) := by
  intro j v hj
  rw [List.getElem?_drop] at hj
  have := h (k + j) v hj
  rwa [← Nat.add_assoc] at this
theorem At.take {φ : Nat → Option Obj} {b p : Nat} {vs : List Value} (h : At φ b p vs) (k : Nat) : At φ b p (vs.take k) := by
  intro j v hj
  rw [List.getElem?_take] at hj
  split at hj
  · exact h j v hj
  · cases hj

theorem run_sizeOf' {t : TypeId} (h : (P.info? t).isSome = true) : (Go.sizeOf t).run P w = .ok (P.cellsOf t) w := by
  obtain ⟨i, hi⟩ := Option.isSome_iff_exists.mp h
  exact run_sizeOf w hi

theorem mem_of_get {α : Type} {l : List α} {k : Nat} {x : α} (h : l[k]? = some x) : x ∈ l := List.mem_of_getElem? h
theorem lt_of_get {α : Type} {l : List α} {k : Nat} {x : α} (h : l[k]? = some x) : k < l.length := by
  rcases Nat.lt_or_ge k l.length with h' | h'
  · exact h'
  · rw [List.getElem?_eq_none h'] at h; cases h

theorem indexAt_run {t e : TypeId} (ht : P.underlying t = some (.slice e)) (he : (P.info? e).isSome = true) (a : Addr) (len cap : Nat) (k : IntKind) (j : Nat) (hj : j < len) :
    (Instr.indexAt t (.slice (some a) len cap) (.int k (j : Int))).run P w = .ok (.pointer (some (a.add (j * P.cellsOf e)))) w := by
  have h2 : (0 : Int) ≤ (j : Int) ∧ (j : Int) < (len : Int) := by omega
  simp [Instr.indexAt, asIntOf, run_underlying ht, run_sizeOf' he, h2, hj]

theorem ia_ok {t e : TypeId} {es : Nat} {x y z : V} {a b : Value} (ht : P.underlying t = some (.slice e)) (he : (P.info? e).isSome = true) (hs : P.cellsOf e = es)
    (h : ia es x y = some z) (ha : Rep g x a) (hb : Rep g y b) : Gives P g w (Instr.indexAt t a b) z := by
  unfold ia at h
  split at h
  · rename_i l
    simp only [Option.bind_eq_some_iff] at h
    obtain ⟨j, hj, x, hx, h⟩ := h
    obtain ⟨k, rfl⟩ := ixOf_ok hj hb
    have hd := ha.dI
    clear ha
    cases hd with | lst _ es0 cap q vs hes hc hr hz =>
    split at h
    · rename_i hce
      cases h
      have h0 : es0 = es := by rw [← hes x (mem_of_get hx), hce]
      subst h0
      rcases hz with hz | ⟨b', p, rfl, hat⟩
      · subst hz; simp at hx
      · refine ⟨_, indexAt_run ht he _ _ _ k j (lt_of_get hx), ?_⟩
        rw [add_none, hs]
        refine .fp x 0 b' (p + j * es0) ((vs.drop (j * es0)).take es0) ?_ ((hat.drop _).take _)
        have hq := (hr.drop (j * es0)).take es0
        rwa [flat_get hes hx] at hq
    · cases h
  · rename_i l nl
    simp only [Option.bind_eq_some_iff] at h
    obtain ⟨j, hj, x, hx, y', hy, h⟩ := h
    obtain ⟨k, rfl⟩ := ixOf_ok hj hb
    cases ha with | tl _ _ es0 q vs hes hr hz hn hf =>
    split at h
    · rename_i hce
      cases h
      have h0 : es0 = es := by rw [← hes x (mem_of_get hx), ← toD_len hy, hce]
      subst h0
      rcases hz with hz | ⟨b', p, rfl, hat⟩
      · subst hz; simp at hx
      · refine ⟨_, indexAt_run ht he _ _ _ k j (lt_of_get hx), ?_⟩
        rw [add_none, hs]
        refine .fp y' 0 b' (p + j * es0) ((vs.drop (j * es0)).take es0) ?_ ((hat.drop _).take _)
        have hq := (hr.drop (j * es0)).take es0
        rw [flat_get hes hx] at hq
        exact hq.toDs (toD_cells hy) (fun u hu => hf u (List.mem_of_mem_drop (List.mem_of_mem_take hu)))
    · cases h
  · rename_i n e' tot off len
    simp only [Option.bind_eq_some_iff] at h
    obtain ⟨j, hj, h⟩ := h
    obtain ⟨k, rfl⟩ := ixOf_ok hj hb
    split at h
    · rename_i hlt
      cases h
      obtain ⟨hlt, hee⟩ := hlt
      cases ha with | own _ _ _ _ _ cap q hes hN hB hz hl hto hc hsz =>
      refine ⟨_, indexAt_run ht he _ _ _ k j hlt, ?_⟩
      rcases hz with hz | rfl
      · omega
      · rw [add_none, hs, ← hee, ← hes]
        have e1 : (g.μ n tot).o + off * (g.μ n tot).es + j * (g.μ n tot).es = (g.μ n tot).o + (off + j) * (g.μ n tot).es + 0 := by rw [Nat.add_mul]; omega
        rw [e1]
        exact .ptr n tot (off + j) 0 hN hB
    · cases h
  · cases h

theorem ixS_ok {t : TypeId} {x y z : V} {a b : Value} (ht : P.underlying t = some .string) (h : ixS x y = some z) (ha : Rep g x a) (hb : Rep g y b) : Gives P g w (Instr.index t a b) z := by
  unfold ixS at h
  split at h
  · rename_i s
    obtain rfl := ha.strI
    simp only [Option.bind_eq_some_iff] at h
    obtain ⟨j, hj, h⟩ := h
    obtain ⟨k, rfl⟩ := ixOf_ok hj hb
    split at h
    · rename_i hlt
      cases h
      refine ⟨.int .u8 (s[j]'hlt).toNat, ?_, .d _ _ (.int _ _)⟩
      simp [Instr.index, asIntOf, run_underlying ht, hlt]
    · cases h
  · cases h

theorem fa_ok {t : TypeId} {fs : Array Field} {f : Field} {i off : Nat} {x z : V} {a : Value} (ht : P.underlying t = some (.struct fs)) (hf : fs[i]? = some f) (ho : f.offset = off)
    (hi : (P.info? f.type).isSome = true) (hs : P.cellsOf f.type ≠ 0) (h : fa off x = some z) (ha : Rep g x a) : Gives P g w (Instr.fieldAt t a i) z := by
  have run : ∀ q : Addr, (Instr.fieldAt t (.pointer (some q)) i).run P w = .ok (.pointer (some (q.add off))) w := by
    intro q
    simp [Instr.fieldAt, run_underlying ht, hf, Instr.sureAddr, fieldPlace, run_sizeOf' hi, hs, ho]
  unfold fa at h
  split at h
  · rename_i x o
    cases h
    cases ha with | fp _ _ b p vs hr hat =>
    refine ⟨_, run _, ?_⟩
    rw [add_none, Nat.add_assoc]
    exact .fp x (o + off) b p vs hr hat
  · rename_i n tot j o
    cases h
    cases ha with | ptr _ _ _ _ hN hB =>
    refine ⟨_, run _, ?_⟩
    rw [add_none, Nat.add_assoc]
    exact .ptr n tot j (o + off) hN hB
  · cases h

/-- A part of cells. -/
theorem partD_ok {φ : Nat → Option Obj} {ag : Bool} {off sz : Nat} {l : List D} {vs : List Value} {y : D} (h : partD ag off sz l = some y) (hr : RepDs φ l vs) :
    ∃ v, RepD φ y v ∧ (if ag = true then v = .agg ((vs.drop off).take sz).toArray ∧ off + sz ≤ vs.length else vs[off]? = some v) := by
  unfold partD at h
  split at h
  · rename_i hag
    split at h
    · rename_i hle
      cases h
      exact ⟨_, .agg _ _ ((hr.drop off).take sz), by rw [if_pos hag]; exact ⟨rfl, by rw [hr.length]; exact hle⟩⟩
    · cases h
  · rename_i hag
    obtain ⟨v, hv, hy⟩ := hr.get h
    exact ⟨v, hy, by rw [if_neg hag]; exact hv⟩
theorem partV_ok {ag : Bool} {off sz : Nat} {l : List V} {vs : List Value} {y : V} (h : partV ag off sz l = some y) (hr : Reps g l vs) (hf : ∀ u, u ∈ vs → leaf u) :
    ∃ v, Rep g y v ∧ (if ag = true then v = .agg ((vs.drop off).take sz).toArray ∧ off + sz ≤ vs.length else vs[off]? = some v) := by
  unfold partV at h
  split at h
  · rename_i hag
    split at h
    · rename_i hle
      cases h
      exact ⟨_, Rep.mkAgg ((hr.drop off).take sz) (fun u hu => hf u (List.mem_of_mem_drop (List.mem_of_mem_take hu))), by rw [if_pos hag]; exact ⟨rfl, by rw [hr.length]; exact hle⟩⟩
    · cases h
  · rename_i hag
    obtain ⟨v, hv, hy⟩ := hr.get h
    exact ⟨v, hy, by rw [if_neg hag]; exact hv⟩

def agOf (P : Program) (t : TypeId) : Bool := match P.underlying t with
  | some (.struct _) => true
  | some (.array _ _) => true
  | _ => false

theorem run_isAgg' {t : TypeId} (h : (P.underlying t).isSome = true) : (isAgg t).run P w = .ok (agOf P t) w := by
  obtain ⟨d, hd⟩ := Option.isSome_iff_exists.mp h
  simp only [isAgg, Sem.run_bind, run_underlying hd, Result.andThen_ok, agOf, hd]
  cases d <;> rfl

theorem part_run {t : TypeId} {off : Nat} {vs : List Value} {v : Value} (hu : (P.underlying t).isSome = true) (hi : (P.info? t).isSome = true)
    (h : if agOf P t = true then v = .agg ((vs.drop off).take (P.cellsOf t)).toArray ∧ off + P.cellsOf t ≤ vs.length else vs[off]? = some v) :
    (part t vs.toArray off).run P w = .ok v w := by
  simp only [part, Sem.run_bind, run_isAgg' hu, Result.andThen_ok]
  split at h
  · rename_i hag
    obtain ⟨rfl, hle⟩ := h
    rw [if_pos hag]
    simp only [Sem.run_bind, run_sizeOf' hi, Result.andThen_ok, Sem.run_pure]
    congr 2
    apply Array.ext'
    simp [List.extract_eq_take_drop]
  · rename_i hag
    rw [if_neg hag]
    simp [h]

theorem fld_ok {t : TypeId} {fs : Array Field} {f : Field} {i off sz : Nat} {ag : Bool} {x z : V} {a : Value} (ht : P.underlying t = some (.struct fs)) (hf : fs[i]? = some f) (ho : f.offset = off)
    (hu : (P.underlying f.type).isSome = true) (hi : (P.info? f.type).isSome = true) (hag : agOf P f.type = ag) (hs : P.cellsOf f.type = sz) (h : fld ag off sz x = some z) (ha : Rep g x a) :
    Gives P g w (Instr.field t a i) z := by
  subst ho hag hs
  have run : ∀ (vs : List Value) (v : Value), (if agOf P f.type = true then v = .agg ((vs.drop f.offset).take (P.cellsOf f.type)).toArray ∧ f.offset + P.cellsOf f.type ≤ vs.length else vs[f.offset]? = some v) →
      (Instr.field t (.agg vs.toArray) i).run P w = .ok v w := by
    intro vs v hv
    simp only [Instr.field, Sem.run_bind, run_underlying ht, Result.andThen_ok, hf, asAgg, Sem.run_pure]
    exact part_run hu hi hv
  unfold fld at h
  split at h
  · rename_i l
    simp only [Option.map_eq_some_iff] at h
    obtain ⟨y, hy, rfl⟩ := h
    have hd := ha.dI
    clear ha
    cases hd with | agg _ vs hr =>
    obtain ⟨v, hv, he⟩ := partD_ok hy hr
    exact ⟨v, run vs v he, .d _ _ hv⟩
  · rename_i l
    cases ha with | agg _ vs hr hfl =>
    obtain ⟨v, hv, he⟩ := partV_ok h hr hfl
    exact ⟨v, run vs v he, hv⟩
  · cases h

end
end Zv
