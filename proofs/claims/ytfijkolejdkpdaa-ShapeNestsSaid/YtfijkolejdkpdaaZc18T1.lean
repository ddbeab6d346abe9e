/-
  Plain laws about shapes: places, their indices, what is contained in what.
-/
import Derived.Test.YtfijkolejdkpdaaZc18S9
set_option linter.unusedSimpArgs false
set_option maxHeartbeats 4000000
namespace Zc18
open Go Zv Zs

theorem idx_in {l : List Wd} {w : Wd} (h : w ∈ l) : ∃ n : Nat, idxZ (fun x => decide (w = x)) l = n ∧ l[n]? = some w := by
  obtain ⟨n, x, hx⟩ := fst_of_any (p := fun x => decide (w = x)) (l := l) (List.any_eq_true.2 ⟨w, h, by simp⟩)
  obtain ⟨_, h2, h3, _⟩ := fst_some hx
  refine ⟨n, by unfold idxZ; rw [hx], ?_⟩
  have : w = x := of_decide_eq_true h3
  subst this
  simpa using h2
theorem idx_out {l : List Wd} {w : Wd} (h : w ∉ l) : idxZ (fun x => decide (w = x)) l = -1 := by
  have : l.any (fun x => decide (w = x)) = false := by
    rw [← Bool.not_eq_true, List.any_eq_true]
    rintro ⟨x, hx, hw⟩
    have : w = x := of_decide_eq_true hw
    subst this
    exact h hx
  unfold idxZ
  rw [fst_none.2 this]
theorem idx_nn {l : List Wd} {w : Wd} : 0 ≤ idxZ (fun x => decide (w = x)) l ↔ w ∈ l := by
  constructor
  · intro h
    by_cases hw : w ∈ l
    · exact hw
    · rw [idx_out hw] at h; omega
  · intro h
    obtain ⟨n, hn, _⟩ := idx_in h
    omega
theorem idx_nodup {l : List Wd} (N : l.Nodup) {n : Nat} {w : Wd} (h : l[n]? = some w) : idxZ (fun x => decide (w = x)) l = n := by
  obtain ⟨m, hm, hw⟩ := idx_in (List.mem_of_getElem? h)
  rw [hm]
  obtain ⟨h1, e1⟩ := List.getElem?_eq_some_iff.1 h
  obtain ⟨h2, e2⟩ := List.getElem?_eq_some_iff.1 hw
  have hp := List.pairwise_iff_getElem.1 N
  rcases Nat.lt_trichotomy m n with hlt | rfl | hlt
  · exact absurd (by rw [e1, e2]) (hp m n h2 h1 hlt)
  · rfl
  · exact absurd (by rw [e1, e2]) (hp n m h1 h2 hlt)
theorem idxS_nn {d : List Dt} {t : Int} {w : Wd} : 0 ≤ idxS d t w ↔ w ∈ ofS d t := idx_nn
theorem idxS_neg {d : List Dt} {t : Int} {w : Wd} : idxS d t w < 0 ↔ w ∉ ofS d t := by
  rw [← idxS_nn]; omega

/-- The indices of the places of a field's shape. -/
def insL (d : List Dt) (t f : Int) : List Int := (ofS d f).map (idxS d t)
def missS (d : List Dt) (t f : Int) : Bool := (ofS d f).any fun w => decide (idxS d t w < 0)
def insS (d : List Dt) (t f : Int) : List Int × Int :=
  if checkS d ≠ 0 then ([], 3) else if isT d t = false ∨ isT d f = false then ([], 2) else if missS d t f = true then ([], 9) else (insL d t f, 0)
theorem insS_ok {d : List Dt} {t f : Int} : (insS d t f).2 = 0 ↔ checkS d = 0 ∧ isT d t = true ∧ isT d f = true ∧ ∀ w, w ∈ ofS d f → w ∈ ofS d t := by
  unfold insS
  by_cases h1 : checkS d = 0
  · rw [if_neg (by simp [h1])]
    by_cases h2 : isT d t = false ∨ isT d f = false
    · rw [if_pos h2]
      constructor
      · intro h; cases h
      · rintro ⟨_, h3, h4, _⟩
        rcases h2 with h2 | h2
        · rw [h3] at h2; cases h2
        · rw [h4] at h2; cases h2
    · rw [if_neg h2]
      have h3 : isT d t = true := by cases h : isT d t with
        | true => rfl
        | false => exact absurd (.inl h) h2
      have h4 : isT d f = true := by cases h : isT d f with
        | true => rfl
        | false => exact absurd (.inr h) h2
      by_cases h5 : missS d t f = true
      · rw [if_pos h5]
        unfold missS at h5
        rw [List.any_eq_true] at h5
        obtain ⟨w, hw, hi⟩ := h5
        rw [decide_eq_true_eq, idxS_neg] at hi
        constructor
        · intro h; cases h
        · rintro ⟨_, _, _, h⟩; exact absurd (h w hw) hi
      · rw [if_neg h5]
        refine ⟨fun _ => ⟨h1, h3, h4, fun w hw => ?_⟩, fun _ => rfl⟩
        by_cases hi : w ∈ ofS d t
        · exact hi
        · refine absurd ?_ h5
          unfold missS
          rw [List.any_eq_true]
          exact ⟨w, hw, by rw [decide_eq_true_eq, idxS_neg]; exact hi⟩
  · rw [if_pos h1]
    constructor
    · intro h; cases h
    · rintro ⟨h, _⟩; exact absurd h h1
theorem insS_at {d : List Dt} {t f : Int} (h : (insS d t f).2 = 0) : insS d t f = (insL d t f, 0) := by
  unfold insS at h ⊢
  split
  · rename_i h1; rw [if_pos h1] at h; cases h
  · rename_i h1
    rw [if_neg h1] at h
    split
    · rename_i h2; rw [if_pos h2] at h; cases h
    · rename_i h2
      rw [if_neg h2] at h
      split
      · rename_i h3; rw [if_pos h3] at h; cases h
      · rfl

/-! ### No place twice -/
theorem plT_mem {d : List Dt} {u : Int} {w : Wd} : w ∈ plT d u ↔ ∃ k : Nat, w = (u, (k : Int)) ∧ k < (consOf d u).length := by
  unfold plT
  rw [List.mem_map]
  constructor
  · rintro ⟨k, hk, rfl⟩; exact ⟨k, rfl, List.mem_range.1 hk⟩
  · rintro ⟨k, rfl, hk⟩; exact ⟨k, List.mem_range.2 hk, rfl⟩
theorem plT_nodup (d : List Dt) (u : Int) : (plT d u).Nodup := by
  unfold plT
  rw [List.Nodup, List.pairwise_map]
  refine List.Pairwise.imp ?_ List.nodup_range
  intro a b hab he
  simp only [Prod.mk.injEq, true_and] at he
  exact hab (by omega)
theorem ofS_mem {d : List Dt} {t : Int} {w : Wd} : w ∈ ofS d t ↔ checkS d = 0 ∧ isT d t = true ∧ w.1 ∈ cont d t ∧ w ∈ plT d w.1 := by
  unfold ofS
  by_cases h : checkS d = 0 ∧ isT d t = true
  · rw [if_pos h, List.mem_flatMap]
    constructor
    · rintro ⟨u, hu, hw⟩
      obtain ⟨k, rfl, hk⟩ := plT_mem.1 hw
      exact ⟨h.1, h.2, hu, hw⟩
    · rintro ⟨_, _, h1, h2⟩; exact ⟨_, h1, h2⟩
  · rw [if_neg h]
    constructor
    · intro h; cases h
    · rintro ⟨h1, h2, _⟩; exact absurd ⟨h1, h2⟩ h
theorem flat_nodup {d : List Dt} : ∀ {l : List Int}, l.Nodup → (l.flatMap (plT d)).Nodup
  | [], _ => List.nodup_nil
  | u :: l, h => by
    rw [List.nodup_cons] at h
    rw [List.flatMap_cons, List.nodup_append]
    refine ⟨plT_nodup d u, flat_nodup h.2, ?_⟩
    rintro a ha b hb rfl
    obtain ⟨k, rfl, _⟩ := plT_mem.1 ha
    obtain ⟨v, hv, hw⟩ := List.mem_flatMap.1 hb
    obtain ⟨k', he, _⟩ := plT_mem.1 hw
    simp only [Prod.mk.injEq] at he
    exact h.1 (he.1 ▸ hv)
theorem ofS_nodup (d : List Dt) (t : Int) : (ofS d t).Nodup := by
  unfold ofS
  by_cases h : checkS d = 0 ∧ isT d t = true
  · rw [if_pos h]
    exact flat_nodup (cont_inv (check_typed h.1) h.2).nd
  · rw [if_neg h]; exact List.nodup_nil

/-! ### What a shape contains -/
theorem fold_sub {d : List Dt} {k : Nat} (cs : List Cn) {P : List Int → Prop} (l : List Int) (h : P l) (H : ∀ s c f, c ∈ cs → f ∈ c.flds → P s → P (contS d k f s)) : P (cs.foldl (fun l c => c.flds.foldl (fun l f => contS d k f l) l) l) :=
  fold_keep (P := P) (fun s c hc hs => fold_keep (P := P) (fun s f hf hs => H s c f hc hf hs) hs) h
theorem contS_mono (d : List Dt) : ∀ (k : Nat) (t : Int) (l : List Int) (x : Int), x ∈ l → x ∈ contS d k t l
  | 0, _, _, _, h => h
  | k + 1, t, l, x, h => by
    unfold contS
    split
    · exact h
    · exact fold_sub _ (P := fun s => x ∈ s) _ (List.mem_append_left _ h) (fun s c f _ _ hs => contS_mono d k f s x hs)
/-- Nothing but what a closed set contains. -/
theorem contS_least {d : List Dt} {C : Int → Prop} (hC : ∀ u c f, C u → c ∈ consOf d u → f ∈ c.flds → flatS d f = true ∨ C f) : ∀ (k : Nat) (t : Int) (l : List Int), (flatS d t = true ∨ C t) → (∀ x, x ∈ l → C x) → ∀ x, x ∈ contS d k t l → C x
  | 0, _, _, _, hl => hl
  | k + 1, t, l, ht, hl => by
    unfold contS
    split
    · exact hl
    · rename_i hc
      have htC : C t := ht.resolve_left (fun h => hc (.inl h))
      refine fold_sub _ (P := fun s => ∀ x, x ∈ s → C x) _ ?_ ?_
      · intro x hx
        rcases List.mem_append.1 hx with hx | hx
        · exact hl x hx
        · simp at hx; subst hx; exact htC
      · intro s c f hc hf hs
        exact contS_least hC k f s (hC t c f htC hc hf) hs
/-- The fields of a type are there. -/
def Fld (d : List Dt) (s : List Int) (u : Int) : Prop := ∀ c f, c ∈ consOf d u → f ∈ c.flds → flatS d f = true ∨ f ∈ s
theorem Fld.mono {d : List Dt} {s s' : List Int} {u : Int} (h : Fld d s u) (hs : ∀ x, x ∈ s → x ∈ s') : Fld d s' u := fun c f hc hf => (h c f hc hf).imp id (hs f)
theorem fold_all {α S : Type} {stp : S → α → S} {R : S → Prop} {Q : S → α → Prop} (hR : ∀ s x, R s → R (stp s x)) (hQ : ∀ s x y, Q s x → Q (stp s y) x) (h1 : ∀ s x, R s → Q (stp s x) x) :
    ∀ (l : List α) (s : S), R s → ∀ x, x ∈ l → Q (l.foldl stp s) x
  | [], _, _, x, hx => by cases hx
  | y :: l, s, hr, x, hx => by
    rw [List.foldl_cons]
    rcases List.mem_cons.1 hx with rfl | hx
    · exact fold_keep (P := fun s => Q s x) (fun s z _ hs => hQ s x z hs) (h1 s x hr)
    · exact fold_all hR hQ h1 l _ (hR s y hr) x hx
theorem contS_closed {d : List Dt} (T : typedS d = true) : ∀ (k : Nat) (t : Int) (l : List Int), isT d t = true → Inv d l → d.length + 2 ≤ k + l.length →
    (flatS d t = true ∨ t ∈ contS d k t l) ∧ ∀ u, u ∈ contS d k t l → u ∉ l → Fld d (contS d k t l) u
  | 0, t, l, _, I, hk => by have := I.len; omega
  | k + 1, t, l, hT, I, hk => by
    unfold contS
    split
    · rename_i h
      exact ⟨h, fun u hu hn => absurd hu hn⟩
    · rename_i hc
      have htl : t ∉ l := fun h => hc (.inr h)
      have I1 := I.add hT htl
      let R : List Int → Prop := fun s => Inv d s ∧ (l ++ [t]).length ≤ s.length ∧ (∀ x, x ∈ l ++ [t] → x ∈ s) ∧ ∀ u, u ∈ s → u ∉ l ++ [t] → Fld d s u
      have hstep : ∀ s c f, c ∈ consOf d t → f ∈ c.flds → R s → R (contS d k f s) ∧ (flatS d f = true ∨ f ∈ contS d k f s) := by
        rintro s c f hc hf ⟨r1, r2, r3, r4⟩
        have hfT := fld_isT T hc hf
        have hlen : (l ++ [t]).length = l.length + 1 := by simp
        obtain ⟨q1, q2⟩ := contS_closed T k f s hfT r1 (by omega)
        obtain ⟨p1, p2⟩ := contS_inv T k f s hfT r1
        have hm := contS_mono d k f s
        refine ⟨⟨p1, by omega, fun x hx => hm x (r3 x hx), fun u hu hn => ?_⟩, q1⟩
        by_cases hus : u ∈ s
        · exact (r4 u hus hn).mono hm
        · exact q2 u hu hus
      have hR0 : R (l ++ [t]) := ⟨I1, Nat.le_refl _, fun _ h => h, fun u hu hn => absurd hu hn⟩
      have hfin : R ((consOf d t).foldl (fun l c => c.flds.foldl (fun l f => contS d k f l) l) (l ++ [t])) := fold_sub _ (P := R) _ hR0 (fun s c f hc hf hs => (hstep s c f hc hf hs).1)
      have hflds : Fld d ((consOf d t).foldl (fun l c => c.flds.foldl (fun l f => contS d k f l) l) (l ++ [t])) t := by
        intro c f hc hf
        have key : ∀ (cs : List Cn) (s : List Int), (∀ c, c ∈ cs → c ∈ consOf d t) → R s → ∀ c f, c ∈ cs → f ∈ c.flds → flatS d f = true ∨ f ∈ cs.foldl (fun l c => c.flds.foldl (fun l f => contS d k f l) l) s := by
          intro cs
          induction cs with
          | nil => intro s _ _ c f hc; cases hc
          | cons c0 cs ih =>
            intro s hcs hr c f hc hf
            rw [List.foldl_cons]
            have hin : ∀ (fs : List Int) (s : List Int), (∀ f, f ∈ fs → f ∈ c0.flds) → R s → R (fs.foldl (fun l f => contS d k f l) s) ∧ ∀ f, f ∈ fs → flatS d f = true ∨ f ∈ fs.foldl (fun l f => contS d k f l) s := by
              intro fs
              induction fs with
              | nil => intro s _ hr; exact ⟨hr, fun f hf => by cases hf⟩
              | cons f0 fs ihf =>
                intro s hfs hr
                rw [List.foldl_cons]
                have hs := hstep s c0 f0 (hcs c0 List.mem_cons_self) (hfs f0 List.mem_cons_self) hr
                obtain ⟨a1, a2⟩ := ihf (contS d k f0 s) (fun f hf => hfs f (List.mem_cons_of_mem _ hf)) hs.1
                refine ⟨a1, fun f hf => ?_⟩
                rcases List.mem_cons.1 hf with rfl | hf
                · refine hs.2.imp id fun h => ?_
                  exact fold_keep (P := fun s => f ∈ s) (fun s x _ hs => contS_mono d k x s f hs) h
                · exact a2 f hf
            obtain ⟨a1, a2⟩ := hin c0.flds s (fun _ h => h) hr
            rcases List.mem_cons.1 hc with rfl | hc
            · refine (a2 f hf).imp id fun h => ?_
              exact fold_sub cs (P := fun s => f ∈ s) _ h (fun s _ x _ _ hs => contS_mono d k x s f hs)
            · exact ih _ (fun c hc => hcs c (List.mem_cons_of_mem _ hc)) a1 c f hc hf
        exact key _ _ (fun _ h => h) hR0 c f hc hf
      refine ⟨.inr (hfin.2.2.1 t (by simp)), fun u hu hn => ?_⟩
      by_cases hut : u = t
      · subst hut; exact hflds
      · exact hfin.2.2.2 u hu (by simp [hn, hut])
theorem cont_closed {d : List Dt} (T : typedS d = true) {t : Int} (hT : isT d t = true) : (flatS d t = true ∨ t ∈ cont d t) ∧ ∀ u c f, u ∈ cont d t → c ∈ consOf d u → f ∈ c.flds → flatS d f = true ∨ f ∈ cont d t := by
  obtain ⟨h1, h2⟩ := contS_closed T (d.length + 2) t [] hT (Inv.nil d) (by simp)
  exact ⟨h1, fun u c f hu hc hf => h2 u hu (by simp) c f hc hf⟩
/-- What a field contains, the whole contains. -/
theorem cont_fld {d : List Dt} (T : typedS d = true) {t : Int} (hT : isT d t = true) {u : Int} {c : Cn} {f : Int} (hu : u ∈ cont d t) (hc : c ∈ consOf d u) (hf : f ∈ c.flds) : ∀ x, x ∈ cont d f → x ∈ cont d t := by
  obtain ⟨_, h2⟩ := cont_closed T hT
  exact contS_least (C := fun x => x ∈ cont d t) h2 _ f [] (h2 u c f hu hc hf) (fun x hx => by cases hx)
theorem cont_head {d : List Dt} {t : Int} (hF : flatS d t = false) : ∃ r, cont d t = t :: r := by
  unfold cont contS
  rw [if_neg (by simp [hF])]
  simp only [List.nil_append]
  refine fold_sub _ (P := fun s => ∃ r, s = t :: r) _ ⟨[], rfl⟩ ?_
  rintro s c f _ _ ⟨r, rfl⟩
  have : ∀ (k : Nat) (f : Int) (r : List Int), ∃ r', contS d k f (t :: r) = t :: r' := by
    intro k
    induction k with
    | zero => intro f r; exact ⟨r, rfl⟩
    | succ k ih =>
      intro f r
      unfold contS
      split
      · exact ⟨r, rfl⟩
      · refine fold_sub _ (P := fun s => ∃ r, s = t :: r) _ ⟨r ++ [f], rfl⟩ ?_
        rintro s c f _ _ ⟨r, rfl⟩
        exact ih f r
  exact this _ f r
theorem cont_flat {d : List Dt} {t : Int} (hF : flatS d t = true) : cont d t = [] := by
  unfold cont contS
  rw [if_pos (.inl hF)]
theorem ofS_head {d : List Dt} {t : Int} (hC : checkS d = 0) (hT : isT d t = true) (hF : flatS d t = false) : ∃ r, ofS d t = (t, 0) :: r := by
  obtain ⟨r, hr⟩ := cont_head hF
  unfold ofS
  rw [if_pos ⟨hC, hT⟩, hr, List.flatMap_cons]
  have hne : consOf d t ≠ [] := by
    intro h0
    unfold flatS at hF
    rw [hT, h0] at hF
    simp at hF
  unfold plT
  cases hc : consOf d t with
  | nil => exact absurd hc hne
  | cons a l =>
    rw [List.length_cons, List.range_succ_eq_map]
    exact ⟨_, rfl⟩
theorem ofS_flat {d : List Dt} {t : Int} (hF : flatS d t = true) : ofS d t = [] := by
  unfold ofS
  rw [cont_flat hF]
  split <;> rfl
theorem ofS_bad {d : List Dt} {t : Int} (h : ¬(checkS d = 0 ∧ isT d t = true)) : ofS d t = [] := by
  unfold ofS; rw [if_neg h]
end Zc18
