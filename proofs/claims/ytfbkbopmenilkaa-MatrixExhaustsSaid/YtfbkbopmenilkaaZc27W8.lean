/-
  Parts of the proof.
-/
import Derived.Test.YtfbkbopmenilkaaZc27U5
section
set_option linter.unusedSimpArgs false
set_option linter.unusedVariables false
set_option linter.unusedSimpArgs false
set_option maxHeartbeats 4000000
namespace Zc27
open Go Zv Zs

/-! ### Weights -/
mutual
def nwP : Pt → Nat
  | .mk k _ _ qs => if k = 0 then 0 else 1 + nwL qs
def nwL : List Pt → Nat
  | [] => 0
  | p :: r => nwP p + nwL r
end
def nwS : List (List Pt) → Nat
  | [] => 0
  | r :: l => nwL r + nwS l
theorem nwL_app : ∀ (a b : List Pt), nwL (a ++ b) = nwL a + nwL b
  | [], b => by simp [nwL]
  | p :: a, b => by rw [List.cons_append, nwL, nwL, nwL_app a b]; omega
theorem nwL_wild : ∀ n : Nat, nwL (List.replicate n wildT) = 0
  | 0 => rfl
  | n + 1 => by rw [List.replicate_succ, nwL, nwL_wild n]; simp [wildT, nwP]
theorem spF_nw {c : Int} {n : Nat} {r r' : List Pt} (h : spF c n r = some r') : nwL r' ≤ nwL r ∧ (∀ p s, r = p :: s → kdP p = 1 → nwL r' + 1 ≤ nwL r) := by
  cases r with
  | nil => cases h
  | cons p s =>
    obtain ⟨k, c', m, qs⟩ := p
    simp only [spF] at h
    by_cases k0 : k = 0
    · rw [if_pos k0] at h
      cases h
      refine ⟨by rw [nwL_app, nwL_wild, nwL]; omega, ?_⟩
      intro p s' e k1
      cases e
      simp only [kdP] at k1
      omega
    · rw [if_neg k0] at h
      split at h
      · cases h
        have e : nwL (qs ++ s) + 1 = nwL (.mk k c' m qs :: s) := by rw [nwL_app, nwL, nwP, if_neg k0]; omega
        exact ⟨by omega, fun _ _ _ _ => by omega⟩
      · cases h
theorem spS_nw (c : Int) (n : Nat) : ∀ l : List (List Pt), nwS (spS c n l) ≤ nwS l
  | [] => Nat.le_refl _
  | r :: l => by
    have ih := spS_nw c n l
    unfold spS at ih ⊢
    rw [List.filterMap_cons, nwS]
    cases h : spF c n r with
    | none => simp only; omega
    | some r' => have := (spF_nw h).1; simp only [nwS]; omega
theorem spS_nw1 (c : Int) (n : Nat) : ∀ l : List (List Pt), (∃ p s, (p :: s) ∈ l ∧ kdP p = 1 ∧ cnP p = c) → nwS (spS c n l) + 1 ≤ nwS l
  | [], ⟨_, _, h, _⟩ => by cases h
  | r :: l, ⟨p, s, hm, k1, c1⟩ => by
    rcases List.mem_cons.1 hm with e | hm
    · subst e
      have ih := spS_nw c n l
      unfold spS at ih ⊢
      rw [List.filterMap_cons, nwS]
      cases h : spF c n (p :: s) with
      | none =>
        obtain ⟨k, c', m, qs⟩ := p
        simp only [kdP] at k1
        simp only [cnP] at c1
        simp only [spF, k1, c1] at h
        simp at h
      | some r' => have := (spF_nw h).2 p s rfl k1; simp only [nwS]; omega
    · have ih := spS_nw1 c n l ⟨p, s, hm, k1, c1⟩
      unfold spS at ih ⊢
      rw [List.filterMap_cons, nwS]
      cases h : spF c n r with
      | none => simp only; omega
      | some r' => have := (spF_nw h).1; simp only [nwS]; omega
theorem restF_nw {keep : Pt → Bool} {r r' : List Pt} (h : restF keep r = some r') : nwL r' ≤ nwL r := by
  cases r with
  | nil => cases h
  | cons p s =>
    simp only [restF] at h
    split at h
    · cases h; rw [nwL]; omega
    · cases h
theorem restS_nw (keep : Pt → Bool) : ∀ l : List (List Pt), nwS (restS keep l) ≤ nwS l
  | [] => Nat.le_refl _
  | r :: l => by
    have ih := restS_nw keep l
    unfold restS at ih ⊢
    rw [List.filterMap_cons, nwS]
    cases h : restF keep r with
    | none => simp only; omega
    | some r' => have := restF_nw h; simp only [nwS]; omega
theorem fm_len {α β : Type} (f : α → Option β) (l : List α) : (l.filterMap f).length ≤ l.length := List.length_filterMap_le f l

/-! ### Rows that fit -/
def fldsOf (d : List Dt) (t : Int) (i : Nat) : List Int := match (consOf d t)[i]? with
  | some z => z.flds
  | none => []
def fitR (d : List Dt) : List Int → List Pt → Bool
  | [], [] => true
  | t :: ts, p :: r => fitsP d t p && fitR d ts r
  | _, _ => false
theorem fitR_len {d : List Dt} : ∀ {ts : List Int} {r : List Pt}, fitR d ts r = true → r.length = ts.length
  | [], [], _ => rfl
  | t :: ts, p :: r, h => by
    simp only [fitR, Bool.and_eq_true] at h
    rw [List.length_cons, List.length_cons, fitR_len h.2]
  | [], _ :: _, h => by cases h
  | _ :: _, [], h => by cases h
theorem fitR_app {d : List Dt} : ∀ {fs ts : List Int} {qs r : List Pt}, fitR d fs qs = true → fitR d ts r = true → fitR d (fs ++ ts) (qs ++ r) = true
  | [], ts, [], r, _, h => h
  | f :: fs, ts, q :: qs, r, h, h' => by
    simp only [fitR, Bool.and_eq_true] at h
    simp only [List.cons_append, fitR, Bool.and_eq_true]
    exact ⟨h.1, fitR_app h.2 h'⟩
  | [], _, _ :: _, _, h, _ => by cases h
  | _ :: _, _, [], _, h, _ => by cases h
theorem fits_wild (d : List Dt) (t : Int) : fitsP d t wildT = true := by
  unfold wildT; rw [fitsP]; rfl
theorem fitR_wild (d : List Dt) : ∀ fs : List Int, fitR d fs (List.replicate fs.length wildT) = true
  | [] => rfl
  | f :: fs => by
    rw [List.length_cons, List.replicate_succ, fitR, fits_wild, fitR_wild d fs]; rfl
theorem fitR_of_L {d : List Dt} : ∀ {fs : List Int} {qs : List Pt}, fs.length = qs.length → fitsL d fs qs = true → fitR d fs qs = true
  | [], [], _, _ => rfl
  | f :: fs, q :: qs, hl, h => by
    simp only [fitsL, Bool.and_eq_true] at h
    simp only [fitR, Bool.and_eq_true]
    exact ⟨h.1, fitR_of_L (by simpa using hl) h.2⟩
  | [], _ :: _, h, _ => by cases h
  | _ :: _, [], h, _ => by cases h
/-- What a pattern that fits is. -/
theorem fits_cases {d : List Dt} {t k c m : Int} {qs : List Pt} (h : fitsP d t (.mk k c m qs) = true) :
    (k = 0 ∧ c = 0 ∧ m = 0 ∧ qs = []) ∨ (k = 2 ∧ t = 0 ∧ c = 0 ∧ qs = []) ∨ (k = 1 ∧ t ≠ 0 ∧ m = 0 ∧ ∃ i : Nat, ∃ z, c = (i : Int) ∧ (consOf d t)[i]? = some z ∧ z.flds.length = qs.length ∧ fitR d z.flds qs = true) := by
  rw [fitsP] at h
  by_cases k0 : k = 0
  · rw [if_pos k0] at h
    simp only [Bool.and_eq_true, decide_eq_true_eq] at h
    exact .inl ⟨k0, h.1.1, h.1.2, List.eq_nil_of_length_eq_zero h.2⟩
  · rw [if_neg k0] at h
    by_cases k2 : k = 2
    · rw [if_pos k2] at h
      simp only [Bool.and_eq_true, decide_eq_true_eq] at h
      exact .inr (.inl ⟨k2, h.1.1, h.1.2, List.eq_nil_of_length_eq_zero h.2⟩)
    · rw [if_neg k2] at h
      by_cases k1 : k = 1
      · rw [if_pos k1] at h
        simp only [Bool.and_eq_true, Bool.not_eq_true', Bool.or_eq_false_iff, decide_eq_false_iff_not, Bool.not_eq_false', decide_eq_true_eq] at h
        obtain ⟨⟨⟨⟨h1, h2⟩, h3⟩, h4⟩, h5⟩ := h
        cases hz : (consOf d t)[c.toNat]? with
        | none => rw [hz] at h5; cases h5
        | some z =>
          rw [hz] at h5
          simp only [Bool.and_eq_true, decide_eq_true_eq] at h5
          exact .inr (.inr ⟨k1, h1, h2, c.toNat, z, by omega, hz, h5.1, fitR_of_L h5.1 h5.2⟩)
      · rw [if_neg k1] at h; cases h
theorem spF_fit {d : List Dt} {t : Int} {ts : List Int} {i : Nat} {r r' : List Pt} (hf : fitR d (t :: ts) r = true) (h : spF (i : Int) (fldsOf d t i).length r = some r') : fitR d (fldsOf d t i ++ ts) r' = true := by
  cases r with
  | nil => cases h
  | cons p s =>
    simp only [fitR, Bool.and_eq_true] at hf
    obtain ⟨k, c', m, qs⟩ := p
    simp only [spF] at h
    split at h
    · cases h; exact fitR_app (fitR_wild d _) hf.2
    · split at h
      · rename_i hk
        cases h
        rcases fits_cases hf.1 with h1 | h1 | ⟨_, _, _, j, z, e, hz, _, hR⟩
        · omega
        · omega
        · have : j = i := by omega
          subst this
          unfold fldsOf
          rw [hz]
          exact fitR_app hR hf.2
      · cases h
theorem restF_fit {d : List Dt} {t : Int} {ts : List Int} {keep : Pt → Bool} {r r' : List Pt} (hf : fitR d (t :: ts) r = true) (h : restF keep r = some r') : fitR d ts r' = true := by
  cases r with
  | nil => cases h
  | cons p s =>
    simp only [fitR, Bool.and_eq_true] at hf
    simp only [restF] at h
    split at h
    · cases h; exact hf.2
    · cases h
def fitM (d : List Dt) (ts : List Int) (l : List (List Pt)) : Prop := ∀ r, r ∈ l → fitR d ts r = true
theorem spS_fit {d : List Dt} {t : Int} {ts : List Int} {l : List (List Pt)} (i : Nat) (h : fitM d (t :: ts) l) : fitM d (fldsOf d t i ++ ts) (spS (i : Int) (fldsOf d t i).length l) := by
  intro r hr
  obtain ⟨q, hq, hs⟩ := List.mem_filterMap.1 hr
  exact spF_fit (h q hq) hs
theorem restS_fit {d : List Dt} {t : Int} {ts : List Int} {l : List (List Pt)} (keep : Pt → Bool) (h : fitM d (t :: ts) l) : fitM d ts (restS keep l) := by
  intro r hr
  obtain ⟨q, hq, hs⟩ := List.mem_filterMap.1 hr
  exact restF_fit (h q hq) hs
/-- Whether a row is useful. -/
def usS (d : List Dt) : Nat → List Int → List (List Pt) → List Pt → Bool
  | 0, _, _, _ => false
  | _ + 1, [], rows, _ => decide (rows.length = 0)
  | k + 1, t :: ts, rows, .mk kd c m qs :: r =>
    if kd = 1 then usS d k (fldsOf d t c.toNat ++ ts) (spS c qs.length rows) (qs ++ r)
    else if kd = 2 then usS d k ts (restS (fun q => wildP q || decide (nmP q = m)) rows) r
    else if t = 0 ∨ (consS rows).length < (consOf d t).length then usS d k ts (restS wildP rows) r
    else (List.range (consOf d t).length).any fun i => usS d k (fldsOf d t i ++ ts) (spS (i : Int) (fldsOf d t i).length rows) (List.replicate (fldsOf d t i).length wildT ++ r)
  | _ + 1, _ :: _, _, [] => false
-- wz, opX, intBin, ↓reduceIte, simprocAttr
end Zc27
end
section
set_option linter.unusedSimpArgs false
set_option linter.unusedVariables false
set_option linter.unusedSimpArgs false
set_option maxHeartbeats 4000000
namespace Zc27
open Go Zv Zs

theorem addI_mem {s : List Int} {c x : Int} : x ∈ addI s c ↔ x ∈ s ∨ x = c := by
  unfold addI
  split
  · rename_i h
    constructor
    · exact .inl
    · rintro (h' | rfl)
      · exact h'
      · exact h
  · simp
theorem addI_nodup {s : List Int} (c : Int) (h : s.Nodup) : (addI s c).Nodup := by
  unfold addI
  split
  · exact h
  · rename_i hc
    rw [List.nodup_append]
    exact ⟨h, by simp, fun a ha b hb => by simp at hb; subst hb; intro e; subst e; exact hc ha⟩
theorem cG_nodup {A : List Int} (r : List Pt) (h : A.Nodup) : (cG A r).Nodup := by
  unfold cG
  split
  · exact h
  · split
    · exact addI_nodup _ h
    · exact h
theorem foldc_nodup : ∀ (l : List (List Pt)) (A : List Int), A.Nodup → (l.foldl cG A).Nodup
  | [], A, h => h
  | r :: l, A, h => foldc_nodup l _ (cG_nodup r h)
theorem consS_nodup (l : List (List Pt)) : (consS l).Nodup := foldc_nodup l [] List.nodup_nil
theorem foldc_mem (c : Int) : ∀ (l : List (List Pt)) (A : List Int), c ∈ l.foldl cG A ↔ c ∈ A ∨ ∃ p s, (p :: s) ∈ l ∧ kdP p = 1 ∧ cnP p = c
  | [], A => by simp
  | r :: l, A => by
    rw [List.foldl_cons, foldc_mem c l]
    cases r with
    | nil =>
      show (c ∈ A ∨ _) ↔ _
      simp
    | cons q s =>
      show (c ∈ (if kdP q = 1 then addI A (cnP q) else A) ∨ _) ↔ _
      by_cases k1 : kdP q = 1
      · rw [if_pos k1, addI_mem]
        constructor
        · rintro ((h | h) | ⟨p, s', h1, h2, h3⟩)
          · exact .inl h
          · exact .inr ⟨q, s, List.mem_cons_self, k1, h.symm⟩
          · exact .inr ⟨p, s', List.mem_cons_of_mem _ h1, h2, h3⟩
        · rintro (h | ⟨p, s', h1, h2, h3⟩)
          · exact .inl (.inl h)
          · rcases List.mem_cons.1 h1 with e | h1
            · cases e; exact .inl (.inr h3.symm)
            · exact .inr ⟨p, s', h1, h2, h3⟩
      · rw [if_neg k1]
        constructor
        · rintro (h | ⟨p, s', h1, h2, h3⟩)
          · exact .inl h
          · exact .inr ⟨p, s', List.mem_cons_of_mem _ h1, h2, h3⟩
        · rintro (h | ⟨p, s', h1, h2, h3⟩)
          · exact .inl h
          · rcases List.mem_cons.1 h1 with e | h1
            · cases e; exact absurd h2 k1
            · exact .inr ⟨p, s', h1, h2, h3⟩
theorem consS_mem (c : Int) (l : List (List Pt)) : c ∈ consS l ↔ ∃ p s, (p :: s) ∈ l ∧ kdP p = 1 ∧ cnP p = c := by
  rw [consS, foldc_mem]; simp
theorem sub_len {α : Type} [DecidableEq α] : ∀ (s t : List α), s.Nodup → (∀ x, x ∈ s → x ∈ t) → s.length ≤ t.length
  | [], _, _, _ => Nat.zero_le _
  | x :: s, t, hn, hs => by
    rw [List.nodup_cons] at hn
    have hx := hs x List.mem_cons_self
    have := sub_len s (t.erase x) hn.2 (fun y hy => (List.mem_erase_of_ne (fun (e : y = x) => hn.1 (e ▸ hy))).2 (hs y (List.mem_cons_of_mem x hy)))
    rw [List.length_erase_of_mem hx] at this
    have := List.length_pos_of_mem hx
    rw [List.length_cons]; omega
/-- As many as there are: all. -/
theorem cons_all {s : List Int} {K : Nat} (hn : s.Nodup) (hr : ∀ c, c ∈ s → ∃ i : Nat, c = (i : Int) ∧ i < K) (hk : K ≤ s.length) {i : Nat} (hi : i < K) : (i : Int) ∈ s := by
  refine Decidable.byContradiction fun hc => ?_
  have := sub_len s (((List.range K).map fun j : Nat => (j : Int)).erase (i : Int)) hn (fun x hx => by
    obtain ⟨j, rfl, hj⟩ := hr x hx
    refine (List.mem_erase_of_ne (fun (e : (j : Int) = (i : Int)) => hc (e ▸ hx))).2 (List.mem_map.2 ⟨j, List.mem_range.2 hj, rfl⟩))
  rw [List.length_erase_of_mem (List.mem_map.2 ⟨i, List.mem_range.2 hi, rfl⟩), List.length_map, List.length_range] at this
  omega
theorem consS_rng {d : List Dt} {t : Int} {ts : List Int} {l : List (List Pt)} (h : fitM d (t :: ts) l) : ∀ c, c ∈ consS l → ∃ i : Nat, c = (i : Int) ∧ i < (consOf d t).length := by
  intro c hc
  obtain ⟨p, s, hm, k1, rfl⟩ := (consS_mem c l).1 hc
  have := h _ hm
  simp only [fitR, Bool.and_eq_true] at this
  obtain ⟨k, c', m, qs⟩ := p
  simp only [kdP] at k1
  rcases fits_cases this.1 with h1 | h1 | ⟨_, _, _, i, z, e, hz, _⟩
  · omega
  · omega
  · exact ⟨i, e, (List.getElem?_eq_some_iff.1 hz).1⟩
theorem consS_le {d : List Dt} {t : Int} {ts : List Int} {l : List (List Pt)} (h : fitM d (t :: ts) l) : (consS l).length ≤ (consOf d t).length := by
  have := sub_len (consS l) ((List.range (consOf d t).length).map fun j : Nat => (j : Int)) (consS_nodup l) (fun x hx => by
    obtain ⟨j, rfl, hj⟩ := consS_rng h x hx
    exact List.mem_map.2 ⟨j, List.mem_range.2 hj, rfl⟩)
  simpa using this
/-- Weights go down where a column is complete. -/
theorem spS_down {d : List Dt} {t : Int} {ts : List Int} {l : List (List Pt)} (h : fitM d (t :: ts) l) (hk : (consOf d t).length ≤ (consS l).length) {i : Nat} (hi : i < (consOf d t).length) (n : Nat) : nwS (spS (i : Int) n l) + 1 ≤ nwS l :=
  spS_nw1 _ _ _ ((consS_mem _ l).1 (cons_all (consS_nodup l) (consS_rng h) hk hi))

/-! ### The heads of the reference -/
theorem kdP_mk (k c n : Int) (qs : List Pt) : kdP (.mk k c n qs) = k := rfl
theorem cnP_mk (k c n : Int) (qs : List Pt) : cnP (.mk k c n qs) = c := rfl
theorem nmP_mk (k c n : Int) (qs : List Pt) : nmP (.mk k c n qs) = n := rfl
theorem cG_mk (A : List Int) (k c n : Int) (qs s : List Pt) : cG A (.mk k c n qs :: s) = if k = 1 then addI A c else A := rfl
theorem hdG_mk (H : List Pt) (k c n : Int) (qs s : List Pt) : hdG H (.mk k c n qs :: s) = if (decide (k = 0) || H.any fun q => sameP q (.mk k c n qs)) = true then none else some (.mk k c n qs) := rfl
theorem sameP_mk (q : Pt) (k c n : Int) (qs : List Pt) : sameP q (.mk k c n qs) = (decide (kdP q = k) && decide (cnP q = c) && decide (nmP q = n)) := rfl
theorem foldh {d : List Dt} {t : Int} (ht : t ≠ 0) : ∀ (l : List (List Pt)) (H : List Pt) (A : List Int), (∀ r, r ∈ l → ∃ p s, r = p :: s ∧ fitsP d t p = true) → (∀ p, p ∈ H → kdP p = 1 ∧ nmP p = 0) → A = H.map cnP →
    (l.foldl cG A) = (l.foldl (accG hdG) H).map cnP ∧ ∀ p, p ∈ l.foldl (accG hdG) H → kdP p = 1 ∧ nmP p = 0
  | [], H, A, _, hH, hA => ⟨hA, hH⟩
  | r :: l, H, A, hl, hH, hA => by
    obtain ⟨p, s, rfl, hf⟩ := hl r List.mem_cons_self
    rw [List.foldl_cons, List.foldl_cons]
    have key : cG A (p :: s) = (accG hdG H (p :: s)).map cnP ∧ ∀ q, q ∈ accG hdG H (p :: s) → kdP q = 1 ∧ nmP q = 0 := by
      obtain ⟨k, c, m, qs⟩ := p
      rcases fits_cases hf with ⟨k0, _⟩ | ⟨_, h0, _⟩ | ⟨k1, _, m0, _⟩
      · subst k0
        rw [cG_mk, accG, hdG_mk, if_neg (by decide), if_pos (by simp)]
        exact ⟨hA, hH⟩
      · exact absurd h0 ht
      · subst k1; subst m0
        have e : (H.any fun q => sameP q (.mk 1 c 0 qs)) = decide (c ∈ A) := by
          rw [hA, Bool.eq_iff_iff, List.any_eq_true, decide_eq_true_eq, List.mem_map]
          constructor
          · rintro ⟨q, hq, hs⟩
            rw [sameP_mk, Bool.and_eq_true, Bool.and_eq_true, decide_eq_true_eq, decide_eq_true_eq, decide_eq_true_eq] at hs
            exact ⟨q, hq, hs.1.2⟩
          · rintro ⟨q, hq, hs⟩
            refine ⟨q, hq, ?_⟩
            rw [sameP_mk, Bool.and_eq_true, Bool.and_eq_true, decide_eq_true_eq, decide_eq_true_eq, decide_eq_true_eq]
            have := hH q hq
            exact ⟨⟨this.1, hs⟩, this.2⟩
        rw [cG_mk, accG, hdG_mk, e, if_pos rfl, addI]
        by_cases hc : c ∈ A
        · rw [if_pos hc, decide_eq_true hc, if_pos (by simp)]
          exact ⟨hA, hH⟩
        · rw [if_neg hc, decide_eq_false hc, if_neg (by simp)]
          refine ⟨by simp [hA, cnP_mk], ?_⟩
          intro q hq
          rcases List.mem_append.1 hq with hq | hq
          · exact hH q hq
          · rw [List.mem_singleton.1 hq]; exact ⟨rfl, rfl⟩
    exact foldh ht l _ _ (fun r hr => hl r (List.mem_cons_of_mem _ hr)) key.2 key.1
theorem heads_len {d : List Dt} {t : Int} {ts : List Int} {l : List (List Pt)} (ht : t ≠ 0) (h : fitM d (t :: ts) l) : (headsS l).length = (consS l).length := by
  have := (foldh (d := d) ht l [] [] (fun r hr => by
    have := h r hr
    cases r with
    | nil => cases this
    | cons p s => simp only [fitR, Bool.and_eq_true] at this; exact ⟨p, s, rfl, this.1⟩) (by simp) rfl).1
  unfold headsS accL consS
  rw [this, List.length_map]
-- wz, opX, intBin, ↓reduceIte, simprocAttr
end Zc27
end
section
set_option linter.unusedSimpArgs false
set_option linter.unusedVariables false
set_option linter.unusedSimpArgs false
set_option maxHeartbeats 4000000
namespace Zc27
open Go Zv Zs

theorem wild_ok (p : Pt) (h : Hp) : callW tab 81 [.d (ePt p)] h = some (.d (.bool (wildP p)), h) := by
  refine call_wp (fn := f81) rfl rfl ?_
  (simp only [e81, pts, ePt_k, ibeq, wildP, wz, opX, intBin, ↓reduceIte, simprocAttr] <;> repeat' (first | refine wpG_s ?_ ?_ | refine wpC_s ?_ ?_) <;> intro hgo <;> (try simp only [dq] at hgo) <;> simp only [hgo, e81, pts, ePt_k, ibeq, wildP, wz, opX, intBin, ↓reduceIte, simprocAttr])
def numP (a : Pt) (q : Pt) : Bool := wildP q || decide (nmP q = nmP a)
theorem num_ok (a p : Pt) (h : Hp) : callW tab 80 [.d (ePt p), .fp (ePt a) 0] h = some (.d (.bool (numP a p)), h) := by
  refine call_wp (fn := f80) rfl rfl ?_
  have hw := fun h => wild_ok p h
  unfold numP
  cases hk : wildP p <;> (simp only [e80, pts, ePt_2, ibeq, hw, hk, Bool.true_or, Bool.false_or, wz, opX, intBin, ↓reduceIte, simprocAttr] <;> repeat' (first | refine wpG_s ?_ ?_ | refine wpC_s ?_ ?_) <;> intro hgo <;> (try simp only [dq] at hgo) <;> simp only [hgo, e80, pts, ePt_2, ibeq, hw, hk, Bool.true_or, Bool.false_or, wz, opX, intBin, ↓reduceIte, simprocAttr])
theorem matrices_ok (a b c : D) (ha : a.cells.length = 1) (hb : b.cells.length = 1) (hc : c.cells.length = 1) (h : Hp) : callW tab 83 [.d a, .d b, .d c] h = some (.clo 98 [.fp a 0, .fp b 0, .fp c 0], ⟨h.objs, h.next + 3⟩) := by
  refine call_wp (fn := f83) rfl rfl ?_
  (simp only [e83, ha, hb, hc, wz, opX, intBin, ↓reduceIte, simprocAttr] <;> repeat' (first | refine wpG_s ?_ ?_ | refine wpC_s ?_ ?_) <;> intro hgo <;> (try simp only [dq] at hgo) <;> simp only [hgo, e83, ha, hb, hc, wz, opX, intBin, ↓reduceIte, simprocAttr])

/-! ### A round over the constructors -/
section
variable (o : List (Nat × Ob)) (H : Nat) (A B : List Int) (e0 : List (Nat × V))
/-- The heap within the range: its record, the maps of the heads, the variable for the answer. -/
def HU (b : Bool) (s : Option Ex) (q : Nat) : Hp := ⟨(H + 10, .lp 704 e0 s) :: (H + 6, .mp (kvB B)) :: (H + 5, .mp (kvB A)) :: (H + 3, .arr 1 [.d (.bool b)]) :: o, q⟩
theorem HU_get (b s q) : (HU o H A B e0 b s q).get (H + 10) = some (.lp 704 e0 s) := by
  unfold HU Hp.get; simp [Zv.look]
theorem HU_set (b s s' q) : (HU o H A B e0 b s q).set (H + 10) (.lp 704 e0 s') = HU o H A B e0 b s' q := by
  unfold HU Hp.set; simp [upd]
theorem HU_row (b s q) : (HU o H A B e0 b s q).row (H + 3) 1 = some (1, [.d (.bool b)]) := by
  unfold HU Hp.row Hp.get; simp [Zv.look]
theorem HU_st (b c s q) : st 1 (HU o H A B e0 b s q) (.ptr (H + 3) 1 0 0) (.d (.bool c)) = some (HU o H A B e0 c s q) := by
  unfold st
  simp only [HU_row, Option.bind_some]
  simp [HU, Hp.set, upd, V.cells, stor, D.cells]
end
theorem round_ok {d : List Dt} {n i : Nat} {y : Dt} {z : Cn} (hy : d[n]? = some y) (hz : y.cons[i]? = some z) (hd : d.length < 2 ^ 60) (hf : z.flds.length ≤ 8) {ts : List Int} (hl : ts.length ≤ 10000) {p : Pt} {r : List Pt} (hr : r.length ≤ 10000) {m : List (List Pt)} {u : Bool}
    (hu : ∀ h, callW tab 44 [.d (eDs d), .d (eIs (z.flds ++ ts)), .d (eRs m), .d (ePs (List.replicate z.flds.length wildT ++ r))] h = some (.d (.bool u), h)) (o : List (Nat × Ob)) (H : Nat) (A B : List Int) (cl : V) (q : Nat) :
    let e0 : List (Nat × V) := [(4, .fp (eDs d) 0), (5, .fp (eIs (((n : Int) + 1) :: ts)) 0), (7, .fp (ePs (p :: r)) 0), (8, .ptr (H + 3) 1 0 0), (92, cl)]
    cW tab (.yld (H + 10)) [.d (eI (i : Int)), .d (eRs m)] (HU o H A B e0 false none q) = some (.d (.bool (!u)), HU o H A B e0 u (if u = true then some .ret else none) q) := by
  intro e0
  have hn := (List.getElem?_eq_some_iff.1 hy).1
  have hw := wrap_sub1 (n := n) (by omega)
  have hun : ∀ h, callW tab 76 [.d (eDs d), .d (.lst (eI ((n : Int) + 1) :: ts.map eI)), .d (eI (i : Int))] h = some (.d (eIs (z.flds ++ ts)), h) := fun h => under_ok hy hz hd ts hf hl h
  have hia : ia 1 (.d (.lst (eI ((n : Int) + 1) :: ts.map eI))) (.d (.int .i64 0)) = some (.fp (eI ((n : Int) + 1)) 0) := iaI0 _ _
  have h1 := mkslP (n := z.flds.length) (by omega)
  have h2 := appd_tl (es := 4) (b := 48) (l := (List.replicate z.flds.length wildT).map ePt) (r := r.map ePt) (nl := some false) ptcells ptcells (by simp only [List.length_map, List.length_replicate, roomB]; omega)
  rw [← List.map_append] at h2
  have hbody : ex tab d44q0 [(4, .fp (eDs d) 0), (5, .fp (eIs (((n : Int) + 1) :: ts)) 0), (7, .fp (ePs (p :: r)) 0), (8, .ptr (H + 3) 1 0 0), (12, .d (eI (i : Int))), (13, .d (eRs m))] (HU o H A B e0 false (some .norm) q) =
      some (if u = true then .ret else .norm, if u = true then [(8, .ptr (H + 3) 1 0 0)] else [(8, .ptr (H + 3) 1 0 0), (118, .d (.bool false))], HU o H A B e0 u (some .norm) q) := by
    unfold d44q0
    apply wq_ex.1
    have hst := HU_st o H A B e0 false true (some .norm) q
    cases u <;> (simp only [e44, hw, iaI0, hia, slcP', slcP, hun, h1, h2, iaD hy, iaC hz, hu, hst, wz, opX, intBin, ↓reduceIte, simprocAttr] <;> repeat' (first | refine wpG_s ?_ ?_ | refine wpC_s ?_ ?_) <;> intro hgo <;> (try simp only [dq] at hgo) <;> simp only [hgo, e44, hw, iaI0, hia, slcP', slcP, hun, h1, h2, iaD hy, iaC hz, hu, hst, wz, opX, intBin, ↓reduceIte, simprocAttr])
  have := cW_yld (T := tab) (n := H + 10) (b := 704) (e := e0) (vs := [.d (eI (i : Int)), .d (eRs m)]) (h := HU o H A B e0 false none q) (fn := f1000704) (asg := a44q0) (bdy := d44q0) (e1 := [(4, .fp (eDs d) 0), (5, .fp (eIs (((n : Int) + 1) :: ts)) 0), (7, .fp (ePs (p :: r)) 0), (8, .ptr (H + 3) 1 0 0), (12, .d (eI (i : Int))), (13, .d (eRs m))]) (h1 := HU o H A B e0 false none q) (b' := 704) (e' := e0)
    (HU_get ..) rfl rfl rfl (by unfold a44q0; apply wq_ex.1; (simp only [e44, binds, f1000704, wz, opX, intBin, ↓reduceIte, simprocAttr] <;> repeat' (first | refine wpG_s ?_ ?_ | refine wpC_s ?_ ?_) <;> intro hgo <;> (try simp only [dq] at hgo) <;> simp only [hgo, e44, binds, f1000704, wz, opX, intBin, ↓reduceIte, simprocAttr]); rfl) (HU_get ..) (by rw [HU_set]; exact hbody)
  rw [this]
  unfold rndEnd
  simp only [HU_get]
  cases u <;> simp [HU_set] <;> rfl
theorem HU_mk (o : List (Nat × Ob)) (H : Nat) (A B : List Int) (e0 : List (Nat × V)) (b : Bool) (s : Option Ex) (q q' : Nat) : (⟨(HU o H A B e0 b s q).objs, q'⟩ : Hp) = HU o H A B e0 b s q' := rfl
theorem HU_next (o : List (Nat × Ob)) (H : Nat) (A B : List Int) (e0 : List (Nat × V)) (b : Bool) (s : Option Ex) (q : Nat) : (HU o H A B e0 b s q).next = q := rfl
/-- The range over the constructors. -/
theorem range_ok {d : List Dt} {n : Nat} {y : Dt} (hy : d[n]? = some y) (hd : d.length < 2 ^ 60) (hK : y.cons.length ≤ 8) (hf : ∀ z, z ∈ y.cons → z.flds.length ≤ 8) {ts : List Int} (hts : ts.length ≤ 10000) {p : Pt} {r : List Pt} (hr : r.length ≤ 10000)
    (l : List (List Pt)) (hl : l.length ≤ 1000) (hlr : ∀ r, r ∈ l → r ≠ [] ∧ r.length ≤ 10000 ∧ ∀ p, p ∈ r → (argsP p).length ≤ 10000) {u : Nat → Bool}
    (hu : ∀ (i : Nat) (z : Cn), y.cons[i]? = some z → ∀ h, callW tab 44 [.d (eDs d), .d (eIs (z.flds ++ ts)), .d (eRs (spS (i : Int) z.flds.length l)), .d (ePs (List.replicate z.flds.length wildT ++ r))] h = some (.d (.bool (u i)), h)) (o : List (Nat × Ob)) (H : Nat) (A B : List Int) :
    let cl : V := .clo 98 [.fp (eDs d) 0, .fp (eIs (((n : Int) + 1) :: ts)) 0, .fp (eRs l) 0]
    let e0 : List (Nat × V) := [(4, .fp (eDs d) 0), (5, .fp (eIs (((n : Int) + 1) :: ts)) 0), (7, .fp (ePs (p :: r)) 0), (8, .ptr (H + 3) 1 0 0), (92, cl)]
    ∃ q, callW tab 98 [.yld (H + 10), .fp (eDs d) 0, .fp (eIs (((n : Int) + 1) :: ts)) 0, .fp (eRs l) 0] (HU o H A B e0 false none (H + 11)) = some (.tup [], HU o H A B e0 ((List.range y.cons.length).any u) (if (List.range y.cons.length).any u = true then some .ret else none) q) := by
  intro cl e0
  have hn := (List.getElem?_eq_some_iff.1 hy).1
  have hw := wrap_sub1 (n := n) (by omega)
  have hia : ia 1 (.d (.lst (eI ((n : Int) + 1) :: ts.map eI))) (.d (.int .i64 0)) = some (.fp (eI ((n : Int) + 1)) 0) := iaI0 _ _
  obtain ⟨e, q', hq, hloop⟩ := loop_anyO (T := tab) (a := f98l0) (K := y.cons.length) (p := u) (f := fun i => [(0, .yld (H + 10)), (3, .fp (eRs l) 0), (14, .d (.lst (y.cons.map eC))), (15, .d (.int .i64 (y.cons.length : Int))), (16, .d (.int .i64 (i : Int)))]) (O := (HU o H A B e0 false none 0).objs) (O2 := (HU o H A B e0 true (some .ret) 0).objs) (x1 := .ret) (x2 := .exit 0) (e2 := [(0, .yld (H + 10)), (3, .fp (eRs l) 0), (14, .d (.lst (y.cons.map eC))), (15, .d (.int .i64 (y.cons.length : Int))), (16, .d (.int .i64 (y.cons.length : Int))), (17, .d (.bool false))]) (q0 := H + 11)
    (by
      intro q i hi hp
      obtain ⟨z, hz⟩ := get_of_lt (l := y.cons) (n := i) hi
      have hzf := hf z (List.mem_of_getElem? hz)
      have hround : ∀ q, cW tab (.yld (H + 10)) [.d (eI (i : Int)), .d (eRs (spS (i : Int) z.flds.length l))] (HU o H A B e0 false none q) = some (.d (.bool (!u i)), HU o H A B e0 (u i) (if u i = true then some .ret else none) q) := fun q => round_ok (p := p) hy hz hd hzf hts hr (hu i z hz) o H A B cl q
      have hsp := fun h => special_ok (i : Int) z.flds.length (by omega) l hl hlr h
      simp only [hp] at hround
      (simp only [hi, e98, iaC hz, hsp, hround, HU_mk, HU_next, wrap_succ (show i < 2 ^ 62 by omega), wz, opX, intBin, ↓reduceIte, simprocAttr] <;> repeat' (first | refine wpG_s ?_ ?_ | refine wpC_s ?_ ?_) <;> intro hgo <;> (try simp only [dq] at hgo) <;> simp only [hgo, hi, e98, iaC hz, hsp, hround, HU_mk, HU_next, wrap_succ (show i < 2 ^ 62 by omega), wz, opX, intBin, ↓reduceIte, simprocAttr])
      exact ⟨_, rfl, by omega⟩)
    (by
      intro q i hi hp
      obtain ⟨z, hz⟩ := get_of_lt (l := y.cons) (n := i) hi
      have hzf := hf z (List.mem_of_getElem? hz)
      have hround : ∀ q, cW tab (.yld (H + 10)) [.d (eI (i : Int)), .d (eRs (spS (i : Int) z.flds.length l))] (HU o H A B e0 false none q) = some (.d (.bool (!u i)), HU o H A B e0 (u i) (if u i = true then some .ret else none) q) := fun q => round_ok (p := p) hy hz hd hzf hts hr (hu i z hz) o H A B cl q
      have hsp := fun h => special_ok (i : Int) z.flds.length (by omega) l hl hlr h
      simp only [hp] at hround
      (simp only [hi, e98, iaC hz, hsp, hround, HU_mk, HU_next, wrap_succ (show i < 2 ^ 62 by omega), wz, opX, intBin, ↓reduceIte, simprocAttr] <;> repeat' (first | refine wpG_s ?_ ?_ | refine wpC_s ?_ ?_) <;> intro hgo <;> (try simp only [dq] at hgo) <;> simp only [hgo, hi, e98, iaC hz, hsp, hround, HU_mk, HU_next, wrap_succ (show i < 2 ^ 62 by omega), wz, opX, intBin, ↓reduceIte, simprocAttr])
      exact ⟨_, _, ⟨rfl, rfl⟩, by omega⟩)
    (by
      intro q
      (simp only [e98, HU_mk, wz, opX, intBin, ↓reduceIte, simprocAttr] <;> repeat' (first | refine wpG_s ?_ ?_ | refine wpC_s ?_ ?_) <;> intro hgo <;> (try simp only [dq] at hgo) <;> simp only [hgo, e98, HU_mk, wz, opX, intBin, ↓reduceIte, simprocAttr])
      exact ⟨_, rfl, by omega⟩)
    (by simp) (by simp)
  refine ⟨q', call_wp (fn := f98) rfl rfl ?_⟩
  simp only [HU_mk, Int.cast_ofNat_Int] at hloop
  cases hany : (List.range y.cons.length).any u with
  | false =>
    rw [hany] at hloop
    simp only [Bool.false_eq_true, if_false] at hloop
    (simp only [e98, hw, iaI0, hia, iaD hy, HU_mk, wq_of hloop, wz, opX, intBin, ↓reduceIte, simprocAttr] <;> repeat' (first | refine wpG_s ?_ ?_ | refine wpC_s ?_ ?_) <;> intro hgo <;> (try simp only [dq] at hgo) <;> simp only [hgo, e98, hw, iaI0, hia, iaD hy, HU_mk, wq_of hloop, wz, opX, intBin, ↓reduceIte, simprocAttr])
  | true =>
    rw [hany] at hloop
    simp only [if_true] at hloop
    (simp only [e98, hw, iaI0, hia, iaD hy, HU_mk, wq_of hloop, wz, opX, intBin, ↓reduceIte, simprocAttr] <;> repeat' (first | refine wpG_s ?_ ?_ | refine wpC_s ?_ ?_) <;> intro hgo <;> (try simp only [dq] at hgo) <;> simp only [hgo, e98, hw, iaI0, hia, iaD hy, HU_mk, wq_of hloop, wz, opX, intBin, ↓reduceIte, simprocAttr])
-- wz, opX, intBin, ↓reduceIte, simprocAttr
end Zc27
end
section
set_option linter.unusedSimpArgs false
set_option linter.unusedVariables false
set_option linter.unusedSimpArgs false
set_option maxHeartbeats 4000000
namespace Zc27
open Go Zv Zs

section
variable (o : List (Nat × Ob)) (H : Nat) (A B : List Int)
/-- The heap behind the heads. -/
def HV (b : Bool) (q : Nat) : Hp := ⟨(H + 6, .mp (kvB B)) :: (H + 5, .mp (kvB A)) :: (H + 3, .arr 1 [.d (.bool b)]) :: o, q⟩
theorem HV_mk (b q q') : (⟨(HV o H A B b q).objs, q'⟩ : Hp) = HV o H A B b q' := rfl
theorem HV_next (b q) : (HV o H A B b q).next = q := rfl
theorem HV_of (b) : HM2 ((H + 3, .arr 1 [.d (.bool b)]) :: o) (H + 5) A B = HV o H A B b (H + 7) := rfl
theorem HV_len (b q) : lenM (HV o H A B b q) (.map (H + 5)) = some (.d (.int .i64 (A.length : Int))) := by
  unfold lenM entries HV Hp.get
  simp [Zv.look, kvB, int]
theorem HV_row (b q) : (HV o H A B b q).row (H + 3) 1 = some (1, [.d (.bool b)]) := by
  unfold HV Hp.row Hp.get; simp [Zv.look]
theorem HV_st (b c q) : st 1 (HV o H A B b q) (.ptr (H + 3) 1 0 0) (.d (.bool c)) = some (HV o H A B c q) := by
  unfold st
  simp only [HV_row, Option.bind_some]
  simp [HV, Hp.set, upd, V.cells, stor, D.cells]
theorem HV_ld (b q) : ld false 1 (HV o H A B b q) (.ptr (H + 3) 1 0 0) = some (.d (.bool b)) := by
  unfold ld
  simp only [HV_row, Option.bind_some]
  rfl
theorem HU_kill (e0 : List (Nat × V)) (b s q) : (HU o H A B e0 b s q).kill (H + 10) = HV o H A B b q := by
  unfold HU HV Hp.kill; simp [del]
end
theorem HV_fin (h : Hp) (A B : List Int) (b : Bool) (q : Nat) (x : D) : finS h (HV h.objs h.next A B b q) [.d x] = some (.d x, h) := by
  refine finS_suf (vs := [x]) ?_
  exact suf_app [_, _, _] h.objs
theorem frz_4 (n es nx : Nat) (o1 o2 o3 : Ob) (x : D) (l : List (Nat × Ob)) : Zv.frz ⟨(n + 1 + 1 + 1, o3) :: (n + 1 + 1, o2) :: (n + 1, o1) :: (n, .arr es [.d x]) :: l, nx⟩ (.ptr n 1 0 0) = some (.fp x 0, ⟨(n + 1 + 1 + 1, o3) :: (n + 1 + 1, o2) :: (n + 1, o1) :: l, nx⟩) := by
  have hr : Hp.row ⟨(n + 1 + 1 + 1, o3) :: (n + 1 + 1, o2) :: (n + 1, o1) :: (n, .arr es [.d x]) :: l, nx⟩ n 1 = some (es, [.d x]) := by
    unfold Hp.row Hp.get; simp [Zv.look, Nat.add_assoc]
  simp only [Zv.frz, hr, Option.bind_some, List.getElem?_cons_zero, Option.map_some, toD]
  simp [Hp.kill, del, Nat.add_assoc]
theorem frz_3 (n es nx : Nat) (o1 o2 : Ob) (x : D) (l : List (Nat × Ob)) : Zv.frz ⟨(n + 1 + 1, o2) :: (n + 1, o1) :: (n, .arr es [.d x]) :: l, nx⟩ (.ptr n 1 0 0) = some (.fp x 0, ⟨(n + 1 + 1, o2) :: (n + 1, o1) :: l, nx⟩) := by
  have hr : Hp.row ⟨(n + 1 + 1, o2) :: (n + 1, o1) :: (n, .arr es [.d x]) :: l, nx⟩ n 1 = some (es, [.d x]) := by
    unfold Hp.row Hp.get; simp [Zv.look, Nat.add_assoc]
  simp only [Zv.frz, hr, Option.bind_some, List.getElem?_cons_zero, Option.map_some, toD]
  simp [Hp.kill, del, Nat.add_assoc]
theorem use_r0 (a b c x : D) (ha : a.cells.length = 1) (hb : b.cells.length = 1) (hx : x.cells.length = 1) (h : Hp) :
    ex tab f44r0 (args 0 [.d a, .d b, .d c, .d x]) h = some (.norm, [(2, .d c), (4, .fp a 0), (5, .fp b 0), (7, .fp x 0), (8, .ptr (h.next + 3) 1 0 0)], ⟨(h.next + 3, .arr 1 [.d (.bool false)]) :: h.objs, h.next + 4⟩) := by
  apply wq_ex.1
  (simp only [e44, ha, hb, hx, frz_4, frz_3, wz, opX, intBin, ↓reduceIte, simprocAttr] <;> repeat' (first | refine wpG_s ?_ ?_ | refine wpC_s ?_ ?_) <;> intro hgo <;> (try simp only [dq] at hgo) <;> simp only [hgo, e44, ha, hb, hx, frz_4, frz_3, wz, opX, intBin, ↓reduceIte, simprocAttr])
theorem iaI0' (t : Int) (ts : List Int) : ia 1 (.d (.lst (eI t :: ts.map eI))) (.d (.int .i64 0)) = some (.fp (eI t) 0) := iaI0 t ts
theorem cons_sm {d : List Dt} (S : Sml d) (t : Int) : (consOf d t).length ≤ 8 ∧ ∀ z, z ∈ consOf d t → z.flds.length ≤ 8 := by
  rcases tcase d t with h0 | h0 | ⟨n, y, rfl, hy⟩
  · rw [consOf_lo h0]; exact ⟨by simp, fun z hz => by cases hz⟩
  · rw [consOf_hi h0]; exact ⟨by simp, fun z hz => by cases hz⟩
  · rw [consOf_at hy]
    have := S.ds y (List.mem_of_getElem? hy)
    exact ⟨this.2.1, fun z hz => (this.2.2 z hz).2⟩
theorem fit_args {d : List Dt} (S : Sml d) {t : Int} {p : Pt} (h : fitsP d t p = true) : (argsP p).length ≤ 8 := by
  obtain ⟨k, c, m, qs⟩ := p
  rw [argsP_mk]
  rcases fits_cases h with ⟨_, _, _, rfl⟩ | ⟨_, _, _, rfl⟩ | ⟨_, _, _, i, z, _, hz, hl, _⟩
  · simp
  · simp
  · have := (cons_sm S t).2 z (List.mem_of_getElem? hz); omega
theorem fitR_args {d : List Dt} (S : Sml d) : ∀ {ts : List Int} {r : List Pt}, fitR d ts r = true → ∀ p, p ∈ r → (argsP p).length ≤ 10000
  | _, [], _, p, hp => by cases hp
  | [], _ :: _, h, _, _ => by cases h
  | t :: ts, q :: r, h, p, hp => by
    simp only [fitR, Bool.and_eq_true] at h
    rcases List.mem_cons.1 hp with rfl | hp
    · have := fit_args S h.1; omega
    · exact fitR_args S h.2 p hp
theorem fitM_rows {d : List Dt} (S : Sml d) {t : Int} {ts : List Int} {l : List (List Pt)} (hts : ts.length ≤ 9000) (h : fitM d (t :: ts) l) : ∀ r, r ∈ l → r ≠ [] ∧ r.length ≤ 10000 ∧ ∀ p, p ∈ r → (argsP p).length ≤ 10000 := by
  intro r hr
  have hf := h r hr
  have hl := fitR_len hf
  rw [List.length_cons] at hl
  exact ⟨fun e => (by subst e; simp at hl), by omega, fitR_args S hf⟩
theorem fldsOf_at {d : List Dt} {n i : Nat} {y : Dt} {z : Cn} (hy : d[n]? = some y) (hz : y.cons[i]? = some z) : fldsOf d ((n : Int) + 1) i = z.flds := by
  unfold fldsOf; rw [consOf_at hy, hz]
theorem flds_isT {d : List Dt} (T : typedS d = true) {t : Int} {z : Cn} (hz : z ∈ consOf d t) {ts : List Int} (ht : ∀ f, f ∈ ts → isT d f = true) : ∀ f, f ∈ z.flds ++ ts → isT d f = true := by
  intro f hf
  rcases List.mem_append.1 hf with hf | hf
  · exact fld_isT27 T hz hf
  · exact ht f hf
theorem useful_ok {d : List Dt} (S : Sml d) (T : typedS d = true) : ∀ (k : Nat) (ts : List Int) (rows : List (List Pt)) (row : List Pt), 9 * (nwS rows + nwL row) + ts.length < k → 9 * (nwS rows + nwL row) + ts.length ≤ 8000 → rows.length ≤ 1000 →
    (∀ t, t ∈ ts → isT d t = true) → fitM d ts rows → fitR d ts row = true → ∀ h, callW tab 44 [.d (eDs d), .d (eIs ts), .d (eRs rows), .d (ePs row)] h = some (.d (.bool (usS d k ts rows row)), h)
  | 0, _, _, _, h, _, _, _, _, _, _ => by omega
  | k + 1, [], rows, row, _, _, hl, _, _, hR, h => by
    refine call_wp (fn := f44) rfl rfl ?_
    show wp tab (.seq f44r0 _) _ _ _
    rw [wq_seq, wq_of (use_r0 (eDs d) (eIs []) (eRs rows) (ePs row) rfl rfl rfl h)]
    have e0 : ((rows.length : Int) == 0) = decide (rows.length = 0) := by simp [ibeq]
    simp only [usS]
    (simp only [e44, ibeq, e0, wz, opX, intBin, ↓reduceIte, simprocAttr] <;> repeat' (first | refine wpG_s ?_ ?_ | refine wpC_s ?_ ?_) <;> intro hgo <;> (try simp only [dq] at hgo) <;> simp only [hgo, e44, ibeq, e0, wz, opX, intBin, ↓reduceIte, simprocAttr])
  | k + 1, t :: ts, rows, [], _, _, _, _, _, hR, _ => by cases hR
  | k + 1, t :: ts, rows, .mk kd c m qs :: r, hW, hB, hl, hT, hM, hR, h => by
    simp only [fitR, Bool.and_eq_true] at hR
    obtain ⟨hp, hR⟩ := hR
    have hts : ts.length ≤ 8000 := by rw [List.length_cons] at hB; omega
    have hrl := fitR_len hR
    have hrows := fitM_rows S (by omega) hM
    have hTt : ∀ f, f ∈ ts → isT d f = true := fun f hf => hT f (List.mem_cons_of_mem _ hf)
    rw [nwL, nwP] at hW hB
    rw [List.length_cons] at hW hB
    refine call_wp (fn := f44) rfl rfl ?_
    show wp tab (.seq f44r0 _) _ _ _
    rw [wq_seq, wq_of (use_r0 (eDs d) (eIs (t :: ts)) (eRs rows) (ePs (.mk kd c m qs :: r)) rfl rfl rfl h)]
    have hne : (((ts.length + 1 : Nat) : Int) == 0) = false := by rw [ibeq]; exact decide_eq_false (by omega)
    rcases fits_cases hp with ⟨k0, _, _, _⟩ | ⟨k2, t0, _, _⟩ | ⟨k1, t0, _, i, z, rfl, hz, hzl, hzR⟩
    · subst k0
      have hh := fun h => heads_ok rows hl (fun r hr => (hrows r hr).1) h
      have hrest := fun h => rests_ok (.clo 81 []) wildP rfl rows hl (fun r hr => (hrows r hr).1) (fun p _ _ h => by rw [cW_clo]; exact wild_ok p h) h
      have hnw := restS_nw wildP rows
      have hlen := fm_len (restF wildP) rows
      rw [if_pos rfl] at hW hB
      have hIH := useful_ok S T k ts (restS wildP rows) r (by omega) (by omega) (Nat.le_trans hlen hl) hTt (restS_fit _ hM) hR
      by_cases ht : t = 0
      · have e : usS d (k + 1) (t :: ts) rows (.mk 0 c m qs :: r) = usS d k ts (restS wildP rows) r := by
          simp [usS, ht]
        rw [e]
        (simp only [e44, hne, ht, iaI0, iaI0', iaP0, iaP0', pts, ePt_k, kdP_mk, slcT, slcT', slcP, slcP', hh, HV_of, HV_mk, HV_next, HV_len, HV_st, HV_row, HV_fin, hrest, hIH, wz, opX, intBin, ↓reduceIte, simprocAttr] <;> repeat' (first | refine wpG_s ?_ ?_ | refine wpC_s ?_ ?_) <;> intro hgo <;> (try simp only [dq] at hgo) <;> simp only [hgo, e44, hne, ht, iaI0, iaI0', iaP0, iaP0', pts, ePt_k, kdP_mk, slcT, slcT', slcP, slcP', hh, HV_of, HV_mk, HV_next, HV_len, HV_st, HV_row, HV_fin, hrest, hIH, wz, opX, intBin, ↓reduceIte, simprocAttr])
      · rcases tcase d t with h0 | h0 | ⟨n, y, rfl, hy⟩
        · exfalso; have := hT t List.mem_cons_self; simp only [isT, Bool.and_eq_true, decide_eq_true_eq] at this; omega
        · exfalso; have := hT t List.mem_cons_self; simp only [isT, Bool.and_eq_true, decide_eq_true_eq] at this; omega
        have hn := (List.getElem?_eq_some_iff.1 hy).1
        have hsl := S.len
        have hw := wrap_sub1 (n := n) (by omega)
        have hcs := cons_sm S ((n : Int) + 1)
        rw [consOf_at hy] at hcs
        by_cases hlt : (consS rows).length < y.cons.length
        · have e : usS d (k + 1) (((n : Int) + 1) :: ts) rows (.mk 0 c m qs :: r) = usS d k ts (restS wildP rows) r := by
            simp [usS, consOf_at hy, hlt]
          rw [e]
          (simp only [e44, hne, ht, ibeq, hw, hlt, iaI0, iaI0', iaD hy, iaP0, iaP0', pts, ePt_k, kdP_mk, slcT, slcT', slcP, slcP', hh, HV_of, HV_mk, HV_next, HV_len, HV_st, HV_row, HV_fin, hrest, hIH, wz, opX, intBin, ↓reduceIte, simprocAttr] <;> repeat' (first | refine wpG_s ?_ ?_ | refine wpC_s ?_ ?_) <;> intro hgo <;> (try simp only [dq] at hgo) <;> simp only [hgo, e44, hne, ht, ibeq, hw, hlt, iaI0, iaI0', iaD hy, iaP0, iaP0', pts, ePt_k, kdP_mk, slcT, slcT', slcP, slcP', hh, HV_of, HV_mk, HV_next, HV_len, HV_st, HV_row, HV_fin, hrest, hIH, wz, opX, intBin, ↓reduceIte, simprocAttr])
        · have hdown := fun i (hi : i < y.cons.length) (n' : Nat) => spS_down hM (by rw [consOf_at hy]; omega) (i := i) (by rw [consOf_at hy]; exact hi) n'
          have hu : ∀ (i : Nat) (z : Cn), y.cons[i]? = some z → ∀ h, callW tab 44 [.d (eDs d), .d (eIs (z.flds ++ ts)), .d (eRs (spS (i : Int) z.flds.length rows)), .d (ePs (List.replicate z.flds.length wildT ++ r))] h = some (.d (.bool (usS d k (fldsOf d ((n : Int) + 1) i ++ ts) (spS (i : Int) (fldsOf d ((n : Int) + 1) i).length rows) (List.replicate (fldsOf d ((n : Int) + 1) i).length wildT ++ r))), h) := by
            intro i z hz
            have hi := (List.getElem?_eq_some_iff.1 hz).1
            have hfz := fldsOf_at hy hz
            have hzm := List.mem_of_getElem? hz
            have hz8 := hcs.2 z hzm
            have hd := hdown i hi z.flds.length
            have hM' := spS_fit i hM
            rw [hfz] at hM' ⊢
            exact useful_ok S T k (z.flds ++ ts) (spS (i : Int) z.flds.length rows) (List.replicate z.flds.length wildT ++ r) (by rw [nwL_app, nwL_wild, List.length_append]; omega) (by rw [nwL_app, nwL_wild, List.length_append]; omega) (Nat.le_trans (fm_len _ _) hl)
              (flds_isT T (by rw [consOf_at hy]; exact hzm) hTt) hM' (fitR_app (fitR_wild d _) hR)
          obtain ⟨q, hq⟩ := range_ok hy (by omega) hcs.1 hcs.2 (ts := ts) (by omega) (p := .mk 0 c m qs) (r := r) (by omega) rows hl hrows hu h.objs h.next (consS rows) (numsS rows)
          have e : usS d (k + 1) (((n : Int) + 1) :: ts) rows (.mk 0 c m qs :: r) = (List.range y.cons.length).any fun i => usS d k (fldsOf d ((n : Int) + 1) i ++ ts) (spS (i : Int) (fldsOf d ((n : Int) + 1) i).length rows) (List.replicate (fldsOf d ((n : Int) + 1) i).length wildT ++ r) := by
            simp [usS, consOf_at hy, hlt, ht]
          rw [e]
          generalize ((List.range y.cons.length).any fun i => usS d k (fldsOf d ((n : Int) + 1) i ++ ts) (spS (i : Int) (fldsOf d ((n : Int) + 1) i).length rows) (List.replicate (fldsOf d ((n : Int) + 1) i).length wildT ++ r)) = u at hq
          have hmat : ∀ h, callW tab 83 [.d (eDs d), .d (.lst (eI ((n : Int) + 1) :: ts.map eI)), .d (eRs rows)] h = some (.clo 98 [.fp (eDs d) 0, .fp (eIs (((n : Int) + 1) :: ts)) 0, .fp (eRs rows) 0], ⟨h.objs, h.next + 3⟩) := fun h => matrices_ok _ _ _ rfl rfl rfl h
          have hrng : ex tab (.rng (.t 92) 704) [(4, .fp (eDs d) 0), (5, .fp (eIs (((n : Int) + 1) :: ts)) 0), (7, .fp (ePs (.mk 0 c m qs :: r)) 0), (8, .ptr (h.next + 3) 1 0 0), (92, .clo 98 [.fp (eDs d) 0, .fp (eIs (((n : Int) + 1) :: ts)) 0, .fp (eRs rows) 0])] (HV h.objs h.next (consS rows) (numsS rows) false (h.next + 10)) =
              some (if u = true then .ret else .norm, [(4, .fp (eDs d) 0), (5, .fp (eIs (((n : Int) + 1) :: ts)) 0), (7, .fp (ePs (.mk 0 c m qs :: r)) 0), (8, .ptr (h.next + 3) 1 0 0), (92, .clo 98 [.fp (eDs d) 0, .fp (eIs (((n : Int) + 1) :: ts)) 0, .fp (eRs rows) 0])], HV h.objs h.next (consS rows) (numsS rows) u q) := by
            refine ex_rng (f := 98) rfl hq ?_
            unfold rngEnd
            rw [HV_next]
            simp only [HU_get]
            cases u <;> simp [HU_kill]
          cases u <;> (simp only [if_true, if_false, Bool.false_eq_true] at hrng; (simp only [e44, hne, ht, ibeq, hw, hlt, iaI0, iaI0', iaD hy, iaP0, iaP0', pts, ePt_k, kdP_mk, hh, HV_of, HV_mk, HV_next, HV_len, HV_st, HV_row, HV_fin, hmat, wq_of hrng, wz, opX, intBin, ↓reduceIte, simprocAttr] <;> repeat' (first | refine wpG_s ?_ ?_ | refine wpC_s ?_ ?_) <;> intro hgo <;> (try simp only [dq] at hgo) <;> simp only [hgo, e44, hne, ht, ibeq, hw, hlt, iaI0, iaI0', iaD hy, iaP0, iaP0', pts, ePt_k, kdP_mk, hh, HV_of, HV_mk, HV_next, HV_len, HV_st, HV_row, HV_fin, hmat, wq_of hrng, wz, opX, intBin, ↓reduceIte, simprocAttr]))
    · subst k2
      have hrest := fun h => rests_ok (.clo 80 [.fp (ePt (.mk 2 c m qs)) 0]) (numP (.mk 2 c m qs)) rfl rows hl (fun r hr => (hrows r hr).1) (fun p _ _ h => by rw [cW_clo]; exact num_ok _ p h) h
      have hnw := restS_nw (numP (.mk 2 c m qs)) rows
      have hlen := fm_len (restF (numP (.mk 2 c m qs))) rows
      have hIH := useful_ok S T k ts (restS (numP (.mk 2 c m qs)) rows) r (by omega) (by omega) (Nat.le_trans hlen hl) hTt (restS_fit _ hM) hR
      have e : usS d (k + 1) (t :: ts) rows (.mk 2 c m qs :: r) = usS d k ts (restS (numP (.mk 2 c m qs)) rows) r := by
        simp only [usS]; rfl
      rw [e]
      (simp only [e44, hne, iaP0, iaP0', pts, ePt_k, kdP_mk, slcT, slcT', slcP, slcP', hrest, hIH, wz, opX, intBin, ↓reduceIte, simprocAttr] <;> repeat' (first | refine wpG_s ?_ ?_ | refine wpC_s ?_ ?_) <;> intro hgo <;> (try simp only [dq] at hgo) <;> simp only [hgo, e44, hne, iaP0, iaP0', pts, ePt_k, kdP_mk, slcT, slcT', slcP, slcP', hrest, hIH, wz, opX, intBin, ↓reduceIte, simprocAttr])
    · subst k1
      rcases tcase d t with h0 | h0 | ⟨n, y, rfl, hy⟩
      · rw [consOf_lo h0] at hz; cases hz
      · rw [consOf_hi h0] at hz; cases hz
      have hz' := hz
      rw [consOf_at hy] at hz'
      have hn := (List.getElem?_eq_some_iff.1 hy).1
      have hsl := S.len
      have hzm := List.mem_of_getElem? hz
      have hzf := (cons_sm S _).2 z hzm
      have hun : ∀ h, callW tab 76 [.d (eDs d), .d (.lst (eI ((n : Int) + 1) :: ts.map eI)), .d (eI (i : Int))] h = some (.d (eIs (z.flds ++ ts)), h) := fun h => under_ok hy hz' (by omega) ts hzf (by omega) h
      have hsp := fun h => special_ok (i : Int) qs.length (by omega) rows hl hrows h
      have h1 := fun h => cloneP_ok qs (by omega) h
      have h2 := fun (n : Nat) (o : List (Nat × Ob)) => clo_app (nl := none) (es := 4) (b := 48) (n := n) (o := o) (l := qs.map ePt) (r := r.map ePt) ptcells ptcells (by simp only [List.length_map, roomB]; omega)
      rw [← List.map_append] at h2
      have h3 := fun (n : Nat) (o : List (Nat × Ob)) => clo_frz (nl := none) (es := 4) (n := n) (o := o) (l := (qs ++ r).map ePt)
      have hnw := spS_nw (i : Int) qs.length rows
      have hlen := fm_len (spF (i : Int) qs.length) rows
      have hfz := fldsOf_at hy hz'
      have hM' := spS_fit i hM
      rw [hfz, hzl] at hM'
      rw [if_neg (by decide)] at hW hB
      have hIH := useful_ok S T k (z.flds ++ ts) (spS (i : Int) qs.length rows) (qs ++ r) (by rw [nwL_app, List.length_append]; omega) (by rw [nwL_app, List.length_append]; omega) (Nat.le_trans hlen hl) (flds_isT T hzm hTt) hM' (fitR_app hzR hR)
      have e : usS d (k + 1) (((n : Int) + 1) :: ts) rows (.mk 1 (i : Int) m qs :: r) = usS d k (z.flds ++ ts) (spS (i : Int) qs.length rows) (qs ++ r) := by
        simp only [usS, if_true, Int.toNat_natCast, hfz]
      rw [e]
      (simp only [e44, hne, iaP0, iaP0', pts, ePt_k, ePt_1, ePt_3, kdP_mk, cnP_mk, argsP_mk, slcT, slcT', slcP, slcP', hun, hsp, h1, h2, h3, hIH, wz, opX, intBin, ↓reduceIte, simprocAttr] <;> repeat' (first | refine wpG_s ?_ ?_ | refine wpC_s ?_ ?_) <;> intro hgo <;> (try simp only [dq] at hgo) <;> simp only [hgo, e44, hne, iaP0, iaP0', pts, ePt_k, ePt_1, ePt_3, kdP_mk, cnP_mk, argsP_mk, slcT, slcT', slcP, slcP', hun, hsp, h1, h2, h3, hIH, wz, opX, intBin, ↓reduceIte, simprocAttr])
-- wz, opX, intBin, ↓reduceIte, simprocAttr
end Zc27
end
section
set_option linter.unusedSimpArgs false
set_option linter.unusedVariables false
set_option linter.unusedSimpArgs false
set_option maxHeartbeats 4000000
namespace Zc27
open Go Zv Zs

theorem runder_ok {d : List Dt} {n i : Nat} {y : Dt} {z : Cn} (hy : d[n]? = some y) (hz : y.cons[i]? = some z) (hd : d.length < 2 ^ 60) (ts : List Int) (hf : z.flds.length ≤ 8) (hl : ts.length ≤ 10000) (h : Hp) :
    callW tab 47 [.d (eDs d), .d (eIs (((n : Int) + 1) :: ts)), .d (eI (i : Int))] h = some (.d (eIs (z.flds ++ ts)), h) := by
  refine call_wp (fn := f47) rfl rfl ?_
  have hn := (List.getElem?_eq_some_iff.1 hy).1
  have hw := wrap_sub1 (n := n) (by omega)
  have h1 := tl_app (nl := some false) (es := 1) (b := 8) (h := h) (r := z.flds.map eI) tcells (by simp only [roomB, List.length_map]; omega)
  have h2 := clo_app (nl := some false) (es := 1) (b := 8) (n := h.next) (o := h.objs) (l := z.flds.map eI) (r := ts.map eI) tcells tcells (by simp only [roomB, List.length_map]; omega)
  have hfin := finS_clo (h := h) (nl := some false) (es := 1) (n := h.next) (l := z.flds.map eI ++ ts.map eI) (Nat.le_refl _)
  (simp only [e47, hw, iaI0, slcT', iaD hy, iaC hz, h1, h2, hfin, wz, opX, intBin, ↓reduceIte, simprocAttr] <;> repeat' (first | refine wpG_s ?_ ?_ | refine wpC_s ?_ ?_) <;> intro hgo <;> (try simp only [dq] at hgo) <;> simp only [hgo, e47, hw, iaI0, slcT', iaD hy, iaC hz, h1, h2, hfin, wz, opX, intBin, ↓reduceIte, simprocAttr])
  rw [List.map_append]
theorem rall_ok {d : List Dt} (hd : d.length < 2 ^ 60) {t : Int} (hT : isT d t = true) (hs : List Pt) (h : Hp) :
    callW tab 49 [.d (eDs d), .d (eI t), .d (ePs hs)] h = some (.d (.bool (decide (t ≠ 0) && decide (hs.length = (consOf d t).length))), h) := by
  refine call_wp (fn := f49) rfl rfl ?_
  by_cases ht : t = 0
  · subst ht
    (simp only [e49, ibne, wz, opX, intBin, ↓reduceIte, simprocAttr] <;> repeat' (first | refine wpG_s ?_ ?_ | refine wpC_s ?_ ?_) <;> intro hgo <;> (try simp only [dq] at hgo) <;> simp only [hgo, e49, ibne, wz, opX, intBin, ↓reduceIte, simprocAttr])
  · rcases tcase d t with h0 | h0 | ⟨n, y, rfl, hy⟩
    · exfalso; simp only [isT, Bool.and_eq_true, decide_eq_true_eq] at hT; omega
    · exfalso; simp only [isT, Bool.and_eq_true, decide_eq_true_eq] at hT; omega
    have hn := (List.getElem?_eq_some_iff.1 hy).1
    have hw := wrap_sub1 (n := n) (by omega)
    have e : ((hs.length : Int) == (y.cons.length : Int)) = decide (hs.length = y.cons.length) := by rw [ibeq]; exact decide_eq_decide.2 (by omega)
    rw [consOf_at hy, decide_eq_true (show ((n : Int) + 1) ≠ 0 from ht), Bool.true_and]
    (simp only [e49, ibne, ht, hw, iaD hy, e, wz, opX, intBin, ↓reduceIte, simprocAttr] <;> repeat' (first | refine wpG_s ?_ ?_ | refine wpC_s ?_ ?_) <;> intro hgo <;> (try simp only [dq] at hgo) <;> simp only [hgo, e49, ibne, ht, hw, iaD hy, e, wz, opX, intBin, ↓reduceIte, simprocAttr])
theorem fm_congr {α β : Type} {f g : α → Option β} : ∀ {l : List α}, (∀ x, x ∈ l → f x = g x) → l.filterMap f = l.filterMap g
  | [], _ => rfl
  | x :: l, h => by rw [List.filterMap_cons, List.filterMap_cons, h x List.mem_cons_self, fm_congr fun y hy => h y (List.mem_cons_of_mem x hy)]
theorem rsp_made {d : List Dt} {t : Int} {ts : List Int} {l : List (List Pt)} (h : fitM d (t :: ts) l) (c : Int) (qs : List Pt) (n : Nat) : rspS (.mk 1 c 0 qs) n l = spS c n l := by
  unfold rspS spS
  refine fm_congr fun r hr => ?_
  have hf := h r hr
  cases r with
  | nil => rfl
  | cons p s =>
    simp only [fitR, Bool.and_eq_true] at hf
    obtain ⟨k, c', m, qs'⟩ := p
    rcases fits_cases hf.1 with ⟨k0, _⟩ | ⟨k2, _⟩ | ⟨k1, _, m0, _⟩
    · subst k0; simp [rspF, spF, kdP_mk]
    · subst k2; simp [rspF, spF, kdP_mk, sameP_mk]
    · subst k1; subst m0
      simp only [rspF, spF, kdP_mk, cnP_mk, nmP_mk, sameP_mk, argsP_mk]
      by_cases hc : c' = c <;> simp [hc]
theorem rsp_num {d : List Dt} {ts : List Int} {l : List (List Pt)} (h : fitM d (0 :: ts) l) (m : Int) (qs : List Pt) : rspS (.mk 2 0 m qs) 0 l = restS (numP (.mk 2 0 m qs)) l := by
  unfold rspS restS
  refine fm_congr fun r hr => ?_
  have hf := h r hr
  cases r with
  | nil => rfl
  | cons p s =>
    simp only [fitR, Bool.and_eq_true] at hf
    obtain ⟨k, c', m', qs'⟩ := p
    rcases fits_cases hf.1 with ⟨k0, _⟩ | ⟨k2, _, c0, a0⟩ | ⟨k1, t0, _⟩
    · subst k0; simp [rspF, restF, kdP_mk, numP, wildP]
    · subst k2; subst c0; subst a0
      simp only [rspF, restF, kdP_mk, cnP_mk, nmP_mk, sameP_mk, argsP_mk, numP, wildP]
      by_cases hc : m' = m <;> simp [hc]
    · exact absurd rfl t0
theorem rsp_one_made (c : Int) (qs qs' r : List Pt) (n : Nat) : rspS (.mk 1 c 0 qs') n [.mk 1 c 0 qs :: r] = [qs ++ r] := by
  simp [rspS, rspF, kdP_mk, cnP_mk, nmP_mk, sameP_mk, argsP_mk]
theorem rsp_one_wild (a : Pt) (r : List Pt) (n : Nat) : rspS a n [.mk 0 0 0 [] :: r] = [List.replicate n wildT ++ r] := by
  simp [rspS, rspF, kdP_mk]
theorem iaR0 (w : List Pt) : ia 1 (.d (.lst [ePs w])) (.d (.int .i64 0)) = some (.fp (ePs w) 0) := iaR (l := [w]) (n := 0) rfl
theorem mk_pat (a b c : D) : mkAgg [.d a, .d b, .d c, .tl [] (some true)] = .agg [.d a, .d b, .d c, .tl [] (some true)] := rfl
theorem frz_pat (a b c : D) (q nx : Nat) (o : List (Nat × Ob)) : Zv.frz ⟨(q, .arr 4 [.agg [.d a, .d b, .d c, .tl [] (some true)]]) :: o, nx⟩ (.ptr q 1 0 0) = some (.fp (.agg [a, b, c, .lst []]) 0, ⟨o, nx⟩) := by
  have hr : Hp.row ⟨(q, .arr 4 [.agg [.d a, .d b, .d c, .tl [] (some true)]]) :: o, nx⟩ q 1 = some (4, [.agg [.d a, .d b, .d c, .tl [] (some true)]]) := by rw [row_cons]; simp
  simp only [Zv.frz, hr, Option.bind_some, List.getElem?_cons_zero, Option.map_some, toD, toDs]
  simp [Hp.kill, del]
theorem norm_one (x : D) (nl : Option Bool) : norm (.tl [.d x] nl) = .d (.lst [x]) := rfl
theorem not_all {d : List Dt} {t : Int} {ts : List Int} {l : List (List Pt)} (h : fitM d (t :: ts) l) : (decide (t ≠ 0) && decide ((headsS l).length = (consOf d t).length)) = !decide (t = 0 ∨ (consS l).length < (consOf d t).length) := by
  by_cases ht : t = 0
  · simp [ht]
  · have h1 := heads_len ht h
    have h2 := consS_le h
    rw [h1]
    by_cases hlt : (consS l).length < (consOf d t).length
    · have : ¬ (consS l).length = (consOf d t).length := by omega
      simp [ht, hlt, this]
    · have : (consS l).length = (consOf d t).length := by omega
      simp [ht, this]
theorem ruseful_ok {d : List Dt} (S : Sml d) (T : typedS d = true) : ∀ (k : Nat) (ts : List Int) (rows : List (List Pt)) (row : List Pt), 9 * (nwS rows + nwL row) + ts.length < k → 9 * (nwS rows + nwL row) + ts.length ≤ 8000 → rows.length ≤ 1000 →
    (∀ t, t ∈ ts → isT d t = true) → fitM d ts rows → fitR d ts row = true → ∀ h, callW tab 18 [.d (eDs d), .d (eIs ts), .d (eRs rows), .d (ePs row)] h = some (.d (.bool (usS d k ts rows row)), h)
  | 0, _, _, _, h, _, _, _, _, _, _ => by omega
  | k + 1, [], rows, row, _, _, hl, _, _, hR, h => by
    refine call_wp (fn := f18) rfl rfl ?_
    have e0 : ((rows.length : Int) == 0) = decide (rows.length = 0) := by simp [ibeq]
    simp only [usS]
    (simp only [e18, ibeq, e0, wz, opX, intBin, ↓reduceIte, simprocAttr] <;> repeat' (first | refine wpG_s ?_ ?_ | refine wpC_s ?_ ?_) <;> intro hgo <;> (try simp only [dq] at hgo) <;> simp only [hgo, e18, ibeq, e0, wz, opX, intBin, ↓reduceIte, simprocAttr])
  | k + 1, t :: ts, rows, [], _, _, _, _, _, hR, _ => by cases hR
  | k + 1, t :: ts, rows, .mk kd c m qs :: r, hW, hB, hl, hT, hM, hR, h => by
    simp only [fitR, Bool.and_eq_true] at hR
    obtain ⟨hp, hR⟩ := hR
    have hts : ts.length ≤ 8000 := by rw [List.length_cons] at hB; omega
    have hrl := fitR_len hR
    have hrows := fitM_rows S (by omega) hM
    have hTt : ∀ f, f ∈ ts → isT d f = true := fun f hf => hT f (List.mem_cons_of_mem _ hf)
    have hargs := fit_args S hp
    rw [argsP_mk] at hargs
    rw [nwL, nwP] at hW hB
    rw [List.length_cons] at hW hB
    refine call_wp (fn := f18) rfl rfl ?_
    have hne : (((ts.length + 1 : Nat) : Int) == 0) = false := by rw [ibeq]; exact decide_eq_false (by omega)
    have hone : ∀ x, x ∈ [Pt.mk kd c m qs :: r] → x ≠ [] ∧ x.length ≤ 10000 ∧ ∀ p, p ∈ x → (argsP p).length ≤ 10000 := by
      intro x hx
      rw [List.mem_singleton.1 hx]
      refine ⟨by simp, by simp; omega, fun p hp' => ?_⟩
      rcases List.mem_cons.1 hp' with rfl | hp'
      · rw [argsP_mk]; omega
      · exact fitR_args S hR p hp'
    rcases fits_cases hp with ⟨k0, c0, m0, q0⟩ | ⟨k2, t0, c0, q0⟩ | ⟨k1, t0, m0, i, z, rfl, hz, hzl, hzR⟩
    · subst k0; subst c0; subst m0; subst q0
      have hh := fun h => rheads_ok rows hl (fun r hr => (hrows r hr).1) h
      have hal := fun h => rall_ok (d := d) (by have := S.len; omega) (hT t List.mem_cons_self) (headsS rows) h
      rw [not_all hM] at hal
      rw [if_pos rfl] at hW hB
      by_cases hcond : t = 0 ∨ (consS rows).length < (consOf d t).length
      · have hrest := fun h => rrest_ok rows hl (fun r hr => (hrows r hr).1) h
        have hnw := restS_nw wildP rows
        have hIH := ruseful_ok S T k ts (restS wildP rows) r (by omega) (by omega) (Nat.le_trans (fm_len _ _) hl) hTt (restS_fit _ hM) hR
        have e : usS d (k + 1) (t :: ts) rows (.mk 0 0 0 [] :: r) = usS d k ts (restS wildP rows) r := by
          simp only [usS]
          rw [if_neg (by decide), if_neg (by decide), if_pos hcond]
        rw [e]
        rw [decide_eq_true hcond] at hal
        (simp only [e18, hne, iaI0, iaI0', iaP0, iaP0', pts, ePt_k, kdP_mk, slcT, slcT', slcP, slcP', hh, hal, hrest, hIH, wz, opX, intBin, ↓reduceIte, simprocAttr] <;> repeat' (first | refine wpG_s ?_ ?_ | refine wpC_s ?_ ?_) <;> intro hgo <;> (try simp only [dq] at hgo) <;> simp only [hgo, e18, hne, iaI0, iaI0', iaP0, iaP0', pts, ePt_k, kdP_mk, slcT, slcT', slcP, slcP', hh, hal, hrest, hIH, wz, opX, intBin, ↓reduceIte, simprocAttr])
      · have ht : t ≠ 0 := fun e => hcond (.inl e)
        rcases tcase d t with h0 | h0 | ⟨n, y, rfl, hy⟩
        · exfalso; have := hT t List.mem_cons_self; simp only [isT, Bool.and_eq_true, decide_eq_true_eq] at this; omega
        · exfalso; have := hT t List.mem_cons_self; simp only [isT, Bool.and_eq_true, decide_eq_true_eq] at this; omega
        have hn := (List.getElem?_eq_some_iff.1 hy).1
        have hsl := S.len
        have hw := wrap_sub1 (n := n) (by omega)
        have hcs := cons_sm S ((n : Int) + 1)
        have hk : (consOf d ((n : Int) + 1)).length ≤ (consS rows).length := by
          have : ¬ (consS rows).length < (consOf d ((n : Int) + 1)).length := fun e => hcond (.inr e)
          omega
        have hdown := fun i (hi : i < y.cons.length) (n' : Nat) => spS_down hM hk (i := i) (by rw [consOf_at hy]; exact hi) n'
        rw [consOf_at hy] at hcs
        obtain ⟨u, hu⟩ : ∃ u : Nat → Bool, ∀ i, u i = usS d k (fldsOf d ((n : Int) + 1) i ++ ts) (spS (i : Int) (fldsOf d ((n : Int) + 1) i).length rows) (List.replicate (fldsOf d ((n : Int) + 1) i).length wildT ++ r) := ⟨_, fun _ => rfl⟩
        have e : usS d (k + 1) (((n : Int) + 1) :: ts) rows (.mk 0 0 0 [] :: r) = (List.range y.cons.length).any u := by
          simp only [usS]
          rw [if_neg (by decide), if_neg (by decide), if_neg hcond, consOf_at hy, show u = _ from funext hu]
        rw [e]
        have hround : ∀ (i : Nat) (z : Cn), y.cons[i]? = some z →
            (∀ h, callW tab 47 [.d (eDs d), .d (eIs (((n : Int) + 1) :: ts)), .d (.int .i64 (i : Int))] h = some (.d (eIs (z.flds ++ ts)), h)) ∧
            (∀ h, callW tab 46 [.d (eRs rows), .d (.agg [.int .i64 1, .int .i64 (i : Int), .int .i64 0, .lst []]), .d (.int .i64 (z.flds.length : Int))] h = some (.d (eRs (spS (i : Int) z.flds.length rows)), h)) ∧
            (∀ h, callW tab 46 [.d (.lst [ePs (.mk 0 0 0 [] :: r)]), .d (.agg [.int .i64 1, .int .i64 (i : Int), .int .i64 0, .lst []]), .d (.int .i64 (z.flds.length : Int))] h = some (.d (.lst [ePs (List.replicate z.flds.length wildT ++ r)]), h)) ∧
            (∀ h, callW tab 18 [.d (eDs d), .d (eIs (z.flds ++ ts)), .d (eRs (spS (i : Int) z.flds.length rows)), .d (ePs (List.replicate z.flds.length wildT ++ r))] h = some (.d (.bool (u i)), h)) := by
          intro i z hz
          rw [hu]
          have hi := (List.getElem?_eq_some_iff.1 hz).1
          have hfz := fldsOf_at hy hz
          have hzm := List.mem_of_getElem? hz
          have hz8 := hcs.2 z hzm
          have hd := hdown i hi z.flds.length
          have hM' := spS_fit i hM
          rw [hfz] at hM' ⊢
          refine ⟨fun h => runder_ok hy hz (by omega) ts hz8 (by omega) h, fun h => ?_, fun h => ?_, ?_⟩
          · have := rspecial_ok (.mk 1 (i : Int) 0 []) z.flds.length (by omega) rows hl hrows h
            rw [rsp_made hM, ePt_mk] at this
            exact this
          · have := rspecial_ok (.mk 1 (i : Int) 0 []) z.flds.length (by omega) [.mk 0 0 0 [] :: r] (by simp) hone h
            rw [rsp_one_wild, ePt_mk] at this
            exact this
          · exact ruseful_ok S T k (z.flds ++ ts) (spS (i : Int) z.flds.length rows) (List.replicate z.flds.length wildT ++ r) (by rw [nwL_app, nwL_wild, List.length_append]; omega) (by rw [nwL_app, nwL_wild, List.length_append]; omega) (Nat.le_trans (fm_len _ _) hl)
              (flds_isT T (by rw [consOf_at hy]; exact hzm) hTt) hM' (fitR_app (fitR_wild d _) hR)
        clear hu
        obtain ⟨q', hq', hloop⟩ := loop_anyr (T := tab) (a := f18l0) (l := List.range y.cons.length) (p := u) (f := fun i => [(0, .d (eDs d)), (1, .d (eIs (((n : Int) + 1) :: ts))), (2, .d (eRs rows)), (9, .d (eI ((n : Int) + 1))), (10, .tl [.d (ePs (.mk 0 0 0 [] :: r))] (some false)), (14, .d (.int .i64 (i : Int)))]) (h := ⟨h.objs, h.next + 1⟩) (x1 := .ret) (x2 := .exit 1) (e1 := [(8, .d (.bool true))])
          (e2 := [(0, .d (eDs d)), (1, .d (eIs (((n : Int) + 1) :: ts))), (2, .d (eRs rows)), (9, .d (eI ((n : Int) + 1))), (10, .tl [.d (ePs (.mk 0 0 0 [] :: r))] (some false)), (14, .d (.int .i64 (y.cons.length : Int))), (98, .d (.bool false))])
          (by
            intro q j x hx hlt hp
            rw [List.getElem?_eq_some_iff] at hx
            obtain ⟨hj, hx⟩ := hx
            rw [List.getElem_range] at hx
            subst hx
            rw [List.length_range] at hlt
            obtain ⟨z, hz⟩ := get_of_lt (l := y.cons) (n := j) hlt
            obtain ⟨r1, r2, r3, r4⟩ := hround j z hz
            rw [hp] at r4
            (simp only [hlt, e18, hw, iaD hy, iaC hz, iaR0, norm_one, mk_pat, frz_pat, r1, r2, r3, r4, wrap_succ (show j < 2 ^ 62 by omega), wz, opX, intBin, ↓reduceIte, simprocAttr] <;> repeat' (first | refine wpG_s ?_ ?_ | refine wpC_s ?_ ?_) <;> intro hgo <;> (try simp only [dq] at hgo) <;> simp only [hgo, hlt, e18, hw, iaD hy, iaC hz, iaR0, norm_one, mk_pat, frz_pat, r1, r2, r3, r4, wrap_succ (show j < 2 ^ 62 by omega), wz, opX, intBin, ↓reduceIte, simprocAttr])
            exact ⟨_, rfl, by omega⟩)
          (by
            intro q j x hx hlt hp
            rw [List.getElem?_eq_some_iff] at hx
            obtain ⟨hj, hx⟩ := hx
            rw [List.getElem_range] at hx
            subst hx
            rw [List.length_range] at hlt
            obtain ⟨z, hz⟩ := get_of_lt (l := y.cons) (n := j) hlt
            obtain ⟨r1, r2, r3, r4⟩ := hround j z hz
            rw [hp] at r4
            (simp only [hlt, e18, hw, iaD hy, iaC hz, iaR0, norm_one, mk_pat, frz_pat, r1, r2, r3, r4, wrap_succ (show j < 2 ^ 62 by omega), wz, opX, intBin, ↓reduceIte, simprocAttr] <;> repeat' (first | refine wpG_s ?_ ?_ | refine wpC_s ?_ ?_) <;> intro hgo <;> (try simp only [dq] at hgo) <;> simp only [hgo, hlt, e18, hw, iaD hy, iaC hz, iaR0, norm_one, mk_pat, frz_pat, r1, r2, r3, r4, wrap_succ (show j < 2 ^ 62 by omega), wz, opX, intBin, ↓reduceIte, simprocAttr])
            exact ⟨_, rfl, by omega⟩)
          (by
            intro q
            rw [List.length_range]
            (simp only [e18, hw, iaD hy, wz, opX, intBin, ↓reduceIte, simprocAttr] <;> repeat' (first | refine wpG_s ?_ ?_ | refine wpC_s ?_ ?_) <;> intro hgo <;> (try simp only [dq] at hgo) <;> simp only [hgo, e18, hw, iaD hy, wz, opX, intBin, ↓reduceIte, simprocAttr])
            exact ⟨_, rfl, by omega⟩)
          (by simp) (by simp)
        simp only [Int.cast_ofNat_Int] at hloop
        rw [decide_eq_false hcond] at hal
        cases hany : (List.range y.cons.length).any u with
        | false =>
          rw [hany] at hloop
          simp only [Bool.false_eq_true, if_false] at hloop
          (simp only [e18, hne, iaI0, iaI0', iaP0, iaP0', pts, ePt_k, kdP_mk, hh, hal, wq_of hloop, wz, opX, intBin, ↓reduceIte, simprocAttr] <;> repeat' (first | refine wpG_s ?_ ?_ | refine wpC_s ?_ ?_) <;> intro hgo <;> (try simp only [dq] at hgo) <;> simp only [hgo, e18, hne, iaI0, iaI0', iaP0, iaP0', pts, ePt_k, kdP_mk, hh, hal, wq_of hloop, wz, opX, intBin, ↓reduceIte, simprocAttr])
        | true =>
          rw [hany] at hloop
          simp only [if_true] at hloop
          (simp only [e18, hne, iaI0, iaI0', iaP0, iaP0', pts, ePt_k, kdP_mk, hh, hal, wq_of hloop, wz, opX, intBin, ↓reduceIte, simprocAttr] <;> repeat' (first | refine wpG_s ?_ ?_ | refine wpC_s ?_ ?_) <;> intro hgo <;> (try simp only [dq] at hgo) <;> simp only [hgo, e18, hne, iaI0, iaI0', iaP0, iaP0', pts, ePt_k, kdP_mk, hh, hal, wq_of hloop, wz, opX, intBin, ↓reduceIte, simprocAttr])
    · subst k2; subst t0; subst c0; subst q0
      have hsp : ∀ h, callW tab 46 [.d (eRs rows), .d (ePt (.mk 2 0 m [])), .d (.int .i64 0)] h = some (.d (eRs (restS (numP (.mk 2 0 m [])) rows)), h) := by
        intro h
        have := rspecial_ok (.mk 2 0 m []) 0 (by omega) rows hl hrows h
        rw [rsp_num hM] at this
        exact this
      have hnw := restS_nw (numP (.mk 2 0 m [])) rows
      have hIH := ruseful_ok S T k ts (restS (numP (.mk 2 0 m [])) rows) r (by omega) (by omega) (Nat.le_trans (fm_len _ _) hl) hTt (restS_fit _ hM) hR
      have e : usS d (k + 1) (0 :: ts) rows (.mk 2 0 m [] :: r) = usS d k ts (restS (numP (.mk 2 0 m [])) rows) r := by
        simp only [usS]; rfl
      rw [e]
      (simp only [e18, hne, iaI0, iaI0', iaP0, iaP0', pts, ePt_k, kdP_mk, slcT, slcT', slcP, slcP', hsp, hIH, wz, opX, intBin, ↓reduceIte, simprocAttr] <;> repeat' (first | refine wpG_s ?_ ?_ | refine wpC_s ?_ ?_) <;> intro hgo <;> (try simp only [dq] at hgo) <;> simp only [hgo, e18, hne, iaI0, iaI0', iaP0, iaP0', pts, ePt_k, kdP_mk, slcT, slcT', slcP, slcP', hsp, hIH, wz, opX, intBin, ↓reduceIte, simprocAttr])
    · subst k1; subst m0
      rcases tcase d t with h0 | h0 | ⟨n, y, rfl, hy⟩
      · rw [consOf_lo h0] at hz; cases hz
      · rw [consOf_hi h0] at hz; cases hz
      have hz' := hz
      rw [consOf_at hy] at hz'
      have hn := (List.getElem?_eq_some_iff.1 hy).1
      have hsl := S.len
      have hw := wrap_sub1 (n := n) (by omega)
      have hzm := List.mem_of_getElem? hz
      have hzf := (cons_sm S _).2 z hzm
      have hun := fun h => runder_ok hy hz' (by omega) ts hzf (by omega) h
      have hsp := fun h => rspecial_ok (.mk 1 (i : Int) 0 qs) z.flds.length (by omega) rows hl hrows h
      rw [rsp_made hM] at hsp
      have hsp1 : ∀ h, callW tab 46 [.d (.lst [ePs (.mk 1 (i : Int) 0 qs :: r)]), .d (ePt (.mk 1 (i : Int) 0 qs)), .d (.int .i64 (z.flds.length : Int))] h = some (.d (.lst [ePs (qs ++ r)]), h) := by
        intro h
        have := rspecial_ok (.mk 1 (i : Int) 0 qs) z.flds.length (by omega) [.mk 1 (i : Int) 0 qs :: r] (by simp) hone h
        rw [rsp_one_made] at this
        exact this
      have hnw := spS_nw (i : Int) z.flds.length rows
      have hfz := fldsOf_at hy hz'
      have hM' := spS_fit i hM
      rw [hfz] at hM'
      rw [if_neg (by decide)] at hW hB
      have hIH := ruseful_ok S T k (z.flds ++ ts) (spS (i : Int) z.flds.length rows) (qs ++ r) (by rw [nwL_app, List.length_append]; omega) (by rw [nwL_app, List.length_append]; omega) (Nat.le_trans (fm_len _ _) hl) (flds_isT T hzm hTt) hM' (fitR_app hzR hR)
      have e : usS d (k + 1) (((n : Int) + 1) :: ts) rows (.mk 1 (i : Int) 0 qs :: r) = usS d k (z.flds ++ ts) (spS (i : Int) z.flds.length rows) (qs ++ r) := by
        simp only [usS, if_true, Int.toNat_natCast, hfz, ← hzl]
      rw [e]
      (simp only [e18, hne, hw, iaI0, iaI0', iaD hy, iaC hz', iaP0, iaP0', iaR0, norm_one, pts, ePt_k, ePt_1, kdP_mk, cnP_mk, slcT, slcT', slcP, slcP', hun, hsp, hsp1, hIH, wz, opX, intBin, ↓reduceIte, simprocAttr] <;> repeat' (first | refine wpG_s ?_ ?_ | refine wpC_s ?_ ?_) <;> intro hgo <;> (try simp only [dq] at hgo) <;> simp only [hgo, e18, hne, hw, iaI0, iaI0', iaD hy, iaC hz', iaP0, iaP0', iaR0, norm_one, pts, ePt_k, ePt_1, kdP_mk, cnP_mk, slcT, slcT', slcP, slcP', hun, hsp, hsp1, hIH, wz, opX, intBin, ↓reduceIte, simprocAttr])
-- wz, opX, intBin, ↓reduceIte, simprocAttr
end Zc27
end
section
set_option linter.unusedSimpArgs false
set_option linter.unusedVariables false
set_option linter.unusedSimpArgs false
set_option maxHeartbeats 4000000
namespace Zc27
open Go Zv Zs

/-- A matrix that passed its check. -/
structure Gd (d : List Dt) (ts : List Int) (l : List (List Pt)) : Prop where
  sml : Sml d
  typ : typedS d = true
  tys : ∀ t, t ∈ ts → isT d t = true
  fit : fitM d ts l
  w : 9 * nwS l + ts.length ≤ 8000
  len : l.length ≤ 1000
theorem nwS_take : ∀ {l : List (List Pt)} {n : Nat} {x : List Pt}, l[n]? = some x → nwS (l.take n) + nwL x ≤ nwS l
  | [], n, x, h => by simp at h
  | r :: l, 0, x, h => by
    simp at h; subst h
    simp only [List.take_zero, nwS]; omega
  | r :: l, n + 1, x, h => by
    rw [List.getElem?_cons_succ] at h
    have := nwS_take h
    rw [List.take_succ_cons, nwS, nwS]; omega
theorem slc_take (l : List (List Pt)) {n : Nat} (hn : n ≤ l.length) : slc 1 (.d (eRs l)) none (some (.d (.int .i64 (n : Int)))) = some (.d (eRs (l.take n))) := by
  have h : Zv.allD 1 (l.map ePs) = true := by
    unfold Zv.allD
    refine List.all_eq_true.2 fun y hy => ?_
    obtain ⟨p, _, rfl⟩ := List.mem_map.1 hy
    rfl
  simp only [slc, bnd, Option.bind_some, ixOf_nat, h]
  simp [hn, List.map_take]
def deadF (d : List Dt) (ts : List Int) (l : List (List Pt)) (x : List Pt × Nat) : Option Int := if usS d 8001 ts (l.take x.2) x.1 = true then none else some (x.2 : Int)
def deadS (d : List Dt) (ts : List Int) (l : List (List Pt)) : List Int := l.zipIdx.filterMap (deadF d ts l)
theorem zip_ix {l : List (List Pt)} {n : Nat} {x : List Pt × Nat} (h : l.zipIdx[n]? = some x) : l[n]? = some x.1 ∧ x.2 = n := by
  rw [List.getElem?_zipIdx] at h
  simp only [Option.map_eq_some_iff] at h
  obtain ⟨a, ha, rfl⟩ := h
  exact ⟨ha, by simp⟩
section
variable {d : List Dt} {ts : List Int} {l : List (List Pt)} (G : Gd d ts l)
include G
theorem Gd.use {n : Nat} {x : List Pt} (hx : l[n]? = some x) (h : Hp) : callW tab 44 [.d (eDs d), .d (eIs ts), .d (eRs (l.take n)), .d (ePs x)] h = some (.d (.bool (usS d 8001 ts (l.take n) x)), h) := by
  have hw := nwS_take hx
  have hg := G.w
  have := G.len
  exact useful_ok G.sml G.typ 8001 ts (l.take n) x (by omega) (by omega) (by rw [List.length_take]; omega) G.tys (fun r hr => G.fit r (List.mem_of_mem_take hr)) (G.fit x (List.mem_of_getElem? hx)) h
theorem Gd.ruse {n : Nat} {x : List Pt} (hx : l[n]? = some x) (h : Hp) : callW tab 18 [.d (eDs d), .d (eIs ts), .d (eRs (l.take n)), .d (ePs x)] h = some (.d (.bool (usS d 8001 ts (l.take n) x)), h) := by
  have hw := nwS_take hx
  have hg := G.w
  have := G.len
  exact ruseful_ok G.sml G.typ 8001 ts (l.take n) x (by omega) (by omega) (by rw [List.length_take]; omega) G.tys (fun r hr => G.fit r (List.mem_of_mem_take hr)) (G.fit x (List.mem_of_getElem? hx)) h
theorem rdead_ok (h : Hp) : callW tab 17 [.d (eDs d), .d (eIs ts), .d (eRs l)] h = some (.d (eIs (deadS d ts l)), h) := by
  refine call_wp (fn := f17) rfl rfl ?_
  have hlen := G.len
  have hzl : l.zipIdx.length = l.length := by simp
  obtain ⟨m, q, hm, hq, hloop⟩ := loop_acc (T := tab) (a := f17l0) (l := l.zipIdx) (fun _ => deadF d ts l) eI 1 8 (fun n r => [(0, .d (eDs d)), (1, .d (eIs ts)), (2, .d (eRs l)), (7, r), (8, .d (.int .i64 (n : Int)))]) (h := h) (n0 := h.next) (x1 := .exit 0) (e1 := fun r => [(0, .d (eDs d)), (1, .d (eIs ts)), (2, .d (eRs l)), (7, r), (8, .d (.int .i64 (l.length : Int))), (12, .d (.bool false))]) (Nat.le_refl _)
    (fun _ => rfl) (by rw [hzl]; simp only [roomB]; omega)
    (by
      intro n x s m q hx hlt hs hsl hG
      obtain ⟨hx, hxn⟩ := zip_ix hx
      rw [hzl] at hlt
      have hu := fun h => G.ruse hx h
      simp only [deadF, hxn] at hG
      have hk : usS d 8001 ts (l.take n) x.1 = true := by
        cases hk : usS d 8001 ts (l.take n) x.1 with
        | true => rfl
        | false => rw [if_neg (by rw [hk]; simp)] at hG; cases hG
      rw [hk] at hu
      (simp only [hlt, e17, slc_take l (Nat.le_of_lt hlt), iaR hx, hu, rowQ_next, rowQ_mk, wrap_succ (show n < 2 ^ 62 by omega), wz, opX, intBin, ↓reduceIte, simprocAttr] <;> repeat' (first | refine wpG_s ?_ ?_ | refine wpC_s ?_ ?_) <;> intro hgo <;> (try simp only [dq] at hgo) <;> simp only [hgo, hlt, e17, slc_take l (Nat.le_of_lt hlt), iaR hx, hu, rowQ_next, rowQ_mk, wrap_succ (show n < 2 ^ 62 by omega), wz, opX, intBin, ↓reduceIte, simprocAttr])
      exact ⟨_, rfl, by omega⟩)
    (by
      intro n x y s m q hx hlt hs hsl hG happ
      obtain ⟨hx, hxn⟩ := zip_ix hx
      rw [hzl] at hlt
      have hu := fun h => G.ruse hx h
      simp only [deadF, hxn] at hG
      have hk : usS d 8001 ts (l.take n) x.1 = false := by
        cases hk : usS d 8001 ts (l.take n) x.1 with
        | false => rfl
        | true => rw [if_pos hk] at hG; cases hG
      rw [if_neg (by rw [hk]; simp)] at hG
      cases hG
      rw [hk] at hu
      (simp only [hlt, e17, slc_take l (Nat.le_of_lt hlt), iaR hx, hu, happ, rowQ_next, rowQ_mk, wrap_succ (show n < 2 ^ 62 by omega), wz, opX, intBin, ↓reduceIte, simprocAttr] <;> repeat' (first | refine wpG_s ?_ ?_ | refine wpC_s ?_ ?_) <;> intro hgo <;> (try simp only [dq] at hgo) <;> simp only [hgo, hlt, e17, slc_take l (Nat.le_of_lt hlt), iaR hx, hu, happ, rowQ_next, rowQ_mk, wrap_succ (show n < 2 ^ 62 by omega), wz, opX, intBin, ↓reduceIte, simprocAttr])
      exact ⟨_, _, ⟨rfl, rfl⟩, by omega, Nat.le_refl _⟩)
    (by
      intro m q
      rw [hzl]
      (simp only [e17, wz, opX, intBin, ↓reduceIte, simprocAttr] <;> repeat' (first | refine wpG_s ?_ ?_ | refine wpC_s ?_ ?_) <;> intro hgo <;> (try simp only [dq] at hgo) <;> simp only [hgo, e17, wz, opX, intBin, ↓reduceIte, simprocAttr])
      exact ⟨_, rfl, by omega⟩)
    (by simp)
  rw [accL_fm] at hloop hm
  simp only [Int.cast_ofNat_Int] at hloop
  have hfm : l.zipIdx.filterMap (deadF d ts l) = deadS d ts l := rfl
  rw [hfm] at hloop hm
  have hfin := finS_rowQ (h := h) (m := m) (es := 1) (s := (deadS d ts l).map eI) (q := q) (fun e => (hm e).1)
  (simp only [e17, wq_of hloop, hfin, wz, opX, intBin, ↓reduceIte, simprocAttr] <;> repeat' (first | refine wpG_s ?_ ?_ | refine wpC_s ?_ ?_) <;> intro hgo <;> (try simp only [dq] at hgo) <;> simp only [hgo, e17, wq_of hloop, hfin, wz, opX, intBin, ↓reduceIte, simprocAttr])
theorem dead_ok (F : Rng d ts l) (hc : chk27 d ts l = 0) (h : Hp) : callW tab 16 [.d (eDs d), .d (eIs ts), .d (eRs l)] h = some (.tup [.d (eIs (deadS d ts l)), .d (eI 0)], h) := by
  refine call_wp (fn := f16) rfl rfl ?_
  have hlen := G.len
  have hzl : l.zipIdx.length = l.length := by simp
  have hck := fun h => chk_ok F h
  rw [hc] at hck
  obtain ⟨m, q, hm, hq, hloop⟩ := loop_acc (T := tab) (a := f16l0) (l := l.zipIdx) (fun _ => deadF d ts l) eI 1 8 (fun n r => [(0, .d (eDs d)), (1, .d (eIs ts)), (2, .d (eRs l)), (9, r), (19, .d (eRs l)), (20, .d (.int .i64 (l.length : Int))), (21, .d (.int .i64 (n : Int)))]) (h := h) (n0 := h.next) (x1 := .exit 0) (e1 := fun r => [(0, .d (eDs d)), (1, .d (eIs ts)), (2, .d (eRs l)), (9, r), (19, .d (eRs l)), (20, .d (.int .i64 (l.length : Int))), (21, .d (.int .i64 (l.length : Int))), (22, .d (.bool false))]) (Nat.le_refl _)
    (fun _ => rfl) (by rw [hzl]; simp only [roomB]; omega)
    (by
      intro n x s m q hx hlt hs hsl hG
      obtain ⟨hx, hxn⟩ := zip_ix hx
      rw [hzl] at hlt
      have hu := fun h => G.use hx h
      simp only [deadF, hxn] at hG
      have hk : usS d 8001 ts (l.take n) x.1 = true := by
        cases hk : usS d 8001 ts (l.take n) x.1 with
        | true => rfl
        | false => rw [if_neg (by rw [hk]; simp)] at hG; cases hG
      rw [hk] at hu
      (simp only [hlt, e16, slc_take l (Nat.le_of_lt hlt), iaR hx, hu, rowQ_next, rowQ_mk, wrap_succ (show n < 2 ^ 62 by omega), wz, opX, intBin, ↓reduceIte, simprocAttr] <;> repeat' (first | refine wpG_s ?_ ?_ | refine wpC_s ?_ ?_) <;> intro hgo <;> (try simp only [dq] at hgo) <;> simp only [hgo, hlt, e16, slc_take l (Nat.le_of_lt hlt), iaR hx, hu, rowQ_next, rowQ_mk, wrap_succ (show n < 2 ^ 62 by omega), wz, opX, intBin, ↓reduceIte, simprocAttr])
      exact ⟨_, rfl, by omega⟩)
    (by
      intro n x y s m q hx hlt hs hsl hG happ
      obtain ⟨hx, hxn⟩ := zip_ix hx
      rw [hzl] at hlt
      have hu := fun h => G.use hx h
      simp only [deadF, hxn] at hG
      have hk : usS d 8001 ts (l.take n) x.1 = false := by
        cases hk : usS d 8001 ts (l.take n) x.1 with
        | false => rfl
        | true => rw [if_pos hk] at hG; cases hG
      rw [if_neg (by rw [hk]; simp)] at hG
      cases hG
      rw [hk] at hu
      (simp only [hlt, e16, slc_take l (Nat.le_of_lt hlt), iaR hx, hu, happ, rowQ_next, rowQ_mk, wrap_succ (show n < 2 ^ 62 by omega), wz, opX, intBin, ↓reduceIte, simprocAttr] <;> repeat' (first | refine wpG_s ?_ ?_ | refine wpC_s ?_ ?_) <;> intro hgo <;> (try simp only [dq] at hgo) <;> simp only [hgo, hlt, e16, slc_take l (Nat.le_of_lt hlt), iaR hx, hu, happ, rowQ_next, rowQ_mk, wrap_succ (show n < 2 ^ 62 by omega), wz, opX, intBin, ↓reduceIte, simprocAttr])
      exact ⟨_, _, ⟨rfl, rfl⟩, by omega, Nat.le_refl _⟩)
    (by
      intro m q
      rw [hzl]
      (simp only [e16, wz, opX, intBin, ↓reduceIte, simprocAttr] <;> repeat' (first | refine wpG_s ?_ ?_ | refine wpC_s ?_ ?_) <;> intro hgo <;> (try simp only [dq] at hgo) <;> simp only [hgo, e16, wz, opX, intBin, ↓reduceIte, simprocAttr])
      exact ⟨_, rfl, by omega⟩)
    (by simp)
  rw [accL_fm] at hloop hm
  simp only [Int.cast_ofNat_Int] at hloop
  have hfm : l.zipIdx.filterMap (deadF d ts l) = deadS d ts l := rfl
  rw [hfm] at hloop hm
  have hfin : finS h (rowQ h m 1 ((deadS d ts l).map eI) q) [rowN m 1 ((deadS d ts l).map eI), .d (.int .i64 0)] = some (.tup [.d (eIs (deadS d ts l)), .d (eI 0)], h) := by
    rw [finS, if_pos (rowQ_suf h m 1 _ q)]
    simp only [List.mapM_cons, List.mapM_nil, back1, rowQ_deep h _ q (fun e => (hm e).1)]
    rfl
  (simp only [e16, hck, ibne, wq_of hloop, hfin, wz, opX, intBin, ↓reduceIte, simprocAttr] <;> repeat' (first | refine wpG_s ?_ ?_ | refine wpC_s ?_ ?_) <;> intro hgo <;> (try simp only [dq] at hgo) <;> simp only [hgo, e16, hck, ibne, wq_of hloop, hfin, wz, opX, intBin, ↓reduceIte, simprocAttr])
end
theorem dead_bad {d : List Dt} {ts : List Int} {l : List (List Pt)} (F : Rng d ts l) (hc : chk27 d ts l ≠ 0) (h : Hp) : callW tab 16 [.d (eDs d), .d (eIs ts), .d (eRs l)] h = some (.tup [.d (eIs []), .d (eI (chk27 d ts l))], h) := by
  refine call_wp (fn := f16) rfl rfl ?_
  have hck := fun h => chk_ok F h
  (simp only [e16, hck, ibne, hc, wz, opX, intBin, ↓reduceIte, simprocAttr] <;> repeat' (first | refine wpG_s ?_ ?_ | refine wpC_s ?_ ?_) <;> intro hgo <;> (try simp only [dq] at hgo) <;> simp only [hgo, e16, hck, ibne, hc, wz, opX, intBin, ↓reduceIte, simprocAttr])
  rw [finS, if_pos (suf_refl _)]
  rfl
mutual
theorem nw_cntP : ∀ p : Pt, nwP p ≤ cntP p
  | .mk k c m qs => by
    rw [nwP, cntP]
    have := nw_cntL qs
    split <;> omega
theorem nw_cntL : ∀ l : List Pt, nwL l ≤ cntL l
  | [] => Nat.le_refl _
  | p :: r => by
    rw [nwL, cntL]
    have := nw_cntP p
    have := nw_cntL r
    omega
end
theorem nw_sum : ∀ l : List (List Pt), nwS l ≤ sumC l
  | [] => Nat.le_refl _
  | r :: l => by
    rw [nwS, sumC]
    have := nw_cntL r
    have := nw_sum l
    omega
theorem gd_of {d : List Dt} {ts : List Int} {l : List (List Pt)} (S : Sml d) (ht : ts.length ≤ 10) (hl : l.length ≤ 9) (hs : sumC l ≤ 60) (hc : chk27 d ts l = 0) : Gd d ts l := by
  have hw := nw_sum l
  unfold chk27 at hc
  by_cases h1 : checkS d ≠ 0
  · rw [if_pos h1] at hc; cases hc
  rw [if_neg h1] at hc
  by_cases h2 : 8 < ts.length ∨ 64 < l.length
  · rw [if_pos h2] at hc; cases hc
  rw [if_neg h2] at hc
  by_cases h3 : ts.any (badT d) = true
  · rw [if_pos h3] at hc; cases hc
  rw [if_neg h3] at hc
  by_cases h4 : l.any deepR = true
  · rw [if_pos h4] at hc; cases hc
  rw [if_neg h4] at hc
  by_cases h5 : l.any (badR d ts) = true
  · rw [if_pos h5] at hc; cases hc
  refine ⟨S, check_typed (Decidable.not_not.1 h1), fun t hm => ?_, fun r hr => ?_, by omega, by omega⟩
  · cases hb : isT d t with
    | true => rfl
    | false => exact absurd (List.any_eq_true.2 ⟨t, hm, by rw [badT, hb]; rfl⟩) h3
  · cases hb : badR d ts r with
    | true => exact absurd (List.any_eq_true.2 ⟨r, hr, hb⟩) h5
    | false =>
      unfold badR at hb
      rw [← fitsL_any] at hb
      simp only [Bool.not_eq_false', Bool.and_eq_true, decide_eq_true_eq] at hb
      exact fitR_of_L hb.1.symm hb.2
-- wz, opX, intBin, ↓reduceIte, simprocAttr
end Zc27
end
section
set_option linter.unusedSimpArgs false
set_option linter.unusedVariables false
set_option linter.unusedSimpArgs false
set_option maxHeartbeats 4000000
namespace Zc27
open Go Zv Zs

theorem app_tl_d (es b : Nat) (h : Hp) (s : V) (x : D) (nl : Option Bool) : app es b h s (.tl [.d x] nl) = app es b h s (.d (.lst [x])) := by
  unfold app; rfl
theorem rcells {l : List (List Pt)} : ∀ y, y ∈ l.map ePs → y.cells.length = 1 := by
  intro y hy
  obtain ⟨p, _, rfl⟩ := List.mem_map.1 hy
  rfl
theorem cloneR_ok (l : List (List Pt)) (hl : l.length ≤ 1000000) (h : Hp) : callW tab 43 [.d (eRs l)] h = some (cloV none h.next 1 (l.map ePs), cloO h.objs h.next 1 (l.map ePs)) := by
  refine call_wp (fn := f43) rfl rfl ?_
  have hb : wp tab b43 (args 0 [.d (eRs l)]) h (· = (.ret, [(2, cloV none h.next 1 (l.map ePs))], cloO h.objs h.next 1 (l.map ePs))) := by
    cases l with
    | nil =>
      have hn0 : nilBin NK.s BinOp.eql (.d (eRs [])) = some .ub := rfl
      have happ : app 1 24 h (.tl [] (some false)) (.d (.lst [])) = some (.tl [] (some false), h) := rfl
      (simp only [e43, wz, opX, intBin, ↓reduceIte, simprocAttr] <;> repeat' (first | refine wpG_s ?_ ?_ | refine wpC_s ?_ ?_) <;> intro hgo <;> (try simp only [dq] at hgo) <;> simp only [hgo, e43, wz, opX, intBin, ↓reduceIte, simprocAttr])
      refine wq_ex.2 (ex_ambU (e1 := [(0, .d (.lst [])), (4, .ub)]) (h1 := h) (o := (.ret, [(2, .tl [] (some true))], h)) (q := (.ret, [(2, .tl [] (some false))], h)) ?_ rfl ?_ ?_ ?_)
      · apply wq_ex.1; (simp only [e43, hn0, wz, opX, intBin, ↓reduceIte, simprocAttr] <;> repeat' (first | refine wpG_s ?_ ?_ | refine wpC_s ?_ ?_) <;> intro hgo <;> (try simp only [dq] at hgo) <;> simp only [hgo, e43, hn0, wz, opX, intBin, ↓reduceIte, simprocAttr])
        rfl
      · apply wq_ex.1; (simp only [e43, wz, opX, intBin, ↓reduceIte, simprocAttr] <;> repeat' (first | refine wpG_s ?_ ?_ | refine wpC_s ?_ ?_) <;> intro hgo <;> (try simp only [dq] at hgo) <;> simp only [hgo, e43, wz, opX, intBin, ↓reduceIte, simprocAttr])
      · apply wq_ex.1; (simp only [e43, happ, wz, opX, intBin, ↓reduceIte, simprocAttr] <;> repeat' (first | refine wpG_s ?_ ?_ | refine wpC_s ?_ ?_) <;> intro hgo <;> (try simp only [dq] at hgo) <;> simp only [hgo, e43, happ, wz, opX, intBin, ↓reduceIte, simprocAttr])
      · unfold outJoin
        rw [if_pos ⟨rfl, objsBeq_refl _, rfl⟩]
        rfl
    | cons p r =>
      have happ := tl_app (nl := some false) (es := 1) (b := 24) (h := h) (r := (p :: r).map ePs) rcells (by simp only [roomB, List.length_map]; omega)
      rw [List.map_cons] at happ
      have hn0 : nilBin NK.s BinOp.eql (.d (eRs (p :: r))) = some (.d (.bool false)) := rfl
      (simp only [e43, wz, opX, intBin, ↓reduceIte, simprocAttr] <;> repeat' (first | refine wpG_s ?_ ?_ | refine wpC_s ?_ ?_) <;> intro hgo <;> (try simp only [dq] at hgo) <;> simp only [hgo, e43, wz, opX, intBin, ↓reduceIte, simprocAttr])
      refine wq_ex.2 (ex_ambD (e1 := [(0, .d (.lst ((p :: r).map ePs))), (4, .d (.bool false))]) (h1 := h) false ?_ rfl ?_)
      · apply wq_ex.1; (simp only [e43, hn0, wz, opX, intBin, ↓reduceIte, simprocAttr] <;> repeat' (first | refine wpG_s ?_ ?_ | refine wpC_s ?_ ?_) <;> intro hgo <;> (try simp only [dq] at hgo) <;> simp only [hgo, e43, hn0, wz, opX, intBin, ↓reduceIte, simprocAttr])
        rfl
      · apply wq_ex.1; (simp only [e43, happ, wz, opX, intBin, ↓reduceIte, simprocAttr] <;> repeat' (first | refine wpG_s ?_ ?_ | refine wpC_s ?_ ?_) <;> intro hgo <;> (try simp only [dq] at hgo) <;> simp only [hgo, e43, happ, wz, opX, intBin, ↓reduceIte, simprocAttr])
        rfl
  obtain ⟨o, h1, rfl⟩ := hb
  exact ⟨_, h1, rfl⟩
theorem Useful_ok {d : List Dt} {ts : List Int} {l : List (List Pt)} {p : List Pt} (hl : l.length ≤ 1000) (F : Rng d ts (l ++ [p])) (G : chk27 d ts (l ++ [p]) = 0 → Gd d ts (l ++ [p])) (h : Hp) :
    callW tab 14 [.d (eDs d), .d (eIs ts), .d (eRs l), .d (ePs p)] h = some (.tup [.d (.bool (decide (chk27 d ts (l ++ [p]) = 0) && usS d 8001 ts l p)), .d (eI (chk27 d ts (l ++ [p])))], h) := by
  refine call_wp (fn := f14) rfl rfl ?_
  have hcl := fun h => cloneR_ok l (by omega) h
  have happ := fun (n : Nat) (o : List (Nat × Ob)) => clo_app (nl := none) (es := 1) (b := 24) (n := n) (o := o) (l := l.map ePs) (r := [ePs p]) rcells (rcells (l := [p])) (by simp only [roomB, List.length_map, List.length_cons, List.length_nil]; omega)
  have e0 : l.map ePs ++ [ePs p] = (l ++ [p]).map ePs := by simp
  simp only [e0] at happ
  have hfz := fun (n : Nat) (o : List (Nat × Ob)) => clo_frz (nl := none) (es := 1) (n := n) (o := o) (l := (l ++ [p]).map ePs)
  have hck := fun h => chk_ok F h
  by_cases hc : chk27 d ts (l ++ [p]) = 0
  · have g := G hc
    have hx : (l ++ [p])[l.length]? = some p := by simp
    have hu := fun h => g.use hx h
    rw [List.take_left] at hu
    rw [hc] at hck ⊢
    rw [show (decide ((0 : Int) = 0) && usS d 8001 ts l p) = usS d 8001 ts l p from Bool.true_and _]
    (simp only [e14, hcl, app_tl_d, happ, hfz, hck, hu, ibne, wz, opX, intBin, ↓reduceIte, simprocAttr] <;> repeat' (first | refine wpG_s ?_ ?_ | refine wpC_s ?_ ?_) <;> intro hgo <;> (try simp only [dq] at hgo) <;> simp only [hgo, e14, hcl, app_tl_d, happ, hfz, hck, hu, ibne, wz, opX, intBin, ↓reduceIte, simprocAttr])
  · rw [decide_eq_false hc, Bool.false_and]
    (simp only [e14, hcl, app_tl_d, happ, hfz, hck, ibne, hc, wz, opX, intBin, ↓reduceIte, simprocAttr] <;> repeat' (first | refine wpG_s ?_ ?_ | refine wpC_s ?_ ?_) <;> intro hgo <;> (try simp only [dq] at hgo) <;> simp only [hgo, e14, hcl, app_tl_d, happ, hfz, hck, ibne, hc, wz, opX, intBin, ↓reduceIte, simprocAttr])
-- wz, opX, intBin, ↓reduceIte, simprocAttr
end Zc27
end
section
set_option linter.unusedSimpArgs false
set_option linter.unusedVariables false
set_option linter.unusedSimpArgs false
set_option maxHeartbeats 4000000
namespace Zc27
open Go Zv Zs

/-- The first number that is not in a list. -/
def missG (s : List Int) : Nat → Nat → Nat
  | 0, n => n
  | f + 1, n => if (n : Int) ∈ s then missG s f (n + 1) else n
def missN (s : List Int) : Nat := missG s (s.length + 1) 0
theorem all_le {s : List Int} {n : Nat} (h : ∀ i : Nat, i < n → (i : Int) ∈ s) : n ≤ s.length := by
  have := sub_len ((List.range n).map fun j : Nat => (j : Int)) s (by
    exact List.Pairwise.map _ (fun a b e => by intro q; exact e (Int.ofNat.inj q)) List.nodup_range) (fun x hx => by
    obtain ⟨j, hj, rfl⟩ := List.mem_map.1 hx
    exact h j (List.mem_range.1 hj))
  simpa using this
theorem missG_spec (s : List Int) : ∀ f n : Nat, (∀ i : Nat, i < n → (i : Int) ∈ s) → s.length < n + f → ((missG s f n : Nat) : Int) ∉ s ∧ (∀ i : Nat, i < missG s f n → (i : Int) ∈ s) ∧ missG s f n ≤ s.length
  | 0, n, h, hl => by have := all_le h; omega
  | f + 1, n, h, hl => by
    simp only [missG]
    by_cases hn : (n : Int) ∈ s
    · rw [if_pos hn]
      refine missG_spec s f (n + 1) (fun i hi => ?_) (by omega)
      by_cases e : i = n
      · subst e; exact hn
      · exact h i (by omega)
    · rw [if_neg hn]
      exact ⟨hn, h, all_le h⟩
theorem missN_spec (s : List Int) : ((missN s : Nat) : Int) ∉ s ∧ (∀ i : Nat, i < missN s → (i : Int) ∈ s) ∧ missN s ≤ s.length := missG_spec s _ 0 (fun i hi => by omega) (by omega)
/-- The head that is not there. -/
def missS (d : List Dt) (t : Int) (rows : List (List Pt)) : Pt :=
  if 0 < (consS rows).length then .mk 1 (missN (consS rows) : Nat) 0 (List.replicate (fldsOf d t (missN (consS rows))).length wildT)
  else if 0 < (numsS rows).length then .mk 2 0 (missN (numsS rows) : Nat) []
  else wildT
def wfS (i n : Nat) (w : List Pt) : List Pt := .mk 1 (i : Int) 0 (w.take n) :: w.drop n
/-- The witness. -/
def wiS (d : List Dt) : Nat → List Int → List (List Pt) → Option (List Pt)
  | 0, _, _ => none
  | _ + 1, [], rows => if rows.length = 0 then some [] else none
  | k + 1, t :: ts, rows =>
    if t = 0 ∨ (consS rows).length < (consOf d t).length then (wiS d k ts (restS wildP rows)).map (missS d t rows :: ·)
    else (List.range (consOf d t).length).findSome? fun i => (wiS d k (fldsOf d t i ++ ts) (spS (i : Int) (fldsOf d t i).length rows)).map (wfS i (fldsOf d t i).length)
theorem wiS_len (d : List Dt) : ∀ (k : Nat) (ts : List Int) (rows : List (List Pt)) (w : List Pt), wiS d k ts rows = some w → w.length = ts.length
  | 0, _, _, _, h => by cases h
  | k + 1, [], rows, w, h => by
    simp only [wiS] at h
    split at h
    · cases h; rfl
    · cases h
  | k + 1, t :: ts, rows, w, h => by
    simp only [wiS] at h
    split at h
    · simp only [Option.map_eq_some_iff] at h
      obtain ⟨v, hv, rfl⟩ := h
      rw [List.length_cons, List.length_cons, wiS_len d k _ _ _ hv]
    · obtain ⟨i, _, hi⟩ := List.exists_of_findSome?_eq_some h
      simp only [Option.map_eq_some_iff] at hi
      obtain ⟨v, hv, rfl⟩ := hi
      have := wiS_len d k _ _ _ hv
      rw [List.length_append] at this
      simp only [wfS, List.length_cons, List.length_drop]
      omega
theorem fs_from {β : Type} (g : Nat → Option β) (n : Nat) (b : β) : ∀ (K s : Nat), s ≤ n → n < s + K → (∀ i, s ≤ i → i < n → g i = none) → g n = some b → (List.range' s K).findSome? g = some b
  | 0, s, h1, h2, _, _ => by omega
  | K + 1, s, h1, h2, h3, h4 => by
    rw [List.range'_succ, List.findSome?_cons]
    by_cases e : s = n
    · subst e; rw [h4]
    · rw [h3 s (Nat.le_refl s) (by omega)]
      exact fs_from g n b K (s + 1) (by omega) (by omega) (fun i hi hn => h3 i (by omega) hn) h4
theorem fs_at {β : Type} {g : Nat → Option β} {n K : Nat} {b : β} (hn : n < K) (h : ∀ i, i < n → g i = none) (hg : g n = some b) : (List.range K).findSome? g = some b := by
  rw [List.range_eq_range']
  exact fs_from g n b K 0 (Nat.zero_le _) (by omega) (fun i _ hi => h i hi) hg
theorem fs_none {β : Type} {g : Nat → Option β} {K : Nat} (h : ∀ i, i < K → g i = none) : (List.range K).findSome? g = none := by
  rw [List.findSome?_eq_none_iff]
  exact fun x hx => h x (List.mem_range.1 hx)
/-- A loop that goes through the numbers below one, and leaves with what it finds. -/
theorem loop_fs {β : Type} {a : AC} {K : Nat} {p : Nat → Option β} {f : Nat → Env} {O : List (Nat × Ob)} {O2 : β → List (Nat × Ob)} {x1 x2 : Ex} {e2 : Env} {q0 : Nat}
    (hs : ∀ q n, n < K → p n = none → wp tab a (f n) ⟨O, q⟩ (fun o => ∃ q', o = (.norm, f (n + 1), ⟨O, q'⟩) ∧ q ≤ q'))
    (hx : ∀ q n b, n < K → p n = some b → wp tab a (f n) ⟨O, q⟩ (fun o => ∃ e q', o = (x1, e, ⟨O2 b, q'⟩) ∧ q ≤ q'))
    (hN : ∀ q, wp tab a (f K) ⟨O, q⟩ (fun o => ∃ q', o = (x2, e2, ⟨O, q'⟩) ∧ q ≤ q')) (ho : x1 ≠ .norm) (hoN : x2 ≠ .norm) :
    ∃ e q', q0 ≤ q' ∧ ex tab (.loop a) (f 0) ⟨O, q0⟩ = some (match (List.range K).findSome? p with
      | some b => (x1, e, ⟨O2 b, q'⟩)
      | none => (x2, e2, ⟨O, q'⟩)) := by
  obtain ⟨o, h1, e, q, hqq, h2⟩ : wp tab (.loop a) (f 0) ⟨O, q0⟩ (fun o => ∃ e q', q0 ≤ q' ∧ o = match (List.range K).findSome? p with
      | some b => (x1, e, ⟨O2 b, q'⟩)
      | none => (x2, e2, ⟨O, q'⟩)) := by
    refine loop_wp K (fun n e h' => (∃ q, q0 ≤ q ∧ h' = ⟨O, q⟩) ∧ e = f n ∧ ∀ i, i < n → p i = none) _ ?_ ?_ K 0 _ _ (by omega) ⟨⟨q0, Nat.le_refl _, rfl⟩, rfl, fun i hi => by omega⟩
    · rintro n e h' hn ⟨⟨q, hqn, rfl⟩, rfl, hk⟩
      cases hp : p n with
      | some b =>
        obtain ⟨o, hq, e, q', rfl, hle⟩ := hx q n b hn hp
        rw [fs_at hn hk hp]
        exact ⟨_, hq, .inr ⟨ho, e, q', Nat.le_trans hqn hle, rfl⟩⟩
      | none =>
        obtain ⟨o, hq, q', rfl, hle⟩ := hs q n hn hp
        refine ⟨_, hq, .inl ⟨rfl, ⟨q', Nat.le_trans hqn hle, rfl⟩, rfl, fun i hi => ?_⟩⟩
        by_cases hij : i = n
        · subst hij; exact hp
        · exact hk i (by omega)
    · rintro e h' ⟨⟨q, hqn, rfl⟩, rfl, hk⟩
      rw [fs_none hk]
      obtain ⟨o, hq, q', rfl, hle⟩ := hN q
      exact ⟨_, hq, hoN, f 0, q', Nat.le_trans hqn hle, rfl⟩
  exact ⟨e, q, hqq, by rw [h1, h2]⟩

/-! ### Heaps of the program's witness -/
section
variable (o : List (Nat × Ob)) (H : Nat) (A B : List Int) (e0 : List (Nat × V))
/-- The two variables of the answer. -/
def W0 (v : V) (b : Bool) (q : Nat) : Hp := ⟨(H + 3, .arr 1 [.d (.bool b)]) :: (H + 2, .arr 1 [v]) :: o, q⟩
/-- With the heads. -/
def WV (v : V) (b : Bool) (q : Nat) : Hp := ⟨(H + 5, .mp (kvB B)) :: (H + 4, .mp (kvB A)) :: (H + 3, .arr 1 [.d (.bool b)]) :: (H + 2, .arr 1 [v]) :: o, q⟩
/-- Within the range. -/
def WU (v : V) (b : Bool) (s : Option Ex) (q : Nat) : Hp := ⟨(H + 9, .lp 816 e0 s) :: (H + 5, .mp (kvB B)) :: (H + 4, .mp (kvB A)) :: (H + 3, .arr 1 [.d (.bool b)]) :: (H + 2, .arr 1 [v]) :: o, q⟩
theorem W0_r2 (v b q) : (W0 o H v b q).row (H + 2) 1 = some (1, [v]) := by unfold W0 Hp.row Hp.get; simp [Zv.look]
theorem W0_r3 (v b q) : (W0 o H v b q).row (H + 3) 1 = some (1, [.d (.bool b)]) := by unfold W0 Hp.row Hp.get; simp [Zv.look]
theorem WV_r2 (v b q) : (WV o H A B v b q).row (H + 2) 1 = some (1, [v]) := by unfold WV Hp.row Hp.get; simp [Zv.look]
theorem WV_r3 (v b q) : (WV o H A B v b q).row (H + 3) 1 = some (1, [.d (.bool b)]) := by unfold WV Hp.row Hp.get; simp [Zv.look]
theorem WU_r2 (v b s q) : (WU o H A B e0 v b s q).row (H + 2) 1 = some (1, [v]) := by unfold WU Hp.row Hp.get; simp [Zv.look]
theorem WU_r3 (v b s q) : (WU o H A B e0 v b s q).row (H + 3) 1 = some (1, [.d (.bool b)]) := by unfold WU Hp.row Hp.get; simp [Zv.look]
theorem W0_s2 (v b q) (x : V) (hs : stor x = true) (hc : x.cells.length = 1) : st 1 (W0 o H v b q) (.ptr (H + 2) 1 0 0) x = some (W0 o H x b q) := by
  unfold st; simp only [W0_r2, Option.bind_some, hs, hc]; simp [W0, Hp.set, upd]
theorem W0_s3 (v b q) (c : Bool) : st 1 (W0 o H v b q) (.ptr (H + 3) 1 0 0) (.d (.bool c)) = some (W0 o H v c q) := by
  unfold st; simp only [W0_r3, Option.bind_some]; simp [W0, Hp.set, upd, V.cells, stor, D.cells]
theorem WV_s2 (v b q) (x : V) (hs : stor x = true) (hc : x.cells.length = 1) : st 1 (WV o H A B v b q) (.ptr (H + 2) 1 0 0) x = some (WV o H A B x b q) := by
  unfold st; simp only [WV_r2, Option.bind_some, hs, hc]; simp [WV, Hp.set, upd]
theorem WV_s3 (v b q) (c : Bool) : st 1 (WV o H A B v b q) (.ptr (H + 3) 1 0 0) (.d (.bool c)) = some (WV o H A B v c q) := by
  unfold st; simp only [WV_r3, Option.bind_some]; simp [WV, Hp.set, upd, V.cells, stor, D.cells]
theorem WU_s2 (v b s q) (x : V) (hs : stor x = true) (hc : x.cells.length = 1) : st 1 (WU o H A B e0 v b s q) (.ptr (H + 2) 1 0 0) x = some (WU o H A B e0 x b s q) := by
  unfold st; simp only [WU_r2, Option.bind_some, hs, hc]; simp [WU, Hp.set, upd]
theorem WU_s3 (v b s q) (c : Bool) : st 1 (WU o H A B e0 v b s q) (.ptr (H + 3) 1 0 0) (.d (.bool c)) = some (WU o H A B e0 v c s q) := by
  unfold st; simp only [WU_r3, Option.bind_some]; simp [WU, Hp.set, upd, V.cells, stor, D.cells]
theorem W0_l3 (v b q) : ld false 1 (W0 o H v b q) (.ptr (H + 3) 1 0 0) = some (.d (.bool b)) := by unfold ld; simp only [W0_r3, Option.bind_some]; rfl
theorem WV_l3 (v b q) : ld false 1 (WV o H A B v b q) (.ptr (H + 3) 1 0 0) = some (.d (.bool b)) := by unfold ld; simp only [WV_r3, Option.bind_some]; rfl
theorem W0_l2n (nl b q) : ld false 1 (W0 o H (.tl [] nl) b q) (.ptr (H + 2) 1 0 0) = some (.tl [] nl) := by unfold ld; simp only [W0_r2, Option.bind_some]; rfl
theorem WV_l2n (nl b q) : ld false 1 (WV o H A B (.tl [] nl) b q) (.ptr (H + 2) 1 0 0) = some (.tl [] nl) := by unfold ld; simp only [WV_r2, Option.bind_some]; rfl
theorem WV_l2 (l b q) : ld false 1 (WV o H A B (.d (.lst l)) b q) (.ptr (H + 2) 1 0 0) = some (.d (.lst l)) := by unfold ld; simp only [WV_r2, Option.bind_some]; rfl
theorem WU_get (v b s q) : (WU o H A B e0 v b s q).get (H + 9) = some (.lp 816 e0 s) := by unfold WU Hp.get; simp [Zv.look]
theorem WU_set (v b s s' q) : (WU o H A B e0 v b s q).set (H + 9) (.lp 816 e0 s') = WU o H A B e0 v b s' q := by unfold WU Hp.set; simp [upd]
theorem WU_kill (v b s q) : (WU o H A B e0 v b s q).kill (H + 9) = WV o H A B v b q := by unfold WU WV Hp.kill; simp [del]
theorem WU_mk (v b s q q') : (⟨(WU o H A B e0 v b s q).objs, q'⟩ : Hp) = WU o H A B e0 v b s q' := rfl
theorem WU_next (v b s q) : (WU o H A B e0 v b s q).next = q := rfl
theorem WV_mk (v b q q') : (⟨(WV o H A B v b q).objs, q'⟩ : Hp) = WV o H A B v b q' := rfl
theorem WV_next (v b q) : (WV o H A B v b q).next = q := rfl
theorem W0_mk (v b q q') : (⟨(W0 o H v b q).objs, q'⟩ : Hp) = W0 o H v b q' := rfl
theorem W0_next (v b q) : (W0 o H v b q).next = q := rfl
theorem WV_of (v b) : HM2 ((H + 3, .arr 1 [.d (.bool b)]) :: (H + 2, .arr 1 [v]) :: o) (H + 4) A B = WV o H A B v b (H + 6) := rfl
theorem WV_lenA (v b q) : lenM (WV o H A B v b q) (.map (H + 4)) = some (.d (.int .i64 (A.length : Int))) := by
  unfold lenM entries WV Hp.get; simp [Zv.look, kvB, int]
theorem WV_lenB (v b q) : lenM (WV o H A B v b q) (.map (H + 5)) = some (.d (.int .i64 (B.length : Int))) := by
  unfold lenM entries WV Hp.get; simp [Zv.look, kvB, int]
end
theorem W0_fin (h : Hp) (b q) : finS h (W0 h.objs h.next (.tl [] (some true)) b q) [.tl [] (some true), .d (.bool b)] = some (.tup [.d (.lst []), .d (.bool b)], h) := by
  have hs : sufOk h.objs (W0 h.objs h.next (.tl [] (some true)) b q).objs = true := suf_app [_, _] h.objs
  unfold finS
  rw [if_pos hs]
  rfl
theorem WV_fin0 (h : Hp) (A B : List Int) (b q) : finS h (WV h.objs h.next A B (.tl [] (some true)) b q) [.tl [] (some true), .d (.bool b)] = some (.tup [.d (.lst []), .d (.bool b)], h) := by
  have hs : sufOk h.objs (WV h.objs h.next A B (.tl [] (some true)) b q).objs = true := suf_app [_, _, _, _] h.objs
  unfold finS
  rw [if_pos hs]
  rfl
theorem WV_fin (h : Hp) (A B : List Int) (v : V) (b q) (x : D) : finS h (WV h.objs h.next A B v b q) [.d x, .d (.bool b)] = some (.tup [.d x, .d (.bool b)], h) := by
  refine finS_suf (vs := [x, .bool b]) ?_
  exact suf_app [_, _, _, _] h.objs
/-- The answer of the program's witness. -/
def wiV : Option (List Pt) → V
  | none => .tup [.d (.lst []), .d (.bool false)]
  | some w => .tup [.d (ePs w), .d (.bool true)]
-- wz, opX, intBin, ↓reduceIte, simprocAttr
end Zc27
end
section
set_option linter.unusedSimpArgs false
set_option linter.unusedVariables false
set_option linter.unusedSimpArgs false
set_option maxHeartbeats 4000000
namespace Zc27
open Go Zv Zs

theorem wit_r0 (a b c : D) (ha : a.cells.length = 1) (hb : b.cells.length = 1) (h : Hp) :
    ex tab f51r0 (args 0 [.d a, .d b, .d c]) h = some (.norm, [(2, .d c), (3, .fp a 0), (4, .fp b 0), (6, .ptr (h.next + 2) 1 0 0), (7, .ptr (h.next + 3) 1 0 0)], W0 h.objs h.next (.tl [] (some true)) false (h.next + 4)) := by
  apply wq_ex.1
  (simp only [e51, ha, hb, frz_4, frz_3, wz, opX, intBin, ↓reduceIte, simprocAttr] <;> repeat' (first | refine wpG_s ?_ ?_ | refine wpC_s ?_ ?_) <;> intro hgo <;> (try simp only [dq] at hgo) <;> simp only [hgo, e51, ha, hb, frz_4, frz_3, wz, opX, intBin, ↓reduceIte, simprocAttr])
  rfl
theorem slc_all {es : Nat} {l : List D} {n : Nat} (hl : ∀ y, y ∈ l → y.cells.length = es) (hn : n ≤ l.length) : slc es (.d (.lst l)) none (some (.d (.int .i64 (n : Int)))) = some (.d (.lst (l.take n))) := by
  have h : Zv.allD es l = true := by
    unfold Zv.allD
    exact List.all_eq_true.2 fun y hy => by simpa using hl y hy
  simp only [slc, bnd, Option.bind_some, ixOf, h]
  simp [hn]
theorem slc_from {es : Nat} {l : List D} {n : Nat} (hl : ∀ y, y ∈ l → y.cells.length = es) (hn : n ≤ l.length) : slc es (.d (.lst l)) (some (.d (.int .i64 (n : Int)))) none = some (.d (.lst (l.drop n))) := by
  have h : Zv.allD es l = true := by
    unfold Zv.allD
    exact List.all_eq_true.2 fun y hy => by simpa using hl y hy
  simp only [slc, bnd, Option.bind_some, ixOf, h]
  simp [hn]
theorem slcPt {w : List Pt} {n : Nat} (hn : n ≤ w.length) : slc 4 (.d (.lst (w.map ePt))) none (some (.d (.int .i64 (n : Int)))) = some (.d (.lst ((w.take n).map ePt))) := by
  rw [slc_all ptcells (by rw [List.length_map]; exact hn), List.map_take]
theorem slcPd {w : List Pt} {n : Nat} (hn : n ≤ w.length) : slc 4 (.d (.lst (w.map ePt))) (some (.d (.int .i64 (n : Int)))) none = some (.d (.lst ((w.drop n).map ePt))) := by
  rw [slc_from ptcells (by rw [List.length_map]; exact hn), List.map_drop]
/-- One pattern ahead of others. -/
theorem app_one (p : Pt) (l : List Pt) (nl : Option Bool) (h : Hp) (hl : l.length ≤ 100000) : ((app 4 48 h (.tl [.d (ePt p)] nl) (.d (.lst (l.map ePt)))).bind fun r => Zv.frz r.2 r.1) = some (.d (.lst (ePt p :: l.map ePt)), ⟨h.objs, if l = [] then h.next else h.next + 1⟩) := by
  by_cases h0 : l = []
  · subst h0; rfl
  · have he : (l.map ePt).map V.d ≠ [] := by simpa using h0
    have h1 : ((l.map ePt).map V.d).isEmpty = false := by cases l with | nil => exact absurd rfl h0 | cons => rfl
    unfold app
    simp only [elems, Option.bind_some, norm_map_d, allV_d ptcells, if_true, h1, Bool.false_eq_true, if_false, List.length_cons, List.length_nil, List.length_map]
    rw [if_pos ⟨by simp only [roomB]; omega, by simp [Zv.allV, V.cells, ePt_cells]⟩]
    simp only [Option.bind_some, if_neg h0]
    have hrow : (h.alloc (.arr 4 ([V.d (ePt p)] ++ (l.map ePt).map V.d))).row h.next (0 + 1 + l.length) = some (4, ((p :: l).map ePt).map V.d) := by
      rw [alloc_eq, row_cons]; simp; omega
    simp only [Zv.frz, hrow, Option.bind_some]
    rw [if_pos (by simp; omega), List.drop_zero, List.take_of_length_le (by simp; omega), toDs_map]
    simp [Hp.kill, Hp.alloc, del]
theorem lst_cells (l : List D) : (V.d (.lst l)).cells.length = 1 := rfl
def wuX : Option (List Pt) → Ex
  | none => .norm
  | some _ => .ret
def wuS : Option (List Pt) → Option Ex
  | none => none
  | some _ => some .ret
def wuN (o : List (Nat × Ob)) (H : Nat) (A B : List Int) (e0 : List (Nat × V)) (i n : Nat) (s : Option Ex) : Option (List Pt) → Nat → Hp
  | none, q => WU o H A B e0 (.tl [] (some true)) false s q
  | some w, q => WU o H A B e0 (.d (ePs (wfS i n w))) true s q
theorem wuN_get (o : List (Nat × Ob)) (H : Nat) (A B : List Int) (e0 : List (Nat × V)) (i n : Nat) (s u q) : (wuN o H A B e0 i n s u q).get (H + 9) = some (.lp 816 e0 s) := by cases u <;> exact WU_get ..
theorem wuN_set (o : List (Nat × Ob)) (H : Nat) (A B : List Int) (e0 : List (Nat × V)) (i n : Nat) (s s' u q) : (wuN o H A B e0 i n s u q).set (H + 9) (.lp 816 e0 s') = wuN o H A B e0 i n s' u q := by cases u <;> exact WU_set ..
theorem wround_ok {d : List Dt} {n i : Nat} {y : Dt} {z : Cn} (hy : d[n]? = some y) (hz : y.cons[i]? = some z) (hd : d.length < 2 ^ 60) (hf : z.flds.length ≤ 8) {ts : List Int} (hl : ts.length ≤ 10000) {m : List (List Pt)} {u : Option (List Pt)}
    (hu : ∀ h, callW tab 51 [.d (eDs d), .d (eIs (z.flds ++ ts)), .d (eRs m)] h = some (wiV u, h)) (hul : ∀ w, u = some w → w.length = z.flds.length + ts.length) (o : List (Nat × Ob)) (H : Nat) (A B : List Int) (cl : V) (q : Nat) :
    let e0 : List (Nat × V) := [(3, .fp (eDs d) 0), (4, .fp (eIs (((n : Int) + 1) :: ts)) 0), (6, .ptr (H + 2) 1 0 0), (7, .ptr (H + 3) 1 0 0), (52, cl)]
    ∃ q', q ≤ q' ∧ cW tab (.yld (H + 9)) [.d (eI (i : Int)), .d (eRs m)] (WU o H A B e0 (.tl [] (some true)) false none q) = some (.d (.bool u.isNone), wuN o H A B e0 i z.flds.length (wuS u) u q') := by
  intro e0
  have hn := (List.getElem?_eq_some_iff.1 hy).1
  have hw := wrap_sub1 (n := n) (by omega)
  have hun : ∀ h, callW tab 76 [.d (eDs d), .d (.lst (eI ((n : Int) + 1) :: ts.map eI)), .d (eI (i : Int))] h = some (.d (eIs (z.flds ++ ts)), h) := fun h => under_ok hy hz hd ts hf hl h
  have hia : ia 1 (.d (.lst (eI ((n : Int) + 1) :: ts.map eI))) (.d (.int .i64 0)) = some (.fp (eI ((n : Int) + 1)) 0) := iaI0 _ _
  have hbody : wp tab d51q0 [(3, .fp (eDs d) 0), (4, .fp (eIs (((n : Int) + 1) :: ts)) 0), (6, .ptr (H + 2) 1 0 0), (7, .ptr (H + 3) 1 0 0), (10, .d (eI (i : Int))), (11, .d (eRs m))] (WU o H A B e0 (.tl [] (some true)) false (some .norm) q)
      (fun r => ∃ e' q', q ≤ q' ∧ r = (wuX u, e', wuN o H A B e0 i z.flds.length (some .norm) u q')) := by
    unfold d51q0
    cases u with
    | none =>
      (simp only [e51, hun, hu, wiV, wz, opX, intBin, ↓reduceIte, simprocAttr] <;> repeat' (first | refine wpG_s ?_ ?_ | refine wpC_s ?_ ?_) <;> intro hgo <;> (try simp only [dq] at hgo) <;> simp only [hgo, e51, hun, hu, wiV, wz, opX, intBin, ↓reduceIte, simprocAttr])
      exact ⟨_, q, Nat.le_refl _, rfl, rfl, rfl⟩
    | some w =>
      have hwl := hul w rfl
      have hE : D.agg [.int .i64 1, .int .i64 (i : Int), .int .i64 0, .lst ((w.take z.flds.length).map ePt)] = ePt (.mk 1 (i : Int) 0 (w.take z.flds.length)) := (ePt_mk ..).symm
      have hsl := slcPt (w := w) (n := z.flds.length) (by omega)
      have hsd := slcPd (w := w) (n := z.flds.length) (by omega)
      have hcl : ∀ h, callW tab 78 [.d (.lst ((w.take z.flds.length).map ePt))] h = _ := fun h => cloneP_ok (w.take z.flds.length) (by rw [List.length_take]; omega) h
      have happ := fun h => app_one (.mk 1 (i : Int) 0 (w.take z.flds.length)) (w.drop z.flds.length) (some false) h (by rw [List.length_drop]; omega)
      have hst2 := fun q => WU_s2 o H A B e0 (.tl [] (some true)) false (some .norm) q (.d (ePs (wfS i z.flds.length w))) rfl rfl
      have hst3 := fun q => WU_s3 o H A B e0 (.d (ePs (wfS i z.flds.length w))) false (some .norm) q true
      have hP : ePs (wfS i z.flds.length w) = .lst (ePt (.mk 1 (i : Int) 0 (w.take z.flds.length)) :: (w.drop z.flds.length).map ePt) := rfl
      rw [hP] at hst2 hst3
      (simp only [e51, hw, iaI0, hia, hun, hu, wiV, iaD hy, iaC hz, hsl, hsd, hcl, clo_frz, hE, ePt_cells, happ, WU_mk, WU_next, hst2, hst3, wz, opX, intBin, ↓reduceIte, simprocAttr] <;> repeat' (first | refine wpG_s ?_ ?_ | refine wpC_s ?_ ?_) <;> intro hgo <;> (try simp only [dq] at hgo) <;> simp only [hgo, e51, hw, iaI0, hia, hun, hu, wiV, iaD hy, iaC hz, hsl, hsd, hcl, clo_frz, hE, ePt_cells, happ, WU_mk, WU_next, hst2, hst3, wz, opX, intBin, ↓reduceIte, simprocAttr])
      refine ⟨_, _, ?_, rfl, rfl, rfl⟩
      split <;> split <;> omega
  obtain ⟨r, hr, e', q', hq, rfl⟩ := hbody
  have := cW_yld (T := tab) (n := H + 9) (b := 816) (e := e0) (vs := [.d (eI (i : Int)), .d (eRs m)]) (h := WU o H A B e0 (.tl [] (some true)) false none q) (fn := f1000816) (asg := a51q0) (bdy := d51q0) (e1 := [(3, .fp (eDs d) 0), (4, .fp (eIs (((n : Int) + 1) :: ts)) 0), (6, .ptr (H + 2) 1 0 0), (7, .ptr (H + 3) 1 0 0), (10, .d (eI (i : Int))), (11, .d (eRs m))]) (h1 := WU o H A B e0 (.tl [] (some true)) false none q) (b' := 816) (e' := e0)
    (WU_get ..) rfl rfl rfl (by unfold a51q0; apply wq_ex.1; (simp only [e51, binds, f1000816, wz, opX, intBin, ↓reduceIte, simprocAttr] <;> repeat' (first | refine wpG_s ?_ ?_ | refine wpC_s ?_ ?_) <;> intro hgo <;> (try simp only [dq] at hgo) <;> simp only [hgo, e51, binds, f1000816, wz, opX, intBin, ↓reduceIte, simprocAttr]); rfl) (WU_get ..) (by rw [WU_set]; exact hr)
  refine ⟨q', hq, ?_⟩
  rw [this]
  unfold rndEnd
  simp only [wuN_get]
  cases u <;> simp [wuN_set, wuX, wuS] <;> rfl
theorem wuN_mk (o : List (Nat × Ob)) (H : Nat) (A B : List Int) (e0 : List (Nat × V)) (i n : Nat) (s u q q') : (⟨(wuN o H A B e0 i n s u q).objs, q'⟩ : Hp) = wuN o H A B e0 i n s u q' := by cases u <;> rfl
theorem wuN_next (o : List (Nat × Ob)) (H : Nat) (A B : List Int) (e0 : List (Nat × V)) (i n : Nat) (s u q) : (wuN o H A B e0 i n s u q).next = q := by cases u <;> rfl
/-- The range over the constructors. -/
theorem wrange_ok {d : List Dt} {n : Nat} {y : Dt} (hy : d[n]? = some y) (hd : d.length < 2 ^ 60) (hK : y.cons.length ≤ 8) (hf : ∀ z, z ∈ y.cons → z.flds.length ≤ 8) {ts : List Int} (hts : ts.length ≤ 10000)
    (l : List (List Pt)) (hl : l.length ≤ 1000) (hlr : ∀ r, r ∈ l → r ≠ [] ∧ r.length ≤ 10000 ∧ ∀ p, p ∈ r → (argsP p).length ≤ 10000) {u : Nat → Option (List Pt)}
    (hu : ∀ (i : Nat) (z : Cn), y.cons[i]? = some z → (∀ h, callW tab 51 [.d (eDs d), .d (eIs (z.flds ++ ts)), .d (eRs (spS (i : Int) z.flds.length l))] h = some (wiV (u i), h)) ∧ ∀ w, u i = some w → w.length = z.flds.length + ts.length) (o : List (Nat × Ob)) (H : Nat) (A B : List Int) :
    let cl : V := .clo 98 [.fp (eDs d) 0, .fp (eIs (((n : Int) + 1) :: ts)) 0, .fp (eRs l) 0]
    let e0 : List (Nat × V) := [(3, .fp (eDs d) 0), (4, .fp (eIs (((n : Int) + 1) :: ts)) 0), (6, .ptr (H + 2) 1 0 0), (7, .ptr (H + 3) 1 0 0), (52, cl)]
    ∃ q, callW tab 98 [.yld (H + 9), .fp (eDs d) 0, .fp (eIs (((n : Int) + 1) :: ts)) 0, .fp (eRs l) 0] (WU o H A B e0 (.tl [] (some true)) false none (H + 10)) = some (.tup [], match (List.range y.cons.length).findSome? (fun i => (u i).map (wfS i (match y.cons[i]? with | some z => z.flds.length | none => 0))) with
      | none => WU o H A B e0 (.tl [] (some true)) false none q
      | some w => WU o H A B e0 (.d (ePs w)) true (some .ret) q) := by
  intro cl e0
  have hn := (List.getElem?_eq_some_iff.1 hy).1
  have hw := wrap_sub1 (n := n) (by omega)
  have hia : ia 1 (.d (.lst (eI ((n : Int) + 1) :: ts.map eI))) (.d (.int .i64 0)) = some (.fp (eI ((n : Int) + 1)) 0) := iaI0 _ _
  obtain ⟨e, q', hq, hloop⟩ := loop_fs (a := f98l0) (K := y.cons.length) (p := fun i => (u i).map (wfS i (match y.cons[i]? with | some z => z.flds.length | none => 0))) (f := fun i => [(0, .yld (H + 9)), (3, .fp (eRs l) 0), (14, .d (.lst (y.cons.map eC))), (15, .d (.int .i64 (y.cons.length : Int))), (16, .d (.int .i64 (i : Int)))]) (O := (WU o H A B e0 (.tl [] (some true)) false none 0).objs) (O2 := fun w => (WU o H A B e0 (.d (ePs w)) true (some .ret) 0).objs) (x1 := .ret) (x2 := .exit 0) (e2 := [(0, .yld (H + 9)), (3, .fp (eRs l) 0), (14, .d (.lst (y.cons.map eC))), (15, .d (.int .i64 (y.cons.length : Int))), (16, .d (.int .i64 (y.cons.length : Int))), (17, .d (.bool false))]) (q0 := H + 10)
    (by
      intro q i hi hp
      obtain ⟨z, hz⟩ := get_of_lt (l := y.cons) (n := i) hi
      have hzf := hf z (List.mem_of_getElem? hz)
      have hu0 : u i = none := by simpa using hp
      obtain ⟨q', hqq, hround⟩ : ∃ q', q + 1 ≤ q' ∧ cW tab (.yld (H + 9)) [.d (eI (i : Int)), .d (eRs (spS (i : Int) z.flds.length l))] (WU o H A B e0 (.tl [] (some true)) false none (q + 1)) = some (.d (.bool (u i).isNone), wuN o H A B e0 i z.flds.length (wuS (u i)) (u i) q') := wround_ok hy hz hd hzf hts (hu i z hz).1 (hu i z hz).2 o H A B cl (q + 1)
      have hsp := fun h => special_ok (i : Int) z.flds.length (by omega) l hl hlr h
      rw [hu0] at hround
      simp only [Option.isNone_none, wuS, wuN] at hround
      (simp only [hi, e98, iaC hz, hsp, hround, WU_mk, WU_next, wrap_succ (show i < 2 ^ 62 by omega), wz, opX, intBin, ↓reduceIte, simprocAttr] <;> repeat' (first | refine wpG_s ?_ ?_ | refine wpC_s ?_ ?_) <;> intro hgo <;> (try simp only [dq] at hgo) <;> simp only [hgo, hi, e98, iaC hz, hsp, hround, WU_mk, WU_next, wrap_succ (show i < 2 ^ 62 by omega), wz, opX, intBin, ↓reduceIte, simprocAttr])
      exact ⟨_, rfl, by omega⟩)
    (by
      intro q i w hi hp
      obtain ⟨z, hz⟩ := get_of_lt (l := y.cons) (n := i) hi
      have hzf := hf z (List.mem_of_getElem? hz)
      simp only [Option.map_eq_some_iff, hz] at hp
      obtain ⟨w', hu0, rfl⟩ := hp
      obtain ⟨q', hqq, hround⟩ : ∃ q', q + 1 ≤ q' ∧ cW tab (.yld (H + 9)) [.d (eI (i : Int)), .d (eRs (spS (i : Int) z.flds.length l))] (WU o H A B e0 (.tl [] (some true)) false none (q + 1)) = some (.d (.bool (u i).isNone), wuN o H A B e0 i z.flds.length (wuS (u i)) (u i) q') := wround_ok hy hz hd hzf hts (hu i z hz).1 (hu i z hz).2 o H A B cl (q + 1)
      have hsp := fun h => special_ok (i : Int) z.flds.length (by omega) l hl hlr h
      rw [hu0] at hround
      simp only [Option.isNone_some, wuS, wuN] at hround
      (simp only [hi, e98, iaC hz, hsp, hround, WU_mk, WU_next, wrap_succ (show i < 2 ^ 62 by omega), wz, opX, intBin, ↓reduceIte, simprocAttr] <;> repeat' (first | refine wpG_s ?_ ?_ | refine wpC_s ?_ ?_) <;> intro hgo <;> (try simp only [dq] at hgo) <;> simp only [hgo, hi, e98, iaC hz, hsp, hround, WU_mk, WU_next, wrap_succ (show i < 2 ^ 62 by omega), wz, opX, intBin, ↓reduceIte, simprocAttr])
      exact ⟨_, _, ⟨rfl, rfl⟩, by omega⟩)
    (by
      intro q
      (simp only [e98, WU_mk, wz, opX, intBin, ↓reduceIte, simprocAttr] <;> repeat' (first | refine wpG_s ?_ ?_ | refine wpC_s ?_ ?_) <;> intro hgo <;> (try simp only [dq] at hgo) <;> simp only [hgo, e98, WU_mk, wz, opX, intBin, ↓reduceIte, simprocAttr])
      exact ⟨_, rfl, by omega⟩)
    (by simp) (by simp)
  refine ⟨q', call_wp (fn := f98) rfl rfl ?_⟩
  simp only [WU_mk, Int.cast_ofNat_Int] at hloop
  cases hany : (List.range y.cons.length).findSome? (fun i => (u i).map (wfS i (match y.cons[i]? with | some z => z.flds.length | none => 0))) with
  | none =>
    rw [hany] at hloop
    (simp only [e98, hw, iaI0, hia, iaD hy, WU_mk, wq_of hloop, wz, opX, intBin, ↓reduceIte, simprocAttr] <;> repeat' (first | refine wpG_s ?_ ?_ | refine wpC_s ?_ ?_) <;> intro hgo <;> (try simp only [dq] at hgo) <;> simp only [hgo, e98, hw, iaI0, hia, iaD hy, WU_mk, wq_of hloop, wz, opX, intBin, ↓reduceIte, simprocAttr])
  | some w =>
    rw [hany] at hloop
    (simp only [e98, hw, iaI0, hia, iaD hy, WU_mk, wq_of hloop, wz, opX, intBin, ↓reduceIte, simprocAttr] <;> repeat' (first | refine wpG_s ?_ ?_ | refine wpC_s ?_ ?_) <;> intro hgo <;> (try simp only [dq] at hgo) <;> simp only [hgo, e98, hw, iaI0, hia, iaD hy, WU_mk, wq_of hloop, wz, opX, intBin, ↓reduceIte, simprocAttr])
-- wz, opX, intBin, ↓reduceIte, simprocAttr
end Zc27
end
section
set_option linter.unusedSimpArgs false
set_option linter.unusedVariables false
set_option linter.unusedSimpArgs false
set_option maxHeartbeats 4000000
namespace Zc27
open Go Zv Zs

section
variable (o : List (Nat × Ob)) (H : Nat) (A B : List Int)
/-- With the head that is made. -/
def WH (p v : V) (b : Bool) (q : Nat) : Hp := ⟨(H + 6, .arr 4 [p]) :: (H + 5, .mp (kvB B)) :: (H + 4, .mp (kvB A)) :: (H + 3, .arr 1 [.d (.bool b)]) :: (H + 2, .arr 1 [v]) :: o, q⟩
theorem WH_of (p v b q q') : (⟨(H + 6, .arr 4 [p]) :: (WV o H A B v b q).objs, q'⟩ : Hp) = WH o H A B p v b q' := rfl
theorem WH_mk (p v b q q') : (⟨(WH o H A B p v b q).objs, q'⟩ : Hp) = WH o H A B p v b q' := rfl
theorem WH_next (p v b q) : (WH o H A B p v b q).next = q := rfl
theorem WH_r2 (p v b q) : (WH o H A B p v b q).row (H + 2) 1 = some (1, [v]) := by unfold WH Hp.row Hp.get; simp [Zv.look]
theorem WH_r3 (p v b q) : (WH o H A B p v b q).row (H + 3) 1 = some (1, [.d (.bool b)]) := by unfold WH Hp.row Hp.get; simp [Zv.look]
theorem WH_r6 (p v b q) : (WH o H A B p v b q).row (H + 6) 1 = some (4, [p]) := by unfold WH Hp.row Hp.get; simp [Zv.look]
theorem WH_s2 (p v b q) (x : V) (hs : stor x = true) (hc : x.cells.length = 1) : st 1 (WH o H A B p v b q) (.ptr (H + 2) 1 0 0) x = some (WH o H A B p x b q) := by
  unfold st; simp only [WH_r2, Option.bind_some, hs, hc]; simp [WH, Hp.set, upd]
theorem WH_s3 (p v b q) (c : Bool) : st 1 (WH o H A B p v b q) (.ptr (H + 3) 1 0 0) (.d (.bool c)) = some (WH o H A B p v c q) := by
  unfold st; simp only [WH_r3, Option.bind_some]; simp [WH, Hp.set, upd, V.cells, stor, D.cells]
theorem WH_s6 (p v b q) (x : V) (hs : stor x = true) (hc : x.cells.length = 4) : st 4 (WH o H A B p v b q) (.ptr (H + 6) 1 0 0) x = some (WH o H A B x v b q) := by
  unfold st; simp only [WH_r6, Option.bind_some, hs, hc]; simp [WH, Hp.set, upd]
theorem WH_l6 (l : List V) (v b q) : ld true 4 (WH o H A B (.agg l) v b q) (.ptr (H + 6) 1 0 0) = some (.agg l) := by unfold ld; simp [WH_r6]
theorem WH_kill (p v b q) : (WH o H A B p v b q).kill (H + 6) = WV o H A B v b q := by unfold WH WV Hp.kill; simp [del]
theorem WH_lenA (p v b q) : lenM (WH o H A B p v b q) (.map (H + 4)) = some (.d (.int .i64 (A.length : Int))) := by
  unfold lenM entries WH Hp.get; simp [Zv.look, kvB, int]
theorem WH_lenB (p v b q) : lenM (WH o H A B p v b q) (.map (H + 5)) = some (.d (.int .i64 (B.length : Int))) := by
  unfold lenM entries WH Hp.get; simp [Zv.look, kvB, int]
theorem WH_lkA (p v b q) (c : Int) : lk .i (.d (.bool false)) false (WH o H A B p v b q) (.map (H + 4)) (.d (.int .i64 c)) = some (.d (.bool (decide (c ∈ A)))) := by
  have hg : entries (WH o H A B p v b q) (.map (H + 4)) = some (kvB A) := by unfold entries WH Hp.get; simp [Zv.look]
  unfold lk
  simp only [hg, Option.bind_some]
  have := findK_B c A
  simp only [this, Option.map_some]
  by_cases hc : c ∈ A <;> simp [hc]
theorem WH_lkB (p v b q) (c : Int) : lk .i (.d (.bool false)) false (WH o H A B p v b q) (.map (H + 5)) (.d (.int .i64 c)) = some (.d (.bool (decide (c ∈ B)))) := by
  have hg : entries (WH o H A B p v b q) (.map (H + 5)) = some (kvB B) := by unfold entries WH Hp.get; simp [Zv.look]
  unfold lk
  simp only [hg, Option.bind_some]
  have := findK_B c B
  simp only [this, Option.map_some]
  by_cases hc : c ∈ B <;> simp [hc]
theorem loopA_ok (a3 a4 a15 p v : V) (b : Bool) (q : Nat) (hA : A.length ≤ 1000) :
    ex tab (.loop f51l0) [(3, a3), (4, a4), (6, .ptr (H + 2) 1 0 0), (7, .ptr (H + 3) 1 0 0), (8, .map (H + 4)), (15, a15), (17, .ptr (H + 6) 1 0 0), (18, .d (.int .i64 0))] (WH o H A B p v b q) =
      some (.exit 3, [(3, a3), (4, a4), (6, .ptr (H + 2) 1 0 0), (7, .ptr (H + 3) 1 0 0), (8, .map (H + 4)), (15, a15), (17, .ptr (H + 6) 1 0 0), (18, .d (.int .i64 (missN A : Nat))), (108, .d (.bool false))], WH o H A B p v b q) := by
  obtain ⟨m1, m2, m3⟩ := missN_spec A
  have := loop_from tab f51l0 (fun n => [(3, a3), (4, a4), (6, .ptr (H + 2) 1 0 0), (7, .ptr (H + 3) 1 0 0), (8, .map (H + 4)), (15, a15), (17, .ptr (H + 6) 1 0 0), (18, .d (.int .i64 (n : Int)))]) (fun _ => WH o H A B p v b q) (missN A) (.exit 3, [(3, a3), (4, a4), (6, .ptr (H + 2) 1 0 0), (7, .ptr (H + 3) 1 0 0), (8, .map (H + 4)), (15, a15), (17, .ptr (H + 6) 1 0 0), (18, .d (.int .i64 (missN A : Nat))), (108, .d (.bool false))], WH o H A B p v b q)
    (by
      intro n hn
      have := m2 n hn
      apply wq_ex.1
      (simp only [e51, WH_lkA, this, wrap_succ (show n < 2 ^ 62 by omega), wz, opX, intBin, ↓reduceIte, simprocAttr] <;> repeat' (first | refine wpG_s ?_ ?_ | refine wpC_s ?_ ?_) <;> intro hgo <;> (try simp only [dq] at hgo) <;> simp only [hgo, e51, WH_lkA, this, wrap_succ (show n < 2 ^ 62 by omega), wz, opX, intBin, ↓reduceIte, simprocAttr]))
    (by
      apply wq_ex.1
      (simp only [e51, WH_lkA, m1, wz, opX, intBin, ↓reduceIte, simprocAttr] <;> repeat' (first | refine wpG_s ?_ ?_ | refine wpC_s ?_ ?_) <;> intro hgo <;> (try simp only [dq] at hgo) <;> simp only [hgo, e51, WH_lkA, m1, wz, opX, intBin, ↓reduceIte, simprocAttr]))
    (by simp) (missN A) 0 (by omega)
  simpa using this
theorem loopB_ok (a15 p v : V) (b : Bool) (q : Nat) (hB : B.length ≤ 1000) :
    ex tab (.loop f51l1) [(6, .ptr (H + 2) 1 0 0), (7, .ptr (H + 3) 1 0 0), (9, .map (H + 5)), (15, a15), (17, .ptr (H + 6) 1 0 0), (19, .d (.int .i64 0))] (WH o H A B p v b q) =
      some (.exit 5, [(6, .ptr (H + 2) 1 0 0), (7, .ptr (H + 3) 1 0 0), (9, .map (H + 5)), (15, a15), (17, .ptr (H + 6) 1 0 0), (19, .d (.int .i64 (missN B : Nat))), (133, .d (.bool false))], WH o H A B p v b q) := by
  obtain ⟨m1, m2, m3⟩ := missN_spec B
  have := loop_from tab f51l1 (fun n => [(6, .ptr (H + 2) 1 0 0), (7, .ptr (H + 3) 1 0 0), (9, .map (H + 5)), (15, a15), (17, .ptr (H + 6) 1 0 0), (19, .d (.int .i64 (n : Int)))]) (fun _ => WH o H A B p v b q) (missN B) (.exit 5, [(6, .ptr (H + 2) 1 0 0), (7, .ptr (H + 3) 1 0 0), (9, .map (H + 5)), (15, a15), (17, .ptr (H + 6) 1 0 0), (19, .d (.int .i64 (missN B : Nat))), (133, .d (.bool false))], WH o H A B p v b q)
    (by
      intro n hn
      have := m2 n hn
      apply wq_ex.1
      (simp only [e51, WH_lkB, this, wrap_succ (show n < 2 ^ 62 by omega), wz, opX, intBin, ↓reduceIte, simprocAttr] <;> repeat' (first | refine wpG_s ?_ ?_ | refine wpC_s ?_ ?_) <;> intro hgo <;> (try simp only [dq] at hgo) <;> simp only [hgo, e51, WH_lkB, this, wrap_succ (show n < 2 ^ 62 by omega), wz, opX, intBin, ↓reduceIte, simprocAttr]))
    (by
      apply wq_ex.1
      (simp only [e51, WH_lkB, m1, wz, opX, intBin, ↓reduceIte, simprocAttr] <;> repeat' (first | refine wpG_s ?_ ?_ | refine wpC_s ?_ ?_) <;> intro hgo <;> (try simp only [dq] at hgo) <;> simp only [hgo, e51, WH_lkB, m1, wz, opX, intBin, ↓reduceIte, simprocAttr]))
    (by simp) (missN B) 0 (by omega)
  simpa using this
end
theorem norm_pV (k c m : Int) (l : List Pt) (nl : Option Bool) : norm (.agg [.d (.int .i64 k), .d (.int .i64 c), .d (.int .i64 m), .tl ((l.map ePt).map .d) nl]) = .d (ePt (.mk k c m l)) := by
  unfold norm
  simp only [toD, toDs, toDs_map, Option.map_some]
  rw [ePt_mk]
theorem norm_pV0 (k c m : Int) (nl : Option Bool) : norm (.agg [.d (.int .i64 k), .d (.int .i64 c), .d (.int .i64 m), .tl [] nl]) = .d (ePt (.mk k c m [])) := norm_pV k c m [] nl
theorem consS_len0 {d : List Dt} {ts : List Int} {l : List (List Pt)} (h : fitM d (0 :: ts) l) : (consS l).length = 0 := by
  have := consS_le h
  rw [consOf_lo (by omega)] at this
  simpa using this
theorem foldn_le : ∀ (l : List (List Pt)) (B : List Int), (l.foldl nG B).length ≤ B.length + l.length
  | [], B => by simp
  | r :: l, B => by
    rw [List.foldl_cons]
    have h1 := foldn_le l (nG B r)
    have h2 : (nG B r).length ≤ B.length + 1 := by
      cases r with
      | nil => simp [nG]
      | cons p s =>
        unfold nG
        simp only
        split
        · unfold addI; split <;> simp
        · omega
    rw [List.length_cons]; omega
theorem numsS_le (l : List (List Pt)) : (numsS l).length ≤ l.length := by
  have := foldn_le l []
  simpa [numsS] using this
theorem foldcl_le : ∀ (l : List (List Pt)) (A : List Int), (l.foldl cG A).length ≤ A.length + l.length
  | [], A => by simp
  | r :: l, A => by
    rw [List.foldl_cons]
    have h1 := foldcl_le l (cG A r)
    have h2 : (cG A r).length ≤ A.length + 1 := by
      cases r with
      | nil => simp [cG]
      | cons p s =>
        unfold cG
        simp only
        split
        · unfold addI; split <;> simp
        · omega
    rw [List.length_cons]; omega
theorem consS_le' (l : List (List Pt)) : (consS l).length ≤ l.length := by
  have := foldcl_le l []
  simpa [consS] using this
-- wz, opX, intBin, ↓reduceIte, simprocAttr
end Zc27
end
section
set_option linter.unusedSimpArgs false
set_option linter.unusedVariables false
set_option linter.unusedSimpArgs false
set_option maxHeartbeats 4000000
namespace Zc27
open Go Zv Zs

theorem mk_pat' (a b c : D) (l : List V) (nl : Option Bool) : mkAgg [.d a, .d b, .d c, .tl l nl] = .agg [.d a, .d b, .d c, .tl l nl] := rfl
theorem miss_lt {d : List Dt} {t : Int} {ts : List Int} {l : List (List Pt)} (h : fitM d (t :: ts) l) (hlt : (consS l).length < (consOf d t).length) : missN (consS l) < (consOf d t).length := by
  have := (missN_spec (consS l)).2.2
  omega
theorem witness_ok {d : List Dt} (S : Sml d) (T : typedS d = true) : ∀ (k : Nat) (ts : List Int) (rows : List (List Pt)), 9 * nwS rows + ts.length < k → 9 * nwS rows + ts.length ≤ 8000 → rows.length ≤ 1000 →
    (∀ t, t ∈ ts → isT d t = true) → fitM d ts rows → ∀ h, callW tab 51 [.d (eDs d), .d (eIs ts), .d (eRs rows)] h = some (wiV (wiS d k ts rows), h)
  | 0, _, _, h, _, _, _, _, _ => by omega
  | k + 1, [], rows, _, _, hl, _, _, h => by
    refine call_wp (fn := f51) rfl rfl ?_
    show wp tab (.seq f51r0 _) _ _ _
    rw [wq_seq, wq_of (wit_r0 (eDs d) (eIs []) (eRs rows) rfl rfl h)]
    have e0 : ((rows.length : Int) == 0) = decide (rows.length = 0) := by simp [ibeq]
    simp only [wiS]
    have hs2 := fun b q => W0_s2 h.objs h.next (.tl [] (some true)) b q (.tl [] (some true)) rfl rfl
    by_cases h0 : rows.length = 0
    · (simp only [e51, ibeq, e0, h0, hs2, W0_s3, W0_r2, W0_r3, W0_fin, wiV, wz, opX, intBin, ↓reduceIte, simprocAttr] <;> repeat' (first | refine wpG_s ?_ ?_ | refine wpC_s ?_ ?_) <;> intro hgo <;> (try simp only [dq] at hgo) <;> simp only [hgo, e51, ibeq, e0, h0, hs2, W0_s3, W0_r2, W0_r3, W0_fin, wiV, wz, opX, intBin, ↓reduceIte, simprocAttr])
      rfl
    · (simp only [e51, ibeq, e0, h0, hs2, W0_s3, W0_r2, W0_r3, W0_fin, wiV, wz, opX, intBin, ↓reduceIte, simprocAttr] <;> repeat' (first | refine wpG_s ?_ ?_ | refine wpC_s ?_ ?_) <;> intro hgo <;> (try simp only [dq] at hgo) <;> simp only [hgo, e51, ibeq, e0, h0, hs2, W0_s3, W0_r2, W0_r3, W0_fin, wiV, wz, opX, intBin, ↓reduceIte, simprocAttr])
  | k + 1, t :: ts, rows, hW, hB, hl, hT, hM, h => by
    have hts : ts.length ≤ 8000 := by rw [List.length_cons] at hB; omega
    have hrows := fitM_rows S (by omega) hM
    have hTt : ∀ f, f ∈ ts → isT d f = true := fun f hf => hT f (List.mem_cons_of_mem _ hf)
    rw [List.length_cons] at hW hB
    refine call_wp (fn := f51) rfl rfl ?_
    show wp tab (.seq f51r0 _) _ _ _
    rw [wq_seq, wq_of (wit_r0 (eDs d) (eIs (t :: ts)) (eRs rows) rfl rfl h)]
    have hne : (((ts.length + 1 : Nat) : Int) == 0) = false := by rw [ibeq]; exact decide_eq_false (by omega)
    have hh : callW tab 82 [.d (eRs rows)] (W0 h.objs h.next (.tl [] (some true)) false (h.next + 4)) = some (.tup [.map (h.next + 4), .map (h.next + 5)], WV h.objs h.next (consS rows) (numsS rows) (.tl [] (some true)) false (h.next + 6)) := heads_ok rows hl (fun r hr => (hrows r hr).1) _
    by_cases hc : t = 0 ∨ (consS rows).length < (consOf d t).length
    · have hrest := fun h => rests_ok (.clo 81 []) wildP rfl rows hl (fun r hr => (hrows r hr).1) (fun p _ _ h => by rw [cW_clo]; exact wild_ok p h) h
      have hnw := restS_nw wildP rows
      have hlen := fm_len (restF wildP) rows
      have hIH := witness_ok S T k ts (restS wildP rows) (by omega) (by omega) (Nat.le_trans hlen hl) hTt (restS_fit _ hM)
      have e : wiS d (k + 1) (t :: ts) rows = (wiS d k ts (restS wildP rows)).map (missS d t rows :: ·) := by
        simp only [wiS, if_pos hc]
      rw [e]
      have hwl := wiS_len d k ts (restS wildP rows)
      generalize wiS d k ts (restS wildP rows) = u at hIH hwl
      -- the test whether the column is complete
      have htest : ∀ Q : Out → Prop, wp tab f51r4 [(2, .d (eRs rows)), (3, .fp (eDs d) 0), (4, .fp (eIs (t :: ts)) 0), (6, .ptr (h.next + 2) 1 0 0), (7, .ptr (h.next + 3) 1 0 0), (8, .map (h.next + 4)), (9, .map (h.next + 5))] (WV h.objs h.next (consS rows) (numsS rows) (.tl [] (some true)) false (h.next + 6)) Q =
          Q (.norm, [(2, .d (eRs rows)), (3, .fp (eDs d) 0), (4, .fp (eIs (t :: ts)) 0), (6, .ptr (h.next + 2) 1 0 0), (7, .ptr (h.next + 3) 1 0 0), (8, .map (h.next + 4)), (9, .map (h.next + 5)), (48, .d (.bool false))], WV h.objs h.next (consS rows) (numsS rows) (.tl [] (some true)) false (h.next + 6)) := by
        intro Q
        refine wq_of ?_ Q
        apply wq_ex.1
        by_cases ht : t = 0
        · (simp only [e51, ht, iaI0, iaI0', ibne, wz, opX, intBin, ↓reduceIte, simprocAttr] <;> repeat' (first | refine wpG_s ?_ ?_ | refine wpC_s ?_ ?_) <;> intro hgo <;> (try simp only [dq] at hgo) <;> simp only [hgo, e51, ht, iaI0, iaI0', ibne, wz, opX, intBin, ↓reduceIte, simprocAttr])
        · rcases tcase d t with h0 | h0 | ⟨n, y, rfl, hy⟩
          · exfalso; have := hT t List.mem_cons_self; simp only [isT, Bool.and_eq_true, decide_eq_true_eq] at this; omega
          · exfalso; have := hT t List.mem_cons_self; simp only [isT, Bool.and_eq_true, decide_eq_true_eq] at this; omega
          have hn := (List.getElem?_eq_some_iff.1 hy).1
          have hsl := S.len
          have hw := wrap_sub1 (n := n) (by omega)
          rw [consOf_at hy] at hc
          have hlt := hc.resolve_left ht
          have hcl : (((consS rows).length : Int) == (y.cons.length : Int)) = false := by rw [ibeq]; exact decide_eq_false (by omega)
          (simp only [e51, ht, hw, iaI0, iaI0', iaD hy, ibne, WV_lenA, hcl, wz, opX, intBin, ↓reduceIte, simprocAttr] <;> repeat' (first | refine wpG_s ?_ ?_ | refine wpC_s ?_ ?_) <;> intro hgo <;> (try simp only [dq] at hgo) <;> simp only [hgo, e51, ht, hw, iaI0, iaI0', iaD hy, ibne, WV_lenA, hcl, wz, opX, intBin, ↓reduceIte, simprocAttr])
      cases u with
      | none =>
        have hs2 := fun b q => WV_s2 h.objs h.next (consS rows) (numsS rows) (.tl [] (some true)) b q (.tl [] (some true)) rfl rfl
        (simp only [e51, hne, hh, WV_of, WV_mk, WV_next, htest, slcT, slcT', hrest, hIH, wiV, hs2, WV_s3, WV_r2, WV_r3, WV_fin0, Option.map_none, wz, opX, intBin, ↓reduceIte, simprocAttr] <;> repeat' (first | refine wpG_s ?_ ?_ | refine wpC_s ?_ ?_) <;> intro hgo <;> (try simp only [dq] at hgo) <;> simp only [hgo, e51, hne, hh, WV_of, WV_mk, WV_next, htest, slcT, slcT', hrest, hIH, wiV, hs2, WV_s3, WV_r2, WV_r3, WV_fin0, Option.map_none, wz, opX, intBin, ↓reduceIte, simprocAttr])
      | some w =>
        have hwl' := hwl w rfl
        have hs2 := fun p b q => WH_s2 h.objs h.next (consS rows) (numsS rows) p (.tl [] (some true)) b q
        have htail : ∀ (kk c m : Int) (l : List Pt) (nl : Option Bool) (q : Nat), ex tab f51r27 [(6, .ptr (h.next + 2) 1 0 0), (7, .ptr (h.next + 3) 1 0 0), (15, .d (ePs w)), (17, .ptr (h.next + 6) 1 0 0)] (WH h.objs h.next (consS rows) (numsS rows) (.agg [.d (.int .i64 kk), .d (.int .i64 c), .d (.int .i64 m), .tl ((l.map ePt).map .d) nl]) (.tl [] (some true)) false q) =
            some (.norm, [(6, .ptr (h.next + 2) 1 0 0), (7, .ptr (h.next + 3) 1 0 0)], WV h.objs h.next (consS rows) (numsS rows) (.d (.lst (ePt (.mk kk c m l) :: w.map ePt))) true (if w = [] then q else q + 1)) := by
          intro kk c m l nl q
          have happ := fun h => app_one (.mk kk c m l) w (some false) h (by omega)
          have hs2' := fun p b q => hs2 p b q (.d (.lst (ePt (.mk kk c m l) :: w.map ePt))) rfl rfl
          apply wq_ex.1
          (simp only [e51, WH_l6, norm_pV, happ, WH_mk, WH_next, hs2', WH_s3, WH_kill, wz, opX, intBin, ↓reduceIte, simprocAttr] <;> repeat' (first | refine wpG_s ?_ ?_ | refine wpC_s ?_ ?_) <;> intro hgo <;> (try simp only [dq] at hgo) <;> simp only [hgo, e51, WH_l6, norm_pV, happ, WH_mk, WH_next, hs2', WH_s3, WH_kill, wz, opX, intBin, ↓reduceIte, simprocAttr])
        have htail0 : ∀ (kk c m : Int) (nl : Option Bool) (q : Nat), ex tab f51r27 [(6, .ptr (h.next + 2) 1 0 0), (7, .ptr (h.next + 3) 1 0 0), (15, .d (ePs w)), (17, .ptr (h.next + 6) 1 0 0)] (WH h.objs h.next (consS rows) (numsS rows) (.agg [.d (.int .i64 kk), .d (.int .i64 c), .d (.int .i64 m), .tl [] nl]) (.tl [] (some true)) false q) =
            some (.norm, [(6, .ptr (h.next + 2) 1 0 0), (7, .ptr (h.next + 3) 1 0 0)], WV h.objs h.next (consS rows) (numsS rows) (.d (.lst (ePt (.mk kk c m []) :: w.map ePt))) true (if w = [] then q else q + 1)) := fun kk c m nl q => htail kk c m [] nl q
        rw [Option.map_some]
        by_cases hA : 0 < (consS rows).length
        · have hA' : ((0 : Int) < ((consS rows).length : Int)) := by omega
          have ht : t ≠ 0 := by
            rintro rfl
            have := consS_len0 hM
            omega
          rcases tcase d t with h0 | h0 | ⟨n, y, rfl, hy⟩
          · exfalso; have := hT t List.mem_cons_self; simp only [isT, Bool.and_eq_true, decide_eq_true_eq] at this; omega
          · exfalso; have := hT t List.mem_cons_self; simp only [isT, Bool.and_eq_true, decide_eq_true_eq] at this; omega
          have hn := (List.getElem?_eq_some_iff.1 hy).1
          have hsl := S.len
          have hw := wrap_sub1 (n := n) (by omega)
          have hml := miss_lt hM (hc.resolve_left ht)
          rw [consOf_at hy] at hml
          obtain ⟨z, hz⟩ := get_of_lt (l := y.cons) hml
          have hz8 := (cons_sm S ((n : Int) + 1)).2 z (by rw [consOf_at hy]; exact List.mem_of_getElem? hz)
          have hmk := mkslP (n := z.flds.length) (by omega)
          have hms : missS d ((n : Int) + 1) rows = .mk 1 ((missN (consS rows) : Nat) : Int) 0 (List.replicate z.flds.length wildT) := by
            unfold missS
            rw [if_pos hA, fldsOf_at hy hz]
          have hcl := consS_le' rows
          have hlp := fun a3 a4 a15 p v b q => loopA_ok h.objs h.next (consS rows) (numsS rows) a3 a4 a15 p v b q (by omega)
          rw [hms]
          (simp only [e51, hne, hh, WV_of, WV_mk, WV_next, htest, slcT, slcT', hrest, hIH, wiV, WH_of, WH_lenA, hA', wq_of (hlp _ _ _ _ _ _ _), hw, iaI0, iaI0', iaD hy, iaC hz, hmk, mk_pat', WH_s6, wq_of (htail _ _ _ _ _ _), WV_r2, WV_r3, WV_fin, wz, opX, intBin, ↓reduceIte, simprocAttr] <;> repeat' (first | refine wpG_s ?_ ?_ | refine wpC_s ?_ ?_) <;> intro hgo <;> (try simp only [dq] at hgo) <;> simp only [hgo, e51, hne, hh, WV_of, WV_mk, WV_next, htest, slcT, slcT', hrest, hIH, wiV, WH_of, WH_lenA, hA', wq_of (hlp _ _ _ _ _ _ _), hw, iaI0, iaI0', iaD hy, iaC hz, hmk, mk_pat', WH_s6, wq_of (htail _ _ _ _ _ _), WV_r2, WV_r3, WV_fin, wz, opX, intBin, ↓reduceIte, simprocAttr])
          rfl
        · have hA' : ¬ ((0 : Int) < ((consS rows).length : Int)) := by omega
          by_cases hN : 0 < (numsS rows).length
          · have hN' : ((0 : Int) < ((numsS rows).length : Int)) := by omega
            have hms : missS d t rows = .mk 2 0 ((missN (numsS rows) : Nat) : Int) [] := by
              unfold missS
              rw [if_neg hA, if_pos hN]
            have hcl := numsS_le rows
            have hlp := fun a15 p v b q => loopB_ok h.objs h.next (consS rows) (numsS rows) a15 p v b q (by omega)
            rw [hms]
            (simp only [e51, hne, hh, WV_of, WV_mk, WV_next, htest, slcT, slcT', hrest, hIH, wiV, WH_of, WH_lenA, WH_lenB, hA', hN', wq_of (hlp _ _ _ _ _), mk_pat', WH_s6, wq_of (htail0 _ _ _ _ _), WV_r2, WV_r3, WV_fin, wz, opX, intBin, ↓reduceIte, simprocAttr] <;> repeat' (first | refine wpG_s ?_ ?_ | refine wpC_s ?_ ?_) <;> intro hgo <;> (try simp only [dq] at hgo) <;> simp only [hgo, e51, hne, hh, WV_of, WV_mk, WV_next, htest, slcT, slcT', hrest, hIH, wiV, WH_of, WH_lenA, WH_lenB, hA', hN', wq_of (hlp _ _ _ _ _), mk_pat', WH_s6, wq_of (htail0 _ _ _ _ _), WV_r2, WV_r3, WV_fin, wz, opX, intBin, ↓reduceIte, simprocAttr])
            rfl
          · have hN' : ¬ ((0 : Int) < ((numsS rows).length : Int)) := by omega
            have hms : missS d t rows = .mk 0 0 0 [] := by
              unfold missS
              rw [if_neg hA, if_neg hN]; rfl
            rw [hms]
            (simp only [e51, hne, hh, WV_of, WV_mk, WV_next, htest, slcT, slcT', hrest, hIH, wiV, WH_of, WH_lenA, WH_lenB, hA', hN', mk_pat', WH_s6, WH_l6, norm_pV0, fun h => app_one (.mk 0 0 0 []) w (some false) h (by omega), WH_mk, WH_next, fun p b q => hs2 p b q (.d (.lst (ePt (.mk 0 0 0 []) :: w.map ePt))) rfl rfl, WH_s3, WH_kill, WV_r2, WV_r3, WV_fin, wz, opX, intBin, ↓reduceIte, simprocAttr] <;> repeat' (first | refine wpG_s ?_ ?_ | refine wpC_s ?_ ?_) <;> intro hgo <;> (try simp only [dq] at hgo) <;> simp only [hgo, e51, hne, hh, WV_of, WV_mk, WV_next, htest, slcT, slcT', hrest, hIH, wiV, WH_of, WH_lenA, WH_lenB, hA', hN', mk_pat', WH_s6, WH_l6, norm_pV0, fun h => app_one (.mk 0 0 0 []) w (some false) h (by omega), WH_mk, WH_next, fun p b q => hs2 p b q (.d (.lst (ePt (.mk 0 0 0 []) :: w.map ePt))) rfl rfl, WH_s3, WH_kill, WV_r2, WV_r3, WV_fin, wz, opX, intBin, ↓reduceIte, simprocAttr])
            rfl
    · have ht : t ≠ 0 := fun e => hc (.inl e)
      have hlt : ¬ (consS rows).length < (consOf d t).length := fun e => hc (.inr e)
      rcases tcase d t with h0 | h0 | ⟨n, y, rfl, hy⟩
      · exfalso; have := hT t List.mem_cons_self; simp only [isT, Bool.and_eq_true, decide_eq_true_eq] at this; omega
      · exfalso; have := hT t List.mem_cons_self; simp only [isT, Bool.and_eq_true, decide_eq_true_eq] at this; omega
      have hn := (List.getElem?_eq_some_iff.1 hy).1
      have hsl := S.len
      have hw := wrap_sub1 (n := n) (by omega)
      have hcs := cons_sm S ((n : Int) + 1)
      have hle := consS_le hM
      rw [consOf_at hy] at hcs hlt hle
      have hcl : (((consS rows).length : Int) == (y.cons.length : Int)) = true := by rw [ibeq]; exact decide_eq_true (by omega)
      have hdown := fun i (hi : i < y.cons.length) (n' : Nat) => spS_down hM (by rw [consOf_at hy]; omega) (i := i) (by rw [consOf_at hy]; exact hi) n'
      have hu : ∀ (i : Nat) (z : Cn), y.cons[i]? = some z → (∀ h, callW tab 51 [.d (eDs d), .d (eIs (z.flds ++ ts)), .d (eRs (spS (i : Int) z.flds.length rows))] h = some (wiV (wiS d k (fldsOf d ((n : Int) + 1) i ++ ts) (spS (i : Int) (fldsOf d ((n : Int) + 1) i).length rows)), h)) ∧ ∀ w, wiS d k (fldsOf d ((n : Int) + 1) i ++ ts) (spS (i : Int) (fldsOf d ((n : Int) + 1) i).length rows) = some w → w.length = z.flds.length + ts.length := by
        intro i z hz
        have hi := (List.getElem?_eq_some_iff.1 hz).1
        have hfz := fldsOf_at hy hz
        have hzm := List.mem_of_getElem? hz
        have hz8 := hcs.2 z hzm
        have hd := hdown i hi z.flds.length
        have hM' := spS_fit i hM
        rw [hfz] at hM' ⊢
        refine ⟨witness_ok S T k (z.flds ++ ts) (spS (i : Int) z.flds.length rows) (by rw [List.length_append]; omega) (by rw [List.length_append]; omega) (Nat.le_trans (fm_len _ _) hl) (flds_isT T (by rw [consOf_at hy]; exact hzm) hTt) hM', fun w hw => ?_⟩
        rw [wiS_len d k _ _ w hw, List.length_append]
      obtain ⟨q, hq⟩ := wrange_ok hy (by omega) hcs.1 hcs.2 (ts := ts) (by omega) rows hl hrows hu h.objs h.next (consS rows) (numsS rows)
      have e : wiS d (k + 1) (((n : Int) + 1) :: ts) rows = (List.range y.cons.length).findSome? (fun i => (wiS d k (fldsOf d ((n : Int) + 1) i ++ ts) (spS (i : Int) (fldsOf d ((n : Int) + 1) i).length rows)).map (wfS i (match y.cons[i]? with | some z => z.flds.length | none => 0))) := by
        simp only [wiS]
        rw [if_neg hc, consOf_at hy]
        refine congrArg (fun f => List.findSome? f (List.range y.cons.length)) (funext fun i => ?_)
        have : (fldsOf d ((n : Int) + 1) i).length = (match y.cons[i]? with | some z => z.flds.length | none => 0) := by
          unfold fldsOf; rw [consOf_at hy]
          cases y.cons[i]? <;> rfl
        rw [this]
      rw [e]
      generalize (List.range y.cons.length).findSome? (fun i => (wiS d k (fldsOf d ((n : Int) + 1) i ++ ts) (spS (i : Int) (fldsOf d ((n : Int) + 1) i).length rows)).map (wfS i (match y.cons[i]? with | some z => z.flds.length | none => 0))) = u at hq
      have hmat : ∀ h, callW tab 83 [.d (eDs d), .d (.lst (eI ((n : Int) + 1) :: ts.map eI)), .d (eRs rows)] h = some (.clo 98 [.fp (eDs d) 0, .fp (eIs (((n : Int) + 1) :: ts)) 0, .fp (eRs rows) 0], ⟨h.objs, h.next + 3⟩) := fun h => matrices_ok _ _ _ rfl rfl rfl h
      have hrng : ex tab (.rng (.t 52) 816) [(3, .fp (eDs d) 0), (4, .fp (eIs (((n : Int) + 1) :: ts)) 0), (6, .ptr (h.next + 2) 1 0 0), (7, .ptr (h.next + 3) 1 0 0), (52, .clo 98 [.fp (eDs d) 0, .fp (eIs (((n : Int) + 1) :: ts)) 0, .fp (eRs rows) 0])] (WV h.objs h.next (consS rows) (numsS rows) (.tl [] (some true)) false (h.next + 9)) =
          some (wuX u, [(3, .fp (eDs d) 0), (4, .fp (eIs (((n : Int) + 1) :: ts)) 0), (6, .ptr (h.next + 2) 1 0 0), (7, .ptr (h.next + 3) 1 0 0), (52, .clo 98 [.fp (eDs d) 0, .fp (eIs (((n : Int) + 1) :: ts)) 0, .fp (eRs rows) 0])], match u with
            | none => WV h.objs h.next (consS rows) (numsS rows) (.tl [] (some true)) false q
            | some w => WV h.objs h.next (consS rows) (numsS rows) (.d (ePs w)) true q) := by
        refine ex_rng (f := 98) rfl hq ?_
        unfold rngEnd
        rw [WV_next]
        cases u <;> simp only [WU_get, WU_kill] <;> rfl
      cases u with
      | none =>
        have hs2 := fun b q => WV_s2 h.objs h.next (consS rows) (numsS rows) (.tl [] (some true)) b q (.tl [] (some true)) rfl rfl
        simp only [wuX] at hrng
        (simp only [e51, hne, hh, WV_of, WV_mk, WV_next, ibne, ht, hw, iaI0, iaI0', iaD hy, WV_lenA, hcl, hmat, wq_of hrng, hs2, WV_s3, WV_r2, WV_r3, WV_fin0, wiV, wz, opX, intBin, ↓reduceIte, simprocAttr] <;> repeat' (first | refine wpG_s ?_ ?_ | refine wpC_s ?_ ?_) <;> intro hgo <;> (try simp only [dq] at hgo) <;> simp only [hgo, e51, hne, hh, WV_of, WV_mk, WV_next, ibne, ht, hw, iaI0, iaI0', iaD hy, WV_lenA, hcl, hmat, wq_of hrng, hs2, WV_s3, WV_r2, WV_r3, WV_fin0, wiV, wz, opX, intBin, ↓reduceIte, simprocAttr])
      | some w =>
        simp only [wuX] at hrng
        (simp only [e51, hne, hh, WV_of, WV_mk, WV_next, ibne, ht, hw, iaI0, iaI0', iaD hy, WV_lenA, hcl, hmat, wq_of hrng, WV_r2, WV_r3, WV_fin, wiV, wz, opX, intBin, ↓reduceIte, simprocAttr] <;> repeat' (first | refine wpG_s ?_ ?_ | refine wpC_s ?_ ?_) <;> intro hgo <;> (try simp only [dq] at hgo) <;> simp only [hgo, e51, hne, hh, WV_of, WV_mk, WV_next, ibne, ht, hw, iaI0, iaI0', iaD hy, WV_lenA, hcl, hmat, wq_of hrng, WV_r2, WV_r3, WV_fin, wiV, wz, opX, intBin, ↓reduceIte, simprocAttr])
-- wz, opX, intBin, ↓reduceIte, simprocAttr
end Zc27
end
section
set_option linter.unusedSimpArgs false
set_option linter.unusedVariables false
set_option linter.unusedSimpArgs false
set_option maxHeartbeats 4000000
namespace Zc27
open Go Zv Zs

/-- The heads that are like a pattern. -/
theorem fold_any (p : Pt) (hp : kdP p ≠ 0) : ∀ (l : List (List Pt)) (H : List Pt), (l.foldl (accG hdG) H).any (fun q => sameP q p) = (H.any (fun q => sameP q p) || l.any fun r => match r with
    | [] => false
    | q :: _ => sameP q p)
  | [], H => by simp
  | r :: l, H => by
    rw [List.foldl_cons, fold_any p hp l, List.any_cons, ← Bool.or_assoc]
    congr 1
    cases r with
    | nil => simp [accG, hdG]
    | cons q s =>
      simp only [accG, hdG]
      by_cases h0 : kdP q = 0
      · have : sameP q p = false := by
          unfold sameP; rw [h0, decide_eq_false (fun e => hp e.symm)]; rfl
        simp [h0, this]
      · by_cases h1 : H.any (fun x => sameP x q) = true
        · simp only [h1, Bool.or_true, if_true]
          cases h2 : sameP q p with
          | false => simp
          | true =>
            obtain ⟨x, hx, hxs⟩ := List.any_eq_true.1 h1
            have : H.any (fun q => sameP q p) = true := by
              refine List.any_eq_true.2 ⟨x, hx, ?_⟩
              simp only [sameP, Bool.and_eq_true, decide_eq_true_eq] at hxs h2 ⊢
              omega
            rw [this]; rfl
        · simp only [h1, Bool.or_false, decide_eq_true_eq, h0, if_false]
          rw [List.any_append]
          simp
theorem heads_any (p : Pt) (hp : kdP p ≠ 0) (l : List (List Pt)) : (headsS l).any (fun q => sameP q p) = l.any fun r => match r with
    | [] => false
    | q :: _ => sameP q p := by
  unfold headsS accL
  rw [fold_any p hp]
  simp
theorem foldn_mem (c : Int) : ∀ (l : List (List Pt)) (A : List Int), c ∈ l.foldl nG A ↔ c ∈ A ∨ ∃ p s, (p :: s) ∈ l ∧ kdP p = 2 ∧ nmP p = c
  | [], A => by simp
  | r :: l, A => by
    rw [List.foldl_cons, foldn_mem c l]
    cases r with
    | nil =>
      show (c ∈ A ∨ _) ↔ _
      simp
    | cons q s =>
      show (c ∈ (if kdP q = 2 then addI A (nmP q) else A) ∨ _) ↔ _
      by_cases k1 : kdP q = 2
      · rw [if_pos k1, addI_mem]
        constructor
        · rintro ((h | h) | ⟨p, s', h1, h2, h3⟩)
          · exact .inl h
          · exact .inr ⟨q, s, List.mem_cons_self, k1, h.symm⟩
          · exact .inr ⟨p, s', List.mem_cons_of_mem _ h1, h2, h3⟩
        · rintro (h | ⟨p, s', h1, h2, h3⟩)
          · exact .inl (.inl h)
          · rcases List.mem_cons.1 h1 with e | h1
            · cases e; exact .inl (.inr h3.symm)
            · exact .inr ⟨p, s', h1, h2, h3⟩
      · rw [if_neg k1]
        constructor
        · rintro (h | ⟨p, s', h1, h2, h3⟩)
          · exact .inl h
          · exact .inr ⟨p, s', List.mem_cons_of_mem _ h1, h2, h3⟩
        · rintro (h | ⟨p, s', h1, h2, h3⟩)
          · exact .inl h
          · rcases List.mem_cons.1 h1 with e | h1
            · cases e; exact absurd h2 k1
            · exact .inr ⟨p, s', h1, h2, h3⟩
theorem numsS_mem (c : Int) (l : List (List Pt)) : c ∈ numsS l ↔ ∃ p s, (p :: s) ∈ l ∧ kdP p = 2 ∧ nmP p = c := by
  rw [numsS, foldn_mem]; simp
theorem any_cons {d : List Dt} {t : Int} {ts : List Int} {l : List (List Pt)} (h : fitM d (t :: ts) l) (c : Int) (qs : List Pt) : (headsS l).any (fun q => sameP q (.mk 1 c 0 qs)) = decide (c ∈ consS l) := by
  rw [heads_any _ (by rw [kdP_mk]; decide), Bool.eq_iff_iff, decide_eq_true_eq, consS_mem, List.any_eq_true]
  constructor
  · rintro ⟨r, hr, hs⟩
    cases r with
    | nil => cases hs
    | cons q s =>
      simp only [sameP_mk, Bool.and_eq_true, decide_eq_true_eq] at hs
      exact ⟨q, s, hr, hs.1.1, hs.1.2⟩
  · rintro ⟨p, s, hm, k1, hc⟩
    refine ⟨p :: s, hm, ?_⟩
    have := h _ hm
    simp only [fitR, Bool.and_eq_true] at this
    obtain ⟨k, c', m, qs'⟩ := p
    simp only [kdP_mk, cnP_mk] at k1 hc
    subst k1; subst hc
    rcases fits_cases this.1 with h1 | h1 | ⟨_, _, m0, _⟩
    · omega
    · omega
    · subst m0
      simp [sameP_mk, kdP_mk, cnP_mk, nmP_mk]
theorem any_nums {d : List Dt} {t : Int} {ts : List Int} {l : List (List Pt)} (h : fitM d (t :: ts) l) (m : Int) (qs : List Pt) : (headsS l).any (fun q => sameP q (.mk 2 0 m qs)) = decide (m ∈ numsS l) := by
  rw [heads_any _ (by rw [kdP_mk]; decide), Bool.eq_iff_iff, decide_eq_true_eq, numsS_mem, List.any_eq_true]
  constructor
  · rintro ⟨r, hr, hs⟩
    cases r with
    | nil => cases hs
    | cons q s =>
      simp only [sameP_mk, Bool.and_eq_true, decide_eq_true_eq] at hs
      exact ⟨q, s, hr, hs.1.1, hs.2⟩
  · rintro ⟨p, s, hm, k1, hc⟩
    refine ⟨p :: s, hm, ?_⟩
    have := h _ hm
    simp only [fitR, Bool.and_eq_true] at this
    obtain ⟨k, c', m', qs'⟩ := p
    simp only [kdP_mk, nmP_mk] at k1 hc
    subst k1; subst hc
    rcases fits_cases this.1 with h1 | ⟨_, _, c0, _⟩ | h1
    · omega
    · subst c0
      simp [sameP_mk, kdP_mk, cnP_mk, nmP_mk]
    · omega
/-- There are no heads: no constructors and no numbers. -/
theorem heads_nil {d : List Dt} {t : Int} {ts : List Int} {l : List (List Pt)} (h : fitM d (t :: ts) l) : (headsS l).length = 0 ↔ (consS l).length = 0 ∧ (numsS l).length = 0 := by
  constructor
  · intro h0
    have hn : headsS l = [] := List.eq_nil_of_length_eq_zero h0
    constructor
    · cases hc : consS l with
      | nil => rfl
      | cons c r =>
        have := any_cons h c []
        rw [hn, hc] at this
        simp at this
    · cases hc : numsS l with
      | nil => rfl
      | cons c r =>
        have := any_nums h c []
        rw [hn, hc] at this
        simp at this
  · rintro ⟨h1, h2⟩
    have e1 : consS l = [] := List.eq_nil_of_length_eq_zero h1
    have e2 : numsS l = [] := List.eq_nil_of_length_eq_zero h2
    have : l.foldl (accG hdG) [] = [] := by
      have key : ∀ (l' : List (List Pt)), (∀ r, r ∈ l' → r ∈ l) → l'.foldl (accG hdG) [] = [] := by
        intro l'
        induction l' with
        | nil => intro _; rfl
        | cons r l' ih =>
          intro hs
          have hr := hs r List.mem_cons_self
          have : accG hdG [] r = [] := by
            cases r with
            | nil => rfl
            | cons p s =>
              have hf := h _ hr
              simp only [fitR, Bool.and_eq_true] at hf
              obtain ⟨k, c, m, qs⟩ := p
              rcases fits_cases hf.1 with ⟨k0, _⟩ | ⟨k2, _⟩ | ⟨k1, _⟩
              · subst k0; rfl
              · exfalso
                have := (numsS_mem m l).2 ⟨_, s, hr, k2, rfl⟩
                rw [e2] at this; cases this
              · exfalso
                have := (consS_mem c l).2 ⟨_, s, hr, k1, rfl⟩
                rw [e1] at this; cases this
          rw [List.foldl_cons, this]
          exact ih fun r hr => hs r (List.mem_cons_of_mem _ hr)
      exact key l fun _ h => h
    unfold headsS accL
    rw [this]; rfl
theorem numsS_len0 {d : List Dt} {t : Int} {ts : List Int} {l : List (List Pt)} (ht : t ≠ 0) (h : fitM d (t :: ts) l) : (numsS l).length = 0 := by
  cases hc : numsS l with
  | nil => rfl
  | cons c r =>
    obtain ⟨p, s, hm, k2, _⟩ := (numsS_mem c l).1 (by rw [hc]; exact List.mem_cons_self)
    have := h _ hm
    simp only [fitR, Bool.and_eq_true] at this
    obtain ⟨k, c', m', qs'⟩ := p
    rw [kdP_mk] at k2
    rcases fits_cases this.1 with ⟨h1, _⟩ | ⟨_, h1, _⟩ | ⟨h1, _⟩
    · omega
    · exact absurd h1 ht
    · omega
-- wz, opX, intBin, ↓reduceIte, simprocAttr
end Zc27
end
section
set_option linter.unusedSimpArgs false
set_option linter.unusedVariables false
set_option linter.unusedSimpArgs false
set_option maxHeartbeats 4000000
namespace Zc27
open Go Zv Zs

theorem deep_ds (h : Hp) (n0 k : Nat) : ∀ l : List D, (l.map V.d).mapM (deep h n0 (k + 1)) = some l
  | [] => rfl
  | x :: l => by rw [List.map_cons, List.mapM_cons, deep_ds h n0 k l]; rfl
theorem deep_pV (h : Hp) (n0 : Nat) (a b c : D) (l : List D) (nl : Option Bool) : deep h n0 8 (.agg [.d a, .d b, .d c, .tl (l.map .d) nl]) = some (.agg [a, b, c, .lst l]) := by
  have e : deep h n0 7 (.tl (l.map .d) nl) = some (.lst l) := by
    show ((l.map V.d).mapM (deep h n0 6)).map D.lst = _
    rw [deep_ds]; rfl
  show ([V.d a, .d b, .d c, .tl (l.map .d) nl].mapM (deep h n0 7)).map D.agg = _
  rw [List.mapM_cons, List.mapM_cons, List.mapM_cons, List.mapM_cons, e]
  rfl
theorem fin_pV (h : Hp) (o : Nat × Ob) (m : Nat) (kk c i : Int) (l : List Pt) (nl : Option Bool) : finS h ⟨o :: h.objs, m⟩ [.agg [.d (.int .i64 kk), .d (.int .i64 c), .d (.int .i64 i), .tl ((l.map ePt).map .d) nl]] = some (.d (ePt (.mk kk c i l)), h) := by
  unfold finS
  rw [if_pos (suf_one _ _)]
  simp only [List.mapM_cons, List.mapM_nil, back1, deep_pV]
  rw [ePt_mk]
  rfl
theorem fin_pV0 (h : Hp) (o : Nat × Ob) (m : Nat) (kk c i : Int) (nl : Option Bool) : finS h ⟨o :: h.objs, m⟩ [.agg [.d (.int .i64 kk), .d (.int .i64 c), .d (.int .i64 i), .tl [] nl]] = some (.d (ePt (.mk kk c i [])), h) := fin_pV h o m kk c i [] nl
theorem ld_pat (n : Nat) (l : List V) (r : List (Nat × Ob)) (nx : Nat) : ld true 4 ⟨(n, .arr 4 [.agg l]) :: r, nx⟩ (.ptr n 1 0 0) = some (.agg l) := by
  simp [ld, row_hd]
theorem rmiss_ok {d : List Dt} (S : Sml d) {t : Int} (hT : isT d t = true) {ts : List Int} {rows : List (List Pt)} (hM : fitM d (t :: ts) rows) (hl : rows.length ≤ 1000) (hhl : (headsS rows).length ≤ 1000) (hc : t = 0 ∨ (consS rows).length < (consOf d t).length) (h : Hp) :
    callW tab 52 [.d (eDs d), .d (eI t), .d (ePs (headsS rows))] h = some (.d (ePt (missS d t rows)), h) := by
  refine call_wp (fn := f52) rfl rfl ?_
  have hhas := fun p h => has_ok (headsS rows) p hhl h
  have hnil := heads_nil hM
  by_cases h0 : (headsS rows).length = 0
  · have e0 : (((headsS rows).length : Int) == 0) = true := by rw [ibeq]; exact decide_eq_true (by omega)
    have hms : missS d t rows = .mk 0 0 0 [] := by
      unfold missS
      rw [if_neg (by omega), if_neg (by omega)]; rfl
    rw [hms]
    (simp only [e52, e0, mk_pat', ld_pat, fin_pV0, wz, opX, intBin, ↓reduceIte, simprocAttr] <;> repeat' (first | refine wpG_s ?_ ?_ | refine wpC_s ?_ ?_) <;> intro hgo <;> (try simp only [dq] at hgo) <;> simp only [hgo, e52, e0, mk_pat', ld_pat, fin_pV0, wz, opX, intBin, ↓reduceIte, simprocAttr])
  · have e0 : (((headsS rows).length : Int) == 0) = false := by rw [ibeq]; exact decide_eq_false (by omega)
    by_cases ht : t = 0
    · subst ht
      have hA := consS_len0 hM
      have hN : 0 < (numsS rows).length := by omega
      have hms : missS d 0 rows = .mk 2 0 ((missN (numsS rows) : Nat) : Int) [] := by
        unfold missS
        rw [if_neg (by omega), if_pos hN]
      obtain ⟨m1, m2, m3⟩ := missN_spec (numsS rows)
      have hcl := numsS_le rows
      have hloop := fun (v : V) => loop_from tab f52l0 (fun n => [(2, .d (ePs (headsS rows))), (6, .ptr h.next 1 0 0), (7, .d (.int .i64 (n : Int)))]) (fun _ => ⟨(h.next, .arr 4 [v]) :: h.objs, h.next + 1⟩) (missN (numsS rows)) (.exit 0, [(2, .d (ePs (headsS rows))), (6, .ptr h.next 1 0 0), (7, .d (.int .i64 (missN (numsS rows) : Nat))), (18, .d (.bool false))], ⟨(h.next, .arr 4 [v]) :: h.objs, h.next + 1⟩)
        (by
          intro n hn
          have := m2 n hn
          have ha := any_nums hM (n : Int) []
          rw [decide_eq_true this] at ha
          apply wq_ex.1
          (simp only [e52, mk_pat', norm_pV0, hhas, ha, wrap_succ (show n < 2 ^ 62 by omega), wz, opX, intBin, ↓reduceIte, simprocAttr] <;> repeat' (first | refine wpG_s ?_ ?_ | refine wpC_s ?_ ?_) <;> intro hgo <;> (try simp only [dq] at hgo) <;> simp only [hgo, e52, mk_pat', norm_pV0, hhas, ha, wrap_succ (show n < 2 ^ 62 by omega), wz, opX, intBin, ↓reduceIte, simprocAttr]))
        (by
          have ha := any_nums hM ((missN (numsS rows) : Nat) : Int) []
          rw [decide_eq_false m1] at ha
          apply wq_ex.1
          (simp only [e52, mk_pat', norm_pV0, hhas, ha, wz, opX, intBin, ↓reduceIte, simprocAttr] <;> repeat' (first | refine wpG_s ?_ ?_ | refine wpC_s ?_ ?_) <;> intro hgo <;> (try simp only [dq] at hgo) <;> simp only [hgo, e52, mk_pat', norm_pV0, hhas, ha, wz, opX, intBin, ↓reduceIte, simprocAttr]))
        (by simp) (missN (numsS rows)) 0 (by omega)
      simp only [Int.cast_ofNat_Int] at hloop
      rw [hms]
      (simp only [e52, e0, ibeq, mk_pat', wq_of (hloop _), ld_pat, fin_pV0, wz, opX, intBin, ↓reduceIte, simprocAttr] <;> repeat' (first | refine wpG_s ?_ ?_ | refine wpC_s ?_ ?_) <;> intro hgo <;> (try simp only [dq] at hgo) <;> simp only [hgo, e52, e0, ibeq, mk_pat', wq_of (hloop _), ld_pat, fin_pV0, wz, opX, intBin, ↓reduceIte, simprocAttr])
    · have hN := numsS_len0 ht hM
      have hA : 0 < (consS rows).length := by omega
      rcases tcase d t with h0 | h0 | ⟨n, y, rfl, hy⟩
      · exfalso; simp only [isT, Bool.and_eq_true, decide_eq_true_eq] at hT; omega
      · exfalso; simp only [isT, Bool.and_eq_true, decide_eq_true_eq] at hT; omega
      have hn := (List.getElem?_eq_some_iff.1 hy).1
      have hsl := S.len
      have hw := wrap_sub1 (n := n) (by omega)
      have hml := miss_lt hM (hc.resolve_left ht)
      rw [consOf_at hy] at hml
      obtain ⟨z, hz⟩ := get_of_lt (l := y.cons) hml
      have hz8 := (cons_sm S ((n : Int) + 1)).2 z (by rw [consOf_at hy]; exact List.mem_of_getElem? hz)
      have hmk := mkslP (n := z.flds.length) (by omega)
      have hms : missS d ((n : Int) + 1) rows = .mk 1 ((missN (consS rows) : Nat) : Int) 0 (List.replicate z.flds.length wildT) := by
        unfold missS
        rw [if_pos hA, fldsOf_at hy hz]
      obtain ⟨m1, m2, m3⟩ := missN_spec (consS rows)
      have hcl := consS_le' rows
      have hloop := fun (v : V) => loop_from tab f52l1 (fun i => [(0, .d (eDs d)), (1, .d (.int .i64 ((n : Int) + 1))), (2, .d (ePs (headsS rows))), (6, .ptr h.next 1 0 0), (8, .d (.int .i64 (i : Int)))]) (fun _ => ⟨(h.next, .arr 4 [v]) :: h.objs, h.next + 1⟩) (missN (consS rows)) (.exit 2, [(0, .d (eDs d)), (1, .d (.int .i64 ((n : Int) + 1))), (2, .d (ePs (headsS rows))), (6, .ptr h.next 1 0 0), (8, .d (.int .i64 (missN (consS rows) : Nat))), (26, .d (.bool false))], ⟨(h.next, .arr 4 [v]) :: h.objs, h.next + 1⟩)
        (by
          intro n hn
          have := m2 n hn
          have ha := any_cons hM (n : Int) []
          rw [decide_eq_true this] at ha
          apply wq_ex.1
          (simp only [e52, mk_pat', norm_pV0, hhas, ha, wrap_succ (show n < 2 ^ 62 by omega), wz, opX, intBin, ↓reduceIte, simprocAttr] <;> repeat' (first | refine wpG_s ?_ ?_ | refine wpC_s ?_ ?_) <;> intro hgo <;> (try simp only [dq] at hgo) <;> simp only [hgo, e52, mk_pat', norm_pV0, hhas, ha, wrap_succ (show n < 2 ^ 62 by omega), wz, opX, intBin, ↓reduceIte, simprocAttr]))
        (by
          have ha := any_cons hM ((missN (consS rows) : Nat) : Int) []
          rw [decide_eq_false m1] at ha
          apply wq_ex.1
          (simp only [e52, mk_pat', norm_pV0, hhas, ha, wz, opX, intBin, ↓reduceIte, simprocAttr] <;> repeat' (first | refine wpG_s ?_ ?_ | refine wpC_s ?_ ?_) <;> intro hgo <;> (try simp only [dq] at hgo) <;> simp only [hgo, e52, mk_pat', norm_pV0, hhas, ha, wz, opX, intBin, ↓reduceIte, simprocAttr]))
        (by simp) (missN (consS rows)) 0 (by omega)
      simp only [Int.cast_ofNat_Int] at hloop
      rw [hms]
      (simp only [e52, e0, ibeq, ht, mk_pat', wq_of (hloop _), hw, iaD hy, iaC hz, hmk, ld_pat, fin_pV, wz, opX, intBin, ↓reduceIte, simprocAttr] <;> repeat' (first | refine wpG_s ?_ ?_ | refine wpC_s ?_ ?_) <;> intro hgo <;> (try simp only [dq] at hgo) <;> simp only [hgo, e52, e0, ibeq, ht, mk_pat', wq_of (hloop _), hw, iaD hy, iaC hz, hmk, ld_pat, fin_pV, wz, opX, intBin, ↓reduceIte, simprocAttr])
/-- A loop that goes through the numbers below one, and leaves with what it finds; the heap as it was. -/
theorem loop_fs2 {β : Type} {a : AC} {K : Nat} {p : Nat → Option β} {f : Nat → Env} {O : List (Nat × Ob)} {e1 : β → Env} {x1 x2 : Ex} {e2 : Env} {q0 : Nat}
    (hs : ∀ q n, n < K → p n = none → wp tab a (f n) ⟨O, q⟩ (fun o => ∃ q', o = (.norm, f (n + 1), ⟨O, q'⟩) ∧ q ≤ q'))
    (hx : ∀ q n b, n < K → p n = some b → wp tab a (f n) ⟨O, q⟩ (fun o => ∃ q', o = (x1, e1 b, ⟨O, q'⟩) ∧ q ≤ q'))
    (hN : ∀ q, wp tab a (f K) ⟨O, q⟩ (fun o => ∃ q', o = (x2, e2, ⟨O, q'⟩) ∧ q ≤ q')) (ho : x1 ≠ .norm) (hoN : x2 ≠ .norm) :
    ∃ q', q0 ≤ q' ∧ ex tab (.loop a) (f 0) ⟨O, q0⟩ = some (match (List.range K).findSome? p with
      | some b => (x1, e1 b, ⟨O, q'⟩)
      | none => (x2, e2, ⟨O, q'⟩)) := by
  obtain ⟨o, h1, q, hqq, h2⟩ : wp tab (.loop a) (f 0) ⟨O, q0⟩ (fun o => ∃ q', q0 ≤ q' ∧ o = match (List.range K).findSome? p with
      | some b => (x1, e1 b, ⟨O, q'⟩)
      | none => (x2, e2, ⟨O, q'⟩)) := by
    refine loop_wp K (fun n e h' => (∃ q, q0 ≤ q ∧ h' = ⟨O, q⟩) ∧ e = f n ∧ ∀ i, i < n → p i = none) _ ?_ ?_ K 0 _ _ (by omega) ⟨⟨q0, Nat.le_refl _, rfl⟩, rfl, fun i hi => by omega⟩
    · rintro n e h' hn ⟨⟨q, hqn, rfl⟩, rfl, hk⟩
      cases hp : p n with
      | some b =>
        obtain ⟨o, hq, q', rfl, hle⟩ := hx q n b hn hp
        rw [fs_at hn hk hp]
        exact ⟨_, hq, .inr ⟨ho, q', Nat.le_trans hqn hle, rfl⟩⟩
      | none =>
        obtain ⟨o, hq, q', rfl, hle⟩ := hs q n hn hp
        refine ⟨_, hq, .inl ⟨rfl, ⟨q', Nat.le_trans hqn hle, rfl⟩, rfl, fun i hi => ?_⟩⟩
        by_cases hij : i = n
        · subst hij; exact hp
        · exact hk i (by omega)
    · rintro e h' ⟨⟨q, hqn, rfl⟩, rfl, hk⟩
      rw [fs_none hk]
      obtain ⟨o, hq, q', rfl, hle⟩ := hN q
      exact ⟨_, hq, hoN, q', Nat.le_trans hqn hle, rfl⟩
  exact ⟨q, hqq, by rw [h1, h2]⟩
theorem finS2n (h : Hp) (nl : Option Bool) (b : Bool) (n : Nat) : finS h ⟨h.objs, n⟩ [.tl [] nl, .d (.bool b)] = some (.tup [.d (.lst []), .d (.bool b)], h) := by
  unfold finS
  rw [if_pos (suf_refl _)]
  rfl
theorem finS2n' (h : Hp) (nl : Option Bool) (b : Bool) : finS h h [.tl [] nl, .d (.bool b)] = some (.tup [.d (.lst []), .d (.bool b)], h) := finS2n h nl b h.next
theorem rwitness_ok {d : List Dt} (S : Sml d) (T : typedS d = true) : ∀ (k : Nat) (ts : List Int) (rows : List (List Pt)), 9 * nwS rows + ts.length < k → 9 * nwS rows + ts.length ≤ 8000 → rows.length ≤ 1000 →
    (∀ t, t ∈ ts → isT d t = true) → fitM d ts rows → ∀ h, callW tab 20 [.d (eDs d), .d (eIs ts), .d (eRs rows)] h = some (wiV (wiS d k ts rows), h)
  | 0, _, _, h, _, _, _, _, _ => by omega
  | k + 1, [], rows, _, _, hl, _, _, h => by
    refine call_wp (fn := f20) rfl rfl ?_
    have e0 : ((rows.length : Int) == 0) = decide (rows.length = 0) := by simp [ibeq]
    simp only [wiS]
    by_cases h0 : rows.length = 0
    · (simp only [e20, ibeq, e0, h0, finS2n', wiV, wz, opX, intBin, ↓reduceIte, simprocAttr] <;> repeat' (first | refine wpG_s ?_ ?_ | refine wpC_s ?_ ?_) <;> intro hgo <;> (try simp only [dq] at hgo) <;> simp only [hgo, e20, ibeq, e0, h0, finS2n', wiV, wz, opX, intBin, ↓reduceIte, simprocAttr])
      rfl
    · (simp only [e20, ibeq, e0, h0, finS2n', wiV, wz, opX, intBin, ↓reduceIte, simprocAttr] <;> repeat' (first | refine wpG_s ?_ ?_ | refine wpC_s ?_ ?_) <;> intro hgo <;> (try simp only [dq] at hgo) <;> simp only [hgo, e20, ibeq, e0, h0, finS2n', wiV, wz, opX, intBin, ↓reduceIte, simprocAttr])
  | k + 1, t :: ts, rows, hW, hB, hl, hT, hM, h => by
    have hts : ts.length ≤ 8000 := by rw [List.length_cons] at hB; omega
    have hrows := fitM_rows S (by omega) hM
    have hTt : ∀ f, f ∈ ts → isT d f = true := fun f hf => hT f (List.mem_cons_of_mem _ hf)
    have hTt0 := hT t List.mem_cons_self
    rw [List.length_cons] at hW hB
    refine call_wp (fn := f20) rfl rfl ?_
    have hne : (((ts.length + 1 : Nat) : Int) == 0) = false := by rw [ibeq]; exact decide_eq_false (by omega)
    have hh := fun h => rheads_ok rows hl (fun r hr => (hrows r hr).1) h
    have hsl := S.len
    have hall := fun h => rall_ok (d := d) (by omega) hTt0 (headsS rows) h
    rw [not_all hM] at hall
    have hhl : (headsS rows).length ≤ 1000 := by
      have : (headsS rows).length ≤ rows.length := by
        have key : ∀ (l : List (List Pt)) (H : List Pt), (l.foldl (accG hdG) H).length ≤ H.length + l.length := by
          intro l
          induction l with
          | nil => intro H; simp
          | cons r l ih =>
            intro H
            rw [List.foldl_cons]
            have h1 := ih (accG hdG H r)
            have h2 : (accG hdG H r).length ≤ H.length + 1 := by
              unfold accG
              split <;> simp
            rw [List.length_cons]; omega
        simpa [headsS, accL] using key rows []
      omega
    by_cases hc : t = 0 ∨ (consS rows).length < (consOf d t).length
    · have hrest := fun h => rrest_ok rows hl (fun r hr => (hrows r hr).1) h
      have hnw := restS_nw wildP rows
      have hlen := fm_len (restF wildP) rows
      have hIH := rwitness_ok S T k ts (restS wildP rows) (by omega) (by omega) (Nat.le_trans hlen hl) hTt (restS_fit _ hM)
      have e : wiS d (k + 1) (t :: ts) rows = (wiS d k ts (restS wildP rows)).map (missS d t rows :: ·) := by
        simp only [wiS, if_pos hc]
      rw [e]
      have hwl := wiS_len d k ts (restS wildP rows)
      generalize wiS d k ts (restS wildP rows) = u at hIH hwl
      have hmiss := fun h => rmiss_ok S hTt0 hM hl hhl hc h
      rw [decide_eq_true hc] at hall
      cases u with
      | none => (simp only [e20, hne, hh, hall, iaI0, iaI0', slcT, slcT', hrest, hIH, wiV, finS2n', Option.map_none, wz, opX, intBin, ↓reduceIte, simprocAttr] <;> repeat' (first | refine wpG_s ?_ ?_ | refine wpC_s ?_ ?_) <;> intro hgo <;> (try simp only [dq] at hgo) <;> simp only [hgo, e20, hne, hh, hall, iaI0, iaI0', slcT, slcT', hrest, hIH, wiV, finS2n', Option.map_none, wz, opX, intBin, ↓reduceIte, simprocAttr])
      | some w =>
        have hwl' := hwl w rfl
        have happ := fun h => app_one (missS d t rows) w (some false) h (by omega)
        (simp only [e20, hne, hh, hall, iaI0, iaI0', slcT, slcT', hrest, hIH, wiV, hmiss, ePt_cells, happ, Option.map_some, finS2', wz, opX, intBin, ↓reduceIte, simprocAttr] <;> repeat' (first | refine wpG_s ?_ ?_ | refine wpC_s ?_ ?_) <;> intro hgo <;> (try simp only [dq] at hgo) <;> simp only [hgo, e20, hne, hh, hall, iaI0, iaI0', slcT, slcT', hrest, hIH, wiV, hmiss, ePt_cells, happ, Option.map_some, finS2', wz, opX, intBin, ↓reduceIte, simprocAttr])
        rfl
    · have ht : t ≠ 0 := fun e => hc (.inl e)
      have hlt : ¬ (consS rows).length < (consOf d t).length := fun e => hc (.inr e)
      rw [decide_eq_false hc] at hall
      rcases tcase d t with h0 | h0 | ⟨n, y, rfl, hy⟩
      · exfalso; simp only [isT, Bool.and_eq_true, decide_eq_true_eq] at hTt0; omega
      · exfalso; simp only [isT, Bool.and_eq_true, decide_eq_true_eq] at hTt0; omega
      have hn := (List.getElem?_eq_some_iff.1 hy).1
      have hw := wrap_sub1 (n := n) (by omega)
      have hcs := cons_sm S ((n : Int) + 1)
      have hle := consS_le hM
      rw [consOf_at hy] at hcs hlt hle
      have hdown := fun i (hi : i < y.cons.length) (n' : Nat) => spS_down hM (by rw [consOf_at hy]; omega) (i := i) (by rw [consOf_at hy]; exact hi) n'
      have hu : ∀ (i : Nat) (z : Cn), y.cons[i]? = some z → (∀ h, callW tab 20 [.d (eDs d), .d (eIs (z.flds ++ ts)), .d (eRs (rspS (.mk 1 (i : Int) 0 []) z.flds.length rows))] h = some (wiV (wiS d k (fldsOf d ((n : Int) + 1) i ++ ts) (spS (i : Int) (fldsOf d ((n : Int) + 1) i).length rows)), h)) ∧ ∀ w, wiS d k (fldsOf d ((n : Int) + 1) i ++ ts) (spS (i : Int) (fldsOf d ((n : Int) + 1) i).length rows) = some w → w.length = z.flds.length + ts.length := by
        intro i z hz
        have hi := (List.getElem?_eq_some_iff.1 hz).1
        have hfz := fldsOf_at hy hz
        have hzm := List.mem_of_getElem? hz
        have hz8 := hcs.2 z hzm
        have hd := hdown i hi z.flds.length
        have hM' := spS_fit i hM
        rw [rsp_made hM]
        rw [hfz] at hM' ⊢
        refine ⟨rwitness_ok S T k (z.flds ++ ts) (spS (i : Int) z.flds.length rows) (by rw [List.length_append]; omega) (by rw [List.length_append]; omega) (Nat.le_trans (fm_len _ _) hl) (flds_isT T (by rw [consOf_at hy]; exact hzm) hTt) hM', fun w hw => ?_⟩
        rw [wiS_len d k _ _ w hw, List.length_append]
      have e : wiS d (k + 1) (((n : Int) + 1) :: ts) rows = (List.range y.cons.length).findSome? (fun i => (wiS d k (fldsOf d ((n : Int) + 1) i ++ ts) (spS (i : Int) (fldsOf d ((n : Int) + 1) i).length rows)).map (wfS i (fldsOf d ((n : Int) + 1) i).length)) := by
        simp only [wiS]
        rw [if_neg hc, consOf_at hy]
      rw [e]
      obtain ⟨q', hq, hloop⟩ := loop_fs2 (a := f20l0) (K := y.cons.length) (p := fun i => (wiS d k (fldsOf d ((n : Int) + 1) i ++ ts) (spS (i : Int) (fldsOf d ((n : Int) + 1) i).length rows)).map (wfS i (fldsOf d ((n : Int) + 1) i).length)) (f := fun i => [(0, .d (eDs d)), (1, .d (eIs (((n : Int) + 1) :: ts))), (2, .d (eRs rows)), (8, .d (.int .i64 ((n : Int) + 1))), (10, .d (.int .i64 (i : Int)))]) (O := h.objs) (e1 := fun w => [(6, .d (ePs w)), (7, .d (.bool true))]) (x1 := .ret) (x2 := .exit 0) (e2 := [(0, .d (eDs d)), (1, .d (eIs (((n : Int) + 1) :: ts))), (2, .d (eRs rows)), (8, .d (.int .i64 ((n : Int) + 1))), (10, .d (.int .i64 (y.cons.length : Int))), (40, .d (.bool false))]) (q0 := h.next)
        (by
          intro q i hi hp
          obtain ⟨z, hz⟩ := get_of_lt (l := y.cons) (n := i) hi
          have hz8 := hcs.2 z (List.mem_of_getElem? hz)
          have hun : ∀ h, callW tab 47 [.d (eDs d), .d (eIs (((n : Int) + 1) :: ts)), .d (eI (i : Int))] h = some (.d (eIs (z.flds ++ ts)), h) := fun h => runder_ok hy hz (by omega) ts hz8 (by omega) h
          have hsp := fun h => rspecial_ok (.mk 1 (i : Int) 0 []) z.flds.length (by omega) rows hl hrows h
          have hui := (hu i z hz).1
          simp only [Option.map_eq_none_iff] at hp
          rw [hp] at hui
          (simp only [hi, e20, hw, iaD hy, iaC hz, hun, mk_pat', norm_pV0, hsp, hui, wiV, wrap_succ (show i < 2 ^ 62 by omega), wz, opX, intBin, ↓reduceIte, simprocAttr] <;> repeat' (first | refine wpG_s ?_ ?_ | refine wpC_s ?_ ?_) <;> intro hgo <;> (try simp only [dq] at hgo) <;> simp only [hgo, hi, e20, hw, iaD hy, iaC hz, hun, mk_pat', norm_pV0, hsp, hui, wiV, wrap_succ (show i < 2 ^ 62 by omega), wz, opX, intBin, ↓reduceIte, simprocAttr])
          exact ⟨_, rfl, by omega⟩)
        (by
          intro q i w hi hp
          obtain ⟨z, hz⟩ := get_of_lt (l := y.cons) (n := i) hi
          have hz8 := hcs.2 z (List.mem_of_getElem? hz)
          have hun : ∀ h, callW tab 47 [.d (eDs d), .d (eIs (((n : Int) + 1) :: ts)), .d (eI (i : Int))] h = some (.d (eIs (z.flds ++ ts)), h) := fun h => runder_ok hy hz (by omega) ts hz8 (by omega) h
          have hsp := fun h => rspecial_ok (.mk 1 (i : Int) 0 []) z.flds.length (by omega) rows hl hrows h
          obtain ⟨hui, hul⟩ := hu i z hz
          have hfz := fldsOf_at hy hz
          simp only [Option.map_eq_some_iff] at hp
          obtain ⟨w', hp, rfl⟩ := hp
          rw [hp] at hui
          have hwl := hul w' hp
          rw [hfz]
          have hE : D.agg [.int .i64 1, .int .i64 (i : Int), .int .i64 0, .lst ((w'.take z.flds.length).map ePt)] = ePt (.mk 1 (i : Int) 0 (w'.take z.flds.length)) := (ePt_mk ..).symm
          have hsl := slcPt (w := w') (n := z.flds.length) (by omega)
          have hsd := slcPd (w := w') (n := z.flds.length) (by omega)
          have ht0 := fun (h : Hp) => tl_app (nl := some false) (es := 4) (b := 48) (h := h) (r := (w'.take z.flds.length).map ePt) ptcells (by simp only [List.length_map, List.length_take, roomB]; omega)
          have happ := fun h => app_one (.mk 1 (i : Int) 0 (w'.take z.flds.length)) (w'.drop z.flds.length) (some false) h (by rw [List.length_drop]; omega)
          (simp only [hi, e20, hw, iaD hy, iaC hz, hun, mk_pat', norm_pV0, hsp, hui, wiV, hsl, hsd, ht0, clo_frz, hE, ePt_cells, happ, wz, opX, intBin, ↓reduceIte, simprocAttr] <;> repeat' (first | refine wpG_s ?_ ?_ | refine wpC_s ?_ ?_) <;> intro hgo <;> (try simp only [dq] at hgo) <;> simp only [hgo, hi, e20, hw, iaD hy, iaC hz, hun, mk_pat', norm_pV0, hsp, hui, wiV, hsl, hsd, ht0, clo_frz, hE, ePt_cells, happ, wz, opX, intBin, ↓reduceIte, simprocAttr])
          refine ⟨_, ⟨rfl, rfl⟩, ?_⟩
          split <;> split <;> omega)
        (by
          intro q
          (simp only [e20, hw, iaD hy, wz, opX, intBin, ↓reduceIte, simprocAttr] <;> repeat' (first | refine wpG_s ?_ ?_ | refine wpC_s ?_ ?_) <;> intro hgo <;> (try simp only [dq] at hgo) <;> simp only [hgo, e20, hw, iaD hy, wz, opX, intBin, ↓reduceIte, simprocAttr])
          exact ⟨_, rfl, by omega⟩)
        (by simp) (by simp)
      simp only [Int.cast_ofNat_Int] at hloop
      cases hany : (List.range y.cons.length).findSome? (fun i => (wiS d k (fldsOf d ((n : Int) + 1) i ++ ts) (spS (i : Int) (fldsOf d ((n : Int) + 1) i).length rows)).map (wfS i (fldsOf d ((n : Int) + 1) i).length)) with
      | none =>
        rw [hany] at hloop
        (simp only [e20, hne, hh, hall, iaI0, iaI0', wq_of hloop, finS2n, wiV, wz, opX, intBin, ↓reduceIte, simprocAttr] <;> repeat' (first | refine wpG_s ?_ ?_ | refine wpC_s ?_ ?_) <;> intro hgo <;> (try simp only [dq] at hgo) <;> simp only [hgo, e20, hne, hh, hall, iaI0, iaI0', wq_of hloop, finS2n, wiV, wz, opX, intBin, ↓reduceIte, simprocAttr])
      | some w =>
        rw [hany] at hloop
        (simp only [e20, hne, hh, hall, iaI0, iaI0', wq_of hloop, finS2', wiV, wz, opX, intBin, ↓reduceIte, simprocAttr] <;> repeat' (first | refine wpG_s ?_ ?_ | refine wpC_s ?_ ?_) <;> intro hgo <;> (try simp only [dq] at hgo) <;> simp only [hgo, e20, hne, hh, hall, iaI0, iaI0', wq_of hloop, finS2', wiV, wz, opX, intBin, ↓reduceIte, simprocAttr])
-- wz, opX, intBin, ↓reduceIte, simprocAttr
end Zc27
end
section
set_option linter.unusedSimpArgs false
set_option linter.unusedVariables false
set_option linter.unusedSimpArgs false
set_option maxHeartbeats 4000000
namespace Zc27
open Go Zv Zs

/-- A pattern that is nested at most so deep, and is not wide. -/
def smP : Nat → Pt → Prop
  | 0, p => argsP p = []
  | k + 1, p => (argsP p).length ≤ 1000 ∧ ∀ q, q ∈ argsP p → smP k q
theorem smP_up : ∀ {k : Nat} {p : Pt}, smP k p → smP (k + 1) p
  | 0, p, h => by
    have h : argsP p = [] := h
    exact ⟨by rw [h]; simp, fun q hq => by rw [h] at hq; cases hq⟩
  | k + 1, p, h => ⟨h.1, fun q hq => smP_up (h.2 q hq)⟩
theorem smP_le {k m : Nat} {p : Pt} (hkm : k ≤ m) (h : smP k p) : smP m p := by
  induction m with
  | zero => have : k = 0 := by omega
            subst this; exact h
  | succ m ih =>
    by_cases e : k = m + 1
    · subst e; exact h
    · exact smP_up (ih (by omega))
theorem smP_len {k : Nat} {p : Pt} (h : smP k p) : (argsP p).length ≤ 1000 := by
  cases k with
  | zero => have h : argsP p = [] := h
            rw [h]; simp
  | succ k => exact h.1
theorem smP_wild (k : Nat) : smP k wildT := smP_le (Nat.zero_le k) rfl
theorem wiS_sm {d : List Dt} (S : Sml d) : ∀ (k : Nat) (ts : List Int) (rows : List (List Pt)) (w : List Pt), fitM d ts rows → wiS d k ts rows = some w → ∀ p, p ∈ w → smP (nwS rows + 1) p
  | 0, _, _, _, _, h => by cases h
  | k + 1, [], rows, w, _, h => by
    simp only [wiS] at h
    split at h
    · cases h; intro p hp; cases hp
    · cases h
  | k + 1, t :: ts, rows, w, hM, h => by
    simp only [wiS] at h
    split at h
    · simp only [Option.map_eq_some_iff] at h
      obtain ⟨v, hv, rfl⟩ := h
      intro p hp
      rcases List.mem_cons.1 hp with rfl | hp
      · refine smP_le (k := 1) (by omega) ?_
        unfold missS
        split
        · refine ⟨?_, ?_⟩
          · rw [argsP_mk, List.length_replicate]
            unfold fldsOf
            split
            · rename_i z hz
              have := (cons_sm S t).2 z (List.mem_of_getElem? hz); omega
            · simp
          · intro q hq
            rw [argsP_mk] at hq
            rw [List.eq_of_mem_replicate hq]
            exact smP_wild 0
        · split
          · exact smP_le (k := 0) (by omega) rfl
          · exact smP_wild 1
      · have := wiS_sm S k ts _ v (restS_fit wildP hM) hv p hp
        exact smP_le (by have := restS_nw wildP rows; omega) this
    · rename_i hc
      obtain ⟨i, hi, hw⟩ := List.exists_of_findSome?_eq_some h
      simp only [Option.map_eq_some_iff] at hw
      obtain ⟨v, hv, rfl⟩ := hw
      have hi := List.mem_range.1 hi
      have ht : t ≠ 0 := fun e => hc (.inl e)
      have hlt : ¬ (consS rows).length < (consOf d t).length := fun e => hc (.inr e)
      have hdn := spS_down hM (by omega) hi (fldsOf d t i).length
      have hall := wiS_sm S k _ _ v (spS_fit i hM) hv
      have hfl : (fldsOf d t i).length ≤ 8 := by
        unfold fldsOf
        split
        · rename_i z hz
          exact (cons_sm S t).2 z (List.mem_of_getElem? hz)
        · simp
      intro p hp
      rcases List.mem_cons.1 hp with rfl | hp
      · refine ⟨?_, ?_⟩
        · rw [argsP_mk, List.length_take]; omega
        · intro q hq
          rw [argsP_mk] at hq
          exact smP_le (by omega) (hall q (List.mem_of_mem_take hq))
      · exact smP_le (by omega) (hall p (List.mem_of_mem_drop hp))

/-! ### from -/
section
variable (o : List (Nat × Ob)) (H : Nat) (z : V) (k c m : Int)
def FV (s : List Pt) : V := if s = [] then .tl [] (some true) else .own (H + 3) 4 s.length 0 s.length
def FM (s' s : List Pt) : Hp := ⟨if s' = [] then (H + 2, .arr 4 [.agg [.d (.int .i64 k), .d (.int .i64 c), .d (.int .i64 m), FV H s]]) :: (H + 1, .arr 4 [z]) :: o
  else (H + 3, .arr 4 ((s'.map ePt).map .d)) :: (H + 2, .arr 4 [.agg [.d (.int .i64 k), .d (.int .i64 c), .d (.int .i64 m), FV H s]]) :: (H + 1, .arr 4 [z]) :: o, if s' = [] then H + 3 else H + 4⟩
theorem FM_row2 (s' s : List Pt) : (FM o H z k c m s' s).row (H + 2) 1 = some (4, [.agg [.d (.int .i64 k), .d (.int .i64 c), .d (.int .i64 m), FV H s]]) := by
  unfold FM Hp.row Hp.get
  by_cases h : s' = [] <;> simp [Zv.look, h]
theorem FM_row3 {s' : List Pt} (s : List Pt) (h : s' ≠ []) : (FM o H z k c m s' s).row (H + 3) s'.length = some (4, (s'.map ePt).map .d) := by
  unfold FM Hp.row Hp.get
  simp [Zv.look, h]
theorem FM_ld (s' s : List Pt) : ld false 1 (FM o H z k c m s' s) (.ptr (H + 2) 1 0 3) = some (FV H s) := by
  unfold ld; simp only [FM_row2, Option.bind_some]; rfl
theorem FV_cells (s : List Pt) : (FV H s).cells = [FV H s] := by unfold FV; split <;> rfl
theorem FV_stor (s : List Pt) : stor (FV H s) = true := by unfold FV; split <;> rfl
theorem mkAgg_FV (a b c : D) (s : List Pt) : mkAgg [.d a, .d b, .d c, FV H s] = .agg [.d a, .d b, .d c, FV H s] := by unfold FV; split <;> rfl
theorem FM_st (s' s t : List Pt) : st 1 (FM o H z k c m s' s) (.ptr (H + 2) 1 0 3) (FV H t) = some (FM o H z k c m s' t) := by
  unfold st
  simp only [FM_row2, Option.bind_some, FV_stor, FV_cells]
  have hc : (V.agg [.d (.int .i64 k), .d (.int .i64 c), .d (.int .i64 m), FV H s]).cells = [.d (.int .i64 k), .d (.int .i64 c), .d (.int .i64 m), FV H s] := rfl
  simp only [List.getElem?_cons_zero, Option.bind_some, List.length_singleton, and_self, if_true, hc]
  rw [if_neg (by decide), if_pos ⟨by simp, by decide⟩]
  have e : List.take 3 [V.d (.int .i64 k), .d (.int .i64 c), .d (.int .i64 m), FV H s] ++ [FV H t] ++ List.drop (3 + 1) [V.d (.int .i64 k), .d (.int .i64 c), .d (.int .i64 m), FV H s] = [V.d (.int .i64 k), .d (.int .i64 c), .d (.int .i64 m), FV H t] := rfl
  rw [e, mkAgg_FV]
  unfold FM Hp.set
  by_cases h : s' = [] <;> simp [upd, h]
theorem FM_app (s : List Pt) (x : Pt) (hl : s.length ≤ 1000) : app 4 48 (FM o H z k c m s s) (FV H s) (.tl [.d (ePt x)] (some false)) = some (FV H (s ++ [x]), FM o H z k c m (s ++ [x]) s) := by
  have hc : allV 4 [V.d (ePt x)] = true := by simp [Zv.allV, V.cells, ePt_cells]
  unfold app
  simp only [elems, Option.bind_some, List.map_cons, List.map_nil, norm_d, hc, if_true]
  by_cases h : s = []
  · subst h
    simp only [FV, if_true]
    rw [if_neg (by simp), if_pos (by constructor; simp [roomB]; simp [Zv.allV])]
    simp [FM, FV, Hp.alloc]
  · have hr := FM_row3 o H z k c m s h
    have hf : FV H s = .own (H + 3) 4 s.length 0 s.length := by unfold FV; rw [if_neg h]
    rw [hf]
    simp only [hr, Option.bind_some]
    rw [if_pos (by simp), if_neg (by simp), if_neg (by simp), if_pos (by simp only [roomB, List.length_cons, List.length_nil]; omega)]
    simp only [if_true]
    simp [FM, FV, h, Hp.set, upd]
    rw [List.take_of_length_le (by simp)]
end
theorem FM_stz (o : List (Nat × Ob)) (H : Nat) (z : V) (k c m : Int) (s t : List Pt) (x : V) (hs : stor x = true) (hc : x.cells.length = 4) : st 4 (FM o H z k c m s t) (.ptr (H + 1) 1 0 0) x = some (FM o H x k c m s t) := by
  have hr : (FM o H z k c m s t).row (H + 1) 1 = some (4, [z]) := by
    unfold FM Hp.row Hp.get
    by_cases h : s = [] <;> simp [Zv.look, h]
  unfold st
  simp only [hr, Option.bind_some, hs, hc]
  simp only [List.getElem?_cons_zero, Option.bind_some, and_self, if_true]
  unfold FM Hp.set
  by_cases h : s = [] <;> simp [upd, h]
def FK (o : List (Nat × Ob)) (H : Nat) (v : V) (s : List Pt) : Hp := ⟨if s = [] then (H + 1, .arr 4 [v]) :: o else (H + 3, .arr 4 ((s.map ePt).map .d)) :: (H + 1, .arr 4 [v]) :: o, if s = [] then H + 3 else H + 4⟩
theorem FM_kill (o : List (Nat × Ob)) (H : Nat) (z : V) (k c m : Int) (s t : List Pt) : (FM o H z k c m s t).kill (H + 2) = FK o H z s := by
  unfold FM FK Hp.kill
  by_cases h : s = [] <;> simp [del, h]
theorem FK_row1 (o : List (Nat × Ob)) (H : Nat) (v : V) (s : List Pt) : (FK o H v s).row (H + 1) 1 = some (4, [v]) := by
  unfold FK Hp.row Hp.get
  by_cases h : s = [] <;> simp [Zv.look, h]
theorem FK_row3 (o : List (Nat × Ob)) (H : Nat) (v : V) {s : List Pt} (h : s ≠ []) : (FK o H v s).row (H + 3) s.length = some (4, (s.map ePt).map .d) := by
  unfold FK Hp.row Hp.get
  simp [Zv.look, h]
theorem FK_fin (h : Hp) (k c m : Int) (s : List Pt) (w : V) : finS h (FK h.objs h.next w s) [.agg [.d (.int .i64 k), .d (.int .i64 c), .d (.int .i64 m), FV h.next s]] = some (.d (ePt (.mk k c m s)), h) := by
  have e : deep (FK h.objs h.next w s) h.next 7 (FV h.next s) = some (.lst (s.map ePt)) := by
    by_cases hs : s = []
    · subst hs; rfl
    · have hr := FK_row3 h.objs h.next w hs
      have hf : FV h.next s = .own (h.next + 3) 4 s.length 0 s.length := by unfold FV; rw [if_neg hs]
      rw [hf]
      show (if h.next ≤ h.next + 3 then ((FK h.objs h.next w s).row (h.next + 3) s.length).bind (fun r => if 0 + s.length ≤ r.2.length then ((((r.2.drop 0).take s.length).mapM (deep (FK h.objs h.next w s) h.next 6)).map D.lst) else none) else none) = _
      rw [if_pos (by omega), hr, Option.bind_some, if_pos (by simp), List.drop_zero, List.take_of_length_le (by simp), deep_ds]
      rfl
  have e2 : deep (FK h.objs h.next w s) h.next 8 (.agg [.d (.int .i64 k), .d (.int .i64 c), .d (.int .i64 m), FV h.next s]) = some (ePt (.mk k c m s)) := by
    show ([V.d (.int .i64 k), .d (.int .i64 c), .d (.int .i64 m), FV h.next s].mapM (deep (FK h.objs h.next w s) h.next 7)).map D.agg = _
    rw [List.mapM_cons, List.mapM_cons, List.mapM_cons, List.mapM_cons, e, ePt_mk]
    rfl
  unfold finS
  rw [if_pos (by
    unfold FK
    by_cases hs : s = []
    · simp only [hs, if_true]; exact suf_app [_] h.objs
    · simp only [hs, if_false]; exact suf_app [_, _] h.objs)]
  simp only [List.mapM_cons, List.mapM_nil, back1, e2]
  rfl
theorem foldl_snoc {α : Type} : ∀ (l s : List α), l.foldl (fun s x => s ++ [x]) s = s ++ l
  | [], s => by simp
  | x :: l, s => by rw [List.foldl_cons, foldl_snoc l]; simp
-- wz, opX, intBin, ↓reduceIte, simprocAttr
end Zc27
end
section
set_option linter.unusedSimpArgs false
set_option linter.unusedVariables false
set_option linter.unusedSimpArgs false
set_option maxHeartbeats 4000000
namespace Zc27
open Go Zv Zs

theorem FM_of0 (o : List (Nat × Ob)) (H : Nat) (z : V) (k c m : Int) : (⟨(H + 2, .arr 4 [.agg [.d (.int .i64 k), .d (.int .i64 c), .d (.int .i64 m), .tl [] (some true)]]) :: (H + 1, .arr 4 [z]) :: o, H + 3⟩ : Hp) = FM o H z k c m [] [] := rfl
theorem FM_ldt (o : List (Nat × Ob)) (H : Nat) (z : V) (k c m : Int) (s t : List Pt) : ld true 4 (FM o H z k c m s t) (.ptr (H + 2) 1 0 0) = some (.agg [.d (.int .i64 k), .d (.int .i64 c), .d (.int .i64 m), FV H t]) := by
  unfold ld; simp [FM_row2]
theorem FK_ldt (o : List (Nat × Ob)) (H : Nat) (l : List V) (s : List Pt) : ld true 4 (FK o H (.agg l) s) (.ptr (H + 1) 1 0 0) = some (.agg l) := by
  unfold ld; simp [FK_row1]
theorem from_ok : ∀ (kk : Nat) (p : Pt), smP kk p → kk ≤ 1000 → ∀ h, callW tab 54 [.d (ePt p), .d (.int .i64 (kk : Int))] h = some (.d (ePt p), h) := by
  intro kk
  induction kk with
  | zero =>
    intro p hp _ h
    obtain ⟨k, c, m, qs⟩ := p
    have hp : qs = [] := hp
    subst hp
    refine call_wp (fn := f54) rfl rfl ?_
    have hloop : ex tab (.loop f54l0) [(1, .d (.int .i64 0)), (2, .fp (ePt (.mk k c m [])) 0), (4, .ptr (h.next + 1) 1 0 0), (5, .ptr (h.next + 2) 1 0 0), (6, .d (.int .i64 0))] (FM h.objs h.next (.agg [.d (.int .i64 0), .d (.int .i64 0), .d (.int .i64 0), .tl [] (some true)]) k c m [] []) =
        some (.exit 0, [(1, .d (.int .i64 0)), (2, .fp (ePt (.mk k c m [])) 0), (4, .ptr (h.next + 1) 1 0 0), (5, .ptr (h.next + 2) 1 0 0), (6, .d (.int .i64 0)), (22, .d (.bool false))], FM h.objs h.next (.agg [.d (.int .i64 0), .d (.int .i64 0), .d (.int .i64 0), .tl [] (some true)]) k c m [] []) := by
      have := loop_from tab f54l0 (fun _ => [(1, .d (.int .i64 0)), (2, .fp (ePt (.mk k c m [])) 0), (4, .ptr (h.next + 1) 1 0 0), (5, .ptr (h.next + 2) 1 0 0), (6, .d (.int .i64 0))]) (fun _ => FM h.objs h.next (.agg [.d (.int .i64 0), .d (.int .i64 0), .d (.int .i64 0), .tl [] (some true)]) k c m [] []) 0 (.exit 0, [(1, .d (.int .i64 0)), (2, .fp (ePt (.mk k c m [])) 0), (4, .ptr (h.next + 1) 1 0 0), (5, .ptr (h.next + 2) 1 0 0), (6, .d (.int .i64 0)), (22, .d (.bool false))], FM h.objs h.next (.agg [.d (.int .i64 0), .d (.int .i64 0), .d (.int .i64 0), .tl [] (some true)]) k c m [] []) (by intro n hn; omega)
        (by apply wq_ex.1; (simp only [e54, ePt_cs, wz, opX, intBin, ↓reduceIte, simprocAttr] <;> repeat' (first | refine wpG_s ?_ ?_ | refine wpC_s ?_ ?_) <;> intro hgo <;> (try simp only [dq] at hgo) <;> simp only [hgo, e54, ePt_cs, wz, opX, intBin, ↓reduceIte, simprocAttr])) (by simp) 0 0 rfl
      exact this
    have hfin := FK_fin h k c m []
    have hF0 : FV h.next [] = .tl [] (some true) := rfl
    rw [hF0] at hfin
    have hl2 : ex tab (.loop f54l0) [(1, .d (.int .i64 0)), (2, .fp (ePt (.mk k c m [])) 0), (4, .ptr (h.next + 1) 1 0 0), (5, .ptr (h.next + 1 + 1) 1 0 0), (6, .d (.int .i64 0))] ⟨(h.next + 1 + 1, .arr 4 [.agg [.d (.int .i64 k), .d (.int .i64 c), .d (.int .i64 m), .tl [] (some true)]]) :: (h.next + 1, .arr 4 [.agg [.d (.int .i64 0), .d (.int .i64 0), .d (.int .i64 0), .tl [] (some true)]]) :: h.objs, h.next + 1 + 1 + 1⟩ = _ := hloop
    (simp only [e54, ePt_cells, ePt_cs, frz_3, mk_pat', wq_of hl2, FM_ldt, hF0, FM_stz, FM_kill, FK_ldt, hfin, wz, opX, intBin, ↓reduceIte, simprocAttr] <;> repeat' (first | refine wpG_s ?_ ?_ | refine wpC_s ?_ ?_) <;> intro hgo <;> (try simp only [dq] at hgo) <;> simp only [hgo, e54, ePt_cells, ePt_cs, frz_3, mk_pat', wq_of hl2, FM_ldt, hF0, FM_stz, FM_kill, FK_ldt, hfin, wz, opX, intBin, ↓reduceIte, simprocAttr])
  | succ kk ih =>
    intro p hp hk h
    obtain ⟨k, c, m, qs⟩ := p
    obtain ⟨hlen, hq⟩ := hp
    rw [argsP_mk] at hlen hq
    refine call_wp (fn := f54) rfl rfl ?_
    have hw : IntKind.i64.wrap (((kk + 1 : Nat) : Int) - 1) = (kk : Int) := by
      have := wrap_sub1 (n := kk) (by omega)
      rw [← this]; congr 1
    have h0 : (0 : Int) < ((kk + 1 : Nat) : Int) := by omega
    have hloop := loop_fold (T := tab) (a := f54l0) (l := qs) (fun n (_ : List Pt) => [(1, .d (.int .i64 ((kk + 1 : Nat) : Int))), (2, .fp (ePt (.mk k c m qs)) 0), (4, .ptr (h.next + 1) 1 0 0), (5, .ptr (h.next + 2) 1 0 0), (6, .d (.int .i64 (n : Int)))]) (fun _ s => FM h.objs h.next (.agg [.d (.int .i64 0), .d (.int .i64 0), .d (.int .i64 0), .tl [] (some true)]) k c m s s) (fun n s => s.length = n) (fun s x => s ++ [x])
      (fun s => (.exit 0, [(1, .d (.int .i64 ((kk + 1 : Nat) : Int))), (2, .fp (ePt (.mk k c m qs)) 0), (4, .ptr (h.next + 1) 1 0 0), (5, .ptr (h.next + 2) 1 0 0), (6, .d (.int .i64 (qs.length : Int))), (22, .d (.bool false))], FM h.objs h.next (.agg [.d (.int .i64 0), .d (.int .i64 0), .d (.int .i64 0), .tl [] (some true)]) k c m s s))
      (by
        intro n s x hx hlt hI
        refine ⟨?_, by simp [hI]⟩
        have hf := ih x (hq x (List.mem_of_getElem? hx)) (by omega)
        have hap := FM_app h.objs h.next (.agg [.d (.int .i64 0), .d (.int .i64 0), .d (.int .i64 0), .tl [] (some true)]) k c m s x (by omega)
        apply wq_ex.1
        (simp only [hlt, h0, e54, ePt_cs, FM_row2, iaP hx, pts, hw, hf, hap, FM_st, wrap_succ (show n < 2 ^ 62 by omega), wz, opX, intBin, ↓reduceIte, simprocAttr] <;> repeat' (first | refine wpG_s ?_ ?_ | refine wpC_s ?_ ?_) <;> intro hgo <;> (try simp only [dq] at hgo) <;> simp only [hgo, hlt, h0, e54, ePt_cs, FM_row2, iaP hx, pts, hw, hf, hap, FM_st, wrap_succ (show n < 2 ^ 62 by omega), wz, opX, intBin, ↓reduceIte, simprocAttr]))
      (by
        intro s hI
        apply wq_ex.1
        (simp only [e54, ePt_cs, wz, opX, intBin, ↓reduceIte, simprocAttr] <;> repeat' (first | refine wpG_s ?_ ?_ | refine wpC_s ?_ ?_) <;> intro hgo <;> (try simp only [dq] at hgo) <;> simp only [hgo, e54, ePt_cs, wz, opX, intBin, ↓reduceIte, simprocAttr]))
      (by intro s; simp) [] rfl
    rw [foldl_snoc, List.nil_append] at hloop
    simp only [Int.cast_ofNat_Int] at hloop
    have hfin := FK_fin h k c m qs
    have hFc := FV_cells h.next qs
    have hl2 : ex tab (.loop f54l0) [(1, .d (.int .i64 ((kk + 1 : Nat) : Int))), (2, .fp (ePt (.mk k c m qs)) 0), (4, .ptr (h.next + 1) 1 0 0), (5, .ptr (h.next + 1 + 1) 1 0 0), (6, .d (.int .i64 0))] ⟨(h.next + 1 + 1, .arr 4 [.agg [.d (.int .i64 k), .d (.int .i64 c), .d (.int .i64 m), .tl [] (some true)]]) :: (h.next + 1, .arr 4 [.agg [.d (.int .i64 0), .d (.int .i64 0), .d (.int .i64 0), .tl [] (some true)]]) :: h.objs, h.next + 1 + 1 + 1⟩ = _ := hloop
    (simp only [e54, ePt_cells, ePt_cs, frz_3, mk_pat', wq_of hl2, FM_ldt, FM_stz, FM_kill, FK_ldt, hfin, wz, opX, intBin, ↓reduceIte, simprocAttr] <;> repeat' (first | refine wpG_s ?_ ?_ | refine wpC_s ?_ ?_) <;> intro hgo <;> (try simp only [dq] at hgo) <;> simp only [hgo, e54, ePt_cells, ePt_cs, frz_3, mk_pat', wq_of hl2, FM_ldt, FM_stz, FM_kill, FK_ldt, hfin, wz, opX, intBin, ↓reduceIte, simprocAttr])
theorem list_ok (l : List Pt) (hl : l.length ≤ 90) (hsm : ∀ p, p ∈ l → smP 80 p) (h : Hp) : callW tab 22 [.d (ePs l)] h = some (.d (ePs l), h) := by
  refine call_wp (fn := f22) rfl rfl ?_
  have hloop := loop_row (T := tab) (a := f22l0) (l := l) (F := ePt) (es := 4) (b := 48) (env := fun n r => [(0, .d (ePs l)), (3, r), (4, int n)]) (h := h)
      ePt_cells (by simp only [roomB]; omega)
      (by intro n x s hx hlt hs happ; (have ht : ∀ h, callW tab 54 [.d (ePt x), .d (.int .i64 80)] h = some (.d (ePt x), h) := fun h => from_ok 80 x (hsm x (List.mem_of_getElem? hx)) (by omega) h); (have h100 : (n : Int) < 100 := by omega); all_goals (apply wq_ex.1; (simp only [hlt, happ, e22, iaP hx, pts, ht, h100, wrap_succ (show n < 2 ^ 62 by omega), wz, opX, intBin, ↓reduceIte, simprocAttr] <;> repeat' (first | refine wpG_s ?_ ?_ | refine wpC_s ?_ ?_) <;> intro hgo <;> (try simp only [dq] at hgo) <;> simp only [hgo, hlt, happ, e22, iaP hx, pts, ht, h100, wrap_succ (show n < 2 ^ 62 by omega), wz, opX, intBin, ↓reduceIte, simprocAttr])))
      (by apply wq_ex.1; (simp only [e22, wz, opX, intBin, ↓reduceIte, simprocAttr] <;> repeat' (first | refine wpG_s ?_ ?_ | refine wpC_s ?_ ?_) <;> intro hgo <;> (try simp only [dq] at hgo) <;> simp only [hgo, e22, wz, opX, intBin, ↓reduceIte, simprocAttr]) <;> rfl)
      (by simp)
  simp only [int, Zv.bool, Int.cast_ofNat_Int, List.map_nil, rowV_nil, rowH_nil] at hloop
  (simp only [e22, wq_of hloop, finS_row, wz, opX, intBin, ↓reduceIte, simprocAttr] <;> repeat' (first | refine wpG_s ?_ ?_ | refine wpC_s ?_ ?_) <;> intro hgo <;> (try simp only [dq] at hgo) <;> simp only [hgo, e22, wq_of hloop, finS_row, wz, opX, intBin, ↓reduceIte, simprocAttr])
theorem same_of (l : List Pt) (hl : l.length ≤ 1000) (hq : ∀ p, p ∈ l → ∀ h, callW tab 53 [.d (ePt p), .d (ePt p)] h = some (.d (.bool true), h)) (h : Hp) : callW tab 21 [.d (ePs l), .d (ePs l)] h = some (.d (.bool true), h) := by
  refine call_wp (fn := f21) rfl rfl ?_
  have hloop := loop_all (T := tab) (a := f21l0) (l := l) (f := fun n => [(0, .d (ePs l)), (1, .d (ePs l)), (5, int n)]) (h := h)
      (by intro n x hx hlt; (have ht := fun h => hq x (List.mem_of_getElem? hx) h); all_goals (apply wq_ex.1; (simp only [hlt, e21, iaP hx, pts, ht, wrap_succ (show n < 2 ^ 62 by omega), wz, opX, intBin, ↓reduceIte, simprocAttr] <;> repeat' (first | refine wpG_s ?_ ?_ | refine wpC_s ?_ ?_) <;> intro hgo <;> (try simp only [dq] at hgo) <;> simp only [hgo, hlt, e21, iaP hx, pts, ht, wrap_succ (show n < 2 ^ 62 by omega), wz, opX, intBin, ↓reduceIte, simprocAttr])))
      (by apply wq_ex.1; (simp only [e21, wz, opX, intBin, ↓reduceIte, simprocAttr] <;> repeat' (first | refine wpG_s ?_ ?_ | refine wpC_s ?_ ?_) <;> intro hgo <;> (try simp only [dq] at hgo) <;> simp only [hgo, e21, wz, opX, intBin, ↓reduceIte, simprocAttr]) <;> rfl)
      (by simp)
  simp only [int, Zv.bool, Int.cast_ofNat_Int] at hloop
  (simp only [e21, ibne, wq_of hloop, wz, opX, intBin, ↓reduceIte, simprocAttr] <;> repeat' (first | refine wpG_s ?_ ?_ | refine wpC_s ?_ ?_) <;> intro hgo <;> (try simp only [dq] at hgo) <;> simp only [hgo, e21, ibne, wq_of hloop, wz, opX, intBin, ↓reduceIte, simprocAttr])
theorem equal_ok : ∀ (k : Nat) (p : Pt), smP k p → ∀ h, callW tab 53 [.d (ePt p), .d (ePt p)] h = some (.d (.bool true), h) := by
  intro k
  induction k with
  | zero =>
    intro p hp h
    obtain ⟨k, c, m, qs⟩ := p
    have hp : qs = [] := hp
    subst hp
    refine call_wp (fn := f53) rfl rfl ?_
    have hsm : ∀ h, callW tab 21 [.d (.lst []), .d (.lst [])] h = some (.d (.bool true), h) := fun h => same_of [] (by simp) (by simp) h
    (simp only [e53, ePt_cells, ePt_cs, frz_2, ibeq, hsm, wz, opX, intBin, ↓reduceIte, simprocAttr] <;> repeat' (first | refine wpG_s ?_ ?_ | refine wpC_s ?_ ?_) <;> intro hgo <;> (try simp only [dq] at hgo) <;> simp only [hgo, e53, ePt_cells, ePt_cs, frz_2, ibeq, hsm, wz, opX, intBin, ↓reduceIte, simprocAttr])
  | succ k ih =>
    intro p hp h
    obtain ⟨kd, c, m, qs⟩ := p
    obtain ⟨hlen, hq⟩ := hp
    rw [argsP_mk] at hlen hq
    refine call_wp (fn := f53) rfl rfl ?_
    have hsm := fun h => same_of qs hlen (fun p hp h => ih p (hq p hp) h) h
    (simp only [e53, ePt_cells, ePt_cs, frz_2, ibeq, hsm, wz, opX, intBin, ↓reduceIte, simprocAttr] <;> repeat' (first | refine wpG_s ?_ ?_ | refine wpC_s ?_ ?_) <;> intro hgo <;> (try simp only [dq] at hgo) <;> simp only [hgo, e53, ePt_cells, ePt_cs, frz_2, ibeq, hsm, wz, opX, intBin, ↓reduceIte, simprocAttr])
theorem same_ok' (l : List Pt) (hl : l.length ≤ 90) {k : Nat} (hs : ∀ p, p ∈ l → smP k p) (h : Hp) : callW tab 21 [.d (ePs l), .d (ePs l)] h = some (.d (.bool true), h) :=
  same_of l (by omega) (fun p hp h => equal_ok k p (hs p hp) h) h
def wi3 : Option (List Pt) → V
  | none => .tup [.d (.lst []), .d (.bool false), .d (eI 0)]
  | some w => .tup [.d (ePs w), .d (.bool true), .d (eI 0)]
theorem finS3n (h : Hp) (nl : Option Bool) (b : Bool) (c : Int) : finS h h [.tl [] nl, .d (.bool b), .d (.int .i64 c)] = some (.tup [.d (.lst []), .d (.bool b), .d (.int .i64 c)], h) := by
  unfold finS
  rw [if_pos (suf_refl _)]
  rfl
theorem Witness_ok {d : List Dt} {ts : List Int} {l : List (List Pt)} (G : Gd d ts l) (F : Rng d ts l) (hc : chk27 d ts l = 0) (h : Hp) :
    callW tab 19 [.d (eDs d), .d (eIs ts), .d (eRs l)] h = some (wi3 (wiS d 8001 ts l), h) := by
  refine call_wp (fn := f19) rfl rfl ?_
  have hck := fun h => chk_ok F h
  rw [hc] at hck
  have hw := fun h => witness_ok G.sml G.typ 8001 ts l (by have := G.w; omega) G.w G.len G.tys G.fit h
  cases hu : wiS d 8001 ts l with
  | none => rw [hu] at hw; (simp only [e19, hck, ibne, hw, wiV, wi3, wz, opX, intBin, ↓reduceIte, simprocAttr] <;> repeat' (first | refine wpG_s ?_ ?_ | refine wpC_s ?_ ?_) <;> intro hgo <;> (try simp only [dq] at hgo) <;> simp only [hgo, e19, hck, ibne, hw, wiV, wi3, wz, opX, intBin, ↓reduceIte, simprocAttr])
  | some w => rw [hu] at hw; (simp only [e19, hck, ibne, hw, wiV, wi3, wz, opX, intBin, ↓reduceIte, simprocAttr] <;> repeat' (first | refine wpG_s ?_ ?_ | refine wpC_s ?_ ?_) <;> intro hgo <;> (try simp only [dq] at hgo) <;> simp only [hgo, e19, hck, ibne, hw, wiV, wi3, wz, opX, intBin, ↓reduceIte, simprocAttr])
theorem Witness_bad {d : List Dt} {ts : List Int} {l : List (List Pt)} (F : Rng d ts l) (hc : chk27 d ts l ≠ 0) (h : Hp) :
    callW tab 19 [.d (eDs d), .d (eIs ts), .d (eRs l)] h = some (.tup [.d (.lst []), .d (.bool false), .d (eI (chk27 d ts l))], h) := by
  refine call_wp (fn := f19) rfl rfl ?_
  have hck := fun h => chk_ok F h
  (simp only [e19, hck, ibne, hc, finS3n, wz, opX, intBin, ↓reduceIte, simprocAttr] <;> repeat' (first | refine wpG_s ?_ ?_ | refine wpC_s ?_ ?_) <;> intro hgo <;> (try simp only [dq] at hgo) <;> simp only [hgo, e19, hck, ibne, hc, finS3n, wz, opX, intBin, ↓reduceIte, simprocAttr])
-- wz, opX, intBin, ↓reduceIte, simprocAttr
end Zc27
end
