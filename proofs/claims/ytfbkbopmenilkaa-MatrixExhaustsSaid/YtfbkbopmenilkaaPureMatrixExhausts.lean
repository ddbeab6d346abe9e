/-
  Parts of the proof.
-/
import Derived.Test.YtfbkbopmenilkaaZc27W8
section
set_option linter.unusedSimpArgs false
set_option linter.unusedVariables false
set_option linter.unusedSimpArgs false
set_option maxHeartbeats 4000000
namespace Zc27
open Go Zv Zs

/-- The types have constructors. -/
def NeC (d : List Dt) : Prop := ∀ y, y ∈ d → 0 < y.cons.length
theorem check_ne {d : List Dt} (h : checkS d = 0) : NeC d := by
  unfold checkS at h
  by_cases h1 : manyS d = true
  · rw [if_pos h1] at h; exact absurd h (by decide)
  rw [if_neg h1] at h
  by_cases h2 : formedS d = false
  · rw [if_pos h2] at h; exact absurd h (by decide)
  have h2 : formedS d = true := by cases hf : formedS d with | true => rfl | false => exact absurd hf h2
  unfold formedS at h2
  intro y hy
  split at h2
  · cases hy
  · simp only [Bool.and_eq_true, Bool.not_eq_true'] at h2
    have h3 := h2.2
    cases hb : badS y with
    | true =>
      rw [List.any_eq_true.2 ⟨y, hy, hb⟩] at h3; cases h3
    | false =>
      unfold badS at hb
      simp only [Bool.or_eq_false_iff, decide_eq_false_iff_not] at hb
      omega
theorem ne_cons {d : List Dt} (N : NeC d) {t : Int} (hT : isT d t = true) (ht : t ≠ 0) : 0 < (consOf d t).length := by
  rcases tcase d t with h0 | h0 | ⟨n, y, rfl, hy⟩
  · exfalso; simp only [isT, Bool.and_eq_true, decide_eq_true_eq] at hT; omega
  · exfalso; simp only [isT, Bool.and_eq_true, decide_eq_true_eq] at hT; omega
  rw [consOf_at hy]
  exact N y (List.mem_of_getElem? hy)
/-- There is a witness if wildcards are useful. -/
theorem wi_us (d : List Dt) : ∀ (k : Nat) (ts : List Int) (l : List (List Pt)), (wiS d k ts l).isSome = usS d k ts l (List.replicate ts.length wildT)
  | 0, _, _ => rfl
  | k + 1, [], l => by
    simp only [wiS, usS]
    by_cases h : l.length = 0 <;> simp [h]
  | k + 1, t :: ts, l => by
    rw [List.length_cons, List.replicate_succ]
    show _ = usS d (k + 1) (t :: ts) l (.mk 0 0 0 [] :: List.replicate ts.length wildT)
    rw [wiS, usS, if_neg (show ¬ ((0 : Int) = 1) by decide), if_neg (show ¬ ((0 : Int) = 2) by decide)]
    by_cases hc : t = 0 ∨ (consS l).length < (consOf d t).length
    · rw [if_pos hc, if_pos hc, Option.isSome_map]
      exact wi_us d k ts _
    · rw [if_neg hc, if_neg hc, Bool.eq_iff_iff, List.findSome?_isSome_iff, List.any_eq_true]
      have key : ∀ i, ((wiS d k (fldsOf d t i ++ ts) (spS (i : Int) (fldsOf d t i).length l)).map (wfS i (fldsOf d t i).length)).isSome = usS d k (fldsOf d t i ++ ts) (spS (i : Int) (fldsOf d t i).length l) (List.replicate (fldsOf d t i).length wildT ++ List.replicate ts.length wildT) := by
        intro i
        rw [Option.isSome_map, wi_us d k, List.length_append, ← List.replicate_append_replicate]
      constructor
      · rintro ⟨x, hx, h⟩
        exact ⟨x, hx, by rw [← key]; exact h⟩
      · rintro ⟨x, hx, h⟩
        exact ⟨x, hx, by rw [key]; exact h⟩
/-- More rounds change nothing that is true. -/
theorem us_mono (d : List Dt) : ∀ (k : Nat) (ts : List Int) (l : List (List Pt)) (r : List Pt), usS d k ts l r = true → usS d (k + 1) ts l r = true
  | 0, _, _, _, h => by cases h
  | k + 1, [], l, r, h => h
  | k + 1, t :: ts, l, [], h => by cases h
  | k + 1, t :: ts, l, .mk kd c m qs :: r, h => by
    rw [usS] at h ⊢
    split at h
    · rename_i h1; rw [if_pos h1]; exact us_mono d k _ _ _ h
    · rename_i h1
      rw [if_neg h1]
      split at h
      · rename_i h2; rw [if_pos h2]; exact us_mono d k _ _ _ h
      · rename_i h2
        rw [if_neg h2]
        split at h
        · rename_i h3; rw [if_pos h3]; exact us_mono d k _ _ _ h
        · rename_i h3
          rw [if_neg h3]
          rw [List.any_eq_true] at h ⊢
          obtain ⟨i, hi, hx⟩ := h
          exact ⟨i, hi, us_mono d k _ _ _ hx⟩
theorem us_le {d : List Dt} {ts : List Int} {l : List (List Pt)} {r : List Pt} {k : Nat} : ∀ (j : Nat), usS d k ts l r = true → usS d (k + j) ts l r = true
  | 0, h => h
  | j + 1, h => us_mono d _ _ _ _ (us_le j h)
theorem us_fuel {d : List Dt} (S : Sml d) (T : typedS d = true) {k k' : Nat} {ts : List Int} {l : List (List Pt)} {r : List Pt} (h1 : 9 * (nwS l + nwL r) + ts.length < k) (h2 : 9 * (nwS l + nwL r) + ts.length < k') (hB : 9 * (nwS l + nwL r) + ts.length ≤ 8000) (hl : l.length ≤ 1000)
    (hT : ∀ t, t ∈ ts → isT d t = true) (hM : fitM d ts l) (hR : fitR d ts r = true) : usS d k ts l r = usS d k' ts l r := by
  have a := useful_ok S T k ts l r h1 hB hl hT hM hR ⟨[], 0⟩
  have b := useful_ok S T k' ts l r h2 hB hl hT hM hR ⟨[], 0⟩
  rw [a] at b
  simpa using b
/-- Where all rows begin with wildcards, as the row does. -/
theorem cons_pre : ∀ (l : List (List Pt)) (g : List Pt → List Pt), consS (l.map fun r => wildT :: g r) = [] := by
  intro l g
  have key : ∀ (l : List (List Pt)) (A : List Int), (l.map fun r => wildT :: g r).foldl cG A = A := by
    intro l
    induction l with
    | nil => intro A; rfl
    | cons r l ih => intro A; rw [List.map_cons, List.foldl_cons]; exact ih A
  exact key l []
theorem rest_pre (l : List (List Pt)) (g : List Pt → List Pt) : restS wildP (l.map fun r => wildT :: g r) = l.map g := by
  unfold restS
  rw [List.filterMap_map]
  have : (restF wildP ∘ fun r => wildT :: g r) = fun r => some (g r) := by
    funext r; rfl
  rw [this, List.filterMap_eq_map']
theorem us_pre {d : List Dt} (N : NeC d) (k : Nat) (ts : List Int) (R : List (List Pt)) (w : List Pt) : ∀ (fs : List Int), (∀ f, f ∈ fs → isT d f = true) →
    usS d (k + fs.length) (fs ++ ts) (R.map fun r => List.replicate fs.length wildT ++ r) (List.replicate fs.length wildT ++ w) = usS d k ts R w
  | [], _ => by simp
  | f :: fs, hf => by
    have e1 : (R.map fun r => List.replicate (f :: fs).length wildT ++ r) = R.map fun r => wildT :: (List.replicate fs.length wildT ++ r) := by
      refine List.map_congr_left fun r _ => ?_
      rw [List.length_cons, List.replicate_succ]; rfl
    have e2 : List.replicate (f :: fs).length wildT ++ w = .mk 0 0 0 [] :: (List.replicate fs.length wildT ++ w) := by
      rw [List.length_cons, List.replicate_succ]; rfl
    have hc := cons_pre R fun r => List.replicate fs.length wildT ++ r
    have hr := rest_pre R fun r => List.replicate fs.length wildT ++ r
    rw [e1, e2, List.length_cons, ← Nat.add_assoc, List.cons_append, usS, if_neg (by decide), if_neg (by decide), if_pos, hr]
    · exact us_pre N k ts R w fs fun f hf' => hf f (List.mem_cons_of_mem _ hf')
    · rw [hc]
      by_cases h0 : f = 0
      · exact .inl h0
      · exact .inr (ne_cons N (hf f List.mem_cons_self) h0)
theorem sp_miss {l : List (List Pt)} {c : Int} (hc : c ∉ consS l) (n : Nat) : spS c n l = (restS wildP l).map fun r => List.replicate n wildT ++ r := by
  unfold spS restS
  rw [List.map_filterMap]
  refine fm_congr fun r hr => ?_
  cases r with
  | nil => rfl
  | cons p s =>
    obtain ⟨k, c', m, qs⟩ := p
    simp only [spF, restF, wildP, kdP_mk]
    by_cases k0 : k = 0
    · simp [k0]
    · have : ¬ (k = 1 ∧ c' = c) := by
        rintro ⟨rfl, rfl⟩
        exact hc ((consS_mem _ _).2 ⟨_, s, hr, rfl, rfl⟩)
      simp [k0, this]
theorem rest_num {d : List Dt} {ts : List Int} {l : List (List Pt)} (h : fitM d (0 :: ts) l) {m : Int} (hm : m ∉ numsS l) : restS (fun q => wildP q || decide (nmP q = m)) l = restS wildP l := by
  unfold restS
  refine fm_congr fun r hr => ?_
  have hf := h r hr
  cases r with
  | nil => rfl
  | cons p s =>
    simp only [fitR, Bool.and_eq_true] at hf
    obtain ⟨k, c', m', qs⟩ := p
    simp only [restF, wildP, kdP_mk, nmP_mk]
    rcases fits_cases hf.1 with ⟨k0, _⟩ | ⟨k2, _⟩ | ⟨_, t0, _⟩
    · simp [k0]
    · have : m' ≠ m := by
        rintro rfl
        exact hm ((numsS_mem _ _).2 ⟨_, s, hr, k2, rfl⟩)
      simp [k2, this]
    · exact absurd rfl t0
theorem nums_t0 {d : List Dt} {t : Int} {ts : List Int} {l : List (List Pt)} (h : fitM d (t :: ts) l) (hn : 0 < (numsS l).length) : t = 0 := by
  refine Decidable.byContradiction fun ht => ?_
  have := numsS_len0 ht h
  omega
theorem flds_isT' {d : List Dt} (T : typedS d = true) (t : Int) (i : Nat) : ∀ f, f ∈ fldsOf d t i → isT d f = true := by
  intro f hf
  unfold fldsOf at hf
  split at hf
  · rename_i z hz
    exact fld_isT27 T (List.mem_of_getElem? hz) hf
  · cases hf
/-- The witness is useful. -/
theorem wi_useful {d : List Dt} (T : typedS d = true) (N : NeC d) : ∀ (k : Nat) (ts : List Int) (l : List (List Pt)) (w : List Pt), (∀ t, t ∈ ts → isT d t = true) → fitM d ts l → wiS d k ts l = some w → ∃ K, usS d K ts l w = true
  | 0, _, _, _, _, _, h => by cases h
  | k + 1, [], l, w, _, _, h => by
    simp only [wiS] at h
    split at h
    · rename_i h0
      cases h
      exact ⟨1, by rw [usS]; exact decide_eq_true h0⟩
    · cases h
  | k + 1, t :: ts, l, w, hT, hM, h => by
    have hTt : ∀ f, f ∈ ts → isT d f = true := fun f hf => hT f (List.mem_cons_of_mem _ hf)
    simp only [wiS] at h
    split at h
    · rename_i hc
      simp only [Option.map_eq_some_iff] at h
      obtain ⟨v, hv, rfl⟩ := h
      obtain ⟨K, hK⟩ := wi_useful T N k ts _ v hTt (restS_fit wildP hM) hv
      unfold missS
      split
      · rename_i hA
        refine ⟨K + (fldsOf d t (missN (consS l))).length + 1, ?_⟩
        rw [usS, if_pos rfl, Int.toNat_natCast, List.length_replicate, sp_miss (missN_spec (consS l)).1, us_pre N K ts _ v _ (flds_isT' T t _)]
        exact hK
      · split
        · rename_i hN
          have ht := nums_t0 hM hN
          subst ht
          refine ⟨K + 1, ?_⟩
          rw [usS, if_neg (by decide), if_pos rfl, rest_num hM (missN_spec (numsS l)).1]
          exact hK
        · refine ⟨K + 1, ?_⟩
          unfold wildT
          rw [usS, if_neg (by decide), if_neg (by decide), if_pos hc]
          exact hK
    · rename_i hc
      obtain ⟨i, hi, hw⟩ := List.exists_of_findSome?_eq_some h
      simp only [Option.map_eq_some_iff] at hw
      obtain ⟨v, hv, rfl⟩ := hw
      have hlen := wiS_len d k _ _ _ hv
      rw [List.length_append] at hlen
      obtain ⟨K, hK⟩ := wi_useful T N k _ _ v (by
        intro f hf
        rcases List.mem_append.1 hf with hf | hf
        · exact flds_isT' T t i f hf
        · exact hTt f hf) (spS_fit i hM) hv
      refine ⟨K + 1, ?_⟩
      unfold wfS
      rw [usS, if_pos rfl, Int.toNat_natCast, List.length_take, Nat.min_eq_left (by omega), List.take_append_drop]
      exact hK
/-- After a row of wildcards nothing is useful. -/
theorem wild_dead {d : List Dt} : ∀ (k : Nat) (ts : List Int) (l : List (List Pt)) (r : List Pt), List.replicate ts.length wildT ∈ l → fitM d ts l → fitR d ts r = true → usS d k ts l r = false
  | 0, _, _, _, _, _, _ => rfl
  | k + 1, [], l, r, hw, _, _ => by
    rw [usS]
    refine decide_eq_false ?_
    have := List.length_pos_of_mem hw
    omega
  | k + 1, t :: ts, l, [], _, _, hR => by cases hR
  | k + 1, t :: ts, l, .mk kd c m qs :: r, hw, hM, hR => by
    simp only [fitR, Bool.and_eq_true] at hR
    have hsp : ∀ (c : Int) (fs : List Int), List.replicate (fs ++ ts).length wildT ∈ spS c fs.length l := by
      intro c fs
      refine List.mem_filterMap.2 ⟨_, hw, ?_⟩
      rw [List.length_cons, List.replicate_succ, List.length_append, ← List.replicate_append_replicate]
      rfl
    have hrs : ∀ keep : Pt → Bool, keep wildT = true → List.replicate ts.length wildT ∈ restS keep l := by
      intro keep hk
      refine List.mem_filterMap.2 ⟨_, hw, ?_⟩
      rw [List.length_cons, List.replicate_succ]
      simp only [restF, hk, if_true]
    rw [usS]
    rcases fits_cases hR.1 with ⟨k0, _⟩ | ⟨k2, _⟩ | ⟨k1, _, _, i, z, rfl, hz, hzl, hzR⟩
    · subst k0
      rw [if_neg (by decide), if_neg (by decide)]
      split
      · exact wild_dead k ts _ r (hrs wildP rfl) (restS_fit wildP hM) hR.2
      · rw [← Bool.not_eq_true, List.any_eq_true]
        rintro ⟨i, _, hi⟩
        rw [wild_dead k _ _ _ (hsp (i : Int) (fldsOf d t i)) (spS_fit i hM) (fitR_app (fitR_wild d _) hR.2)] at hi
        cases hi
    · subst k2
      rw [if_neg (by decide), if_pos rfl]
      exact wild_dead k ts _ r (hrs _ (by rfl)) (restS_fit _ hM) hR.2
    · subst k1
      have hfz : fldsOf d t i = z.flds := by unfold fldsOf; rw [hz]
      have hM' := spS_fit i hM
      have hs := hsp (i : Int) (fldsOf d t i)
      rw [hfz] at hM' hs
      rw [if_pos rfl, Int.toNat_natCast, hfz, ← hzl]
      exact wild_dead k _ _ _ hs hM' (fitR_app hzR hR.2)
-- wz, opX, intBin, ↓reduceIte, simprocAttr
end Zc27
end
section
set_option linter.unusedSimpArgs false
set_option linter.unusedVariables false
set_option linter.unusedSimpArgs false
set_option maxHeartbeats 4000000
namespace Zc27
open Go Zv Zs

theorem fitsL_of_R {d : List Dt} : ∀ {fs : List Int} {qs : List Pt}, fitR d fs qs = true → fitsL d fs qs = true
  | [], [], _ => by rw [fitsL]; simp
  | f :: fs, q :: qs, h => by
    simp only [fitR, Bool.and_eq_true] at h
    rw [fitsL, h.1, fitsL_of_R h.2]; rfl
  | [], _ :: _, h => by cases h
  | _ :: _, [], h => by cases h
theorem fits_made {d : List Dt} {t : Int} {i : Nat} {z : Cn} {qs : List Pt} (hz : (consOf d t)[i]? = some z) (hR : fitR d z.flds qs = true) : fitsP d t (.mk 1 (i : Int) 0 qs) = true := by
  have ht : t ≠ 0 := by
    rintro rfl
    rw [consOf_lo (by omega)] at hz
    simp at hz
  have hi := (List.getElem?_eq_some_iff.1 hz).1
  rw [fitsP, if_neg (by decide), if_neg (by decide), if_pos rfl, Int.toNat_natCast, hz]
  simp only [Bool.and_eq_true, Bool.not_eq_true', Bool.or_eq_false_iff, decide_eq_false_iff_not, Bool.not_eq_false', decide_eq_true_eq]
  refine ⟨⟨⟨⟨ht, trivial⟩, by omega⟩, by omega⟩, (fitR_len hR).symm, fitsL_of_R hR⟩
theorem fitR_split {d : List Dt} : ∀ {fs ts : List Int} {w : List Pt}, fitR d (fs ++ ts) w = true → fitR d fs (w.take fs.length) = true ∧ fitR d ts (w.drop fs.length) = true
  | [], _, _, h => ⟨by simp [fitR], by simpa using h⟩
  | f :: fs, ts, [], h => by cases h
  | f :: fs, ts, q :: w, h => by
    simp only [List.cons_append, fitR, Bool.and_eq_true] at h
    obtain ⟨h1, h2⟩ := fitR_split h.2
    simp only [List.length_cons, List.take_succ_cons, List.drop_succ_cons, fitR, Bool.and_eq_true]
    exact ⟨⟨h.1, h1⟩, h2⟩
theorem wi_fit {d : List Dt} : ∀ (k : Nat) (ts : List Int) (l : List (List Pt)) (w : List Pt), fitM d ts l → wiS d k ts l = some w → fitR d ts w = true
  | 0, _, _, _, _, h => by cases h
  | k + 1, [], l, w, _, h => by
    simp only [wiS] at h
    split at h
    · cases h; rfl
    · cases h
  | k + 1, t :: ts, l, w, hM, h => by
    simp only [wiS] at h
    split at h
    · rename_i hc
      simp only [Option.map_eq_some_iff] at h
      obtain ⟨v, hv, rfl⟩ := h
      simp only [fitR, Bool.and_eq_true]
      refine ⟨?_, wi_fit k ts _ v (restS_fit wildP hM) hv⟩
      unfold missS
      split
      · rename_i hA
        have ht : t ≠ 0 := by
          rintro rfl
          have := consS_len0 hM
          omega
        have hlt := miss_lt hM (hc.resolve_left ht)
        obtain ⟨z, hz⟩ := get_of_lt hlt
        have hfz : fldsOf d t (missN (consS l)) = z.flds := by unfold fldsOf; rw [hz]
        rw [hfz]
        exact fits_made hz (fitR_wild d _)
      · split
        · rename_i hN
          have ht := nums_t0 hM hN
          subst ht
          rw [fitsP, if_neg (by decide), if_pos rfl]; rfl
        · exact fits_wild d t
    · rename_i hc
      obtain ⟨i, hi, hw⟩ := List.exists_of_findSome?_eq_some h
      simp only [Option.map_eq_some_iff] at hw
      obtain ⟨v, hv, rfl⟩ := hw
      have hi := List.mem_range.1 hi
      obtain ⟨z, hz⟩ := get_of_lt hi
      have hfz : fldsOf d t i = z.flds := by unfold fldsOf; rw [hz]
      have := fitR_split (wi_fit k _ _ v (spS_fit i hM) hv)
      unfold wfS
      simp only [fitR, Bool.and_eq_true]
      refine ⟨fits_made hz ?_, this.2⟩
      rw [← hfz]; exact this.1

/-! ### How large it is -/
theorem cntL_app : ∀ (a b : List Pt), cntL (a ++ b) = cntL a + cntL b
  | [], b => by simp [cntL]
  | p :: a, b => by rw [List.cons_append, cntL, cntL, cntL_app a b]; omega
theorem cntL_wild : ∀ n : Nat, cntL (List.replicate n wildT) = n
  | 0 => rfl
  | n + 1 => by
    rw [List.replicate_succ, cntL, cntL_wild n]
    simp [wildT, cntP, cntL]; omega
theorem flds8 {d : List Dt} (S : Sml d) (t : Int) (i : Nat) : (fldsOf d t i).length ≤ 8 := by
  unfold fldsOf
  split
  · rename_i z hz
    exact (cons_sm S t).2 z (List.mem_of_getElem? hz)
  · simp
theorem cnt_one (k c m : Int) (qs : List Pt) : cntP (.mk k c m qs) = 1 + cntL qs := by rw [cntP]; omega
theorem nw_made (c m : Int) (qs : List Pt) : nwP (.mk 1 c m qs) = 1 + nwL qs := by rw [nwP, if_neg (by decide)]
theorem wi_size {d : List Dt} (S : Sml d) : ∀ (k : Nat) (ts : List Int) (l : List (List Pt)) (w : List Pt), fitM d ts l → wiS d k ts l = some w → cntL w ≤ 9 * (9 * nwS l + ts.length) ∧ nwL w ≤ 9 * nwS l + ts.length
  | 0, _, _, _, _, h => by cases h
  | k + 1, [], l, w, _, h => by
    simp only [wiS] at h
    split at h
    · cases h; exact ⟨by simp [cntL], by simp [nwL]⟩
    · cases h
  | k + 1, t :: ts, l, w, hM, h => by
    simp only [wiS] at h
    split at h
    · simp only [Option.map_eq_some_iff] at h
      obtain ⟨v, hv, rfl⟩ := h
      have ih := wi_size S k ts _ v (restS_fit wildP hM) hv
      have hn := restS_nw wildP l
      have h8 := flds8 S t (missN (consS l))
      have hm : cntP (missS d t l) ≤ 9 ∧ nwP (missS d t l) ≤ 1 := by
        unfold missS
        split
        · rw [cnt_one, cntL_wild, nw_made, nwL_wild]; omega
        · split
          · rw [cnt_one, nwP, if_neg (by decide)]; simp [cntL, nwL]
          · unfold wildT; rw [cnt_one, nwP, if_pos rfl]; simp [cntL]
      rw [cntL, nwL, List.length_cons]
      omega
    · rename_i hc
      obtain ⟨i, hi, hw⟩ := List.exists_of_findSome?_eq_some h
      simp only [Option.map_eq_some_iff] at hw
      obtain ⟨v, hv, rfl⟩ := hw
      have hi := List.mem_range.1 hi
      have hlt : ¬ (consS l).length < (consOf d t).length := fun e => hc (.inr e)
      have hdn := spS_down hM (by omega) hi (fldsOf d t i).length
      have ih := wi_size S k _ _ v (spS_fit i hM) hv
      have h8 := flds8 S t i
      rw [List.length_append] at ih
      have e1 := cntL_app (v.take (fldsOf d t i).length) (v.drop (fldsOf d t i).length)
      have e2 := nwL_app (v.take (fldsOf d t i).length) (v.drop (fldsOf d t i).length)
      rw [List.take_append_drop] at e1 e2
      unfold wfS
      rw [cntL, nwL, cnt_one, nw_made, List.length_cons]
      omega
theorem sm_deep : ∀ (k : Nat) (p : Pt) (j : Nat), smP k p → k + j ≤ 64 → deepP p j = false
  | 0, .mk a c m qs, j, h, hj => by
    have h : qs = [] := h
    subst h
    rw [deepP, deepL, Bool.or_false]
    exact decide_eq_false (by omega)
  | k + 1, .mk a c m qs, j, h, hj => by
    rw [deepP, deepL_any]
    have h2 := h.2
    rw [argsP_mk] at h2
    rw [Bool.or_eq_false_iff]
    refine ⟨decide_eq_false (by omega), ?_⟩
    rw [← Bool.not_eq_true, List.any_eq_true]
    rintro ⟨q, hq, hd⟩
    rw [sm_deep k q (j + 1) (h2 q hq) (by omega)] at hd
    cases hd

/-! ### Checks of more rows -/
theorem bad_fit {d : List Dt} {ts : List Int} {r : List Pt} (h : fitR d ts r = true) : badR d ts r = false := by
  unfold badR
  rw [← fitsL_any, fitsL_of_R h, fitR_len h]
  simp
theorem chk_add {d : List Dt} {ts : List Int} {l l' : List (List Pt)} (h : chk27 d ts l = 0) (hn : (l ++ l').length ≤ 64) (hd : ∀ r, r ∈ l' → deepR r = false) (hf : ∀ r, r ∈ l' → fitR d ts r = true) : chk27 d ts (l ++ l') = 0 := by
  unfold chk27 at h ⊢
  have hd' : l'.any deepR = false := by
    rw [← Bool.not_eq_true, List.any_eq_true]
    rintro ⟨q, hq, hx⟩
    rw [hd q hq] at hx; cases hx
  have hf' : l'.any (badR d ts) = false := by
    rw [← Bool.not_eq_true, List.any_eq_true]
    rintro ⟨q, hq, hx⟩
    rw [bad_fit (hf q hq)] at hx; cases hx
  rw [List.any_append, List.any_append, hd', hf', Bool.or_false, Bool.or_false]
  by_cases h1 : checkS d ≠ 0
  · rw [if_pos h1] at h; cases h
  rw [if_neg h1] at h ⊢
  by_cases h2 : 8 < ts.length ∨ 64 < l.length
  · rw [if_pos h2] at h; cases h
  rw [if_neg h2] at h
  rw [if_neg (fun e => e.elim (fun e => h2 (.inl e)) (fun e => by omega))]
  exact h
theorem chk_S {d : List Dt} {ts : List Int} {l : List (List Pt)} (h : chk27 d ts l = 0) : checkS d = 0 ∧ ts.length ≤ 8 := by
  unfold chk27 at h
  by_cases h1 : checkS d ≠ 0
  · rw [if_pos h1] at h; cases h
  rw [if_neg h1] at h
  by_cases h2 : 8 < ts.length ∨ 64 < l.length
  · rw [if_pos h2] at h; cases h
  exact ⟨Decidable.not_not.1 h1, by omega⟩
theorem deep_wild (n : Nat) : deepR (List.replicate n wildT) = false := by
  unfold deepR
  rw [← Bool.not_eq_true, List.any_eq_true]
  rintro ⟨q, hq, hx⟩
  rw [List.eq_of_mem_replicate hq] at hx
  cases hx

/-! ### The rows that are not useful -/
theorem dead_snoc (d : List Dt) (ts : List Int) (l : List (List Pt)) (x : List Pt) : deadS d ts (l ++ [x]) = deadS d ts l ++ (if usS d 8001 ts l x = true then [] else [(l.length : Int)]) := by
  unfold deadS
  rw [List.zipIdx_append, List.filterMap_append]
  congr 1
  · refine fm_congr fun y hy => ?_
    obtain ⟨n, hn⟩ := List.getElem?_of_mem hy
    obtain ⟨h1, h2⟩ := zip_ix hn
    have hlt := (List.getElem?_eq_some_iff.1 h1).1
    unfold deadF
    rw [h2, List.take_append_of_le_length (by omega)]
  · simp only [List.zipIdx_cons, List.zipIdx_nil, List.filterMap_cons, List.filterMap_nil, deadF, Nat.zero_add, List.take_left]
    split <;> simp_all
theorem dead_lt {d : List Dt} {ts : List Int} {l : List (List Pt)} {x : Int} (h : x ∈ deadS d ts l) : ∃ n : Nat, x = (n : Int) ∧ n < l.length ∧ ∃ r, l[n]? = some r ∧ usS d 8001 ts (l.take n) r = false := by
  obtain ⟨y, hy, hf⟩ := List.mem_filterMap.1 h
  obtain ⟨n, hn⟩ := List.getElem?_of_mem hy
  obtain ⟨h1, h2⟩ := zip_ix hn
  unfold deadF at hf
  split at hf
  · cases hf
  · rename_i hu
    cases hf
    refine ⟨n, by rw [h2], (List.getElem?_eq_some_iff.1 h1).1, y.1, h1, ?_⟩
    rw [← h2]
    exact Bool.not_eq_true _ ▸ hu
-- wz, opX, intBin, ↓reduceIte, simprocAttr
end Zc27
end
section
set_option linter.unusedSimpArgs false
set_option linter.unusedVariables false
set_option linter.unusedSimpArgs false
set_option maxHeartbeats 4000000
namespace Zc27
open Go Zv Zs
theorem norm_tl_d (l : List D) (nl : Option Bool) : norm (.tl (l.map .d) nl) = .d (.lst l) := by
  unfold norm; simp only [toD, toDs_map, Option.map_some]
theorem app_tl_d2 (es b : Nat) (h : Hp) (s : V) (x y : D) (nl : Option Bool) : app es b h s (.tl [.d x, .d y] nl) = app es b h s (.d (.lst [x, y])) := by
  unfold app; rfl
theorem nwS_app : ∀ (a b : List (List Pt)), nwS (a ++ b) = nwS a + nwS b
  | [], b => by simp [nwS]
  | p :: a, b => by rw [List.cons_append, nwS, nwS, nwS_app a b]; omega
theorem last_at {l : List Int} (h : l ≠ []) : ∃ x, l[l.length - 1]? = some x ∧ x ∈ l := by
  have : l.length - 1 < l.length := by have := List.length_pos_iff.2 h; omega
  obtain ⟨x, hx⟩ := get_of_lt this
  exact ⟨x, hx, List.mem_of_getElem? hx⟩
theorem matrixExhausts : ∀ x0 x1 x2 : D, ok (EE Zc27.es) (.one (.l 0)) x0 → ok (EE Zc27.es) (.one (.l 2)) x1 → ok (EE Zc27.es) (.one (.l 3)) x2 → ∃ h', callW Zc27.tab 6 [.d x0, .d x1, .d x2] ⟨[], 0⟩ = some (.d (.bool true), h') := by
  intro x0 x1 x2 h0 h1 h2
  obtain ⟨d, rfl, hd⟩ := okDs' h0
  obtain ⟨ts, rfl, ht⟩ := okIs h1
  obtain ⟨l, rfl, hl⟩ := okRs h2
  refine ⟨⟨[], 0⟩, ?_⟩
  refine call_wp (fn := f6) rfl rfl ?_
  have aw : ∀ q, callW tab 10 [] ⟨[], q⟩ = some (.d (.bool true), ⟨[], q⟩) := fun q => awake_any (fun _ _ => rfl)
  obtain ⟨b, hf, hb⟩ := few_ok d ts l ⟨[], 0⟩
  cases b with
  | false => (simp only [e6, aw, hf, wz, opX, intBin, ↓reduceIte, simprocAttr] <;> repeat' (first | refine wpG_s ?_ ?_ | refine wpC_s ?_ ?_) <;> intro hgo <;> (try simp only [dq] at hgo) <;> simp only [hgo, e6, aw, hf, wz, opX, intBin, ↓reduceIte, simprocAttr])
  | true =>
    have F := hb rfl
    have r1 := fun h => F.rows_ok h
    have c2 := fun h => rchk_ok F.rng h
    have hrows := F.rows
    have hcnt := F.cnt
    have h60 : ¬ ((60 : Int) < (l.length : Int)) := by omega
    by_cases hc : chk27 d ts l = 0
    · rw [hc] at c2
      have G := gd_of F.sml F.ts (by omega) (by omega) hc
      obtain ⟨hcS, ht8⟩ := chk_S hc
      have N := check_ne hcS
      have hnw : nwS l ≤ 60 := by have := nw_sum l; omega
      have hmk := mkslP (n := ts.length) (by omega)
      have hnt := norm_tl_d ((List.replicate ts.length wildT).map ePt)
      have hfz := fun (n : Nat) (o : List (Nat × Ob)) => clo_frz (nl := some true) (es := 1) (n := n) (o := o) (l := l.map ePs)
      -- rows with a row of wildcards
      have hWf := fitR_wild d ts
      have hWd := deep_wild ts.length
      have rngOf : ∀ l' : List (List Pt), (l ++ l').length ≤ 64 → (∀ r, r ∈ l' → cntL r ≤ 100000) → Rng d ts (l ++ l') := by
        intro l' hn hcn
        refine ⟨F.rng.bd, F.rng.nm, F.rng.ts, by omega, fun r hr => ?_⟩
        rcases List.mem_append.1 hr with hr | hr
        · exact F.rng.cnt r hr
        · have := hcn r hr; omega
      have gdOf : ∀ l' : List (List Pt), (l ++ l').length ≤ 64 → (∀ r, r ∈ l' → fitR d ts r = true) → nwS l' ≤ 600 → Gd d ts (l ++ l') := by
        intro l' hn hfit hw'
        refine ⟨G.sml, G.typ, G.tys, fun r hr => ?_, ?_, by omega⟩
        · rcases List.mem_append.1 hr with hr | hr
          · exact G.fit r hr
          · exact hfit r hr
        · rw [nwS_app]; omega
      have hone : ∀ {P : List Pt → Prop} {x : List Pt}, P x → ∀ r, r ∈ [x] → P r := by
        intro P x hx r hr; rw [List.mem_singleton.1 hr]; exact hx
      have hcW : cntL (List.replicate ts.length wildT) ≤ 100000 := by rw [cntL_wild]; omega
      have hnW : nwS [List.replicate ts.length wildT] ≤ 600 := by rw [nwS, nwL_wild]; simp [nwS]
      have rW := rngOf [List.replicate ts.length wildT] (by simp; omega) (hone hcW)
      have gW := gdOf [List.replicate ts.length wildT] (by simp; omega) (hone hWf) hnW
      have kW := chk_add hc (l' := [List.replicate ts.length wildT]) (by simp; omega) (hone hWd) (hone hWf)
      have u1 := fun h => Useful_ok (d := d) (ts := ts) (l := l) (p := List.replicate ts.length wildT) (by omega) rW (fun _ => gW) h
      rw [kW, ← wi_us] at u1
      have w1 := fun h => Witness_ok G F.rng hc h
      have w3 := fun h => Witness_ok gW rW kW h
      have hwmem : List.replicate ts.length wildT ∈ l ++ [List.replicate ts.length wildT] := List.mem_append_right _ List.mem_cons_self
      have hw3 : wiS d 8001 ts (l ++ [List.replicate ts.length wildT]) = none := by
        have := wi_us d 8001 ts (l ++ [List.replicate ts.length wildT])
        rw [wild_dead 8001 ts _ _ hwmem gW.fit hWf] at this
        simpa using this
      rw [hw3] at w3
      cases hu : wiS d 8001 ts l with
      | none =>
        rw [hu] at w1 u1
        (simp only [e6, aw, hf, r1, hfz, c2, h60, ibne, ibeq, hmk, hnt, w1, u1, wi3, Option.isSome_none, Bool.and_false, wz, opX, intBin, ↓reduceIte, simprocAttr] <;> repeat' (first | refine wpG_s ?_ ?_ | refine wpC_s ?_ ?_) <;> intro hgo <;> (try simp only [dq] at hgo) <;> simp only [hgo, e6, aw, hf, r1, hfz, c2, h60, ibne, ibeq, hmk, hnt, w1, u1, wi3, Option.isSome_none, Bool.and_false, wz, opX, intBin, ↓reduceIte, simprocAttr])
      | some w =>
        rw [hu] at w1 u1
        have hfw := wi_fit 8001 ts l w G.fit hu
        obtain ⟨hsz1, hsz2⟩ := wi_size G.sml 8001 ts l w G.fit hu
        have hsm := wiS_sm G.sml 8001 ts l w G.fit hu
        have hdw : deepR w = false := by
          unfold deepR
          rw [← Bool.not_eq_true, List.any_eq_true]
          rintro ⟨q, hq, hx⟩
          rw [sm_deep _ q 0 (hsm q hq) (by omega)] at hx
          cases hx
        have hcw : cntL w ≤ 100000 := by omega
        have hnw1 : nwS [w] ≤ 600 := by rw [nwS, nwS]; omega
        have r2 := rngOf [w] (by simp; omega) (hone hcw)
        have g2 := gdOf [w] (by simp; omega) (hone hfw) hnw1
        have k2 := chk_add hc (l' := [w]) (by simp; omega) (hone hdw) (hone hfw)
        have htwo : ∀ {P : List Pt → Prop}, P (List.replicate ts.length wildT) → P w → ∀ r, r ∈ [List.replicate ts.length wildT, w] → P r := by
          intro P h1 h2 r hr
          rcases List.mem_cons.1 hr with rfl | hr
          · exact h1
          · rw [List.mem_singleton.1 hr]; exact h2
        have r3 := rngOf [List.replicate ts.length wildT, w] (by simp; omega) (htwo hcW hcw)
        have g3 := gdOf [List.replicate ts.length wildT, w] (by simp; omega) (htwo hWf hfw) (by rw [nwS, nwL_wild]; omega)
        have k3 := chk_add hc (l' := [List.replicate ts.length wildT, w]) (by simp; omega) (htwo hWd hdw) (htwo hWf hfw)
        have d2 := fun h => dead_ok g2 r2 k2 h
        have d3 := fun h => dead_ok g3 r3 k3 h
        -- the witness is useful
        have huse : usS d 8001 ts l w = true := by
          obtain ⟨K, hK⟩ := wi_useful G.typ N 8001 ts l w G.tys G.fit hu
          have hm : 9 * (nwS l + nwL w) + ts.length ≤ 8000 := by omega
          have h1 := us_le 8001 hK
          rw [us_fuel G.sml G.typ (k' := 8001) (by omega) (by omega) hm G.len G.tys G.fit hfw] at h1
          exact h1
        have ed2 : deadS d ts (l ++ [w]) = deadS d ts l := by
          rw [dead_snoc, if_pos huse, List.append_nil]
        have ed3 : deadS d ts (l ++ [List.replicate ts.length wildT, w]) = deadS d ts (l ++ [List.replicate ts.length wildT]) ++ [((l.length + 1 : Nat) : Int)] := by
          have e : l ++ [List.replicate ts.length wildT, w] = (l ++ [List.replicate ts.length wildT]) ++ [w] := by simp
          rw [e, dead_snoc, if_neg (by rw [wild_dead 8001 ts _ _ hwmem gW.fit hfw]; decide)]
          simp
        rw [ed2] at d2
        rw [ed3] at d3
        have hB := fm_len (deadF d ts (l ++ [List.replicate ts.length wildT])) (l ++ [List.replicate ts.length wildT]).zipIdx
        have hA := fm_len (deadF d ts l) l.zipIdx
        rw [List.length_zipIdx] at hA hB
        have hA : (deadS d ts l).length ≤ 1000 := by unfold deadS; omega
        have hB : (deadS d ts (l ++ [List.replicate ts.length wildT])).length ≤ 1000 := by
          unfold deadS
          simp at hB ⊢
          omega
        have hlt := fun x (hx : x ∈ deadS d ts l) => dead_lt hx
        generalize deadS d ts (l ++ [List.replicate ts.length wildT]) = B at d3 hB
        generalize deadS d ts l = A at d2 hA hlt
        obtain ⟨b, hbe⟩ : ∃ b : List Int, b = B ++ [((l.length + 1 : Nat) : Int)] := ⟨_, rfl⟩
        rw [← hbe] at d3
        have hbl : b.length = B.length + 1 := by rw [hbe]; simp
        have hb0 : ((b.length : Int) == 0) = false := by rw [ibeq]; exact decide_eq_false (by omega)
        have hb1 : IntKind.i64.wrap ((b.length : Int) - 1) = (B.length : Int) := by rw [wrap_ok (by omega) (by omega)]; omega
        have hb2 : b[B.length]? = some ((l.length + 1 : Nat) : Int) := by rw [hbe]; simp
        have hl1 := wrap_succ (n := l.length) (by omega)
        have happ1 := fun (n : Nat) (o : List (Nat × Ob)) => clo_app (nl := some true) (es := 1) (b := 24) (n := n) (o := o) (l := l.map ePs) (r := [ePs w]) rcells (rcells (l := [w])) (by simp only [List.length_map, List.length_cons, List.length_nil, roomB]; omega)
        have happ2 := fun (n : Nat) (o : List (Nat × Ob)) => clo_app (nl := some true) (es := 1) (b := 24) (n := n) (o := o) (l := l.map ePs) (r := [ePs (List.replicate ts.length wildT), ePs w]) rcells (rcells (l := [List.replicate ts.length wildT, w])) (by simp only [List.length_map, List.length_cons, List.length_nil, roomB]; omega)
        have happ3 := fun (n : Nat) (o : List (Nat × Ob)) => clo_app (nl := some true) (es := 1) (b := 24) (n := n) (o := o) (l := l.map ePs) (r := [ePs (List.replicate ts.length wildT)]) rcells (rcells (l := [List.replicate ts.length wildT])) (by simp only [List.length_map, List.length_cons, List.length_nil, roomB]; omega)
        have e1 : l.map ePs ++ [ePs w] = (l ++ [w]).map ePs := by simp
        have e2 : l.map ePs ++ [ePs (List.replicate ts.length wildT), ePs w] = (l ++ [List.replicate ts.length wildT, w]).map ePs := by simp
        have e3 : l.map ePs ++ [ePs (List.replicate ts.length wildT)] = (l ++ [List.replicate ts.length wildT]).map ePs := by simp
        simp only [e1] at happ1
        simp only [e2] at happ2
        simp only [e3] at happ3
        have hfz' := fun (m : List (List Pt)) (n : Nat) (o : List (Nat × Ob)) => clo_frz (nl := some true) (es := 1) (n := n) (o := o) (l := m.map ePs)
        by_cases hA0 : A = []
        · subst hA0
          (simp only [e6, aw, hf, r1, hfz', c2, h60, ibne, hmk, hnt, w1, u1, w3, wi3, Option.isSome_some, app_tl_d, app_tl_d2, happ1, happ2, happ3, d2, d3, hb0, hb1, iaI hb2, hl1, wz, opX, intBin, ↓reduceIte, simprocAttr] <;> repeat' (first | refine wpG_s ?_ ?_ | refine wpC_s ?_ ?_) <;> intro hgo <;> (try simp only [dq] at hgo) <;> simp only [hgo, e6, aw, hf, r1, hfz', c2, h60, ibne, hmk, hnt, w1, u1, w3, wi3, Option.isSome_some, app_tl_d, app_tl_d2, happ1, happ2, happ3, d2, d3, hb0, hb1, iaI hb2, hl1, wz, opX, intBin, ↓reduceIte, simprocAttr])
        · obtain ⟨x, hx, hxm⟩ := last_at hA0
          obtain ⟨n, rfl, hn, _⟩ := hlt x hxm
          have hAp := List.length_pos_iff.2 hA0
          have ha0 : ((A.length : Int) == 0) = false := by rw [ibeq]; exact decide_eq_false (by omega)
          have ha1 : IntKind.i64.wrap ((A.length : Int) - 1) = ((A.length - 1 : Nat) : Int) := by rw [wrap_ok (by omega) (by omega)]; omega
          have hne : ((n : Int) = (l.length : Int)) = False := by simp; omega
          (simp only [e6, aw, hf, r1, hfz', c2, h60, ibne, hmk, hnt, w1, u1, w3, wi3, Option.isSome_some, app_tl_d, app_tl_d2, happ1, happ2, happ3, d2, d3, hb0, hb1, iaI hb2, hl1, ha0, ha1, iaI hx, hne, wz, opX, intBin, ↓reduceIte, simprocAttr] <;> repeat' (first | refine wpG_s ?_ ?_ | refine wpC_s ?_ ?_) <;> intro hgo <;> (try simp only [dq] at hgo) <;> simp only [hgo, e6, aw, hf, r1, hfz', c2, h60, ibne, hmk, hnt, w1, u1, w3, wi3, Option.isSome_some, app_tl_d, app_tl_d2, happ1, happ2, happ3, d2, d3, hb0, hb1, iaI hb2, hl1, ha0, ha1, iaI hx, hne, wz, opX, intBin, ↓reduceIte, simprocAttr])
    · (simp only [e6, aw, hf, c2, ibne, hc, wz, opX, intBin, ↓reduceIte, simprocAttr] <;> repeat' (first | refine wpG_s ?_ ?_ | refine wpC_s ?_ ?_) <;> intro hgo <;> (try simp only [dq] at hgo) <;> simp only [hgo, e6, aw, hf, c2, ibne, hc, wz, opX, intBin, ↓reduceIte, simprocAttr])
-- wz, opX, intBin, ↓reduceIte, simprocAttr
end Zc27
end
