/-
  What a valid table has.
-/
import Derived.Test.YtimjofcjjgppbaaZc17R15
import Derived.Test.YtimjofcjjgppbaaZc17R7
import Derived.Test.YtimjofcjjgppbaaZc17R4
set_option linter.unusedSimpArgs false
set_option maxHeartbeats 4000000
namespace Zc17
open Go Zv Zs

structure Valid (d : List Dt) : Prop where
  many : manyS d = false
  formed : formedS d = true
  twice : twiceS d = false
  typed : typedS d = true
  finite : finiteS d = true
theorem check_valid {d : List Dt} (h : checkS d = 0) : Valid d := by
  unfold checkS at h
  cases h1 : manyS d with
  | true => rw [h1] at h; simp at h
  | false =>
    cases h2 : formedS d with
    | false => rw [h1, h2] at h; simp at h
    | true =>
      cases h3 : twiceS d with
      | true => rw [h1, h2, h3] at h; simp at h
      | false =>
        cases h4 : typedS d with
        | false => rw [h1, h2, h3, h4] at h; simp at h
        | true =>
          cases h5 : finiteS d with
          | false => rw [h1, h2, h3, h4, h5] at h; simp at h
          | true => exact ⟨h1, h2, h3, h4, h5⟩
theorem valid_check {d : List Dt} (V : Valid d) : checkS d = 0 := by
  unfold checkS; rw [V.many, V.formed, V.twice, V.typed, V.finite]; simp
theorem Valid.ty {d : List Dt} (V : Valid d) : (tyN d d.length).Nodup := by
  have := V.twice; simp [twiceS] at this; exact this.1
theorem Valid.co {d : List Dt} (V : Valid d) : (coN d d.length).Nodup := by
  have := V.twice; simp [twiceS] at this; exact this.2
theorem fst_unique {α : Type} {l : List α} {p : α → Bool} {n : Nat} {x : α} (hx : l[n]? = some x) (hp : p x = true) (hu : ∀ m y, l[m]? = some y → p y = true → m = n) : fst? p 0 l = some (n, x) := by
  obtain ⟨m, y, hq⟩ := fst_of_any (l := l) (p := p) (List.any_eq_true.2 ⟨x, List.mem_of_getElem? hx, hp⟩)
  obtain ⟨_, h2, h3, _⟩ := fst_some hq
  have := hu m y (by simpa using h2) h3
  subst this
  rw [hq]
  have h2' : l[m]? = some y := by simpa using h2
  rw [hx] at h2'; cases h2'; rfl
theorem tyN_all (d : List Dt) : tyN d d.length = sInt :: d.map Dt.name := by unfold tyN; rw [List.take_length]
theorem name_unique {d : List Dt} (V : Valid d) {i m : Nat} {y z : Dt} (hy : d[i]? = some y) (hz : d[m]? = some z) (he : z.name = y.name) : m = i := by
  have h1 := V.ty
  rw [tyN_all, List.nodup_cons] at h1
  refine (List.getElem?_inj (l := d.map Dt.name) (by rw [List.length_map]; exact lt_of_get hz) h1.2).1 ?_
  rw [List.getElem?_map, List.getElem?_map, hy, hz]; simp [he]
theorem name_int {d : List Dt} (V : Valid d) {y : Dt} (hy : y ∈ d) : ¬ y.name = sInt := by
  have h1 := V.ty
  rw [tyN_all, List.nodup_cons] at h1
  intro e
  exact h1.1 (e ▸ List.mem_map.2 ⟨y, hy, rfl⟩)
theorem type_of_name {d : List Dt} (V : Valid d) {i : Nat} {y : Dt} (hy : d[i]? = some y) : typeS d y.name = ((i : Int) + 1, true) := by
  unfold typeS
  rw [if_neg (name_int V (List.mem_of_getElem? hy)), fst_unique hy (by simp) (fun m z hz he => name_unique V hy hz (by simpa using he))]
theorem co_len (d : List Dt) {i : Nat} {y : Dt} {k : Nat} (hk : k ≤ y.cons.length) : (coK d i y k).length = (coN d i).length + k := by
  unfold coK; rw [List.length_append, List.length_map, List.length_take]; omega
theorem co_mono (d : List Dt) {i m : Nat} (h : i ≤ m) : (coN d i).length ≤ (coN d m).length := by
  induction h with
  | refl => exact Nat.le_refl _
  | step _ ih =>
    rename_i m _
    refine Nat.le_trans ih ?_
    by_cases hlt : m < d.length
    · obtain ⟨z, hz⟩ := get_of_lt hlt
      rw [coN_succ hz, List.length_append]; omega
    · have : coN d (m + 1) = coN d m := by unfold coN; rw [List.take_of_length_le (by omega), List.take_of_length_le (by omega)]
      show _ ≤ (coN d (m + 1)).length
      rw [this]; exact Nat.le_refl _
theorem co_at {d : List Dt} {i : Nat} {y : Dt} {k : Nat} {c : Cn} (hy : d[i]? = some y) (hc : y.cons[k]? = some c) : (coN d d.length)[(coN d i).length + k]? = some c.name := by
  have hk := lt_of_get hc
  have := coK_pre hy (k + 1)
  rw [coK_succ hc] at this
  obtain ⟨r, hr⟩ := this
  rw [← hr, ← co_len d (i := i) (y := y) (show k ≤ y.cons.length by omega)]
  simp
theorem con_unique {d : List Dt} (V : Valid d) {i m : Nat} {y z : Dt} {k j : Nat} {c e : Cn} (hy : d[i]? = some y) (hc : y.cons[k]? = some c) (hz : d[m]? = some z) (he : z.cons[j]? = some e) (hn : e.name = c.name) : m = i ∧ j = k := by
  have h1 := co_at hy hc
  have h2 := co_at hz he
  have h3 := lt_of_get hc
  have h4 := lt_of_get he
  have hp : (coN d m).length + j = (coN d i).length + k := (List.getElem?_inj (lt_of_get h2) V.co).1 (by rw [h1, h2, hn])
  have hmi : m = i := by
    rcases Nat.lt_trichotomy m i with h | h | h
    · have := co_mono d (show m + 1 ≤ i from h)
      rw [coN_succ hz, List.length_append, List.length_map] at this
      omega
    · exact h
    · have := co_mono d (show i + 1 ≤ m from h)
      rw [coN_succ hy, List.length_append, List.length_map] at this
      omega
  subst hmi
  exact ⟨rfl, by omega⟩
theorem con_of_name {d : List Dt} (V : Valid d) {i k : Nat} {y : Dt} {c : Cn} (hy : d[i]? = some y) (hc : y.cons[k]? = some c) : conS d c.name = ((i : Int) + 1, (k : Int), true) := by
  unfold conS
  have h1 : fst? (fun y => y.cons.any fun e => decide (e.name = c.name)) 0 d = some (i, y) := by
    refine fst_unique hy (List.any_eq_true.2 ⟨c, List.mem_of_getElem? hc, by simp⟩) (fun m z hz he => ?_)
    obtain ⟨e, he1, he2⟩ := List.any_eq_true.1 he
    obtain ⟨j, hj1, hj2⟩ := List.getElem_of_mem he1
    exact (con_unique V hy hc hz (by rw [List.getElem?_eq_getElem hj1, hj2]) (by simpa using he2)).1
  have h2 : idxZ (fun e : Cn => decide (e.name = c.name)) y.cons = k := by
    unfold idxZ
    rw [fst_unique hc (by simp) (fun j e he hn => (con_unique V hy hc hy he (by simpa using hn)).2)]
  rw [h1]
  simp only [h2]

/-! ### What is reached is closed -/
def Cl (d : List Dt) (s : List Int) (x : Int) : Prop := ∀ c, c ∈ consOf d x → ∀ f, f ∈ c.flds → f ∈ s
structure Good (d : List Dt) (s s' : List Int) : Prop where
  inv : Inv d s'
  sub : ∀ x, x ∈ s → x ∈ s'
  len : s.length ≤ s'.length
  cl : ∀ x, x ∈ s' → x ∈ s ∨ Cl d s' x
theorem Good.refl {d : List Dt} {s : List Int} (I : Inv d s) : Good d s s := ⟨I, fun _ h => h, Nat.le_refl _, fun _ h => .inl h⟩
theorem Good.trans {d : List Dt} {a b c : List Int} (h : Good d a b) (k : Good d b c) : Good d a c := by
  refine ⟨k.inv, fun x hx => k.sub x (h.sub x hx), Nat.le_trans h.len k.len, fun x hx => ?_⟩
  rcases k.cl x hx with h1 | h1
  · rcases h.cl x h1 with h2 | h2
    · exact .inl h2
    · exact .inr fun c hc f hf => k.sub f (h2 c hc f hf)
  · exact .inr h1
theorem good_fold {d : List Dt} {α : Type} {N : Nat} {step : List Int → α → List Int} {Post : α → List Int → Prop} (pm : ∀ x s s', Post x s → (∀ y, y ∈ s → y ∈ s') → Post x s') : ∀ (xs : List α) (s : List Int), Inv d s → N ≤ s.length →
    (∀ x, x ∈ xs → ∀ s, Inv d s → N ≤ s.length → Good d s (step s x) ∧ Post x (step s x)) → Good d s (xs.foldl step s) ∧ ∀ x, x ∈ xs → Post x (xs.foldl step s)
  | [], s, I, _, _ => ⟨Good.refl I, fun x hx => by cases hx⟩
  | x :: xs, s, I, hN, H => by
    obtain ⟨g1, p1⟩ := H x List.mem_cons_self s I hN
    obtain ⟨g2, p2⟩ := good_fold pm xs (step s x) g1.inv (Nat.le_trans hN g1.len) (fun y hy => H y (List.mem_cons_of_mem x hy))
    refine ⟨g1.trans g2, fun y hy => ?_⟩
    rcases List.mem_cons.1 hy with rfl | hy
    · exact pm _ _ _ p1 g2.sub
    · exact p2 y hy
theorem typed_con {d : List Dt} (Ty : typedS d = true) {t : Int} {c : Cn} {f : Int} (hc : c ∈ consOf d t) (hf : f ∈ c.flds) : isT d f = true := by
  rcases tcase d t with h0 | h0 | ⟨n, y, rfl, hy⟩
  · rw [consOf_lo h0] at hc; cases hc
  · rw [consOf_hi h0] at hc; cases hc
  · rw [consOf_at hy] at hc
    exact List.all_eq_true.1 (List.all_eq_true.1 (List.all_eq_true.1 Ty y (List.mem_of_getElem? hy)) c hc) f hf
theorem reachS_good {d : List Dt} (Ty : typedS d = true) : ∀ (k : Nat) (t : Int) (l : List Int), isT d t = true → Inv d l → d.length + 2 ≤ k + l.length → Good d l (reachS d k t l) ∧ t ∈ reachS d k t l
  | 0, t, l, _, I, hk => by have := I.len; omega
  | k + 1, t, l, hT, I, hk => by
    unfold reachS
    split
    · rename_i hc
      rcases hc with h | h
      · rw [hT] at h; cases h
      · exact ⟨Good.refl I, h⟩
    · rename_i hc
      have hm : t ∉ l := fun h => hc (.inr h)
      have I1 := I.add hT hm
      obtain ⟨g, p⟩ := good_fold (d := d) (N := l.length + 1) (step := fun l c => c.flds.foldl (fun l f => reachS d k f l) l) (Post := fun c s => c ∈ consOf d t → ∀ f, f ∈ c.flds → f ∈ s)
        (fun x s s' h hs hc f hf => hs f (h hc f hf)) (consOf d t) (l ++ [t]) I1 (by simp) (by
          intro c hc s Is hs
          obtain ⟨g, p⟩ := good_fold (d := d) (N := l.length + 1) (step := fun l f => reachS d k f l) (Post := fun f s => f ∈ s) (fun x s s' h hs => hs x h) c.flds s Is hs (by
            intro f hf s Is hs
            exact reachS_good Ty k f s (typed_con Ty hc hf) Is (by omega))
          exact ⟨g, fun _ f hf => p f hf⟩)
      refine ⟨⟨g.inv, fun x hx => g.sub x (List.mem_append_left _ hx), by have := g.len; simp at this; omega, fun x hx => ?_⟩, g.sub t (by simp)⟩
      rcases g.cl x hx with h | h
      · rcases List.mem_append.1 h with h | h
        · exact .inl h
        · simp at h; subst h
          exact .inr fun c hc f hf => p c hc hc f hf
      · exact .inr h
theorem reach_closed {d : List Dt} (Ty : typedS d = true) {t : Int} (hT : isT d t = true) {x : Int} (hx : x ∈ reach d t) : Cl d (reach d t) x := by
  obtain ⟨g, _⟩ := reachS_good Ty (d.length + 2) t [] hT (Inv.nil d) (by simp)
  rcases g.cl x hx with h | h
  · cases h
  · exact h
theorem pre_fold {α : Type} {stp : List Int → α → List Int} (h : ∀ s x, s <+: stp s x) : ∀ (xs : List α) (s : List Int), s <+: xs.foldl stp s
  | [], s => List.prefix_refl s
  | x :: xs, s => (h s x).trans (pre_fold h xs (stp s x))
theorem reachS_pre (d : List Dt) : ∀ (k : Nat) (t : Int) (l : List Int), l <+: reachS d k t l
  | 0, t, l => List.prefix_refl l
  | k + 1, t, l => by
    unfold reachS
    split
    · exact List.prefix_refl l
    · exact (List.prefix_append l [t]).trans (pre_fold (fun s c => pre_fold (fun s f => reachS_pre d k f s) _ _) _ _)
theorem reach_hd {d : List Dt} {t : Int} (hT : isT d t = true) : (reach d t)[0]? = some t := by
  unfold reach
  rw [reachS, if_neg (by simp [hT])]
  obtain ⟨r, hr⟩ := pre_fold (stp := fun l c => c.flds.foldl (fun l f => reachS d (d.length + 1) f l) l) (fun s c => pre_fold (fun s f => reachS_pre d (d.length + 1) f s) _ _) (consOf d t) ([] ++ [t])
  rw [← hr]; rfl
theorem reach_none {d : List Dt} {t : Int} (hT : isT d t = false) : reach d t = [] := by
  unfold reach
  rw [reachS, if_pos (.inl hT)]

theorem slc_take (l : List Int) (n : Nat) (hn : n ≤ l.length) : slc 1 (.d (eIs l)) none (some (.d (.int .i64 (n : Int)))) = some (.d (eIs (l.take n))) := by
  have ha : Zv.allD 1 (l.map eI) = true := by
    unfold Zv.allD; simp [D.cells]
  simp [slc, bnd, ixOf_nat, hn, ha, List.map_take]
theorem nodup_take {l : List Int} (h : l.Nodup) {n : Nat} {x : Int} (hx : l[n]? = some x) : x ∉ l.take n := by
  intro hm
  obtain ⟨i, hi1, hi2⟩ := List.getElem_of_mem hm
  rw [List.length_take] at hi1
  have h1 : l[i]? = some x := by rw [← hi2, List.getElem_take]; exact List.getElem?_eq_getElem (by omega)
  have := (List.getElem?_inj (l := l) (i := i) (j := n) (by omega) h).1 (by rw [h1, hx])
  omega
-- ws, wsl, opX, int, Zv.bool, intBin, reduceIte, ↓reduceIte, Nat.reduceEqDiff, Nat.reduceAdd, Nat.reduceSub, Nat.reduceLeDiff, Int.reduceLT, Int.reduceLE, Int.reduceEq, Int.reduceBEq, Int.reduceNe, Int.reduceBNe, reduceCtorEq, Nat.reduceBEq
end Zc17
