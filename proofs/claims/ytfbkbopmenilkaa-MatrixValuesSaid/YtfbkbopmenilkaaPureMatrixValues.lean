/-
  Parts of the proof.
-/
import Derived.Test.YtfbkbopmenilkaaZc27U10
section
set_option linter.unusedSimpArgs false
set_option linter.unusedVariables false
set_option linter.unusedSimpArgs false
set_option maxHeartbeats 4000000
namespace Zc27
open Go Zv Zs

/-- A matrix that passed its check. -/
structure Gd (d : List Dt) (ts : List Int) (l : List (List Pt)) : Prop where
  sml : Sml d
  typ : typedS d = true
  tys : ∀ t, t ∈ ts → isT d t = true
  fit : fitM d ts l
  w : 9 * nwS l + ts.length ≤ 8000
  len : l.length ≤ 1000
theorem nwS_take : ∀ {l : List (List Pt)} {n : Nat} {x : List Pt}, l[n]? = some x → nwS (l.take n) + nwL x ≤ nwS l
  | [], n, x, h => by simp at h
  | r :: l, 0, x, h => by
    simp at h; subst h
    simp only [List.take_zero, nwS]; omega
  | r :: l, n + 1, x, h => by
    rw [List.getElem?_cons_succ] at h
    have := nwS_take h
    rw [List.take_succ_cons, nwS, nwS]; omega
theorem slc_take (l : List (List Pt)) {n : Nat} (hn : n ≤ l.length) : slc 1 (.d (eRs l)) none (some (.d (.int .i64 (n : Int)))) = some (.d (eRs (l.take n))) := by
  have h : Zv.allD 1 (l.map ePs) = true := by
    unfold Zv.allD
    refine List.all_eq_true.2 fun y hy => ?_
    obtain ⟨p, _, rfl⟩ := List.mem_map.1 hy
    rfl
  simp only [slc, bnd, Option.bind_some, ixOf_nat, h]
  simp [hn, List.map_take]
def deadF (d : List Dt) (ts : List Int) (l : List (List Pt)) (x : List Pt × Nat) : Option Int := if usS d 8001 ts (l.take x.2) x.1 = true then none else some (x.2 : Int)
def deadS (d : List Dt) (ts : List Int) (l : List (List Pt)) : List Int := l.zipIdx.filterMap (deadF d ts l)
theorem zip_ix {l : List (List Pt)} {n : Nat} {x : List Pt × Nat} (h : l.zipIdx[n]? = some x) : l[n]? = some x.1 ∧ x.2 = n := by
  rw [List.getElem?_zipIdx] at h
  simp only [Option.map_eq_some_iff] at h
  obtain ⟨a, ha, rfl⟩ := h
  exact ⟨ha, by simp⟩
section
variable {d : List Dt} {ts : List Int} {l : List (List Pt)} (G : Gd d ts l)
include G
theorem Gd.use {n : Nat} {x : List Pt} (hx : l[n]? = some x) (h : Hp) : callW tab 44 [.d (eDs d), .d (eIs ts), .d (eRs (l.take n)), .d (ePs x)] h = some (.d (.bool (usS d 8001 ts (l.take n) x)), h) := by
  have hw := nwS_take hx
  have hg := G.w
  have := G.len
  exact useful_ok G.sml G.typ 8001 ts (l.take n) x (by omega) (by omega) (by rw [List.length_take]; omega) G.tys (fun r hr => G.fit r (List.mem_of_mem_take hr)) (G.fit x (List.mem_of_getElem? hx)) h
theorem dead_ok (F : Rng d ts l) (hc : chk27 d ts l = 0) (h : Hp) : callW tab 16 [.d (eDs d), .d (eIs ts), .d (eRs l)] h = some (.tup [.d (eIs (deadS d ts l)), .d (eI 0)], h) := by
  refine call_wp (fn := f16) rfl rfl ?_
  have hlen := G.len
  have hzl : l.zipIdx.length = l.length := by simp
  have hck := fun h => chk_ok F h
  rw [hc] at hck
  obtain ⟨m, q, hm, hq, hloop⟩ := loop_acc (T := tab) (a := f16l0) (l := l.zipIdx) (fun _ => deadF d ts l) eI 1 8 (fun n r => [(0, .d (eDs d)), (1, .d (eIs ts)), (2, .d (eRs l)), (9, r), (19, .d (eRs l)), (20, .d (.int .i64 (l.length : Int))), (21, .d (.int .i64 (n : Int)))]) (h := h) (n0 := h.next) (x1 := .exit 0) (e1 := fun r => [(0, .d (eDs d)), (1, .d (eIs ts)), (2, .d (eRs l)), (9, r), (19, .d (eRs l)), (20, .d (.int .i64 (l.length : Int))), (21, .d (.int .i64 (l.length : Int))), (22, .d (.bool false))]) (Nat.le_refl _)
    (fun _ => rfl) (by rw [hzl]; simp only [roomB]; omega)
    (by
      intro n x s m q hx hlt hs hsl hG
      obtain ⟨hx, hxn⟩ := zip_ix hx
      rw [hzl] at hlt
      have hu := fun h => G.use hx h
      simp only [deadF, hxn] at hG
      have hk : usS d 8001 ts (l.take n) x.1 = true := by
        cases hk : usS d 8001 ts (l.take n) x.1 with
        | true => rfl
        | false => rw [if_neg (by rw [hk]; simp)] at hG; cases hG
      rw [hk] at hu
      (simp only [hlt, e16, slc_take l (Nat.le_of_lt hlt), iaR hx, hu, rowQ_next, rowQ_mk, wrap_succ (show n < 2 ^ 62 by omega), wz, opX, intBin, ↓reduceIte, simprocAttr] <;> repeat' (first | refine wpG_s ?_ ?_ | refine wpC_s ?_ ?_) <;> intro hgo <;> (try simp only [dq] at hgo) <;> simp only [hgo, hlt, e16, slc_take l (Nat.le_of_lt hlt), iaR hx, hu, rowQ_next, rowQ_mk, wrap_succ (show n < 2 ^ 62 by omega), wz, opX, intBin, ↓reduceIte, simprocAttr])
      exact ⟨_, rfl, by omega⟩)
    (by
      intro n x y s m q hx hlt hs hsl hG happ
      obtain ⟨hx, hxn⟩ := zip_ix hx
      rw [hzl] at hlt
      have hu := fun h => G.use hx h
      simp only [deadF, hxn] at hG
      have hk : usS d 8001 ts (l.take n) x.1 = false := by
        cases hk : usS d 8001 ts (l.take n) x.1 with
        | false => rfl
        | true => rw [if_pos hk] at hG; cases hG
      rw [if_neg (by rw [hk]; simp)] at hG
      cases hG
      rw [hk] at hu
      (simp only [hlt, e16, slc_take l (Nat.le_of_lt hlt), iaR hx, hu, happ, rowQ_next, rowQ_mk, wrap_succ (show n < 2 ^ 62 by omega), wz, opX, intBin, ↓reduceIte, simprocAttr] <;> repeat' (first | refine wpG_s ?_ ?_ | refine wpC_s ?_ ?_) <;> intro hgo <;> (try simp only [dq] at hgo) <;> simp only [hgo, hlt, e16, slc_take l (Nat.le_of_lt hlt), iaR hx, hu, happ, rowQ_next, rowQ_mk, wrap_succ (show n < 2 ^ 62 by omega), wz, opX, intBin, ↓reduceIte, simprocAttr])
      exact ⟨_, _, ⟨rfl, rfl⟩, by omega, Nat.le_refl _⟩)
    (by
      intro m q
      rw [hzl]
      (simp only [e16, wz, opX, intBin, ↓reduceIte, simprocAttr] <;> repeat' (first | refine wpG_s ?_ ?_ | refine wpC_s ?_ ?_) <;> intro hgo <;> (try simp only [dq] at hgo) <;> simp only [hgo, e16, wz, opX, intBin, ↓reduceIte, simprocAttr])
      exact ⟨_, rfl, by omega⟩)
    (by simp)
  rw [accL_fm] at hloop hm
  simp only [Int.cast_ofNat_Int] at hloop
  have hfm : l.zipIdx.filterMap (deadF d ts l) = deadS d ts l := rfl
  rw [hfm] at hloop hm
  have hfin : finS h (rowQ h m 1 ((deadS d ts l).map eI) q) [rowN m 1 ((deadS d ts l).map eI), .d (.int .i64 0)] = some (.tup [.d (eIs (deadS d ts l)), .d (eI 0)], h) := by
    rw [finS, if_pos (rowQ_suf h m 1 _ q)]
    simp only [List.mapM_cons, List.mapM_nil, back1, rowQ_deep h _ q (fun e => (hm e).1)]
    rfl
  (simp only [e16, hck, ibne, wq_of hloop, hfin, wz, opX, intBin, ↓reduceIte, simprocAttr] <;> repeat' (first | refine wpG_s ?_ ?_ | refine wpC_s ?_ ?_) <;> intro hgo <;> (try simp only [dq] at hgo) <;> simp only [hgo, e16, hck, ibne, wq_of hloop, hfin, wz, opX, intBin, ↓reduceIte, simprocAttr])
end
mutual
theorem nw_cntP : ∀ p : Pt, nwP p ≤ cntP p
  | .mk k c m qs => by
    rw [nwP, cntP]
    have := nw_cntL qs
    split <;> omega
theorem nw_cntL : ∀ l : List Pt, nwL l ≤ cntL l
  | [] => Nat.le_refl _
  | p :: r => by
    rw [nwL, cntL]
    have := nw_cntP p
    have := nw_cntL r
    omega
end
theorem nw_sum : ∀ l : List (List Pt), nwS l ≤ sumC l
  | [] => Nat.le_refl _
  | r :: l => by
    rw [nwS, sumC]
    have := nw_cntL r
    have := nw_sum l
    omega
theorem gd_of {d : List Dt} {ts : List Int} {l : List (List Pt)} (S : Sml d) (ht : ts.length ≤ 10) (hl : l.length ≤ 9) (hs : sumC l ≤ 60) (hc : chk27 d ts l = 0) : Gd d ts l := by
  have hw := nw_sum l
  unfold chk27 at hc
  by_cases h1 : checkS d ≠ 0
  · rw [if_pos h1] at hc; cases hc
  rw [if_neg h1] at hc
  by_cases h2 : 8 < ts.length ∨ 64 < l.length
  · rw [if_pos h2] at hc; cases hc
  rw [if_neg h2] at hc
  by_cases h3 : ts.any (badT d) = true
  · rw [if_pos h3] at hc; cases hc
  rw [if_neg h3] at hc
  by_cases h4 : l.any deepR = true
  · rw [if_pos h4] at hc; cases hc
  rw [if_neg h4] at hc
  by_cases h5 : l.any (badR d ts) = true
  · rw [if_pos h5] at hc; cases hc
  refine ⟨S, check_typed (Decidable.not_not.1 h1), fun t hm => ?_, fun r hr => ?_, by omega, by omega⟩
  · cases hb : isT d t with
    | true => rfl
    | false => exact absurd (List.any_eq_true.2 ⟨t, hm, by rw [badT, hb]; rfl⟩) h3
  · cases hb : badR d ts r with
    | true => exact absurd (List.any_eq_true.2 ⟨r, hr, hb⟩) h5
    | false =>
      unfold badR at hb
      rw [← fitsL_any] at hb
      simp only [Bool.not_eq_false', Bool.and_eq_true, decide_eq_true_eq] at hb
      exact fitR_of_L hb.1.symm hb.2
end Zc27
end
section
set_option linter.unusedSimpArgs false
set_option linter.unusedVariables false
set_option linter.unusedSimpArgs false
set_option maxHeartbeats 4000000
namespace Zc27
open Go Zv Zs

end Zc27
end
section
set_option linter.unusedSimpArgs false
set_option linter.unusedVariables false
set_option linter.unusedSimpArgs false
set_option maxHeartbeats 4000000
namespace Zc27
open Go Zv Zs

/-- The first number that is not in a list. -/
def missG (s : List Int) : Nat → Nat → Nat
  | 0, n => n
  | f + 1, n => if (n : Int) ∈ s then missG s f (n + 1) else n
def missN (s : List Int) : Nat := missG s (s.length + 1) 0
theorem all_le {s : List Int} {n : Nat} (h : ∀ i : Nat, i < n → (i : Int) ∈ s) : n ≤ s.length := by
  have := sub_len ((List.range n).map fun j : Nat => (j : Int)) s (by
    exact List.Pairwise.map _ (fun a b e => by intro q; exact e (Int.ofNat.inj q)) List.nodup_range) (fun x hx => by
    obtain ⟨j, hj, rfl⟩ := List.mem_map.1 hx
    exact h j (List.mem_range.1 hj))
  simpa using this
theorem missG_spec (s : List Int) : ∀ f n : Nat, (∀ i : Nat, i < n → (i : Int) ∈ s) → s.length < n + f → ((missG s f n : Nat) : Int) ∉ s ∧ (∀ i : Nat, i < missG s f n → (i : Int) ∈ s) ∧ missG s f n ≤ s.length
  | 0, n, h, hl => by have := all_le h; omega
  | f + 1, n, h, hl => by
    simp only [missG]
    by_cases hn : (n : Int) ∈ s
    · rw [if_pos hn]
      refine missG_spec s f (n + 1) (fun i hi => ?_) (by omega)
      by_cases e : i = n
      · subst e; exact hn
      · exact h i (by omega)
    · rw [if_neg hn]
      exact ⟨hn, h, all_le h⟩
theorem missN_spec (s : List Int) : ((missN s : Nat) : Int) ∉ s ∧ (∀ i : Nat, i < missN s → (i : Int) ∈ s) ∧ missN s ≤ s.length := missG_spec s _ 0 (fun i hi => by omega) (by omega)
/-- The head that is not there. -/
def missS (d : List Dt) (t : Int) (rows : List (List Pt)) : Pt :=
  if 0 < (consS rows).length then .mk 1 (missN (consS rows) : Nat) 0 (List.replicate (fldsOf d t (missN (consS rows))).length wildT)
  else if 0 < (numsS rows).length then .mk 2 0 (missN (numsS rows) : Nat) []
  else wildT
def wfS (i n : Nat) (w : List Pt) : List Pt := .mk 1 (i : Int) 0 (w.take n) :: w.drop n
/-- The witness. -/
def wiS (d : List Dt) : Nat → List Int → List (List Pt) → Option (List Pt)
  | 0, _, _ => none
  | _ + 1, [], rows => if rows.length = 0 then some [] else none
  | k + 1, t :: ts, rows =>
    if t = 0 ∨ (consS rows).length < (consOf d t).length then (wiS d k ts (restS wildP rows)).map (missS d t rows :: ·)
    else (List.range (consOf d t).length).findSome? fun i => (wiS d k (fldsOf d t i ++ ts) (spS (i : Int) (fldsOf d t i).length rows)).map (wfS i (fldsOf d t i).length)
theorem wiS_len (d : List Dt) : ∀ (k : Nat) (ts : List Int) (rows : List (List Pt)) (w : List Pt), wiS d k ts rows = some w → w.length = ts.length
  | 0, _, _, _, h => by cases h
  | k + 1, [], rows, w, h => by
    simp only [wiS] at h
    split at h
    · cases h; rfl
    · cases h
  | k + 1, t :: ts, rows, w, h => by
    simp only [wiS] at h
    split at h
    · simp only [Option.map_eq_some_iff] at h
      obtain ⟨v, hv, rfl⟩ := h
      rw [List.length_cons, List.length_cons, wiS_len d k _ _ _ hv]
    · obtain ⟨i, _, hi⟩ := List.exists_of_findSome?_eq_some h
      simp only [Option.map_eq_some_iff] at hi
      obtain ⟨v, hv, rfl⟩ := hi
      have := wiS_len d k _ _ _ hv
      rw [List.length_append] at this
      simp only [wfS, List.length_cons, List.length_drop]
      omega
theorem fs_from {β : Type} (g : Nat → Option β) (n : Nat) (b : β) : ∀ (K s : Nat), s ≤ n → n < s + K → (∀ i, s ≤ i → i < n → g i = none) → g n = some b → (List.range' s K).findSome? g = some b
  | 0, s, h1, h2, _, _ => by omega
  | K + 1, s, h1, h2, h3, h4 => by
    rw [List.range'_succ, List.findSome?_cons]
    by_cases e : s = n
    · subst e; rw [h4]
    · rw [h3 s (Nat.le_refl s) (by omega)]
      exact fs_from g n b K (s + 1) (by omega) (by omega) (fun i hi hn => h3 i (by omega) hn) h4
theorem fs_at {β : Type} {g : Nat → Option β} {n K : Nat} {b : β} (hn : n < K) (h : ∀ i, i < n → g i = none) (hg : g n = some b) : (List.range K).findSome? g = some b := by
  rw [List.range_eq_range']
  exact fs_from g n b K 0 (Nat.zero_le _) (by omega) (fun i _ hi => h i hi) hg
theorem fs_none {β : Type} {g : Nat → Option β} {K : Nat} (h : ∀ i, i < K → g i = none) : (List.range K).findSome? g = none := by
  rw [List.findSome?_eq_none_iff]
  exact fun x hx => h x (List.mem_range.1 hx)
/-- A loop that goes through the numbers below one, and leaves with what it finds. -/
theorem loop_fs {β : Type} {a : AC} {K : Nat} {p : Nat → Option β} {f : Nat → Env} {O : List (Nat × Ob)} {O2 : β → List (Nat × Ob)} {x1 x2 : Ex} {e2 : Env} {q0 : Nat}
    (hs : ∀ q n, n < K → p n = none → wp tab a (f n) ⟨O, q⟩ (fun o => ∃ q', o = (.norm, f (n + 1), ⟨O, q'⟩) ∧ q ≤ q'))
    (hx : ∀ q n b, n < K → p n = some b → wp tab a (f n) ⟨O, q⟩ (fun o => ∃ e q', o = (x1, e, ⟨O2 b, q'⟩) ∧ q ≤ q'))
    (hN : ∀ q, wp tab a (f K) ⟨O, q⟩ (fun o => ∃ q', o = (x2, e2, ⟨O, q'⟩) ∧ q ≤ q')) (ho : x1 ≠ .norm) (hoN : x2 ≠ .norm) :
    ∃ e q', q0 ≤ q' ∧ ex tab (.loop a) (f 0) ⟨O, q0⟩ = some (match (List.range K).findSome? p with
      | some b => (x1, e, ⟨O2 b, q'⟩)
      | none => (x2, e2, ⟨O, q'⟩)) := by
  obtain ⟨o, h1, e, q, hqq, h2⟩ : wp tab (.loop a) (f 0) ⟨O, q0⟩ (fun o => ∃ e q', q0 ≤ q' ∧ o = match (List.range K).findSome? p with
      | some b => (x1, e, ⟨O2 b, q'⟩)
      | none => (x2, e2, ⟨O, q'⟩)) := by
    refine loop_wp K (fun n e h' => (∃ q, q0 ≤ q ∧ h' = ⟨O, q⟩) ∧ e = f n ∧ ∀ i, i < n → p i = none) _ ?_ ?_ K 0 _ _ (by omega) ⟨⟨q0, Nat.le_refl _, rfl⟩, rfl, fun i hi => by omega⟩
    · rintro n e h' hn ⟨⟨q, hqn, rfl⟩, rfl, hk⟩
      cases hp : p n with
      | some b =>
        obtain ⟨o, hq, e, q', rfl, hle⟩ := hx q n b hn hp
        rw [fs_at hn hk hp]
        exact ⟨_, hq, .inr ⟨ho, e, q', Nat.le_trans hqn hle, rfl⟩⟩
      | none =>
        obtain ⟨o, hq, q', rfl, hle⟩ := hs q n hn hp
        refine ⟨_, hq, .inl ⟨rfl, ⟨q', Nat.le_trans hqn hle, rfl⟩, rfl, fun i hi => ?_⟩⟩
        by_cases hij : i = n
        · subst hij; exact hp
        · exact hk i (by omega)
    · rintro e h' ⟨⟨q, hqn, rfl⟩, rfl, hk⟩
      rw [fs_none hk]
      obtain ⟨o, hq, q', rfl, hle⟩ := hN q
      exact ⟨_, hq, hoN, f 0, q', Nat.le_trans hqn hle, rfl⟩
  exact ⟨e, q, hqq, by rw [h1, h2]⟩

/-! ### Heaps of the program's witness -/
section
variable (o : List (Nat × Ob)) (H : Nat) (A B : List Int) (e0 : List (Nat × V))
/-- The two variables of the answer. -/
def W0 (v : V) (b : Bool) (q : Nat) : Hp := ⟨(H + 3, .arr 1 [.d (.bool b)]) :: (H + 2, .arr 1 [v]) :: o, q⟩
/-- With the heads. -/
def WV (v : V) (b : Bool) (q : Nat) : Hp := ⟨(H + 5, .mp (kvB B)) :: (H + 4, .mp (kvB A)) :: (H + 3, .arr 1 [.d (.bool b)]) :: (H + 2, .arr 1 [v]) :: o, q⟩
/-- Within the range. -/
def WU (v : V) (b : Bool) (s : Option Ex) (q : Nat) : Hp := ⟨(H + 9, .lp 816 e0 s) :: (H + 5, .mp (kvB B)) :: (H + 4, .mp (kvB A)) :: (H + 3, .arr 1 [.d (.bool b)]) :: (H + 2, .arr 1 [v]) :: o, q⟩
theorem W0_r2 (v b q) : (W0 o H v b q).row (H + 2) 1 = some (1, [v]) := by unfold W0 Hp.row Hp.get; simp [Zv.look]
theorem W0_r3 (v b q) : (W0 o H v b q).row (H + 3) 1 = some (1, [.d (.bool b)]) := by unfold W0 Hp.row Hp.get; simp [Zv.look]
theorem WV_r2 (v b q) : (WV o H A B v b q).row (H + 2) 1 = some (1, [v]) := by unfold WV Hp.row Hp.get; simp [Zv.look]
theorem WV_r3 (v b q) : (WV o H A B v b q).row (H + 3) 1 = some (1, [.d (.bool b)]) := by unfold WV Hp.row Hp.get; simp [Zv.look]
theorem WU_r2 (v b s q) : (WU o H A B e0 v b s q).row (H + 2) 1 = some (1, [v]) := by unfold WU Hp.row Hp.get; simp [Zv.look]
theorem WU_r3 (v b s q) : (WU o H A B e0 v b s q).row (H + 3) 1 = some (1, [.d (.bool b)]) := by unfold WU Hp.row Hp.get; simp [Zv.look]
theorem W0_s2 (v b q) (x : V) (hs : stor x = true) (hc : x.cells.length = 1) : st 1 (W0 o H v b q) (.ptr (H + 2) 1 0 0) x = some (W0 o H x b q) := by
  unfold st; simp only [W0_r2, Option.bind_some, hs, hc]; simp [W0, Hp.set, upd]
theorem W0_s3 (v b q) (c : Bool) : st 1 (W0 o H v b q) (.ptr (H + 3) 1 0 0) (.d (.bool c)) = some (W0 o H v c q) := by
  unfold st; simp only [W0_r3, Option.bind_some]; simp [W0, Hp.set, upd, V.cells, stor, D.cells]
theorem WV_s2 (v b q) (x : V) (hs : stor x = true) (hc : x.cells.length = 1) : st 1 (WV o H A B v b q) (.ptr (H + 2) 1 0 0) x = some (WV o H A B x b q) := by
  unfold st; simp only [WV_r2, Option.bind_some, hs, hc]; simp [WV, Hp.set, upd]
theorem WV_s3 (v b q) (c : Bool) : st 1 (WV o H A B v b q) (.ptr (H + 3) 1 0 0) (.d (.bool c)) = some (WV o H A B v c q) := by
  unfold st; simp only [WV_r3, Option.bind_some]; simp [WV, Hp.set, upd, V.cells, stor, D.cells]
theorem WU_s2 (v b s q) (x : V) (hs : stor x = true) (hc : x.cells.length = 1) : st 1 (WU o H A B e0 v b s q) (.ptr (H + 2) 1 0 0) x = some (WU o H A B e0 x b s q) := by
  unfold st; simp only [WU_r2, Option.bind_some, hs, hc]; simp [WU, Hp.set, upd]
theorem WU_s3 (v b s q) (c : Bool) : st 1 (WU o H A B e0 v b s q) (.ptr (H + 3) 1 0 0) (.d (.bool c)) = some (WU o H A B e0 v c s q) := by
  unfold st; simp only [WU_r3, Option.bind_some]; simp [WU, Hp.set, upd, V.cells, stor, D.cells]
theorem WU_get (v b s q) : (WU o H A B e0 v b s q).get (H + 9) = some (.lp 816 e0 s) := by unfold WU Hp.get; simp [Zv.look]
theorem WU_set (v b s s' q) : (WU o H A B e0 v b s q).set (H + 9) (.lp 816 e0 s') = WU o H A B e0 v b s' q := by unfold WU Hp.set; simp [upd]
theorem WU_kill (v b s q) : (WU o H A B e0 v b s q).kill (H + 9) = WV o H A B v b q := by unfold WU WV Hp.kill; simp [del]
theorem WU_mk (v b s q q') : (⟨(WU o H A B e0 v b s q).objs, q'⟩ : Hp) = WU o H A B e0 v b s q' := rfl
theorem WU_next (v b s q) : (WU o H A B e0 v b s q).next = q := rfl
theorem WV_mk (v b q q') : (⟨(WV o H A B v b q).objs, q'⟩ : Hp) = WV o H A B v b q' := rfl
theorem WV_next (v b q) : (WV o H A B v b q).next = q := rfl
theorem WV_of (v b) : HM2 ((H + 3, .arr 1 [.d (.bool b)]) :: (H + 2, .arr 1 [v]) :: o) (H + 4) A B = WV o H A B v b (H + 6) := rfl
theorem WV_lenA (v b q) : lenM (WV o H A B v b q) (.map (H + 4)) = some (.d (.int .i64 (A.length : Int))) := by
  unfold lenM entries WV Hp.get; simp [Zv.look, kvB, int]
end
theorem W0_fin (h : Hp) (b q) : finS h (W0 h.objs h.next (.tl [] (some true)) b q) [.tl [] (some true), .d (.bool b)] = some (.tup [.d (.lst []), .d (.bool b)], h) := by
  have hs : sufOk h.objs (W0 h.objs h.next (.tl [] (some true)) b q).objs = true := suf_app [_, _] h.objs
  unfold finS
  rw [if_pos hs]
  rfl
theorem WV_fin0 (h : Hp) (A B : List Int) (b q) : finS h (WV h.objs h.next A B (.tl [] (some true)) b q) [.tl [] (some true), .d (.bool b)] = some (.tup [.d (.lst []), .d (.bool b)], h) := by
  have hs : sufOk h.objs (WV h.objs h.next A B (.tl [] (some true)) b q).objs = true := suf_app [_, _, _, _] h.objs
  unfold finS
  rw [if_pos hs]
  rfl
theorem WV_fin (h : Hp) (A B : List Int) (v : V) (b q) (x : D) : finS h (WV h.objs h.next A B v b q) [.d x, .d (.bool b)] = some (.tup [.d x, .d (.bool b)], h) := by
  refine finS_suf (vs := [x, .bool b]) ?_
  exact suf_app [_, _, _, _] h.objs
/-- The answer of the program's witness. -/
def wiV : Option (List Pt) → V
  | none => .tup [.d (.lst []), .d (.bool false)]
  | some w => .tup [.d (ePs w), .d (.bool true)]
end Zc27
end
section
set_option linter.unusedSimpArgs false
set_option linter.unusedVariables false
set_option linter.unusedSimpArgs false
set_option maxHeartbeats 4000000
namespace Zc27
open Go Zv Zs

theorem wit_r0 (a b c : D) (ha : a.cells.length = 1) (hb : b.cells.length = 1) (h : Hp) :
    ex tab f51r0 (args 0 [.d a, .d b, .d c]) h = some (.norm, [(2, .d c), (3, .fp a 0), (4, .fp b 0), (6, .ptr (h.next + 2) 1 0 0), (7, .ptr (h.next + 3) 1 0 0)], W0 h.objs h.next (.tl [] (some true)) false (h.next + 4)) := by
  apply wq_ex.1
  (simp only [e51, ha, hb, frz_4, frz_3, wz, opX, intBin, ↓reduceIte, simprocAttr] <;> repeat' (first | refine wpG_s ?_ ?_ | refine wpC_s ?_ ?_) <;> intro hgo <;> (try simp only [dq] at hgo) <;> simp only [hgo, e51, ha, hb, frz_4, frz_3, wz, opX, intBin, ↓reduceIte, simprocAttr])
  rfl
theorem slc_all {es : Nat} {l : List D} {n : Nat} (hl : ∀ y, y ∈ l → y.cells.length = es) (hn : n ≤ l.length) : slc es (.d (.lst l)) none (some (.d (.int .i64 (n : Int)))) = some (.d (.lst (l.take n))) := by
  have h : Zv.allD es l = true := by
    unfold Zv.allD
    exact List.all_eq_true.2 fun y hy => by simpa using hl y hy
  simp only [slc, bnd, Option.bind_some, ixOf, h]
  simp [hn]
theorem slc_from {es : Nat} {l : List D} {n : Nat} (hl : ∀ y, y ∈ l → y.cells.length = es) (hn : n ≤ l.length) : slc es (.d (.lst l)) (some (.d (.int .i64 (n : Int)))) none = some (.d (.lst (l.drop n))) := by
  have h : Zv.allD es l = true := by
    unfold Zv.allD
    exact List.all_eq_true.2 fun y hy => by simpa using hl y hy
  simp only [slc, bnd, Option.bind_some, ixOf, h]
  simp [hn]
theorem slcPt {w : List Pt} {n : Nat} (hn : n ≤ w.length) : slc 4 (.d (.lst (w.map ePt))) none (some (.d (.int .i64 (n : Int)))) = some (.d (.lst ((w.take n).map ePt))) := by
  rw [slc_all ptcells (by rw [List.length_map]; exact hn), List.map_take]
theorem slcPd {w : List Pt} {n : Nat} (hn : n ≤ w.length) : slc 4 (.d (.lst (w.map ePt))) (some (.d (.int .i64 (n : Int)))) none = some (.d (.lst ((w.drop n).map ePt))) := by
  rw [slc_from ptcells (by rw [List.length_map]; exact hn), List.map_drop]
/-- One pattern ahead of others. -/
theorem app_one (p : Pt) (l : List Pt) (nl : Option Bool) (h : Hp) (hl : l.length ≤ 100000) : ((app 4 48 h (.tl [.d (ePt p)] nl) (.d (.lst (l.map ePt)))).bind fun r => Zv.frz r.2 r.1) = some (.d (.lst (ePt p :: l.map ePt)), ⟨h.objs, if l = [] then h.next else h.next + 1⟩) := by
  by_cases h0 : l = []
  · subst h0; rfl
  · have he : (l.map ePt).map V.d ≠ [] := by simpa using h0
    have h1 : ((l.map ePt).map V.d).isEmpty = false := by cases l with | nil => exact absurd rfl h0 | cons => rfl
    unfold app
    simp only [elems, Option.bind_some, norm_map_d, allV_d ptcells, if_true, h1, Bool.false_eq_true, if_false, List.length_cons, List.length_nil, List.length_map]
    rw [if_pos ⟨by simp only [roomB]; omega, by simp [Zv.allV, V.cells, ePt_cells]⟩]
    simp only [Option.bind_some, if_neg h0]
    have hrow : (h.alloc (.arr 4 ([V.d (ePt p)] ++ (l.map ePt).map V.d))).row h.next (0 + 1 + l.length) = some (4, ((p :: l).map ePt).map V.d) := by
      rw [alloc_eq, row_cons]; simp; omega
    simp only [Zv.frz, hrow, Option.bind_some]
    rw [if_pos (by simp; omega), List.drop_zero, List.take_of_length_le (by simp; omega), toDs_map]
    simp [Hp.kill, Hp.alloc, del]
def wuX : Option (List Pt) → Ex
  | none => .norm
  | some _ => .ret
def wuS : Option (List Pt) → Option Ex
  | none => none
  | some _ => some .ret
def wuN (o : List (Nat × Ob)) (H : Nat) (A B : List Int) (e0 : List (Nat × V)) (i n : Nat) (s : Option Ex) : Option (List Pt) → Nat → Hp
  | none, q => WU o H A B e0 (.tl [] (some true)) false s q
  | some w, q => WU o H A B e0 (.d (ePs (wfS i n w))) true s q
theorem wuN_get (o : List (Nat × Ob)) (H : Nat) (A B : List Int) (e0 : List (Nat × V)) (i n : Nat) (s u q) : (wuN o H A B e0 i n s u q).get (H + 9) = some (.lp 816 e0 s) := by cases u <;> exact WU_get ..
theorem wuN_set (o : List (Nat × Ob)) (H : Nat) (A B : List Int) (e0 : List (Nat × V)) (i n : Nat) (s s' u q) : (wuN o H A B e0 i n s u q).set (H + 9) (.lp 816 e0 s') = wuN o H A B e0 i n s' u q := by cases u <;> exact WU_set ..
theorem wround_ok {d : List Dt} {n i : Nat} {y : Dt} {z : Cn} (hy : d[n]? = some y) (hz : y.cons[i]? = some z) (hd : d.length < 2 ^ 60) (hf : z.flds.length ≤ 8) {ts : List Int} (hl : ts.length ≤ 10000) {m : List (List Pt)} {u : Option (List Pt)}
    (hu : ∀ h, callW tab 51 [.d (eDs d), .d (eIs (z.flds ++ ts)), .d (eRs m)] h = some (wiV u, h)) (hul : ∀ w, u = some w → w.length = z.flds.length + ts.length) (o : List (Nat × Ob)) (H : Nat) (A B : List Int) (cl : V) (q : Nat) :
    let e0 : List (Nat × V) := [(3, .fp (eDs d) 0), (4, .fp (eIs (((n : Int) + 1) :: ts)) 0), (6, .ptr (H + 2) 1 0 0), (7, .ptr (H + 3) 1 0 0), (52, cl)]
    ∃ q', q ≤ q' ∧ cW tab (.yld (H + 9)) [.d (eI (i : Int)), .d (eRs m)] (WU o H A B e0 (.tl [] (some true)) false none q) = some (.d (.bool u.isNone), wuN o H A B e0 i z.flds.length (wuS u) u q') := by
  intro e0
  have hn := (List.getElem?_eq_some_iff.1 hy).1
  have hw := wrap_sub1 (n := n) (by omega)
  have hun : ∀ h, callW tab 76 [.d (eDs d), .d (.lst (eI ((n : Int) + 1) :: ts.map eI)), .d (eI (i : Int))] h = some (.d (eIs (z.flds ++ ts)), h) := fun h => under_ok hy hz hd ts hf hl h
  have hia : ia 1 (.d (.lst (eI ((n : Int) + 1) :: ts.map eI))) (.d (.int .i64 0)) = some (.fp (eI ((n : Int) + 1)) 0) := iaI0 _ _
  have hbody : wp tab d51q0 [(3, .fp (eDs d) 0), (4, .fp (eIs (((n : Int) + 1) :: ts)) 0), (6, .ptr (H + 2) 1 0 0), (7, .ptr (H + 3) 1 0 0), (10, .d (eI (i : Int))), (11, .d (eRs m))] (WU o H A B e0 (.tl [] (some true)) false (some .norm) q)
      (fun r => ∃ e' q', q ≤ q' ∧ r = (wuX u, e', wuN o H A B e0 i z.flds.length (some .norm) u q')) := by
    unfold d51q0
    cases u with
    | none =>
      (simp only [e51, hun, hu, wiV, wz, opX, intBin, ↓reduceIte, simprocAttr] <;> repeat' (first | refine wpG_s ?_ ?_ | refine wpC_s ?_ ?_) <;> intro hgo <;> (try simp only [dq] at hgo) <;> simp only [hgo, e51, hun, hu, wiV, wz, opX, intBin, ↓reduceIte, simprocAttr])
      exact ⟨_, q, Nat.le_refl _, rfl, rfl, rfl⟩
    | some w =>
      have hwl := hul w rfl
      have hE : D.agg [.int .i64 1, .int .i64 (i : Int), .int .i64 0, .lst ((w.take z.flds.length).map ePt)] = ePt (.mk 1 (i : Int) 0 (w.take z.flds.length)) := (ePt_mk ..).symm
      have hsl := slcPt (w := w) (n := z.flds.length) (by omega)
      have hsd := slcPd (w := w) (n := z.flds.length) (by omega)
      have hcl : ∀ h, callW tab 78 [.d (.lst ((w.take z.flds.length).map ePt))] h = _ := fun h => cloneP_ok (w.take z.flds.length) (by rw [List.length_take]; omega) h
      have happ := fun h => app_one (.mk 1 (i : Int) 0 (w.take z.flds.length)) (w.drop z.flds.length) (some false) h (by rw [List.length_drop]; omega)
      have hst2 := fun q => WU_s2 o H A B e0 (.tl [] (some true)) false (some .norm) q (.d (ePs (wfS i z.flds.length w))) rfl rfl
      have hst3 := fun q => WU_s3 o H A B e0 (.d (ePs (wfS i z.flds.length w))) false (some .norm) q true
      have hP : ePs (wfS i z.flds.length w) = .lst (ePt (.mk 1 (i : Int) 0 (w.take z.flds.length)) :: (w.drop z.flds.length).map ePt) := rfl
      rw [hP] at hst2 hst3
      (simp only [e51, hw, iaI0, hia, hun, hu, wiV, iaD hy, iaC hz, hsl, hsd, hcl, clo_frz, hE, ePt_cells, happ, WU_mk, WU_next, hst2, hst3, wz, opX, intBin, ↓reduceIte, simprocAttr] <;> repeat' (first | refine wpG_s ?_ ?_ | refine wpC_s ?_ ?_) <;> intro hgo <;> (try simp only [dq] at hgo) <;> simp only [hgo, e51, hw, iaI0, hia, hun, hu, wiV, iaD hy, iaC hz, hsl, hsd, hcl, clo_frz, hE, ePt_cells, happ, WU_mk, WU_next, hst2, hst3, wz, opX, intBin, ↓reduceIte, simprocAttr])
      refine ⟨_, _, ?_, rfl, rfl, rfl⟩
      split <;> split <;> omega
  obtain ⟨r, hr, e', q', hq, rfl⟩ := hbody
  have := cW_yld (T := tab) (n := H + 9) (b := 816) (e := e0) (vs := [.d (eI (i : Int)), .d (eRs m)]) (h := WU o H A B e0 (.tl [] (some true)) false none q) (fn := f1000816) (asg := a51q0) (bdy := d51q0) (e1 := [(3, .fp (eDs d) 0), (4, .fp (eIs (((n : Int) + 1) :: ts)) 0), (6, .ptr (H + 2) 1 0 0), (7, .ptr (H + 3) 1 0 0), (10, .d (eI (i : Int))), (11, .d (eRs m))]) (h1 := WU o H A B e0 (.tl [] (some true)) false none q) (b' := 816) (e' := e0)
    (WU_get ..) rfl rfl rfl (by unfold a51q0; apply wq_ex.1; (simp only [e51, binds, f1000816, wz, opX, intBin, ↓reduceIte, simprocAttr] <;> repeat' (first | refine wpG_s ?_ ?_ | refine wpC_s ?_ ?_) <;> intro hgo <;> (try simp only [dq] at hgo) <;> simp only [hgo, e51, binds, f1000816, wz, opX, intBin, ↓reduceIte, simprocAttr]); rfl) (WU_get ..) (by rw [WU_set]; exact hr)
  refine ⟨q', hq, ?_⟩
  rw [this]
  unfold rndEnd
  simp only [wuN_get]
  cases u <;> simp [wuN_set, wuX, wuS] <;> rfl
/-- The range over the constructors. -/
theorem wrange_ok {d : List Dt} {n : Nat} {y : Dt} (hy : d[n]? = some y) (hd : d.length < 2 ^ 60) (hK : y.cons.length ≤ 8) (hf : ∀ z, z ∈ y.cons → z.flds.length ≤ 8) {ts : List Int} (hts : ts.length ≤ 10000)
    (l : List (List Pt)) (hl : l.length ≤ 1000) (hlr : ∀ r, r ∈ l → r ≠ [] ∧ r.length ≤ 10000 ∧ ∀ p, p ∈ r → (argsP p).length ≤ 10000) {u : Nat → Option (List Pt)}
    (hu : ∀ (i : Nat) (z : Cn), y.cons[i]? = some z → (∀ h, callW tab 51 [.d (eDs d), .d (eIs (z.flds ++ ts)), .d (eRs (spS (i : Int) z.flds.length l))] h = some (wiV (u i), h)) ∧ ∀ w, u i = some w → w.length = z.flds.length + ts.length) (o : List (Nat × Ob)) (H : Nat) (A B : List Int) :
    let cl : V := .clo 98 [.fp (eDs d) 0, .fp (eIs (((n : Int) + 1) :: ts)) 0, .fp (eRs l) 0]
    let e0 : List (Nat × V) := [(3, .fp (eDs d) 0), (4, .fp (eIs (((n : Int) + 1) :: ts)) 0), (6, .ptr (H + 2) 1 0 0), (7, .ptr (H + 3) 1 0 0), (52, cl)]
    ∃ q, callW tab 98 [.yld (H + 9), .fp (eDs d) 0, .fp (eIs (((n : Int) + 1) :: ts)) 0, .fp (eRs l) 0] (WU o H A B e0 (.tl [] (some true)) false none (H + 10)) = some (.tup [], match (List.range y.cons.length).findSome? (fun i => (u i).map (wfS i (match y.cons[i]? with | some z => z.flds.length | none => 0))) with
      | none => WU o H A B e0 (.tl [] (some true)) false none q
      | some w => WU o H A B e0 (.d (ePs w)) true (some .ret) q) := by
  intro cl e0
  have hn := (List.getElem?_eq_some_iff.1 hy).1
  have hw := wrap_sub1 (n := n) (by omega)
  have hia : ia 1 (.d (.lst (eI ((n : Int) + 1) :: ts.map eI))) (.d (.int .i64 0)) = some (.fp (eI ((n : Int) + 1)) 0) := iaI0 _ _
  obtain ⟨e, q', hq, hloop⟩ := loop_fs (a := f98l0) (K := y.cons.length) (p := fun i => (u i).map (wfS i (match y.cons[i]? with | some z => z.flds.length | none => 0))) (f := fun i => [(0, .yld (H + 9)), (3, .fp (eRs l) 0), (14, .d (.lst (y.cons.map eC))), (15, .d (.int .i64 (y.cons.length : Int))), (16, .d (.int .i64 (i : Int)))]) (O := (WU o H A B e0 (.tl [] (some true)) false none 0).objs) (O2 := fun w => (WU o H A B e0 (.d (ePs w)) true (some .ret) 0).objs) (x1 := .ret) (x2 := .exit 0) (e2 := [(0, .yld (H + 9)), (3, .fp (eRs l) 0), (14, .d (.lst (y.cons.map eC))), (15, .d (.int .i64 (y.cons.length : Int))), (16, .d (.int .i64 (y.cons.length : Int))), (17, .d (.bool false))]) (q0 := H + 10)
    (by
      intro q i hi hp
      obtain ⟨z, hz⟩ := get_of_lt (l := y.cons) (n := i) hi
      have hzf := hf z (List.mem_of_getElem? hz)
      have hu0 : u i = none := by simpa using hp
      obtain ⟨q', hqq, hround⟩ : ∃ q', q + 1 ≤ q' ∧ cW tab (.yld (H + 9)) [.d (eI (i : Int)), .d (eRs (spS (i : Int) z.flds.length l))] (WU o H A B e0 (.tl [] (some true)) false none (q + 1)) = some (.d (.bool (u i).isNone), wuN o H A B e0 i z.flds.length (wuS (u i)) (u i) q') := wround_ok hy hz hd hzf hts (hu i z hz).1 (hu i z hz).2 o H A B cl (q + 1)
      have hsp := fun h => special_ok (i : Int) z.flds.length (by omega) l hl hlr h
      rw [hu0] at hround
      simp only [Option.isNone_none, wuS, wuN] at hround
      (simp only [hi, e98, iaC hz, hsp, hround, WU_mk, WU_next, wrap_succ (show i < 2 ^ 62 by omega), wz, opX, intBin, ↓reduceIte, simprocAttr] <;> repeat' (first | refine wpG_s ?_ ?_ | refine wpC_s ?_ ?_) <;> intro hgo <;> (try simp only [dq] at hgo) <;> simp only [hgo, hi, e98, iaC hz, hsp, hround, WU_mk, WU_next, wrap_succ (show i < 2 ^ 62 by omega), wz, opX, intBin, ↓reduceIte, simprocAttr])
      exact ⟨_, rfl, by omega⟩)
    (by
      intro q i w hi hp
      obtain ⟨z, hz⟩ := get_of_lt (l := y.cons) (n := i) hi
      have hzf := hf z (List.mem_of_getElem? hz)
      simp only [Option.map_eq_some_iff, hz] at hp
      obtain ⟨w', hu0, rfl⟩ := hp
      obtain ⟨q', hqq, hround⟩ : ∃ q', q + 1 ≤ q' ∧ cW tab (.yld (H + 9)) [.d (eI (i : Int)), .d (eRs (spS (i : Int) z.flds.length l))] (WU o H A B e0 (.tl [] (some true)) false none (q + 1)) = some (.d (.bool (u i).isNone), wuN o H A B e0 i z.flds.length (wuS (u i)) (u i) q') := wround_ok hy hz hd hzf hts (hu i z hz).1 (hu i z hz).2 o H A B cl (q + 1)
      have hsp := fun h => special_ok (i : Int) z.flds.length (by omega) l hl hlr h
      rw [hu0] at hround
      simp only [Option.isNone_some, wuS, wuN] at hround
      (simp only [hi, e98, iaC hz, hsp, hround, WU_mk, WU_next, wrap_succ (show i < 2 ^ 62 by omega), wz, opX, intBin, ↓reduceIte, simprocAttr] <;> repeat' (first | refine wpG_s ?_ ?_ | refine wpC_s ?_ ?_) <;> intro hgo <;> (try simp only [dq] at hgo) <;> simp only [hgo, hi, e98, iaC hz, hsp, hround, WU_mk, WU_next, wrap_succ (show i < 2 ^ 62 by omega), wz, opX, intBin, ↓reduceIte, simprocAttr])
      exact ⟨_, _, ⟨rfl, rfl⟩, by omega⟩)
    (by
      intro q
      (simp only [e98, WU_mk, wz, opX, intBin, ↓reduceIte, simprocAttr] <;> repeat' (first | refine wpG_s ?_ ?_ | refine wpC_s ?_ ?_) <;> intro hgo <;> (try simp only [dq] at hgo) <;> simp only [hgo, e98, WU_mk, wz, opX, intBin, ↓reduceIte, simprocAttr])
      exact ⟨_, rfl, by omega⟩)
    (by simp) (by simp)
  refine ⟨q', call_wp (fn := f98) rfl rfl ?_⟩
  simp only [WU_mk, Int.cast_ofNat_Int] at hloop
  cases hany : (List.range y.cons.length).findSome? (fun i => (u i).map (wfS i (match y.cons[i]? with | some z => z.flds.length | none => 0))) with
  | none =>
    rw [hany] at hloop
    (simp only [e98, hw, iaI0, hia, iaD hy, WU_mk, wq_of hloop, wz, opX, intBin, ↓reduceIte, simprocAttr] <;> repeat' (first | refine wpG_s ?_ ?_ | refine wpC_s ?_ ?_) <;> intro hgo <;> (try simp only [dq] at hgo) <;> simp only [hgo, e98, hw, iaI0, hia, iaD hy, WU_mk, wq_of hloop, wz, opX, intBin, ↓reduceIte, simprocAttr])
  | some w =>
    rw [hany] at hloop
    (simp only [e98, hw, iaI0, hia, iaD hy, WU_mk, wq_of hloop, wz, opX, intBin, ↓reduceIte, simprocAttr] <;> repeat' (first | refine wpG_s ?_ ?_ | refine wpC_s ?_ ?_) <;> intro hgo <;> (try simp only [dq] at hgo) <;> simp only [hgo, e98, hw, iaI0, hia, iaD hy, WU_mk, wq_of hloop, wz, opX, intBin, ↓reduceIte, simprocAttr])
end Zc27
end
section
set_option linter.unusedSimpArgs false
set_option linter.unusedVariables false
set_option linter.unusedSimpArgs false
set_option maxHeartbeats 4000000
namespace Zc27
open Go Zv Zs

section
variable (o : List (Nat × Ob)) (H : Nat) (A B : List Int)
/-- With the head that is made. -/
def WH (p v : V) (b : Bool) (q : Nat) : Hp := ⟨(H + 6, .arr 4 [p]) :: (H + 5, .mp (kvB B)) :: (H + 4, .mp (kvB A)) :: (H + 3, .arr 1 [.d (.bool b)]) :: (H + 2, .arr 1 [v]) :: o, q⟩
theorem WH_of (p v b q q') : (⟨(H + 6, .arr 4 [p]) :: (WV o H A B v b q).objs, q'⟩ : Hp) = WH o H A B p v b q' := rfl
theorem WH_mk (p v b q q') : (⟨(WH o H A B p v b q).objs, q'⟩ : Hp) = WH o H A B p v b q' := rfl
theorem WH_next (p v b q) : (WH o H A B p v b q).next = q := rfl
theorem WH_r2 (p v b q) : (WH o H A B p v b q).row (H + 2) 1 = some (1, [v]) := by unfold WH Hp.row Hp.get; simp [Zv.look]
theorem WH_r3 (p v b q) : (WH o H A B p v b q).row (H + 3) 1 = some (1, [.d (.bool b)]) := by unfold WH Hp.row Hp.get; simp [Zv.look]
theorem WH_r6 (p v b q) : (WH o H A B p v b q).row (H + 6) 1 = some (4, [p]) := by unfold WH Hp.row Hp.get; simp [Zv.look]
theorem WH_s2 (p v b q) (x : V) (hs : stor x = true) (hc : x.cells.length = 1) : st 1 (WH o H A B p v b q) (.ptr (H + 2) 1 0 0) x = some (WH o H A B p x b q) := by
  unfold st; simp only [WH_r2, Option.bind_some, hs, hc]; simp [WH, Hp.set, upd]
theorem WH_s3 (p v b q) (c : Bool) : st 1 (WH o H A B p v b q) (.ptr (H + 3) 1 0 0) (.d (.bool c)) = some (WH o H A B p v c q) := by
  unfold st; simp only [WH_r3, Option.bind_some]; simp [WH, Hp.set, upd, V.cells, stor, D.cells]
theorem WH_s6 (p v b q) (x : V) (hs : stor x = true) (hc : x.cells.length = 4) : st 4 (WH o H A B p v b q) (.ptr (H + 6) 1 0 0) x = some (WH o H A B x v b q) := by
  unfold st; simp only [WH_r6, Option.bind_some, hs, hc]; simp [WH, Hp.set, upd]
theorem WH_l6 (l : List V) (v b q) : ld true 4 (WH o H A B (.agg l) v b q) (.ptr (H + 6) 1 0 0) = some (.agg l) := by unfold ld; simp [WH_r6]
theorem WH_kill (p v b q) : (WH o H A B p v b q).kill (H + 6) = WV o H A B v b q := by unfold WH WV Hp.kill; simp [del]
theorem WH_lenA (p v b q) : lenM (WH o H A B p v b q) (.map (H + 4)) = some (.d (.int .i64 (A.length : Int))) := by
  unfold lenM entries WH Hp.get; simp [Zv.look, kvB, int]
theorem WH_lenB (p v b q) : lenM (WH o H A B p v b q) (.map (H + 5)) = some (.d (.int .i64 (B.length : Int))) := by
  unfold lenM entries WH Hp.get; simp [Zv.look, kvB, int]
theorem WH_lkA (p v b q) (c : Int) : lk .i (.d (.bool false)) false (WH o H A B p v b q) (.map (H + 4)) (.d (.int .i64 c)) = some (.d (.bool (decide (c ∈ A)))) := by
  have hg : entries (WH o H A B p v b q) (.map (H + 4)) = some (kvB A) := by unfold entries WH Hp.get; simp [Zv.look]
  unfold lk
  simp only [hg, Option.bind_some]
  have := findK_B c A
  simp only [this, Option.map_some]
  by_cases hc : c ∈ A <;> simp [hc]
theorem WH_lkB (p v b q) (c : Int) : lk .i (.d (.bool false)) false (WH o H A B p v b q) (.map (H + 5)) (.d (.int .i64 c)) = some (.d (.bool (decide (c ∈ B)))) := by
  have hg : entries (WH o H A B p v b q) (.map (H + 5)) = some (kvB B) := by unfold entries WH Hp.get; simp [Zv.look]
  unfold lk
  simp only [hg, Option.bind_some]
  have := findK_B c B
  simp only [this, Option.map_some]
  by_cases hc : c ∈ B <;> simp [hc]
theorem loopA_ok (a3 a4 a15 p v : V) (b : Bool) (q : Nat) (hA : A.length ≤ 1000) :
    ex tab (.loop f51l0) [(3, a3), (4, a4), (6, .ptr (H + 2) 1 0 0), (7, .ptr (H + 3) 1 0 0), (8, .map (H + 4)), (15, a15), (17, .ptr (H + 6) 1 0 0), (18, .d (.int .i64 0))] (WH o H A B p v b q) =
      some (.exit 3, [(3, a3), (4, a4), (6, .ptr (H + 2) 1 0 0), (7, .ptr (H + 3) 1 0 0), (8, .map (H + 4)), (15, a15), (17, .ptr (H + 6) 1 0 0), (18, .d (.int .i64 (missN A : Nat))), (108, .d (.bool false))], WH o H A B p v b q) := by
  obtain ⟨m1, m2, m3⟩ := missN_spec A
  have := loop_from tab f51l0 (fun n => [(3, a3), (4, a4), (6, .ptr (H + 2) 1 0 0), (7, .ptr (H + 3) 1 0 0), (8, .map (H + 4)), (15, a15), (17, .ptr (H + 6) 1 0 0), (18, .d (.int .i64 (n : Int)))]) (fun _ => WH o H A B p v b q) (missN A) (.exit 3, [(3, a3), (4, a4), (6, .ptr (H + 2) 1 0 0), (7, .ptr (H + 3) 1 0 0), (8, .map (H + 4)), (15, a15), (17, .ptr (H + 6) 1 0 0), (18, .d (.int .i64 (missN A : Nat))), (108, .d (.bool false))], WH o H A B p v b q)
    (by
      intro n hn
      have := m2 n hn
      apply wq_ex.1
      (simp only [e51, WH_lkA, this, wrap_succ (show n < 2 ^ 62 by omega), wz, opX, intBin, ↓reduceIte, simprocAttr] <;> repeat' (first | refine wpG_s ?_ ?_ | refine wpC_s ?_ ?_) <;> intro hgo <;> (try simp only [dq] at hgo) <;> simp only [hgo, e51, WH_lkA, this, wrap_succ (show n < 2 ^ 62 by omega), wz, opX, intBin, ↓reduceIte, simprocAttr]))
    (by
      apply wq_ex.1
      (simp only [e51, WH_lkA, m1, wz, opX, intBin, ↓reduceIte, simprocAttr] <;> repeat' (first | refine wpG_s ?_ ?_ | refine wpC_s ?_ ?_) <;> intro hgo <;> (try simp only [dq] at hgo) <;> simp only [hgo, e51, WH_lkA, m1, wz, opX, intBin, ↓reduceIte, simprocAttr]))
    (by simp) (missN A) 0 (by omega)
  simpa using this
theorem loopB_ok (a15 p v : V) (b : Bool) (q : Nat) (hB : B.length ≤ 1000) :
    ex tab (.loop f51l1) [(6, .ptr (H + 2) 1 0 0), (7, .ptr (H + 3) 1 0 0), (9, .map (H + 5)), (15, a15), (17, .ptr (H + 6) 1 0 0), (19, .d (.int .i64 0))] (WH o H A B p v b q) =
      some (.exit 5, [(6, .ptr (H + 2) 1 0 0), (7, .ptr (H + 3) 1 0 0), (9, .map (H + 5)), (15, a15), (17, .ptr (H + 6) 1 0 0), (19, .d (.int .i64 (missN B : Nat))), (133, .d (.bool false))], WH o H A B p v b q) := by
  obtain ⟨m1, m2, m3⟩ := missN_spec B
  have := loop_from tab f51l1 (fun n => [(6, .ptr (H + 2) 1 0 0), (7, .ptr (H + 3) 1 0 0), (9, .map (H + 5)), (15, a15), (17, .ptr (H + 6) 1 0 0), (19, .d (.int .i64 (n : Int)))]) (fun _ => WH o H A B p v b q) (missN B) (.exit 5, [(6, .ptr (H + 2) 1 0 0), (7, .ptr (H + 3) 1 0 0), (9, .map (H + 5)), (15, a15), (17, .ptr (H + 6) 1 0 0), (19, .d (.int .i64 (missN B : Nat))), (133, .d (.bool false))], WH o H A B p v b q)
    (by
      intro n hn
      have := m2 n hn
      apply wq_ex.1
      (simp only [e51, WH_lkB, this, wrap_succ (show n < 2 ^ 62 by omega), wz, opX, intBin, ↓reduceIte, simprocAttr] <;> repeat' (first | refine wpG_s ?_ ?_ | refine wpC_s ?_ ?_) <;> intro hgo <;> (try simp only [dq] at hgo) <;> simp only [hgo, e51, WH_lkB, this, wrap_succ (show n < 2 ^ 62 by omega), wz, opX, intBin, ↓reduceIte, simprocAttr]))
    (by
      apply wq_ex.1
      (simp only [e51, WH_lkB, m1, wz, opX, intBin, ↓reduceIte, simprocAttr] <;> repeat' (first | refine wpG_s ?_ ?_ | refine wpC_s ?_ ?_) <;> intro hgo <;> (try simp only [dq] at hgo) <;> simp only [hgo, e51, WH_lkB, m1, wz, opX, intBin, ↓reduceIte, simprocAttr]))
    (by simp) (missN B) 0 (by omega)
  simpa using this
end
theorem norm_pV (k c m : Int) (l : List Pt) (nl : Option Bool) : norm (.agg [.d (.int .i64 k), .d (.int .i64 c), .d (.int .i64 m), .tl ((l.map ePt).map .d) nl]) = .d (ePt (.mk k c m l)) := by
  unfold norm
  simp only [toD, toDs, toDs_map, Option.map_some]
  rw [ePt_mk]
theorem norm_pV0 (k c m : Int) (nl : Option Bool) : norm (.agg [.d (.int .i64 k), .d (.int .i64 c), .d (.int .i64 m), .tl [] nl]) = .d (ePt (.mk k c m [])) := norm_pV k c m [] nl
theorem consS_len0 {d : List Dt} {ts : List Int} {l : List (List Pt)} (h : fitM d (0 :: ts) l) : (consS l).length = 0 := by
  have := consS_le h
  rw [consOf_lo (by omega)] at this
  simpa using this
theorem foldn_le : ∀ (l : List (List Pt)) (B : List Int), (l.foldl nG B).length ≤ B.length + l.length
  | [], B => by simp
  | r :: l, B => by
    rw [List.foldl_cons]
    have h1 := foldn_le l (nG B r)
    have h2 : (nG B r).length ≤ B.length + 1 := by
      cases r with
      | nil => simp [nG]
      | cons p s =>
        unfold nG
        simp only
        split
        · unfold addI; split <;> simp
        · omega
    rw [List.length_cons]; omega
theorem numsS_le (l : List (List Pt)) : (numsS l).length ≤ l.length := by
  have := foldn_le l []
  simpa [numsS] using this
theorem foldcl_le : ∀ (l : List (List Pt)) (A : List Int), (l.foldl cG A).length ≤ A.length + l.length
  | [], A => by simp
  | r :: l, A => by
    rw [List.foldl_cons]
    have h1 := foldcl_le l (cG A r)
    have h2 : (cG A r).length ≤ A.length + 1 := by
      cases r with
      | nil => simp [cG]
      | cons p s =>
        unfold cG
        simp only
        split
        · unfold addI; split <;> simp
        · omega
    rw [List.length_cons]; omega
theorem consS_le' (l : List (List Pt)) : (consS l).length ≤ l.length := by
  have := foldcl_le l []
  simpa [consS] using this
end Zc27
end
section
set_option linter.unusedSimpArgs false
set_option linter.unusedVariables false
set_option linter.unusedSimpArgs false
set_option maxHeartbeats 4000000
namespace Zc27
open Go Zv Zs

theorem mk_pat' (a b c : D) (l : List V) (nl : Option Bool) : mkAgg [.d a, .d b, .d c, .tl l nl] = .agg [.d a, .d b, .d c, .tl l nl] := rfl
theorem miss_lt {d : List Dt} {t : Int} {ts : List Int} {l : List (List Pt)} (h : fitM d (t :: ts) l) (hlt : (consS l).length < (consOf d t).length) : missN (consS l) < (consOf d t).length := by
  have := (missN_spec (consS l)).2.2
  omega
theorem witness_ok {d : List Dt} (S : Sml d) (T : typedS d = true) : ∀ (k : Nat) (ts : List Int) (rows : List (List Pt)), 9 * nwS rows + ts.length < k → 9 * nwS rows + ts.length ≤ 8000 → rows.length ≤ 1000 →
    (∀ t, t ∈ ts → isT d t = true) → fitM d ts rows → ∀ h, callW tab 51 [.d (eDs d), .d (eIs ts), .d (eRs rows)] h = some (wiV (wiS d k ts rows), h)
  | 0, _, _, h, _, _, _, _, _ => by omega
  | k + 1, [], rows, _, _, hl, _, _, h => by
    refine call_wp (fn := f51) rfl rfl ?_
    show wp tab (.seq f51r0 _) _ _ _
    rw [wq_seq, wq_of (wit_r0 (eDs d) (eIs []) (eRs rows) rfl rfl h)]
    have e0 : ((rows.length : Int) == 0) = decide (rows.length = 0) := by simp [ibeq]
    simp only [wiS]
    have hs2 := fun b q => W0_s2 h.objs h.next (.tl [] (some true)) b q (.tl [] (some true)) rfl rfl
    by_cases h0 : rows.length = 0
    · (simp only [e51, ibeq, e0, h0, hs2, W0_s3, W0_r2, W0_r3, W0_fin, wiV, wz, opX, intBin, ↓reduceIte, simprocAttr] <;> repeat' (first | refine wpG_s ?_ ?_ | refine wpC_s ?_ ?_) <;> intro hgo <;> (try simp only [dq] at hgo) <;> simp only [hgo, e51, ibeq, e0, h0, hs2, W0_s3, W0_r2, W0_r3, W0_fin, wiV, wz, opX, intBin, ↓reduceIte, simprocAttr])
      rfl
    · (simp only [e51, ibeq, e0, h0, hs2, W0_s3, W0_r2, W0_r3, W0_fin, wiV, wz, opX, intBin, ↓reduceIte, simprocAttr] <;> repeat' (first | refine wpG_s ?_ ?_ | refine wpC_s ?_ ?_) <;> intro hgo <;> (try simp only [dq] at hgo) <;> simp only [hgo, e51, ibeq, e0, h0, hs2, W0_s3, W0_r2, W0_r3, W0_fin, wiV, wz, opX, intBin, ↓reduceIte, simprocAttr])
  | k + 1, t :: ts, rows, hW, hB, hl, hT, hM, h => by
    have hts : ts.length ≤ 8000 := by rw [List.length_cons] at hB; omega
    have hrows := fitM_rows S (by omega) hM
    have hTt : ∀ f, f ∈ ts → isT d f = true := fun f hf => hT f (List.mem_cons_of_mem _ hf)
    rw [List.length_cons] at hW hB
    refine call_wp (fn := f51) rfl rfl ?_
    show wp tab (.seq f51r0 _) _ _ _
    rw [wq_seq, wq_of (wit_r0 (eDs d) (eIs (t :: ts)) (eRs rows) rfl rfl h)]
    have hne : (((ts.length + 1 : Nat) : Int) == 0) = false := by rw [ibeq]; exact decide_eq_false (by omega)
    have hh : callW tab 82 [.d (eRs rows)] (W0 h.objs h.next (.tl [] (some true)) false (h.next + 4)) = some (.tup [.map (h.next + 4), .map (h.next + 5)], WV h.objs h.next (consS rows) (numsS rows) (.tl [] (some true)) false (h.next + 6)) := heads_ok rows hl (fun r hr => (hrows r hr).1) _
    by_cases hc : t = 0 ∨ (consS rows).length < (consOf d t).length
    · have hrest := fun h => rests_ok (.clo 81 []) wildP rfl rows hl (fun r hr => (hrows r hr).1) (fun p _ _ h => by rw [cW_clo]; exact wild_ok p h) h
      have hnw := restS_nw wildP rows
      have hlen := fm_len (restF wildP) rows
      have hIH := witness_ok S T k ts (restS wildP rows) (by omega) (by omega) (Nat.le_trans hlen hl) hTt (restS_fit _ hM)
      have e : wiS d (k + 1) (t :: ts) rows = (wiS d k ts (restS wildP rows)).map (missS d t rows :: ·) := by
        simp only [wiS, if_pos hc]
      rw [e]
      have hwl := wiS_len d k ts (restS wildP rows)
      generalize wiS d k ts (restS wildP rows) = u at hIH hwl
      -- the test whether the column is complete
      have htest : ∀ Q : Out → Prop, wp tab f51r4 [(2, .d (eRs rows)), (3, .fp (eDs d) 0), (4, .fp (eIs (t :: ts)) 0), (6, .ptr (h.next + 2) 1 0 0), (7, .ptr (h.next + 3) 1 0 0), (8, .map (h.next + 4)), (9, .map (h.next + 5))] (WV h.objs h.next (consS rows) (numsS rows) (.tl [] (some true)) false (h.next + 6)) Q =
          Q (.norm, [(2, .d (eRs rows)), (3, .fp (eDs d) 0), (4, .fp (eIs (t :: ts)) 0), (6, .ptr (h.next + 2) 1 0 0), (7, .ptr (h.next + 3) 1 0 0), (8, .map (h.next + 4)), (9, .map (h.next + 5)), (48, .d (.bool false))], WV h.objs h.next (consS rows) (numsS rows) (.tl [] (some true)) false (h.next + 6)) := by
        intro Q
        refine wq_of ?_ Q
        apply wq_ex.1
        by_cases ht : t = 0
        · (simp only [e51, ht, iaI0, iaI0', ibne, wz, opX, intBin, ↓reduceIte, simprocAttr] <;> repeat' (first | refine wpG_s ?_ ?_ | refine wpC_s ?_ ?_) <;> intro hgo <;> (try simp only [dq] at hgo) <;> simp only [hgo, e51, ht, iaI0, iaI0', ibne, wz, opX, intBin, ↓reduceIte, simprocAttr])
        · rcases tcase d t with h0 | h0 | ⟨n, y, rfl, hy⟩
          · exfalso; have := hT t List.mem_cons_self; simp only [isT, Bool.and_eq_true, decide_eq_true_eq] at this; omega
          · exfalso; have := hT t List.mem_cons_self; simp only [isT, Bool.and_eq_true, decide_eq_true_eq] at this; omega
          have hn := (List.getElem?_eq_some_iff.1 hy).1
          have hsl := S.len
          have hw := wrap_sub1 (n := n) (by omega)
          rw [consOf_at hy] at hc
          have hlt := hc.resolve_left ht
          have hcl : (((consS rows).length : Int) == (y.cons.length : Int)) = false := by rw [ibeq]; exact decide_eq_false (by omega)
          (simp only [e51, ht, hw, iaI0, iaI0', iaD hy, ibne, WV_lenA, hcl, wz, opX, intBin, ↓reduceIte, simprocAttr] <;> repeat' (first | refine wpG_s ?_ ?_ | refine wpC_s ?_ ?_) <;> intro hgo <;> (try simp only [dq] at hgo) <;> simp only [hgo, e51, ht, hw, iaI0, iaI0', iaD hy, ibne, WV_lenA, hcl, wz, opX, intBin, ↓reduceIte, simprocAttr])
      cases u with
      | none =>
        have hs2 := fun b q => WV_s2 h.objs h.next (consS rows) (numsS rows) (.tl [] (some true)) b q (.tl [] (some true)) rfl rfl
        (simp only [e51, hne, hh, WV_of, WV_mk, WV_next, htest, slcT, slcT', hrest, hIH, wiV, hs2, WV_s3, WV_r2, WV_r3, WV_fin0, Option.map_none, wz, opX, intBin, ↓reduceIte, simprocAttr] <;> repeat' (first | refine wpG_s ?_ ?_ | refine wpC_s ?_ ?_) <;> intro hgo <;> (try simp only [dq] at hgo) <;> simp only [hgo, e51, hne, hh, WV_of, WV_mk, WV_next, htest, slcT, slcT', hrest, hIH, wiV, hs2, WV_s3, WV_r2, WV_r3, WV_fin0, Option.map_none, wz, opX, intBin, ↓reduceIte, simprocAttr])
      | some w =>
        have hwl' := hwl w rfl
        have hs2 := fun p b q => WH_s2 h.objs h.next (consS rows) (numsS rows) p (.tl [] (some true)) b q
        have htail : ∀ (kk c m : Int) (l : List Pt) (nl : Option Bool) (q : Nat), ex tab f51r27 [(6, .ptr (h.next + 2) 1 0 0), (7, .ptr (h.next + 3) 1 0 0), (15, .d (ePs w)), (17, .ptr (h.next + 6) 1 0 0)] (WH h.objs h.next (consS rows) (numsS rows) (.agg [.d (.int .i64 kk), .d (.int .i64 c), .d (.int .i64 m), .tl ((l.map ePt).map .d) nl]) (.tl [] (some true)) false q) =
            some (.norm, [(6, .ptr (h.next + 2) 1 0 0), (7, .ptr (h.next + 3) 1 0 0)], WV h.objs h.next (consS rows) (numsS rows) (.d (.lst (ePt (.mk kk c m l) :: w.map ePt))) true (if w = [] then q else q + 1)) := by
          intro kk c m l nl q
          have happ := fun h => app_one (.mk kk c m l) w (some false) h (by omega)
          have hs2' := fun p b q => hs2 p b q (.d (.lst (ePt (.mk kk c m l) :: w.map ePt))) rfl rfl
          apply wq_ex.1
          (simp only [e51, WH_l6, norm_pV, happ, WH_mk, WH_next, hs2', WH_s3, WH_kill, wz, opX, intBin, ↓reduceIte, simprocAttr] <;> repeat' (first | refine wpG_s ?_ ?_ | refine wpC_s ?_ ?_) <;> intro hgo <;> (try simp only [dq] at hgo) <;> simp only [hgo, e51, WH_l6, norm_pV, happ, WH_mk, WH_next, hs2', WH_s3, WH_kill, wz, opX, intBin, ↓reduceIte, simprocAttr])
        have htail0 : ∀ (kk c m : Int) (nl : Option Bool) (q : Nat), ex tab f51r27 [(6, .ptr (h.next + 2) 1 0 0), (7, .ptr (h.next + 3) 1 0 0), (15, .d (ePs w)), (17, .ptr (h.next + 6) 1 0 0)] (WH h.objs h.next (consS rows) (numsS rows) (.agg [.d (.int .i64 kk), .d (.int .i64 c), .d (.int .i64 m), .tl [] nl]) (.tl [] (some true)) false q) =
            some (.norm, [(6, .ptr (h.next + 2) 1 0 0), (7, .ptr (h.next + 3) 1 0 0)], WV h.objs h.next (consS rows) (numsS rows) (.d (.lst (ePt (.mk kk c m []) :: w.map ePt))) true (if w = [] then q else q + 1)) := fun kk c m nl q => htail kk c m [] nl q
        rw [Option.map_some]
        by_cases hA : 0 < (consS rows).length
        · have hA' : ((0 : Int) < ((consS rows).length : Int)) := by omega
          have ht : t ≠ 0 := by
            rintro rfl
            have := consS_len0 hM
            omega
          rcases tcase d t with h0 | h0 | ⟨n, y, rfl, hy⟩
          · exfalso; have := hT t List.mem_cons_self; simp only [isT, Bool.and_eq_true, decide_eq_true_eq] at this; omega
          · exfalso; have := hT t List.mem_cons_self; simp only [isT, Bool.and_eq_true, decide_eq_true_eq] at this; omega
          have hn := (List.getElem?_eq_some_iff.1 hy).1
          have hsl := S.len
          have hw := wrap_sub1 (n := n) (by omega)
          have hml := miss_lt hM (hc.resolve_left ht)
          rw [consOf_at hy] at hml
          obtain ⟨z, hz⟩ := get_of_lt (l := y.cons) hml
          have hz8 := (cons_sm S ((n : Int) + 1)).2 z (by rw [consOf_at hy]; exact List.mem_of_getElem? hz)
          have hmk := mkslP (n := z.flds.length) (by omega)
          have hms : missS d ((n : Int) + 1) rows = .mk 1 ((missN (consS rows) : Nat) : Int) 0 (List.replicate z.flds.length wildT) := by
            unfold missS
            rw [if_pos hA, fldsOf_at hy hz]
          have hcl := consS_le' rows
          have hlp := fun a3 a4 a15 p v b q => loopA_ok h.objs h.next (consS rows) (numsS rows) a3 a4 a15 p v b q (by omega)
          rw [hms]
          (simp only [e51, hne, hh, WV_of, WV_mk, WV_next, htest, slcT, slcT', hrest, hIH, wiV, WH_of, WH_lenA, hA', wq_of (hlp _ _ _ _ _ _ _), hw, iaI0, iaI0', iaD hy, iaC hz, hmk, mk_pat', WH_s6, wq_of (htail _ _ _ _ _ _), WV_r2, WV_r3, WV_fin, wz, opX, intBin, ↓reduceIte, simprocAttr] <;> repeat' (first | refine wpG_s ?_ ?_ | refine wpC_s ?_ ?_) <;> intro hgo <;> (try simp only [dq] at hgo) <;> simp only [hgo, e51, hne, hh, WV_of, WV_mk, WV_next, htest, slcT, slcT', hrest, hIH, wiV, WH_of, WH_lenA, hA', wq_of (hlp _ _ _ _ _ _ _), hw, iaI0, iaI0', iaD hy, iaC hz, hmk, mk_pat', WH_s6, wq_of (htail _ _ _ _ _ _), WV_r2, WV_r3, WV_fin, wz, opX, intBin, ↓reduceIte, simprocAttr])
          rfl
        · have hA' : ¬ ((0 : Int) < ((consS rows).length : Int)) := by omega
          by_cases hN : 0 < (numsS rows).length
          · have hN' : ((0 : Int) < ((numsS rows).length : Int)) := by omega
            have hms : missS d t rows = .mk 2 0 ((missN (numsS rows) : Nat) : Int) [] := by
              unfold missS
              rw [if_neg hA, if_pos hN]
            have hcl := numsS_le rows
            have hlp := fun a15 p v b q => loopB_ok h.objs h.next (consS rows) (numsS rows) a15 p v b q (by omega)
            rw [hms]
            (simp only [e51, hne, hh, WV_of, WV_mk, WV_next, htest, slcT, slcT', hrest, hIH, wiV, WH_of, WH_lenA, WH_lenB, hA', hN', wq_of (hlp _ _ _ _ _), mk_pat', WH_s6, wq_of (htail0 _ _ _ _ _), WV_r2, WV_r3, WV_fin, wz, opX, intBin, ↓reduceIte, simprocAttr] <;> repeat' (first | refine wpG_s ?_ ?_ | refine wpC_s ?_ ?_) <;> intro hgo <;> (try simp only [dq] at hgo) <;> simp only [hgo, e51, hne, hh, WV_of, WV_mk, WV_next, htest, slcT, slcT', hrest, hIH, wiV, WH_of, WH_lenA, WH_lenB, hA', hN', wq_of (hlp _ _ _ _ _), mk_pat', WH_s6, wq_of (htail0 _ _ _ _ _), WV_r2, WV_r3, WV_fin, wz, opX, intBin, ↓reduceIte, simprocAttr])
            rfl
          · have hN' : ¬ ((0 : Int) < ((numsS rows).length : Int)) := by omega
            have hms : missS d t rows = .mk 0 0 0 [] := by
              unfold missS
              rw [if_neg hA, if_neg hN]; rfl
            rw [hms]
            (simp only [e51, hne, hh, WV_of, WV_mk, WV_next, htest, slcT, slcT', hrest, hIH, wiV, WH_of, WH_lenA, WH_lenB, hA', hN', mk_pat', WH_s6, WH_l6, norm_pV0, fun h => app_one (.mk 0 0 0 []) w (some false) h (by omega), WH_mk, WH_next, fun p b q => hs2 p b q (.d (.lst (ePt (.mk 0 0 0 []) :: w.map ePt))) rfl rfl, WH_s3, WH_kill, WV_r2, WV_r3, WV_fin, wz, opX, intBin, ↓reduceIte, simprocAttr] <;> repeat' (first | refine wpG_s ?_ ?_ | refine wpC_s ?_ ?_) <;> intro hgo <;> (try simp only [dq] at hgo) <;> simp only [hgo, e51, hne, hh, WV_of, WV_mk, WV_next, htest, slcT, slcT', hrest, hIH, wiV, WH_of, WH_lenA, WH_lenB, hA', hN', mk_pat', WH_s6, WH_l6, norm_pV0, fun h => app_one (.mk 0 0 0 []) w (some false) h (by omega), WH_mk, WH_next, fun p b q => hs2 p b q (.d (.lst (ePt (.mk 0 0 0 []) :: w.map ePt))) rfl rfl, WH_s3, WH_kill, WV_r2, WV_r3, WV_fin, wz, opX, intBin, ↓reduceIte, simprocAttr])
            rfl
    · have ht : t ≠ 0 := fun e => hc (.inl e)
      have hlt : ¬ (consS rows).length < (consOf d t).length := fun e => hc (.inr e)
      rcases tcase d t with h0 | h0 | ⟨n, y, rfl, hy⟩
      · exfalso; have := hT t List.mem_cons_self; simp only [isT, Bool.and_eq_true, decide_eq_true_eq] at this; omega
      · exfalso; have := hT t List.mem_cons_self; simp only [isT, Bool.and_eq_true, decide_eq_true_eq] at this; omega
      have hn := (List.getElem?_eq_some_iff.1 hy).1
      have hsl := S.len
      have hw := wrap_sub1 (n := n) (by omega)
      have hcs := cons_sm S ((n : Int) + 1)
      have hle := consS_le hM
      rw [consOf_at hy] at hcs hlt hle
      have hcl : (((consS rows).length : Int) == (y.cons.length : Int)) = true := by rw [ibeq]; exact decide_eq_true (by omega)
      have hdown := fun i (hi : i < y.cons.length) (n' : Nat) => spS_down hM (by rw [consOf_at hy]; omega) (i := i) (by rw [consOf_at hy]; exact hi) n'
      have hu : ∀ (i : Nat) (z : Cn), y.cons[i]? = some z → (∀ h, callW tab 51 [.d (eDs d), .d (eIs (z.flds ++ ts)), .d (eRs (spS (i : Int) z.flds.length rows))] h = some (wiV (wiS d k (fldsOf d ((n : Int) + 1) i ++ ts) (spS (i : Int) (fldsOf d ((n : Int) + 1) i).length rows)), h)) ∧ ∀ w, wiS d k (fldsOf d ((n : Int) + 1) i ++ ts) (spS (i : Int) (fldsOf d ((n : Int) + 1) i).length rows) = some w → w.length = z.flds.length + ts.length := by
        intro i z hz
        have hi := (List.getElem?_eq_some_iff.1 hz).1
        have hfz := fldsOf_at hy hz
        have hzm := List.mem_of_getElem? hz
        have hz8 := hcs.2 z hzm
        have hd := hdown i hi z.flds.length
        have hM' := spS_fit i hM
        rw [hfz] at hM' ⊢
        refine ⟨witness_ok S T k (z.flds ++ ts) (spS (i : Int) z.flds.length rows) (by rw [List.length_append]; omega) (by rw [List.length_append]; omega) (Nat.le_trans (fm_len _ _) hl) (flds_isT T (by rw [consOf_at hy]; exact hzm) hTt) hM', fun w hw => ?_⟩
        rw [wiS_len d k _ _ w hw, List.length_append]
      obtain ⟨q, hq⟩ := wrange_ok hy (by omega) hcs.1 hcs.2 (ts := ts) (by omega) rows hl hrows hu h.objs h.next (consS rows) (numsS rows)
      have e : wiS d (k + 1) (((n : Int) + 1) :: ts) rows = (List.range y.cons.length).findSome? (fun i => (wiS d k (fldsOf d ((n : Int) + 1) i ++ ts) (spS (i : Int) (fldsOf d ((n : Int) + 1) i).length rows)).map (wfS i (match y.cons[i]? with | some z => z.flds.length | none => 0))) := by
        simp only [wiS]
        rw [if_neg hc, consOf_at hy]
        refine congrArg (fun f => List.findSome? f (List.range y.cons.length)) (funext fun i => ?_)
        have : (fldsOf d ((n : Int) + 1) i).length = (match y.cons[i]? with | some z => z.flds.length | none => 0) := by
          unfold fldsOf; rw [consOf_at hy]
          cases y.cons[i]? <;> rfl
        rw [this]
      rw [e]
      generalize (List.range y.cons.length).findSome? (fun i => (wiS d k (fldsOf d ((n : Int) + 1) i ++ ts) (spS (i : Int) (fldsOf d ((n : Int) + 1) i).length rows)).map (wfS i (match y.cons[i]? with | some z => z.flds.length | none => 0))) = u at hq
      have hmat : ∀ h, callW tab 83 [.d (eDs d), .d (.lst (eI ((n : Int) + 1) :: ts.map eI)), .d (eRs rows)] h = some (.clo 98 [.fp (eDs d) 0, .fp (eIs (((n : Int) + 1) :: ts)) 0, .fp (eRs rows) 0], ⟨h.objs, h.next + 3⟩) := fun h => matrices_ok _ _ _ rfl rfl rfl h
      have hrng : ex tab (.rng (.t 52) 816) [(3, .fp (eDs d) 0), (4, .fp (eIs (((n : Int) + 1) :: ts)) 0), (6, .ptr (h.next + 2) 1 0 0), (7, .ptr (h.next + 3) 1 0 0), (52, .clo 98 [.fp (eDs d) 0, .fp (eIs (((n : Int) + 1) :: ts)) 0, .fp (eRs rows) 0])] (WV h.objs h.next (consS rows) (numsS rows) (.tl [] (some true)) false (h.next + 9)) =
          some (wuX u, [(3, .fp (eDs d) 0), (4, .fp (eIs (((n : Int) + 1) :: ts)) 0), (6, .ptr (h.next + 2) 1 0 0), (7, .ptr (h.next + 3) 1 0 0), (52, .clo 98 [.fp (eDs d) 0, .fp (eIs (((n : Int) + 1) :: ts)) 0, .fp (eRs rows) 0])], match u with
            | none => WV h.objs h.next (consS rows) (numsS rows) (.tl [] (some true)) false q
            | some w => WV h.objs h.next (consS rows) (numsS rows) (.d (ePs w)) true q) := by
        refine ex_rng (f := 98) rfl hq ?_
        unfold rngEnd
        rw [WV_next]
        cases u <;> simp only [WU_get, WU_kill] <;> rfl
      cases u with
      | none =>
        have hs2 := fun b q => WV_s2 h.objs h.next (consS rows) (numsS rows) (.tl [] (some true)) b q (.tl [] (some true)) rfl rfl
        simp only [wuX] at hrng
        (simp only [e51, hne, hh, WV_of, WV_mk, WV_next, ibne, ht, hw, iaI0, iaI0', iaD hy, WV_lenA, hcl, hmat, wq_of hrng, hs2, WV_s3, WV_r2, WV_r3, WV_fin0, wiV, wz, opX, intBin, ↓reduceIte, simprocAttr] <;> repeat' (first | refine wpG_s ?_ ?_ | refine wpC_s ?_ ?_) <;> intro hgo <;> (try simp only [dq] at hgo) <;> simp only [hgo, e51, hne, hh, WV_of, WV_mk, WV_next, ibne, ht, hw, iaI0, iaI0', iaD hy, WV_lenA, hcl, hmat, wq_of hrng, hs2, WV_s3, WV_r2, WV_r3, WV_fin0, wiV, wz, opX, intBin, ↓reduceIte, simprocAttr])
      | some w =>
        simp only [wuX] at hrng
        (simp only [e51, hne, hh, WV_of, WV_mk, WV_next, ibne, ht, hw, iaI0, iaI0', iaD hy, WV_lenA, hcl, hmat, wq_of hrng, WV_r2, WV_r3, WV_fin, wiV, wz, opX, intBin, ↓reduceIte, simprocAttr] <;> repeat' (first | refine wpG_s ?_ ?_ | refine wpC_s ?_ ?_) <;> intro hgo <;> (try simp only [dq] at hgo) <;> simp only [hgo, e51, hne, hh, WV_of, WV_mk, WV_next, ibne, ht, hw, iaI0, iaI0', iaD hy, WV_lenA, hcl, hmat, wq_of hrng, WV_r2, WV_r3, WV_fin, wiV, wz, opX, intBin, ↓reduceIte, simprocAttr])
end Zc27
end
section
set_option linter.unusedSimpArgs false
set_option linter.unusedVariables false
set_option linter.unusedSimpArgs false
set_option maxHeartbeats 4000000
namespace Zc27
open Go Zv Zs

/-- The heads that are like a pattern. -/
theorem fold_any (p : Pt) (hp : kdP p ≠ 0) : ∀ (l : List (List Pt)) (H : List Pt), (l.foldl (accG hdG) H).any (fun q => sameP q p) = (H.any (fun q => sameP q p) || l.any fun r => match r with
    | [] => false
    | q :: _ => sameP q p)
  | [], H => by simp
  | r :: l, H => by
    rw [List.foldl_cons, fold_any p hp l, List.any_cons, ← Bool.or_assoc]
    congr 1
    cases r with
    | nil => simp [accG, hdG]
    | cons q s =>
      simp only [accG, hdG]
      by_cases h0 : kdP q = 0
      · have : sameP q p = false := by
          unfold sameP; rw [h0, decide_eq_false (fun e => hp e.symm)]; rfl
        simp [h0, this]
      · by_cases h1 : H.any (fun x => sameP x q) = true
        · simp only [h1, Bool.or_true, if_true]
          cases h2 : sameP q p with
          | false => simp
          | true =>
            obtain ⟨x, hx, hxs⟩ := List.any_eq_true.1 h1
            have : H.any (fun q => sameP q p) = true := by
              refine List.any_eq_true.2 ⟨x, hx, ?_⟩
              simp only [sameP, Bool.and_eq_true, decide_eq_true_eq] at hxs h2 ⊢
              omega
            rw [this]; rfl
        · simp only [h1, Bool.or_false, decide_eq_true_eq, h0, if_false]
          rw [List.any_append]
          simp
theorem heads_any (p : Pt) (hp : kdP p ≠ 0) (l : List (List Pt)) : (headsS l).any (fun q => sameP q p) = l.any fun r => match r with
    | [] => false
    | q :: _ => sameP q p := by
  unfold headsS accL
  rw [fold_any p hp]
  simp
theorem foldn_mem (c : Int) : ∀ (l : List (List Pt)) (A : List Int), c ∈ l.foldl nG A ↔ c ∈ A ∨ ∃ p s, (p :: s) ∈ l ∧ kdP p = 2 ∧ nmP p = c
  | [], A => by simp
  | r :: l, A => by
    rw [List.foldl_cons, foldn_mem c l]
    cases r with
    | nil =>
      show (c ∈ A ∨ _) ↔ _
      simp
    | cons q s =>
      show (c ∈ (if kdP q = 2 then addI A (nmP q) else A) ∨ _) ↔ _
      by_cases k1 : kdP q = 2
      · rw [if_pos k1, addI_mem]
        constructor
        · rintro ((h | h) | ⟨p, s', h1, h2, h3⟩)
          · exact .inl h
          · exact .inr ⟨q, s, List.mem_cons_self, k1, h.symm⟩
          · exact .inr ⟨p, s', List.mem_cons_of_mem _ h1, h2, h3⟩
        · rintro (h | ⟨p, s', h1, h2, h3⟩)
          · exact .inl (.inl h)
          · rcases List.mem_cons.1 h1 with e | h1
            · cases e; exact .inl (.inr h3.symm)
            · exact .inr ⟨p, s', h1, h2, h3⟩
      · rw [if_neg k1]
        constructor
        · rintro (h | ⟨p, s', h1, h2, h3⟩)
          · exact .inl h
          · exact .inr ⟨p, s', List.mem_cons_of_mem _ h1, h2, h3⟩
        · rintro (h | ⟨p, s', h1, h2, h3⟩)
          · exact .inl h
          · rcases List.mem_cons.1 h1 with e | h1
            · cases e; exact absurd h2 k1
            · exact .inr ⟨p, s', h1, h2, h3⟩
theorem numsS_mem (c : Int) (l : List (List Pt)) : c ∈ numsS l ↔ ∃ p s, (p :: s) ∈ l ∧ kdP p = 2 ∧ nmP p = c := by
  rw [numsS, foldn_mem]; simp
theorem any_cons {d : List Dt} {t : Int} {ts : List Int} {l : List (List Pt)} (h : fitM d (t :: ts) l) (c : Int) (qs : List Pt) : (headsS l).any (fun q => sameP q (.mk 1 c 0 qs)) = decide (c ∈ consS l) := by
  rw [heads_any _ (by rw [kdP_mk]; decide), Bool.eq_iff_iff, decide_eq_true_eq, consS_mem, List.any_eq_true]
  constructor
  · rintro ⟨r, hr, hs⟩
    cases r with
    | nil => cases hs
    | cons q s =>
      simp only [sameP_mk, Bool.and_eq_true, decide_eq_true_eq] at hs
      exact ⟨q, s, hr, hs.1.1, hs.1.2⟩
  · rintro ⟨p, s, hm, k1, hc⟩
    refine ⟨p :: s, hm, ?_⟩
    have := h _ hm
    simp only [fitR, Bool.and_eq_true] at this
    obtain ⟨k, c', m, qs'⟩ := p
    simp only [kdP_mk, cnP_mk] at k1 hc
    subst k1; subst hc
    rcases fits_cases this.1 with h1 | h1 | ⟨_, _, m0, _⟩
    · omega
    · omega
    · subst m0
      simp [sameP_mk, kdP_mk, cnP_mk, nmP_mk]
end Zc27
end
section
set_option linter.unusedSimpArgs false
set_option linter.unusedVariables false
set_option linter.unusedSimpArgs false
set_option maxHeartbeats 4000000
namespace Zc27
open Go Zv Zs

theorem deep_ds (h : Hp) (n0 k : Nat) : ∀ l : List D, (l.map V.d).mapM (deep h n0 (k + 1)) = some l
  | [] => rfl
  | x :: l => by rw [List.map_cons, List.mapM_cons, deep_ds h n0 k l]; rfl
end Zc27
end
section
set_option linter.unusedSimpArgs false
set_option linter.unusedVariables false
set_option linter.unusedSimpArgs false
set_option maxHeartbeats 4000000
namespace Zc27
open Go Zv Zs

/-! ### from -/
section
variable (o : List (Nat × Ob)) (H : Nat) (z : V) (k c m : Int)
end
end Zc27
end
section
set_option linter.unusedSimpArgs false
set_option linter.unusedVariables false
set_option linter.unusedSimpArgs false
set_option maxHeartbeats 4000000
namespace Zc27
open Go Zv Zs

def wi3 : Option (List Pt) → V
  | none => .tup [.d (.lst []), .d (.bool false), .d (eI 0)]
  | some w => .tup [.d (ePs w), .d (.bool true), .d (eI 0)]
theorem Witness_ok {d : List Dt} {ts : List Int} {l : List (List Pt)} (G : Gd d ts l) (F : Rng d ts l) (hc : chk27 d ts l = 0) (h : Hp) :
    callW tab 19 [.d (eDs d), .d (eIs ts), .d (eRs l)] h = some (wi3 (wiS d 8001 ts l), h) := by
  refine call_wp (fn := f19) rfl rfl ?_
  have hck := fun h => chk_ok F h
  rw [hc] at hck
  have hw := fun h => witness_ok G.sml G.typ 8001 ts l (by have := G.w; omega) G.w G.len G.tys G.fit h
  cases hu : wiS d 8001 ts l with
  | none => rw [hu] at hw; (simp only [e19, hck, ibne, hw, wiV, wi3, wz, opX, intBin, ↓reduceIte, simprocAttr] <;> repeat' (first | refine wpG_s ?_ ?_ | refine wpC_s ?_ ?_) <;> intro hgo <;> (try simp only [dq] at hgo) <;> simp only [hgo, e19, hck, ibne, hw, wiV, wi3, wz, opX, intBin, ↓reduceIte, simprocAttr])
  | some w => rw [hu] at hw; (simp only [e19, hck, ibne, hw, wiV, wi3, wz, opX, intBin, ↓reduceIte, simprocAttr] <;> repeat' (first | refine wpG_s ?_ ?_ | refine wpC_s ?_ ?_) <;> intro hgo <;> (try simp only [dq] at hgo) <;> simp only [hgo, e19, hck, ibne, hw, wiV, wi3, wz, opX, intBin, ↓reduceIte, simprocAttr])
end Zc27
end
section
set_option linter.unusedSimpArgs false
set_option linter.unusedVariables false
set_option linter.unusedSimpArgs false
set_option maxHeartbeats 4000000
namespace Zc27
open Go Zv Zs

/-- There is a witness if wildcards are useful. -/
theorem wi_us (d : List Dt) : ∀ (k : Nat) (ts : List Int) (l : List (List Pt)), (wiS d k ts l).isSome = usS d k ts l (List.replicate ts.length wildT)
  | 0, _, _ => rfl
  | k + 1, [], l => by
    simp only [wiS, usS]
    by_cases h : l.length = 0 <;> simp [h]
  | k + 1, t :: ts, l => by
    rw [List.length_cons, List.replicate_succ]
    show _ = usS d (k + 1) (t :: ts) l (.mk 0 0 0 [] :: List.replicate ts.length wildT)
    rw [wiS, usS, if_neg (show ¬ ((0 : Int) = 1) by decide), if_neg (show ¬ ((0 : Int) = 2) by decide)]
    by_cases hc : t = 0 ∨ (consS l).length < (consOf d t).length
    · rw [if_pos hc, if_pos hc, Option.isSome_map]
      exact wi_us d k ts _
    · rw [if_neg hc, if_neg hc, Bool.eq_iff_iff, List.findSome?_isSome_iff, List.any_eq_true]
      have key : ∀ i, ((wiS d k (fldsOf d t i ++ ts) (spS (i : Int) (fldsOf d t i).length l)).map (wfS i (fldsOf d t i).length)).isSome = usS d k (fldsOf d t i ++ ts) (spS (i : Int) (fldsOf d t i).length l) (List.replicate (fldsOf d t i).length wildT ++ List.replicate ts.length wildT) := by
        intro i
        rw [Option.isSome_map, wi_us d k, List.length_append, ← List.replicate_append_replicate]
      constructor
      · rintro ⟨x, hx, h⟩
        exact ⟨x, hx, by rw [← key]; exact h⟩
      · rintro ⟨x, hx, h⟩
        exact ⟨x, hx, by rw [key]; exact h⟩
/-- More rounds change nothing that is true. -/
theorem us_mono (d : List Dt) : ∀ (k : Nat) (ts : List Int) (l : List (List Pt)) (r : List Pt), usS d k ts l r = true → usS d (k + 1) ts l r = true
  | 0, _, _, _, h => by cases h
  | k + 1, [], l, r, h => h
  | k + 1, t :: ts, l, [], h => by cases h
  | k + 1, t :: ts, l, .mk kd c m qs :: r, h => by
    rw [usS] at h ⊢
    split at h
    · rename_i h1; rw [if_pos h1]; exact us_mono d k _ _ _ h
    · rename_i h1
      rw [if_neg h1]
      split at h
      · rename_i h2; rw [if_pos h2]; exact us_mono d k _ _ _ h
      · rename_i h2
        rw [if_neg h2]
        split at h
        · rename_i h3; rw [if_pos h3]; exact us_mono d k _ _ _ h
        · rename_i h3
          rw [if_neg h3]
          rw [List.any_eq_true] at h ⊢
          obtain ⟨i, hi, hx⟩ := h
          exact ⟨i, hi, us_mono d k _ _ _ hx⟩
theorem us_le {d : List Dt} {ts : List Int} {l : List (List Pt)} {r : List Pt} {k : Nat} : ∀ (j : Nat), usS d k ts l r = true → usS d (k + j) ts l r = true
  | 0, h => h
  | j + 1, h => us_mono d _ _ _ _ (us_le j h)
theorem us_fuel {d : List Dt} (S : Sml d) (T : typedS d = true) {k k' : Nat} {ts : List Int} {l : List (List Pt)} {r : List Pt} (h1 : 9 * (nwS l + nwL r) + ts.length < k) (h2 : 9 * (nwS l + nwL r) + ts.length < k') (hB : 9 * (nwS l + nwL r) + ts.length ≤ 8000) (hl : l.length ≤ 1000)
    (hT : ∀ t, t ∈ ts → isT d t = true) (hM : fitM d ts l) (hR : fitR d ts r = true) : usS d k ts l r = usS d k' ts l r := by
  have a := useful_ok S T k ts l r h1 hB hl hT hM hR ⟨[], 0⟩
  have b := useful_ok S T k' ts l r h2 hB hl hT hM hR ⟨[], 0⟩
  rw [a] at b
  simpa using b
end Zc27
end
section
set_option linter.unusedSimpArgs false
set_option linter.unusedVariables false
set_option linter.unusedSimpArgs false
set_option maxHeartbeats 4000000
namespace Zc27
open Go Zv Zs

/-! ### How large it is -/
theorem cntL_app : ∀ (a b : List Pt), cntL (a ++ b) = cntL a + cntL b
  | [], b => by simp [cntL]
  | p :: a, b => by rw [List.cons_append, cntL, cntL, cntL_app a b]; omega
theorem cntL_wild : ∀ n : Nat, cntL (List.replicate n wildT) = n
  | 0 => rfl
  | n + 1 => by
    rw [List.replicate_succ, cntL, cntL_wild n]
    simp [wildT, cntP, cntL]; omega
theorem flds8 {d : List Dt} (S : Sml d) (t : Int) (i : Nat) : (fldsOf d t i).length ≤ 8 := by
  unfold fldsOf
  split
  · rename_i z hz
    exact (cons_sm S t).2 z (List.mem_of_getElem? hz)
  · simp
theorem cnt_one (k c m : Int) (qs : List Pt) : cntP (.mk k c m qs) = 1 + cntL qs := by rw [cntP]; omega
theorem nw_made (c m : Int) (qs : List Pt) : nwP (.mk 1 c m qs) = 1 + nwL qs := by rw [nwP, if_neg (by decide)]
theorem wi_size {d : List Dt} (S : Sml d) : ∀ (k : Nat) (ts : List Int) (l : List (List Pt)) (w : List Pt), fitM d ts l → wiS d k ts l = some w → cntL w ≤ 9 * (9 * nwS l + ts.length) ∧ nwL w ≤ 9 * nwS l + ts.length
  | 0, _, _, _, _, h => by cases h
  | k + 1, [], l, w, _, h => by
    simp only [wiS] at h
    split at h
    · cases h; exact ⟨by simp [cntL], by simp [nwL]⟩
    · cases h
  | k + 1, t :: ts, l, w, hM, h => by
    simp only [wiS] at h
    split at h
    · simp only [Option.map_eq_some_iff] at h
      obtain ⟨v, hv, rfl⟩ := h
      have ih := wi_size S k ts _ v (restS_fit wildP hM) hv
      have hn := restS_nw wildP l
      have h8 := flds8 S t (missN (consS l))
      have hm : cntP (missS d t l) ≤ 9 ∧ nwP (missS d t l) ≤ 1 := by
        unfold missS
        split
        · rw [cnt_one, cntL_wild, nw_made, nwL_wild]; omega
        · split
          · rw [cnt_one, nwP, if_neg (by decide)]; simp [cntL, nwL]
          · unfold wildT; rw [cnt_one, nwP, if_pos rfl]; simp [cntL]
      rw [cntL, nwL, List.length_cons]
      omega
    · rename_i hc
      obtain ⟨i, hi, hw⟩ := List.exists_of_findSome?_eq_some h
      simp only [Option.map_eq_some_iff] at hw
      obtain ⟨v, hv, rfl⟩ := hw
      have hi := List.mem_range.1 hi
      have hlt : ¬ (consS l).length < (consOf d t).length := fun e => hc (.inr e)
      have hdn := spS_down hM (by omega) hi (fldsOf d t i).length
      have ih := wi_size S k _ _ v (spS_fit i hM) hv
      have h8 := flds8 S t i
      rw [List.length_append] at ih
      have e1 := cntL_app (v.take (fldsOf d t i).length) (v.drop (fldsOf d t i).length)
      have e2 := nwL_app (v.take (fldsOf d t i).length) (v.drop (fldsOf d t i).length)
      rw [List.take_append_drop] at e1 e2
      unfold wfS
      rw [cntL, nwL, cnt_one, nw_made, List.length_cons]
      omega
/-! ### Checks of more rows -/
theorem chk_S {d : List Dt} {ts : List Int} {l : List (List Pt)} (h : chk27 d ts l = 0) : checkS d = 0 ∧ ts.length ≤ 8 := by
  unfold chk27 at h
  by_cases h1 : checkS d ≠ 0
  · rw [if_pos h1] at h; cases h
  rw [if_neg h1] at h
  by_cases h2 : 8 < ts.length ∨ 64 < l.length
  · rw [if_pos h2] at h; cases h
  exact ⟨Decidable.not_not.1 h1, by omega⟩
/-! ### The rows that are not useful -/
theorem dead_lt {d : List Dt} {ts : List Int} {l : List (List Pt)} {x : Int} (h : x ∈ deadS d ts l) : ∃ n : Nat, x = (n : Int) ∧ n < l.length ∧ ∃ r, l[n]? = some r ∧ usS d 8001 ts (l.take n) r = false := by
  obtain ⟨y, hy, hf⟩ := List.mem_filterMap.1 h
  obtain ⟨n, hn⟩ := List.getElem?_of_mem hy
  obtain ⟨h1, h2⟩ := zip_ix hn
  unfold deadF at hf
  split at hf
  · cases hf
  · rename_i hu
    cases hf
    refine ⟨n, by rw [h2], (List.getElem?_eq_some_iff.1 h1).1, y.1, h1, ?_⟩
    rw [← h2]
    exact Bool.not_eq_true _ ▸ hu
end Zc27
end
section
set_option linter.unusedSimpArgs false
set_option linter.unusedVariables false
set_option linter.unusedSimpArgs false
set_option maxHeartbeats 4000000
namespace Zc27
open Go Zv Zs

/-- A value: number, constructor, arguments. -/
inductive Vl where
  | mk (m c : Int) (qs : List Vl)
mutual
def eV : Vl → D
  | .mk m c qs => .agg [.int .i64 m, .int .i64 c, .lst (eVL qs)]
def eVL : List Vl → List D
  | [] => []
  | p :: r => eV p :: eVL r
end
theorem eVL_map : ∀ l : List Vl, eVL l = l.map eV
  | [] => rfl
  | p :: r => by rw [eVL, eVL_map r]; rfl
theorem eV_mk (m c : Int) (qs : List Vl) : eV (.mk m c qs) = .agg [.int .i64 m, .int .i64 c, .lst (qs.map eV)] := by rw [eV, eVL_map]
theorem eV_cells (p : Vl) : (eV p).cells.length = 3 := by cases p; rfl
theorem aggV (p : Vl) : D.agg (List.take 3 (eV p).cells) = eV p := by cases p; rfl
theorem vls : (∀ p, (eV p).cells.length = 3) ∧ (∀ p, D.agg (List.take 3 (eV p).cells) = eV p) ∧ ((3 : Nat) ≤ 3 ↔ True) := ⟨eV_cells, aggV, by simp⟩
abbrev eVs (l : List Vl) : D := .lst (l.map eV)
theorem iaV {l : List Vl} {n : Nat} {x : Vl} (hx : l[n]? = some x) : ia 3 (.d (.lst (l.map eV))) (.d (.int .i64 (n : Int))) = some (.fp (eV x) 0) := ia_map (f := eV) .i64 hx (eV_cells x)
mutual
def vcnt : Vl → Nat
  | .mk _ _ qs => vcntL qs + 1
def vcntL : List Vl → Nat
  | [] => 0
  | p :: r => vcnt p + vcntL r
end
mutual
def mtP : Pt → Vl → Bool
  | .mk k c m qs, .mk num con vs => if k = 0 then true else if k = 2 then decide (num = m) else if k = 1 then decide (con = c) && mtL qs vs else false
def mtL : List Pt → List Vl → Bool
  | [], [] => true
  | p :: ps, v :: vs => mtP p v && mtL ps vs
  | _, _ => false
end
def nomt (x : Pt × Vl) : Bool := !mtP x.1 x.2
theorem mtL_any : ∀ (qs : List Pt) (vs : List Vl), mtL qs vs = (decide (qs.length = vs.length) && !(qs.zip vs).any nomt)
  | [], [] => by simp [mtL]
  | [], _ :: _ => by simp [mtL]
  | _ :: _, [] => by simp [mtL]
  | p :: ps, v :: vs => by
    rw [mtL, mtL_any ps vs, List.zip_cons_cons, List.any_cons]
    cases h : mtP p v <;> simp [nomt, h]
theorem matches_step {qs : List Pt} (hl : cntL qs < 2 ^ 60) (H : ∀ p, p ∈ qs → ∀ v h, callW tab 56 [.d (ePt p), .d (eV v)] h = some (.d (.bool (mtP p v)), h)) (vs : List Vl) (h : Hp) :
    callW tab 24 [.d (ePs qs), .d (eVs vs)] h = some (.d (.bool (mtL qs vs)), h) := by
  have hlen := cntL_len qs
  rw [mtL_any]
  refine call_wp (fn := f24) rfl rfl ?_
  by_cases hne : qs.length = vs.length
  · rw [decide_eq_true hne, Bool.true_and]
    have hne' : ((qs.length : Int) != (vs.length : Int)) = false := by simp [hne]
    have hzl : (qs.zip vs).length = qs.length := by rw [List.length_zip]; omega
    have hloop := loop_any (T := tab) (a := f24l0) (l := qs.zip vs) (p := nomt) (f := fun n => [(0, .d (ePs qs)), (1, .d (eVs vs)), (12, .d (.int .i64 qs.length)), (13, int n)]) (h := h)
        (by intro n x hx hlt hp; (have hxz := zip_at hx); (have hr := fun h => H x.1 (List.mem_of_getElem? hxz.1) x.2 h); (have hlt' : n < qs.length := by omega); (have hpb : mtP x.1 x.2 = !(nomt x) := by simp [nomt]); rw [hp] at hpb; all_goals (apply wq_ex.1; (simp only [hlt, hp, e24, iaP hxz.1, iaV hxz.2, pts, vls, hr, hlt', hpb, wrap_succ (show n < 2 ^ 62 by omega), wz, opX, intBin, ↓reduceIte, simprocAttr] <;> repeat' (first | refine wpG_s ?_ ?_ | refine wpC_s ?_ ?_) <;> intro hgo <;> (try simp only [dq] at hgo) <;> simp only [hgo, hlt, hp, e24, iaP hxz.1, iaV hxz.2, pts, vls, hr, hlt', hpb, wrap_succ (show n < 2 ^ 62 by omega), wz, opX, intBin, ↓reduceIte, simprocAttr])))
        (by intro n x hx hlt hp; (have hxz := zip_at hx); (have hr := fun h => H x.1 (List.mem_of_getElem? hxz.1) x.2 h); (have hlt' : n < qs.length := by omega); (have hpb : mtP x.1 x.2 = !(nomt x) := by simp [nomt]); rw [hp] at hpb; all_goals (apply wq_ex.1; (simp only [hlt, hp, e24, iaP hxz.1, iaV hxz.2, pts, vls, hr, hlt', hpb, wrap_succ (show n < 2 ^ 62 by omega), wz, opX, intBin, ↓reduceIte, simprocAttr] <;> repeat' (first | refine wpG_s ?_ ?_ | refine wpC_s ?_ ?_) <;> intro hgo <;> (try simp only [dq] at hgo) <;> simp only [hgo, hlt, hp, e24, iaP hxz.1, iaV hxz.2, pts, vls, hr, hlt', hpb, wrap_succ (show n < 2 ^ 62 by omega), wz, opX, intBin, ↓reduceIte, simprocAttr]) <;> rfl))
        (by apply wq_ex.1; (simp only [e24, hzl, wz, opX, intBin, ↓reduceIte, simprocAttr] <;> repeat' (first | refine wpG_s ?_ ?_ | refine wpC_s ?_ ?_) <;> intro hgo <;> (try simp only [dq] at hgo) <;> simp only [hgo, e24, hzl, wz, opX, intBin, ↓reduceIte, simprocAttr]) <;> rfl)
        (by simp) (by simp)
    simp only [int, Zv.bool, Int.cast_ofNat_Int] at hloop
    (simp only [e24, hne', wq_of hloop, wz, opX, intBin, ↓reduceIte, simprocAttr] <;> repeat' (first | refine wpG_s ?_ ?_ | refine wpC_s ?_ ?_) <;> intro hgo <;> (try simp only [dq] at hgo) <;> simp only [hgo, e24, hne', wq_of hloop, wz, opX, intBin, ↓reduceIte, simprocAttr])
    cases (qs.zip vs).any nomt <;> (simp only [e24, wz, opX, intBin, ↓reduceIte, simprocAttr] <;> repeat' (first | refine wpG_s ?_ ?_ | refine wpC_s ?_ ?_) <;> intro hgo <;> (try simp only [dq] at hgo) <;> simp only [hgo, e24, wz, opX, intBin, ↓reduceIte, simprocAttr])
  · rw [decide_eq_false hne, Bool.false_and]
    have hne' : ((qs.length : Int) != (vs.length : Int)) = true := by simp; omega
    (simp only [e24, hne', wz, opX, intBin, ↓reduceIte, simprocAttr] <;> repeat' (first | refine wpG_s ?_ ?_ | refine wpC_s ?_ ?_) <;> intro hgo <;> (try simp only [dq] at hgo) <;> simp only [hgo, e24, hne', wz, opX, intBin, ↓reduceIte, simprocAttr])
theorem one_ok : ∀ (p : Pt), cntP p < 2 ^ 60 → ∀ v h, callW tab 56 [.d (ePt p), .d (eV v)] h = some (.d (.bool (mtP p v)), h)
  | .mk k c m qs, hc, .mk num con vs, h => by
    rw [cntP] at hc
    have hm := fun h => matches_step (qs := qs) (by omega) (fun p hp v h => one_ok p (by have := cntL_mem hp; omega) v h) vs h
    rw [mtP, ePt_mk, eV_mk]
    refine call_wp (fn := f56) rfl rfl ?_
    by_cases k0 : k = 0
    · (simp only [e56, ibeq, k0, wz, opX, intBin, ↓reduceIte, simprocAttr] <;> repeat' (first | refine wpG_s ?_ ?_ | refine wpC_s ?_ ?_) <;> intro hgo <;> (try simp only [dq] at hgo) <;> simp only [hgo, e56, ibeq, k0, wz, opX, intBin, ↓reduceIte, simprocAttr])
    · by_cases k2 : k = 2
      · (simp only [e56, ibeq, k0, k2, wz, opX, intBin, ↓reduceIte, simprocAttr] <;> repeat' (first | refine wpG_s ?_ ?_ | refine wpC_s ?_ ?_) <;> intro hgo <;> (try simp only [dq] at hgo) <;> simp only [hgo, e56, ibeq, k0, k2, wz, opX, intBin, ↓reduceIte, simprocAttr])
      · by_cases k1 : k = 1
        · by_cases hcc : con = c
          · (simp only [e56, ibeq, k0, k1, k2, hcc, hm, Bool.true_and, wz, opX, intBin, ↓reduceIte, simprocAttr] <;> repeat' (first | refine wpG_s ?_ ?_ | refine wpC_s ?_ ?_) <;> intro hgo <;> (try simp only [dq] at hgo) <;> simp only [hgo, e56, ibeq, k0, k1, k2, hcc, hm, Bool.true_and, wz, opX, intBin, ↓reduceIte, simprocAttr])
          · (simp only [e56, ibeq, k0, k1, k2, hcc, hm, Bool.false_and, wz, opX, intBin, ↓reduceIte, simprocAttr] <;> repeat' (first | refine wpG_s ?_ ?_ | refine wpC_s ?_ ?_) <;> intro hgo <;> (try simp only [dq] at hgo) <;> simp only [hgo, e56, ibeq, k0, k1, k2, hcc, hm, Bool.false_and, wz, opX, intBin, ↓reduceIte, simprocAttr])
        · (simp only [e56, ibeq, k0, k1, k2, wz, opX, intBin, ↓reduceIte, simprocAttr] <;> repeat' (first | refine wpG_s ?_ ?_ | refine wpC_s ?_ ?_) <;> intro hgo <;> (try simp only [dq] at hgo) <;> simp only [hgo, e56, ibeq, k0, k1, k2, wz, opX, intBin, ↓reduceIte, simprocAttr])
termination_by p => cntP p
decreasing_by
  have := cntL_mem hp
  rw [cntP]
  omega
theorem matches_ok (qs : List Pt) (hl : cntL qs < 2 ^ 60) (vs : List Vl) (h : Hp) : callW tab 24 [.d (ePs qs), .d (eVs vs)] h = some (.d (.bool (mtL qs vs)), h) :=
  matches_step hl (fun p hp v h => one_ok p (by have := cntL_mem hp; omega) v h) vs h
/-! ### The first row that matches -/
def firstS (l : List (List Pt)) (vs : List Vl) : Int := idxZ (fun r => mtL r vs) l
theorem idxFR (l : List (List Pt)) (cv : V) (p : List Pt → Bool) (h : Hp) (hl : l.length < 2 ^ 60) (hcv : norm cv = cv) (hc : ∀ c, c ∈ l → cW tab cv [.d (ePs c)] h = some (.d (.bool (p c)), h)) :
    callW tab 58 [.d (.lst (l.map ePs)), cv] h = some (.d (eI (idxZ p l)), h) := by
  refine call_wp (fn := f58) rfl rfl ?_
  have hloop := loop_find (T := tab) (a := f58l0) (l := l) (p := p) (f := fun n => [(0, .d (.lst (l.map ePs))), (1, cv), (7, int l.length), (8, int n)]) (h := h)
      (by intro n x hx hlt hp; have hcall := hc x (List.mem_of_getElem? hx); all_goals (apply wq_ex.1; (simp only [hlt, hp, e58, iaR hx, hcall, wrap_succ (show n < 2 ^ 62 by omega), wz, opX, intBin, ↓reduceIte, simprocAttr] <;> repeat' (first | refine wpG_s ?_ ?_ | refine wpC_s ?_ ?_) <;> intro hgo <;> (try simp only [dq] at hgo) <;> simp only [hgo, hlt, hp, e58, iaR hx, hcall, wrap_succ (show n < 2 ^ 62 by omega), wz, opX, intBin, ↓reduceIte, simprocAttr])))
      (by intro n x hx hlt hp; have hcall := hc x (List.mem_of_getElem? hx); all_goals (apply wq_ex.1; (simp only [hlt, hp, e58, iaR hx, hcall, wrap_succ (show n < 2 ^ 62 by omega), wz, opX, intBin, ↓reduceIte, simprocAttr] <;> repeat' (first | refine wpG_s ?_ ?_ | refine wpC_s ?_ ?_) <;> intro hgo <;> (try simp only [dq] at hgo) <;> simp only [hgo, hlt, hp, e58, iaR hx, hcall, wrap_succ (show n < 2 ^ 62 by omega), wz, opX, intBin, ↓reduceIte, simprocAttr]) <;> rfl))
      (by apply wq_ex.1; (simp only [e58, wz, opX, intBin, ↓reduceIte, simprocAttr] <;> repeat' (first | refine wpG_s ?_ ?_ | refine wpC_s ?_ ?_) <;> intro hgo <;> (try simp only [dq] at hgo) <;> simp only [hgo, e58, wz, opX, intBin, ↓reduceIte, simprocAttr]) <;> rfl)
      (by intro n x; simp) (by simp)
  simp only [int, Zv.bool, Int.cast_ofNat_Int] at hloop
  (simp only [e58, hcv, wq_of hloop, wz, opX, intBin, ↓reduceIte, simprocAttr] <;> repeat' (first | refine wpG_s ?_ ?_ | refine wpC_s ?_ ?_) <;> intro hgo <;> (try simp only [dq] at hgo) <;> simp only [hgo, e58, hcv, wq_of hloop, wz, opX, intBin, ↓reduceIte, simprocAttr])
  unfold idxZ
  cases fst? p 0 l with
  | none => (simp only [e58, wz, opX, intBin, ↓reduceIte, simprocAttr] <;> repeat' (first | refine wpG_s ?_ ?_ | refine wpC_s ?_ ?_) <;> intro hgo <;> (try simp only [dq] at hgo) <;> simp only [hgo, e58, wz, opX, intBin, ↓reduceIte, simprocAttr])
  | some n => (simp only [e58, wz, opX, intBin, ↓reduceIte, simprocAttr] <;> repeat' (first | refine wpG_s ?_ ?_ | refine wpC_s ?_ ?_) <;> intro hgo <;> (try simp only [dq] at hgo) <;> simp only [hgo, e58, wz, opX, intBin, ↓reduceIte, simprocAttr])
theorem first_ok (l : List (List Pt)) (hl : l.length < 2 ^ 60) (hc : ∀ r, r ∈ l → cntL r < 2 ^ 60) (vs : List Vl) (h : Hp) : callW tab 26 [.d (eRs l), .d (eVs vs)] h = some (.d (eI (firstS l vs)), h) := by
  refine call_wp (fn := f26) rfl rfl ?_
  have hi := idxFR l (.clo 59 [.ptr h.next 1 0 0]) (fun r => mtL r vs) ⟨(h.next, .arr 1 [.d (eVs vs)]) :: h.objs, h.next + 1⟩ hl rfl (by
    intro r hr
    have hm := fun h => matches_ok r (hc r hr) vs h
    rw [cW_clo]
    simp only [Nat.reduceBEq, Bool.false_eq_true, if_false]
    refine call_wp (fn := f59) rfl rfl ?_
    (simp only [e59, hm, wz, opX, intBin, ↓reduceIte, simprocAttr] <;> repeat' (first | refine wpG_s ?_ ?_ | refine wpC_s ?_ ?_) <;> intro hgo <;> (try simp only [dq] at hgo) <;> simp only [hgo, e59, hm, wz, opX, intBin, ↓reduceIte, simprocAttr]))
  (simp only [e26, hi, firstS, wz, opX, intBin, ↓reduceIte, simprocAttr] <;> repeat' (first | refine wpG_s ?_ ?_ | refine wpC_s ?_ ?_) <;> intro hgo <;> (try simp only [dq] at hgo) <;> simp only [hgo, e26, hi, firstS, wz, opX, intBin, ↓reduceIte, simprocAttr])
end Zc27
end
section
set_option linter.unusedSimpArgs false
set_option linter.unusedVariables false
set_option linter.unusedSimpArgs false
set_option maxHeartbeats 4000000
namespace Zc27
open Go Zv Zs

end Zc27
end
section
set_option linter.unusedSimpArgs false
set_option linter.unusedVariables false
set_option linter.unusedSimpArgs false
set_option maxHeartbeats 4000000
namespace Zc27
open Go Zv Zs

mutual
/-- A value has a type. -/
def tyV (d : List Dt) : Int → Vl → Prop
  | t, .mk _ c qs => if t = 0 then True else ∃ (i : Nat) (z : Cn), c = (i : Int) ∧ (consOf d t)[i]? = some z ∧ tyL d z.flds qs
def tyL (d : List Dt) : List Int → List Vl → Prop
  | [], [] => True
  | f :: fs, q :: qs => tyV d f q ∧ tyL d fs qs
  | _, _ => False
end
theorem tyL_len {d : List Dt} : ∀ {fs : List Int} {vs : List Vl}, tyL d fs vs → vs.length = fs.length
  | [], [], _ => rfl
  | f :: fs, v :: vs, h => by
    rw [tyL] at h
    rw [List.length_cons, List.length_cons, tyL_len h.2]
  | [], _ :: _, h => by simp [tyL] at h
  | _ :: _, [], h => by simp [tyL] at h
theorem tyL_app {d : List Dt} : ∀ {fs ts : List Int} {av vs : List Vl}, tyL d fs av → tyL d ts vs → tyL d (fs ++ ts) (av ++ vs)
  | [], ts, [], vs, _, h => h
  | f :: fs, ts, a :: av, vs, h, h' => by
    rw [tyL] at h
    rw [List.cons_append, List.cons_append, tyL]
    exact ⟨h.1, tyL_app h.2 h'⟩
  | [], _, _ :: _, _, h, _ => by simp [tyL] at h
  | _ :: _, _, [], _, h, _ => by simp [tyL] at h
theorem mtL_app : ∀ {av bs : List Pt} {xs ys : List Vl}, av.length = xs.length → mtL (av ++ bs) (xs ++ ys) = (mtL av xs && mtL bs ys)
  | [], bs, [], ys, _ => by simp [mtL]
  | a :: av, bs, x :: xs, ys, h => by
    rw [List.cons_append, List.cons_append, mtL, mtL, mtL_app (by simpa using h), Bool.and_assoc]
  | [], _, _ :: _, _, h => by simp at h
  | _ :: _, _, [], _, h => by simp at h
theorem mtL_len : ∀ {av : List Pt} {xs : List Vl}, mtL av xs = true → av.length = xs.length
  | [], [], _ => rfl
  | a :: av, x :: xs, h => by
    rw [mtL, Bool.and_eq_true] at h
    rw [List.length_cons, List.length_cons, mtL_len h.2]
  | [], _ :: _, h => by simp [mtL] at h
  | _ :: _, [], h => by simp [mtL] at h
theorem mt_wild (v : Vl) : mtP wildT v = true := by obtain ⟨m, c, qs⟩ := v; unfold wildT; rw [mtP, if_pos rfl]
theorem mtL_wild : ∀ vs : List Vl, mtL (List.replicate vs.length wildT) vs = true
  | [] => by rw [List.length_nil, List.replicate_zero, mtL]
  | v :: vs => by rw [List.length_cons, List.replicate_succ, mtL, mt_wild, mtL_wild vs]; rfl
theorem vcntL_app : ∀ (a b : List Vl), vcntL (a ++ b) = vcntL a + vcntL b
  | [], b => by simp [vcntL]
  | p :: a, b => by rw [List.cons_append, vcntL, vcntL, vcntL_app a b]; omega
/-- A row of the special rows matches what is below a value: the row matches the value. -/
theorem sp_back {i : Nat} {n : Nat} {l : List (List Pt)} {x' : List Pt} (hx : x' ∈ spS (i : Int) n l) {m : Int} {av vs : List Vl} (hn : n = av.length) (hm : mtL x' (av ++ vs) = true) (hq : ∀ k c m qs s, (Pt.mk k c m qs :: s) ∈ l → k = 1 → c = (i : Int) → qs.length = n) :
    ∃ x, x ∈ l ∧ mtL x (.mk m (i : Int) av :: vs) = true := by
  obtain ⟨x, hxl, hs⟩ := List.mem_filterMap.1 hx
  refine ⟨x, hxl, ?_⟩
  cases x with
  | nil => cases hs
  | cons p s =>
    obtain ⟨k, c, m', qs⟩ := p
    simp only [spF] at hs
    split at hs
    · rename_i k0
      cases hs
      rw [mtL_app (by simp [hn])] at hm
      rw [Bool.and_eq_true] at hm
      rw [mtL, mtP, if_pos k0, hm.2]; rfl
    · rename_i k0
      split at hs
      · rename_i hk
        cases hs
        rw [mtL_app (by rw [hq _ _ _ _ _ hxl hk.1 hk.2, hn]), Bool.and_eq_true] at hm
        rw [mtL, mtP, if_neg k0, if_neg (by omega), if_pos hk.1, decide_eq_true hk.2.symm, hm.1, hm.2]; rfl
      · cases hs
theorem sp_len {d : List Dt} {t : Int} {ts : List Int} {l : List (List Pt)} (h : fitM d (t :: ts) l) {i : Nat} {z : Cn} (hz : (consOf d t)[i]? = some z) : ∀ k c m qs s, (Pt.mk k c m qs :: s) ∈ l → k = 1 → c = (i : Int) → qs.length = z.flds.length := by
  intro k c m qs s hm k1 hc
  have := h _ hm
  simp only [fitR, Bool.and_eq_true] at this
  rcases fits_cases this.1 with h1 | h1 | ⟨_, _, _, j, y, e, hy, hl, _⟩
  · omega
  · omega
  · have : j = i := by omega
    subst this
    rw [hz] at hy; cases hy
    exact hl.symm
/-- What is not useful matches nothing new. -/
theorem cover {d : List Dt} : ∀ (n : Nat) (ts : List Int) (l : List (List Pt)) (r : List Pt) (vs : List Vl), vcntL vs ≤ n → tyL d ts vs → fitM d ts l → fitR d ts r = true → (∀ K, usS d K ts l r = false) → mtL r vs = true → ∃ x, x ∈ l ∧ mtL x vs = true := by
  intro n
  induction n with
  | zero =>
    intro ts l r vs hn hT hM hR hU hm
    cases vs with
    | cons v vs => obtain ⟨m, c, qs⟩ := v; rw [vcntL, vcnt] at hn; omega
    | nil =>
      have hl := tyL_len hT
      cases ts with
      | cons t ts => simp at hl
      | nil =>
        have h1 := hU 1
        rw [usS, decide_eq_false_iff_not] at h1
        cases l with
        | nil => exact absurd rfl h1
        | cons x l =>
          have hf := hM x List.mem_cons_self
          have : x = [] := List.eq_nil_of_length_eq_zero (fitR_len hf)
          subst this
          exact ⟨[], List.mem_cons_self, by rw [mtL]⟩
  | succ n ih =>
    intro ts l r vs hn hT hM hR hU hm
    cases vs with
    | nil =>
      exact ih ts l r [] (by simp [vcntL]) hT hM hR hU hm
    | cons v vs =>
      have hl := tyL_len hT
      cases ts with
      | nil => simp at hl
      | cons t ts =>
        cases r with
        | nil => cases hR
        | cons p r =>
          obtain ⟨num, con, av⟩ := v
          obtain ⟨k, c, m, qs⟩ := p
          rw [vcntL, vcnt] at hn
          rw [tyL, tyV] at hT
          obtain ⟨hv, hvs⟩ := hT
          simp only [fitR, Bool.and_eq_true] at hR
          rw [mtL, mtP, Bool.and_eq_true] at hm
          have hU' : ∀ K, usS d (K + 1) (t :: ts) l (.mk k c m qs :: r) = false := fun K => hU (K + 1)
          rcases fits_cases hR.1 with ⟨k0, c0, m0, q0⟩ | ⟨k2, t0, c0, q0⟩ | ⟨k1, t0, m0, i, z, rfl, hz, hzl, hzR⟩
          · subst k0
            by_cases hc : t = 0 ∨ (consS l).length < (consOf d t).length
            · obtain ⟨x, hx, hxm⟩ := ih ts (restS wildP l) r vs (by omega) hvs (restS_fit wildP hM) hR.2 (fun K => by
                have := hU' K
                rw [usS, if_neg (by decide), if_neg (by decide), if_pos hc] at this
                exact this) hm.2
              obtain ⟨y, hy, hs⟩ := List.mem_filterMap.1 hx
              refine ⟨y, hy, ?_⟩
              cases y with
              | nil => cases hs
              | cons q s =>
                simp only [restF] at hs
                split at hs
                · rename_i hk
                  cases hs
                  obtain ⟨k', c', m', qs'⟩ := q
                  have hk : k' = 0 := of_decide_eq_true hk
                  rw [mtL, mtP, if_pos hk, hxm]; rfl
                · cases hs
            · have ht : t ≠ 0 := fun e => hc (.inl e)
              rw [if_neg ht] at hv
              obtain ⟨i, z, rfl, hz, hty⟩ := hv
              have hfz : fldsOf d t i = z.flds := by unfold fldsOf; rw [hz]
              have hal := tyL_len hty
              have hM' := spS_fit i hM
              rw [hfz] at hM'
              obtain ⟨x, hx, hxm⟩ := ih (z.flds ++ ts) (spS (i : Int) z.flds.length l) (List.replicate z.flds.length wildT ++ r) (av ++ vs) (by rw [vcntL_app]; omega) (tyL_app hty hvs) hM' (fitR_app (fitR_wild d _) hR.2) (fun K => by
                have := hU' K
                rw [usS, if_neg (by decide), if_neg (by decide), if_neg hc, ← Bool.not_eq_true, List.any_eq_true] at this
                cases hu : usS d K (z.flds ++ ts) (spS (i : Int) z.flds.length l) (List.replicate z.flds.length wildT ++ r) with
                | false => rfl
                | true =>
                  exact absurd ⟨i, List.mem_range.2 (List.getElem?_eq_some_iff.1 hz).1, by rw [hfz]; exact hu⟩ this) (by
                rw [mtL_app (by simp [hal]), ← hal, mtL_wild, hm.2]; rfl)
              exact sp_back hx hal.symm hxm (sp_len hM hz)
          · subst k2
            subst t0
            rw [if_neg (by decide), if_pos rfl, decide_eq_true_eq] at hm
            obtain ⟨x, hx, hxm⟩ := ih ts (restS (fun q => wildP q || decide (nmP q = m)) l) r vs (by omega) hvs (restS_fit _ hM) hR.2 (fun K => by
              have := hU' K
              rw [usS, if_neg (by decide), if_pos rfl] at this
              exact this) hm.2
            obtain ⟨y, hy, hs⟩ := List.mem_filterMap.1 hx
            refine ⟨y, hy, ?_⟩
            cases y with
            | nil => cases hs
            | cons q s =>
              have hf := hM _ hy
              simp only [fitR, Bool.and_eq_true] at hf
              simp only [restF] at hs
              split at hs
              · rename_i hk
                cases hs
                obtain ⟨k', c', m', qs'⟩ := q
                have hk : k' = 0 ∨ m' = m := ((Bool.or_eq_true _ _).mp hk).imp of_decide_eq_true of_decide_eq_true
                rcases fits_cases hf.1 with ⟨h0, _⟩ | ⟨h2, _⟩ | ⟨_, h1, _⟩
                · rw [mtL, mtP, if_pos h0, hxm]; rfl
                · subst h2
                  have : m' = m := by omega
                  rw [mtL, mtP, if_neg (by decide), if_pos rfl, this, decide_eq_true hm.1, hxm]; rfl
                · exact absurd rfl h1
              · cases hs
          · subst k1
            rw [if_neg (by decide), if_neg (by decide), if_pos rfl, Bool.and_eq_true, decide_eq_true_eq] at hm
            obtain ⟨⟨hcon, hqa⟩, hrest⟩ := hm
            subst hcon
            rw [if_neg t0] at hv
            obtain ⟨j, z', e, hz', hty⟩ := hv
            have : j = i := by omega
            subst this
            rw [hz] at hz'; cases hz'
            have hfz : fldsOf d t j = z.flds := by unfold fldsOf; rw [hz]
            have hal := tyL_len hty
            have hM' := spS_fit j hM
            rw [hfz] at hM'
            obtain ⟨x, hx, hxm⟩ := ih (z.flds ++ ts) (spS (j : Int) z.flds.length l) (qs ++ r) (av ++ vs) (by rw [vcntL_app]; omega) (tyL_app hty hvs) hM' (fitR_app hzR hR.2) (fun K => by
              have := hU' K
              rw [usS, if_pos rfl, Int.toNat_natCast, hfz, ← hzl] at this
              exact this) (by rw [mtL_app (mtL_len hqa), hqa, hrest]; rfl)
            exact sp_back hx hal.symm hxm (sp_len hM hz)
/-- What a witness matches no row matches. -/
theorem wi_none {d : List Dt} : ∀ (k : Nat) (ts : List Int) (l : List (List Pt)) (w : List Pt) (vs : List Vl), tyL d ts vs → fitM d ts l → wiS d k ts l = some w → mtL w vs = true → ∀ x, x ∈ l → mtL x vs = false
  | 0, _, _, _, _, _, _, h, _ => by cases h
  | k + 1, [], l, w, vs, _, _, h, _ => by
    simp only [wiS] at h
    split at h
    · rename_i h0
      intro x hx
      have := List.length_pos_of_mem hx
      omega
    · cases h
  | k + 1, t :: ts, l, w, [], hT, _, _, _ => by simp [tyL] at hT
  | k + 1, t :: ts, l, w, .mk num con av :: vs, hT, hM, h, hm => by
    rw [tyL, tyV] at hT
    obtain ⟨hv, hvs⟩ := hT
    intro x hx
    refine Bool.eq_false_iff.2 fun hxm => ?_
    cases x with
    | nil => simp [mtL] at hxm
    | cons q s =>
      obtain ⟨kq, cq, mq, qq⟩ := q
      rw [mtL, mtP, Bool.and_eq_true] at hxm
      have hf := hM _ hx
      simp only [fitR, Bool.and_eq_true] at hf
      simp only [wiS] at h
      split at h
      · rename_i hc
        simp only [Option.map_eq_some_iff] at h
        obtain ⟨w', hw', rfl⟩ := h
        rw [mtL, Bool.and_eq_true] at hm
        rcases fits_cases hf.1 with ⟨k0, _⟩ | ⟨k2, t0, _⟩ | ⟨k1, t0, _, i, z, rfl, hz, _⟩
        · have hin : s ∈ restS wildP l := List.mem_filterMap.2 ⟨_, hx, by simp [restF, wildP, kdP_mk, k0]⟩
          have := wi_none k ts _ w' vs hvs (restS_fit wildP hM) hw' hm.2 s hin
          rw [hxm.2] at this; cases this
        · subst k2; subst t0
          rw [if_neg (by decide), if_pos rfl, decide_eq_true_eq] at hxm
          have hin : mq ∈ numsS l := (numsS_mem _ _).2 ⟨_, s, hx, rfl, rfl⟩
          have hA := consS_len0 hM
          have hN : 0 < (numsS l).length := List.length_pos_of_mem hin
          have h1 := hm.1
          unfold missS at h1
          rw [if_neg (by omega), if_pos hN, mtP, if_neg (by decide), if_pos rfl, decide_eq_true_eq] at h1
          have := (missN_spec (numsS l)).1
          rw [← h1, hxm.1] at this
          exact this hin
        · subst k1
          rw [if_neg (by decide), if_neg (by decide), if_pos rfl, Bool.and_eq_true, decide_eq_true_eq] at hxm
          have hin : (i : Int) ∈ consS l := (consS_mem _ _).2 ⟨_, s, hx, rfl, rfl⟩
          have hA : 0 < (consS l).length := List.length_pos_of_mem hin
          have h1 := hm.1
          unfold missS at h1
          rw [if_pos hA, mtP, if_neg (by decide), if_neg (by decide), if_pos rfl, Bool.and_eq_true, decide_eq_true_eq] at h1
          have := (missN_spec (consS l)).1
          rw [← h1.1, hxm.1.1] at this
          exact this hin
      · rename_i hc
        have ht : t ≠ 0 := fun e => hc (.inl e)
        obtain ⟨i, _, hw⟩ := List.exists_of_findSome?_eq_some h
        simp only [Option.map_eq_some_iff] at hw
        obtain ⟨w', hw', rfl⟩ := hw
        unfold wfS at hm
        rw [mtL, mtP, Bool.and_eq_true, if_neg (by decide), if_neg (by decide), if_pos rfl, Bool.and_eq_true, decide_eq_true_eq] at hm
        obtain ⟨⟨hcon, hm1⟩, hm2⟩ := hm
        subst hcon
        rw [if_neg ht] at hv
        obtain ⟨j, z, e, hz, hty⟩ := hv
        have : j = i := by omega
        subst this
        have hfz : fldsOf d t j = z.flds := by unfold fldsOf; rw [hz]
        have hal := tyL_len hty
        have hM' := spS_fit j hM
        rw [hfz] at hM' hw' hm1 hm2
        have hmw : mtL w' (av ++ vs) = true := by
          have := mtL_app (av := w'.take z.flds.length) (bs := w'.drop z.flds.length) (xs := av) (ys := vs) (mtL_len hm1)
          rw [List.take_append_drop] at this
          rw [this, hm1, hm2]; rfl
        have ih := wi_none k _ _ w' (av ++ vs) (tyL_app hty hvs) hM' hw' hmw
        rcases fits_cases hf.1 with ⟨k0, _⟩ | ⟨k2, t0, _⟩ | ⟨k1, t0, _, i', z', e', hz', hl', _⟩
        · have hin : List.replicate z.flds.length wildT ++ s ∈ spS (j : Int) z.flds.length l := List.mem_filterMap.2 ⟨_, hx, by simp [spF, k0]⟩
          have := ih _ hin
          rw [mtL_app (by simp [hal]), ← hal, mtL_wild, hxm.2] at this
          cases this
        · exact ht t0
        · subst k1
          rw [if_neg (by decide), if_neg (by decide), if_pos rfl, Bool.and_eq_true, decide_eq_true_eq] at hxm
          obtain ⟨⟨hc1, hq1⟩, hs1⟩ := hxm
          have hin : qq ++ s ∈ spS (j : Int) z.flds.length l := List.mem_filterMap.2 ⟨_, hx, by simp [spF, hc1]⟩
          have := ih _ hin
          rw [mtL_app (mtL_len hq1), hq1, hs1] at this
          cases this
end Zc27
end
section
set_option linter.unusedSimpArgs false
set_option linter.unusedVariables false
set_option linter.unusedSimpArgs false
set_option maxHeartbeats 4000000
namespace Zc27
open Go Zv Zs

def LsOk (d : List Dt) (k : Nat) : Prop := ∀ ts : List Int, (∀ t, t ∈ ts → isT d t = true) → ts.length ≤ 8 → ∀ h, ∃ ls : List (List Vl), callW tab 86 [.d (eDs d), .d (eIs ts), .d (.int .i64 (k : Int)), .d (.int .i64 24)] h = some (.d (.lst (ls.map eVs)), h) ∧ ls.length ≤ 24 ∧ ∀ x, x ∈ ls → tyL d ts x
def ExOk (d : List Dt) (k : Nat) : Prop := ∀ t : Int, isT d t = true → ∀ h, ∃ l : List Vl, callW tab 61 [.d (eDs d), .d (eI t), .d (.int .i64 (k : Int)), .d (.int .i64 24)] h = some (.d (eVs l), h) ∧ l.length ≤ 24 ∧ ∀ v, v ∈ l → tyV d t v
theorem norm_v0 (m c : Int) (nl : Option Bool) : norm (.agg [.d (.int .i64 m), .d (.int .i64 c), .tl [] nl]) = .d (eV (.mk m c [])) := by rw [eV_mk]; rfl
theorem mk_v (a b : D) (l : List V) (nl : Option Bool) : mkAgg [.d a, .d b, .tl l nl] = .agg [.d a, .d b, .tl l nl] := rfl
theorem finS_tld2 (h : Hp) (x y : D) (nl : Option Bool) : finS h h [.tl [.d x, .d y] nl] = some (.d (.lst [x, y]), h) := by
  unfold finS; rw [if_pos (suf_refl _)]; rfl
theorem finS_tld1 (h : Hp) (x : D) (nl : Option Bool) : finS h h [.tl [.d x] nl] = some (.d (.lst [x]), h) := by
  unfold finS; rw [if_pos (suf_refl _)]; rfl
theorem vcells {l : List Vl} : ∀ y, y ∈ l.map eV → y.cells.length = 3 := by
  intro y hy
  obtain ⟨p, _, rfl⟩ := List.mem_map.1 hy
  exact eV_cells p
theorem lcells {l : List (List Vl)} : ∀ y, y ∈ l.map eVs → y.cells.length = 1 := by
  intro y hy
  obtain ⟨p, _, rfl⟩ := List.mem_map.1 hy
  rfl
/-- A row that is being built. -/
structure RS (h : Hp) (es : Nat) (s : List D) (m q : Nat) : Prop where
  m : s ≠ [] → h.next ≤ m ∧ m < q
  q : h.next ≤ q
theorem RS.snoc {h : Hp} {es m q : Nat} {s : List D} (R : RS h es s m q) (x : D) (q' : Nat) (hq : q ≤ q') : RS h es (s ++ [x]) (nmQ s m q') (nqQ s q') := by
  have h1 := nmQ_lt (s := s) (m := m) (q := q') (fun h => by have := (R.m h).2; omega)
  have h2 := nqQ_le s q'
  have := R.q
  refine ⟨fun _ => ⟨?_, h1⟩, by omega⟩
  unfold nmQ
  split
  · omega
  · rename_i h; exact (R.m h).1
theorem RS.up {h : Hp} {es m q q' : Nat} {s : List D} (R : RS h es s m q) (hq : q ≤ q') : RS h es s m q' := ⟨fun h => by have := R.m h; omega, by have := R.q; omega⟩
theorem lenL_rowV (m es : Nat) (s : List Vl) : lenL (rowN m es (s.map eV)) = some (.d (.int .i64 (s.length : Int))) := by rw [lenL_rowN, List.length_map]
theorem lenL_rowL (m es : Nat) (s : List (List Vl)) : lenL (rowN m es (s.map eVs)) = some (.d (.int .i64 (s.length : Int))) := by rw [lenL_rowN, List.length_map]
theorem eV_agg (c : Int) (l : List Vl) : D.agg [.int .i64 0, .int .i64 c, .lst (l.map eV)] = eV (.mk 0 c l) := (eV_mk ..).symm
theorem iaL {l : List (List Vl)} {n : Nat} {x : List Vl} (hx : l[n]? = some x) : ia 1 (.d (.lst (l.map eVs))) (.d (.int .i64 (n : Int))) = some (.fp (eVs x) 0) := ia_map (f := eVs) .i64 hx rfl
section
variable {d : List Dt} {n : Nat} {y : Dt} (hy : d[n]? = some y)
include hy
theorem ex_inner (k : Int) (ls : List (List Vl)) (hl : ls.length ≤ 24) {c : Nat} {z : Cn} (hz : y.cons[c]? = some z) (hty : ∀ x, x ∈ ls → tyL d z.flds x) (h : Hp) (s : List Vl) (hs : s.length ≤ 24) (hst : ∀ v, v ∈ s → tyV d ((n : Int) + 1) v) (m q : Nat) (R : RS h 3 (s.map eV) m q) :
    wp tab (.loop f61l0) [(0, .d (eDs d)), (1, .d (.int .i64 ((n : Int) + 1))), (2, .d (.int .i64 k)), (3, .d (.int .i64 24)), (9, rowN m 3 (s.map eV)), (10, .d (.int .i64 (c : Int))), (12, .d (.lst (ls.map eVs))), (13, .d (.int .i64 0))] (rowQ h m 3 (s.map eV) q)
      (fun o => ∃ (s' : List Vl) (m' q' j : Nat), s'.length ≤ 24 ∧ (∀ v, v ∈ s' → tyV d ((n : Int) + 1) v) ∧ RS h 3 (s'.map eV) m' q' ∧ o = (.exit 2, [(0, .d (eDs d)), (1, .d (.int .i64 ((n : Int) + 1))), (2, .d (.int .i64 k)), (3, .d (.int .i64 24)), (9, rowN m' 3 (s'.map eV)), (10, .d (.int .i64 (c : Int))), (12, .d (.lst (ls.map eVs))), (13, .d (.int .i64 (j : Int))), (75, .d (.bool false))], rowQ h m' 3 (s'.map eV) q')) := by
  refine loop_wp ls.length (fun j e h' => ∃ (s' : List Vl) (m' q' : Nat), s'.length ≤ 24 ∧ (∀ v, v ∈ s' → tyV d ((n : Int) + 1) v) ∧ RS h 3 (s'.map eV) m' q' ∧ e = [(0, .d (eDs d)), (1, .d (.int .i64 ((n : Int) + 1))), (2, .d (.int .i64 k)), (3, .d (.int .i64 24)), (9, rowN m' 3 (s'.map eV)), (10, .d (.int .i64 (c : Int))), (12, .d (.lst (ls.map eVs))), (13, .d (.int .i64 (j : Int)))] ∧ h' = rowQ h m' 3 (s'.map eV) q') _ ?_ ?_ ls.length 0 _ _ (by omega) ⟨s, m, q, hs, hst, R, rfl, rfl⟩
  · rintro j e h' hj ⟨s', m', q', h1, h2, h3, rfl, rfl⟩
    obtain ⟨x, hx⟩ := get_of_lt hj
    by_cases h24 : (s'.length : Int) < 24
    · have happ := fun q => rowQ_app h (m := m') (es := 3) (b := 40) (q := q) (s := s'.map eV) (x := eV (.mk 0 (c : Int) x)) (nl := some false) (eV_cells _) (by simp only [List.length_map, roomB]; omega) vcells
      (simp only [e61, lenL_rowV, h24, hj, iaL hx, eV_agg, vls, happ, rowQ_next, rowQ_mk, wrap_succ (show j < 2 ^ 62 by omega), wz, opX, intBin, ↓reduceIte, simprocAttr] <;> repeat' (first | refine wpG_s ?_ ?_ | refine wpC_s ?_ ?_) <;> intro hgo <;> (try simp only [dq] at hgo) <;> simp only [hgo, e61, lenL_rowV, h24, hj, iaL hx, eV_agg, vls, happ, rowQ_next, rowQ_mk, wrap_succ (show j < 2 ^ 62 by omega), wz, opX, intBin, ↓reduceIte, simprocAttr])
      refine ⟨s' ++ [.mk 0 (c : Int) x], nmQ (s'.map eV) m' q', nqQ (s'.map eV) q', by simp; omega, ?_, ?_, ?_⟩
      · intro v hv
        rcases List.mem_append.1 hv with hv | hv
        · exact h2 v hv
        · rw [List.mem_singleton.1 hv, tyV, if_neg (by omega)]
          exact ⟨c, z, rfl, by rw [consOf_at hy]; exact hz, hty x (List.mem_of_getElem? hx)⟩
      · rw [List.map_append]; exact h3.snoc _ q' (Nat.le_refl _)
      · simp only [List.map_append, List.map_cons, List.map_nil, and_self]
    · (simp only [e61, lenL_rowV, h24, hj, wz, opX, intBin, ↓reduceIte, simprocAttr] <;> repeat' (first | refine wpG_s ?_ ?_ | refine wpC_s ?_ ?_) <;> intro hgo <;> (try simp only [dq] at hgo) <;> simp only [hgo, e61, lenL_rowV, h24, hj, wz, opX, intBin, ↓reduceIte, simprocAttr])
      refine ⟨s', m', q', j, h1, h2, h3, ?_⟩
      first | rfl | exact ⟨rfl, rfl⟩ | exact ⟨rfl, rfl, rfl⟩
  · rintro e h' ⟨s', m', q', h1, h2, h3, rfl, rfl⟩
    (simp only [e61, lenL_rowV, wz, opX, intBin, ↓reduceIte, simprocAttr] <;> repeat' (first | refine wpG_s ?_ ?_ | refine wpC_s ?_ ?_) <;> intro hgo <;> (try simp only [dq] at hgo) <;> simp only [hgo, e61, lenL_rowV, wz, opX, intBin, ↓reduceIte, simprocAttr])
    refine ⟨s', m', q', ls.length, h1, h2, h3, ?_⟩
    first | rfl | exact ⟨rfl, rfl⟩ | exact ⟨rfl, rfl, rfl⟩
end
theorem exactly_ok {d : List Dt} (S : Sml d) (T : typedS d = true) {k : Nat} (hk : k ≤ 3) (HL : ∀ j, k = j + 1 → LsOk d j) : ExOk d k := by
  intro t hT h
  obtain ⟨kI, hkI⟩ : ∃ kI : Int, kI = (k : Int) := ⟨_, rfl⟩
  rw [← hkI]
  by_cases ht : t = 0
  · subst ht
    by_cases h0 : kI = 0
    · refine ⟨[.mk 0 0 [], .mk 1 0 []], ?_, by simp, ?_⟩
      · refine call_wp (fn := f61) rfl rfl ?_
        (simp only [e61, ibeq, h0, mk_v, norm_v0, finS_tld2, wz, opX, intBin, ↓reduceIte, simprocAttr] <;> repeat' (first | refine wpG_s ?_ ?_ | refine wpC_s ?_ ?_) <;> intro hgo <;> (try simp only [dq] at hgo) <;> simp only [hgo, e61, ibeq, h0, mk_v, norm_v0, finS_tld2, wz, opX, intBin, ↓reduceIte, simprocAttr])
      · intro v hv
        rcases List.mem_cons.1 hv with rfl | hv
        · rw [tyV, if_pos rfl]; trivial
        · rw [List.mem_singleton.1 hv, tyV, if_pos rfl]; trivial
    · refine ⟨[], ?_, by simp, by simp⟩
      refine call_wp (fn := f61) rfl rfl ?_
      (simp only [e61, ibeq, h0, wz, opX, intBin, ↓reduceIte, simprocAttr] <;> repeat' (first | refine wpG_s ?_ ?_ | refine wpC_s ?_ ?_) <;> intro hgo <;> (try simp only [dq] at hgo) <;> simp only [hgo, e61, ibeq, h0, wz, opX, intBin, ↓reduceIte, simprocAttr])
  · rcases tcase d t with h0 | h0 | ⟨n, y, rfl, hy⟩
    · exfalso; simp only [isT, Bool.and_eq_true, decide_eq_true_eq] at hT; omega
    · exfalso; simp only [isT, Bool.and_eq_true, decide_eq_true_eq] at hT; omega
    have hn := (List.getElem?_eq_some_iff.1 hy).1
    have hsl := S.len
    have hw := wrap_sub1 (n := n) (by omega)
    have hcs := cons_sm S ((n : Int) + 1)
    rw [consOf_at hy] at hcs
    obtain ⟨r, hr, l, rfl, h2, h3⟩ : ∃ r, callW tab 61 [.d (eDs d), .d (eI ((n : Int) + 1)), .d (.int .i64 kI), .d (.int .i64 24)] h = some r ∧ ∃ l : List Vl, r = (.d (eVs l), h) ∧ l.length ≤ 24 ∧ ∀ v, v ∈ l → tyV d ((n : Int) + 1) v := by
      refine call_wpE (fn := f61) rfl rfl ?_
      (simp only [e61, ibeq, ht, wz, opX, intBin, ↓reduceIte, simprocAttr] <;> repeat' (first | refine wpG_s ?_ ?_ | refine wpC_s ?_ ?_) <;> intro hgo <;> (try simp only [dq] at hgo) <;> simp only [hgo, e61, ibeq, ht, wz, opX, intBin, ↓reduceIte, simprocAttr])
      refine loop_wp y.cons.length (fun c e h' => ∃ (s : List Vl) (m q : Nat), s.length ≤ 24 ∧ (∀ v, v ∈ s → tyV d ((n : Int) + 1) v) ∧ RS h 3 (s.map eV) m q ∧ e = [(0, .d (eDs d)), (1, .d (.int .i64 ((n : Int) + 1))), (2, .d (.int .i64 kI)), (3, .d (.int .i64 24)), (9, rowN m 3 (s.map eV)), (10, .d (.int .i64 (c : Int)))] ∧ h' = rowQ h m 3 (s.map eV) q) _ ?_ ?_ y.cons.length 0 _ _ (by omega) ⟨[], 0, h.next, by simp, by simp, ⟨by simp, Nat.le_refl _⟩, rfl, rfl⟩
      · rintro c e h' hc ⟨s, m, q, h1, h2, h3, rfl, rfl⟩
        obtain ⟨z, hz⟩ := get_of_lt hc
        have hz8 := hcs.2 z (List.mem_of_getElem? hz)
        have hfin := finS_rowQ (h := h) (m := m) (es := 3) (s := s.map eV) (q := q) (fun e => (h3.m e).1)
        by_cases h24 : (s.length : Int) < 24
        · have hwc := wrap_succ (show c < 2 ^ 62 by omega)
          by_cases hf : z.flds.length = 0
          · have hf' : ((z.flds.length : Int) == 0) = true := by rw [ibeq]; exact decide_eq_true (by omega)
            by_cases h0 : kI = 0
            · have happ := fun q => rowQ_app h (m := m) (es := 3) (b := 40) (q := q) (s := s.map eV) (x := eV (.mk 0 (c : Int) [])) (nl := some false) (eV_cells _) (by simp only [List.length_map, roomB]; omega) vcells
              (simp only [e61, hw, iaD hy, iaC hz, lenL_rowV, h24, hc, hf', ibeq, h0, mk_v, norm_v0, vls, happ, rowQ_next, rowQ_mk, hwc, wz, opX, intBin, ↓reduceIte, simprocAttr] <;> repeat' (first | refine wpG_s ?_ ?_ | refine wpC_s ?_ ?_) <;> intro hgo <;> (try simp only [dq] at hgo) <;> simp only [hgo, e61, hw, iaD hy, iaC hz, lenL_rowV, h24, hc, hf', ibeq, h0, mk_v, norm_v0, vls, happ, rowQ_next, rowQ_mk, hwc, wz, opX, intBin, ↓reduceIte, simprocAttr])
              refine ⟨s ++ [.mk 0 (c : Int) []], nmQ (s.map eV) m q, nqQ (s.map eV) q, by simp; omega, ?_, ?_, ?_⟩
              · intro v hv
                rcases List.mem_append.1 hv with hv | hv
                · exact h2 v hv
                · rw [List.mem_singleton.1 hv, tyV, if_neg (by omega)]
                  have : z.flds = [] := List.eq_nil_of_length_eq_zero hf
                  exact ⟨c, z, rfl, by rw [consOf_at hy]; exact hz, by rw [this, tyL]; trivial⟩
              · rw [List.map_append]; exact h3.snoc _ q (Nat.le_refl _)
              · simp only [List.map_append, List.map_cons, List.map_nil, and_self]
            · (simp only [e61, hw, iaD hy, iaC hz, lenL_rowV, h24, hc, hf', ibeq, h0, hwc, wz, opX, intBin, ↓reduceIte, simprocAttr] <;> repeat' (first | refine wpG_s ?_ ?_ | refine wpC_s ?_ ?_) <;> intro hgo <;> (try simp only [dq] at hgo) <;> simp only [hgo, e61, hw, iaD hy, iaC hz, lenL_rowV, h24, hc, hf', ibeq, h0, hwc, wz, opX, intBin, ↓reduceIte, simprocAttr])
              exact ⟨s, m, q, h1, h2, h3, rfl, rfl⟩
          · have hf' : ((z.flds.length : Int) == 0) = false := by rw [ibeq]; exact decide_eq_false (by omega)
            by_cases h0 : kI = 0
            · (simp only [e61, hw, iaD hy, iaC hz, lenL_rowV, h24, hc, hf', ibeq, h0, hwc, wz, opX, intBin, ↓reduceIte, simprocAttr] <;> repeat' (first | refine wpG_s ?_ ?_ | refine wpC_s ?_ ?_) <;> intro hgo <;> (try simp only [dq] at hgo) <;> simp only [hgo, e61, hw, iaD hy, iaC hz, lenL_rowV, h24, hc, hf', ibeq, h0, hwc, wz, opX, intBin, ↓reduceIte, simprocAttr])
              exact ⟨s, m, q, h1, h2, h3, rfl, rfl⟩
            · obtain ⟨j, rfl⟩ : ∃ j, k = j + 1 := ⟨k - 1, by omega⟩
              have hk1 : IntKind.i64.wrap (kI - 1) = (j : Int) := by rw [wrap_ok (by omega) (by omega)]; omega
              obtain ⟨ls, hls, hl24, hlt⟩ := HL j rfl z.flds (fun f hf => fld_isT27 T (t := (n : Int) + 1) (by rw [consOf_at hy]; exact List.mem_of_getElem? hz) hf) hz8 (rowQ h m 3 (s.map eV) q)
              (simp only [e61, hw, iaD hy, iaC hz, lenL_rowV, h24, hc, hf', ibeq, h0, hk1, hls, wz, opX, intBin, ↓reduceIte, simprocAttr] <;> repeat' (first | refine wpG_s ?_ ?_ | refine wpC_s ?_ ?_) <;> intro hgo <;> (try simp only [dq] at hgo) <;> simp only [hgo, e61, hw, iaD hy, iaC hz, lenL_rowV, h24, hc, hf', ibeq, h0, hk1, hls, wz, opX, intBin, ↓reduceIte, simprocAttr])
              refine wq_mono (ex_inner hy kI ls hl24 hz hlt h s h1 h2 m q h3) ?_
              rintro o ⟨s', m', q', j', g1, g2, g3, rfl⟩
              (simp only [e61, hwc, wz, opX, intBin, ↓reduceIte, simprocAttr] <;> repeat' (first | refine wpG_s ?_ ?_ | refine wpC_s ?_ ?_) <;> intro hgo <;> (try simp only [dq] at hgo) <;> simp only [hgo, e61, hwc, wz, opX, intBin, ↓reduceIte, simprocAttr])
              exact ⟨s', m', q', g1, g2, g3, rfl, rfl⟩
        · (simp only [e61, hw, iaD hy, lenL_rowV, h24, hc, hfin, wz, opX, intBin, ↓reduceIte, simprocAttr] <;> repeat' (first | refine wpG_s ?_ ?_ | refine wpC_s ?_ ?_) <;> intro hgo <;> (try simp only [dq] at hgo) <;> simp only [hgo, e61, hw, iaD hy, lenL_rowV, h24, hc, hfin, wz, opX, intBin, ↓reduceIte, simprocAttr])
          exact ⟨_, rfl, s, rfl, h1, h2⟩
      · rintro e h' ⟨s, m, q, h1, h2, h3, rfl, rfl⟩
        have hfin := finS_rowQ (h := h) (m := m) (es := 3) (s := s.map eV) (q := q) (fun e => (h3.m e).1)
        (simp only [e61, hw, iaD hy, lenL_rowV, hfin, wz, opX, intBin, ↓reduceIte, simprocAttr] <;> repeat' (first | refine wpG_s ?_ ?_ | refine wpC_s ?_ ?_) <;> intro hgo <;> (try simp only [dq] at hgo) <;> simp only [hgo, e61, hw, iaD hy, lenL_rowV, hfin, wz, opX, intBin, ↓reduceIte, simprocAttr])
        exact ⟨_, rfl, s, rfl, h1, h2⟩
    exact ⟨l, hr, h2, h3⟩
/-- One element ahead of others. -/
theorem app_oneD {es b : Nat} (x : D) (hx : x.cells.length = es) (l : List D) (hlc : ∀ y, y ∈ l → y.cells.length = es) (nl : Option Bool) (h : Hp) (hl : (1 + l.length) * b ≤ roomB) : ((app es b h (.tl [.d x] nl) (.d (.lst l))).bind fun r => Zv.frz r.2 r.1) = some (.d (.lst (x :: l)), ⟨h.objs, if l = [] then h.next else h.next + 1⟩) := by
  by_cases h0 : l = []
  · subst h0; rfl
  · have h1 : (l.map V.d).isEmpty = false := by cases l with | nil => exact absurd rfl h0 | cons => rfl
    unfold app
    simp only [elems, Option.bind_some, norm_map_d, allV_d hlc, if_true, h1, Bool.false_eq_true, if_false, List.length_cons, List.length_nil, List.length_map]
    rw [if_pos ⟨by simpa using hl, by simp [Zv.allV, V.cells, hx]⟩]
    simp only [Option.bind_some, if_neg h0]
    have hrow : (h.alloc (.arr es ([V.d x] ++ l.map V.d))).row h.next (0 + 1 + l.length) = some (es, (x :: l).map V.d) := by
      rw [alloc_eq, row_cons]; simp; omega
    simp only [Zv.frz, hrow, Option.bind_some]
    rw [if_pos (by simp; omega), List.drop_zero, List.take_of_length_le (by simp; omega), toDs_map]
    simp [Hp.kill, Hp.alloc, del]
section
variable {d : List Dt} {t : Int} {ts : List Int}
theorem ls_in0 (kI : Int) (j : Int) (fi re : D) (fl : List Vl) (rl : List (List Vl)) (hfi : fi = eVs fl) (hre : re = .lst (rl.map eVs)) {i : Nat} {v : Vl} (hv : fl[i]? = some v) (hty : tyV d t v) (hrt : ∀ x, x ∈ rl → tyL d ts x) (hts : ts.length ≤ 8) (hrl : rl.length ≤ 24) (h : Hp) (s : List (List Vl)) (hs : s.length ≤ 24) (hst : ∀ x, x ∈ s → tyL d (t :: ts) x) (m q : Nat) (R : RS h 1 (s.map eVs) m q) (a0 a1 : V) :
    wp tab (.loop f86l0) [(0, a0), (1, a1), (2, .d (.int .i64 kI)), (3, .d (.int .i64 24)), (9, rowN m 1 (s.map eVs)), (10, .d (.int .i64 j)), (11, .d fi), (12, .d re), (13, .d (.int .i64 (i : Int))), (14, .d (.int .i64 0))] (rowQ h m 1 (s.map eVs) q)
      (fun o => ∃ (s' : List (List Vl)) (m' q' n : Nat), s'.length ≤ 24 ∧ (∀ x, x ∈ s' → tyL d (t :: ts) x) ∧ RS h 1 (s'.map eVs) m' q' ∧ o = (.exit 4, [(0, a0), (1, a1), (2, .d (.int .i64 kI)), (3, .d (.int .i64 24)), (9, rowN m' 1 (s'.map eVs)), (10, .d (.int .i64 j)), (11, .d fi), (12, .d re), (13, .d (.int .i64 (i : Int))), (14, .d (.int .i64 (n : Int))), (65, .d (.bool false))], rowQ h m' 1 (s'.map eVs) q')) := by
  subst hfi; subst hre
  refine loop_wp rl.length (fun n e h' => ∃ (s' : List (List Vl)) (m' q' : Nat), s'.length ≤ 24 ∧ (∀ x, x ∈ s' → tyL d (t :: ts) x) ∧ RS h 1 (s'.map eVs) m' q' ∧ e = [(0, a0), (1, a1), (2, .d (.int .i64 kI)), (3, .d (.int .i64 24)), (9, rowN m' 1 (s'.map eVs)), (10, .d (.int .i64 j)), (11, .d (eVs fl)), (12, .d (.lst (rl.map eVs))), (13, .d (.int .i64 (i : Int))), (14, .d (.int .i64 (n : Int)))] ∧ h' = rowQ h m' 1 (s'.map eVs) q') _ ?_ ?_ rl.length 0 _ _ (by omega) ⟨s, m, q, hs, hst, R, rfl, rfl⟩
  · rintro n e h' hn ⟨s', m', q', h1, h2, h3, rfl, rfl⟩
    obtain ⟨x, hx⟩ := get_of_lt hn
    have hxt := hrt x (List.mem_of_getElem? hx)
    have hxl := tyL_len hxt
    by_cases h24 : (s'.length : Int) < 24
    · have hone := fun h => app_oneD (es := 3) (b := 40) (eV v) (eV_cells v) (x.map eV) vcells (some false) h (by simp only [List.length_map, roomB]; omega)
      have happ := fun q => rowQ_app h (m := m') (es := 1) (b := 24) (q := q) (s := s'.map eVs) (x := .lst (eV v :: x.map eV)) (nl := some false) rfl (by simp only [List.length_map, roomB]; omega) lcells
      (simp only [e86, lenL_rowL, h24, hn, iaV hv, iaL hx, vls, hone, happ, rowQ_next, rowQ_mk, wrap_succ (show n < 2 ^ 62 by omega), wz, opX, intBin, ↓reduceIte, simprocAttr] <;> repeat' (first | refine wpG_s ?_ ?_ | refine wpC_s ?_ ?_) <;> intro hgo <;> (try simp only [dq] at hgo) <;> simp only [hgo, e86, lenL_rowL, h24, hn, iaV hv, iaL hx, vls, hone, happ, rowQ_next, rowQ_mk, wrap_succ (show n < 2 ^ 62 by omega), wz, opX, intBin, ↓reduceIte, simprocAttr])
      refine ⟨s' ++ [v :: x], nmQ (s'.map eVs) m' (if x.map eV = [] then q' else q' + 1), nqQ (s'.map eVs) (if x.map eV = [] then q' else q' + 1), by simp; omega, ?_, ?_, ?_⟩
      · intro w hw
        rcases List.mem_append.1 hw with hw | hw
        · exact h2 w hw
        · rw [List.mem_singleton.1 hw, tyL]
          exact ⟨hty, hxt⟩
      · rw [List.map_append]; exact h3.snoc _ _ (by split <;> omega)
      · simp only [List.map_append, List.map_cons, List.map_nil]
        exact ⟨rfl, rfl⟩
    · (simp only [e86, lenL_rowL, h24, hn, wz, opX, intBin, ↓reduceIte, simprocAttr] <;> repeat' (first | refine wpG_s ?_ ?_ | refine wpC_s ?_ ?_) <;> intro hgo <;> (try simp only [dq] at hgo) <;> simp only [hgo, e86, lenL_rowL, h24, hn, wz, opX, intBin, ↓reduceIte, simprocAttr])
      refine ⟨s', m', q', n, h1, h2, h3, ?_⟩
      first | rfl | exact ⟨rfl, rfl⟩ | exact ⟨rfl, rfl, rfl⟩
  · rintro e h' ⟨s', m', q', h1, h2, h3, rfl, rfl⟩
    (simp only [e86, lenL_rowL, wz, opX, intBin, ↓reduceIte, simprocAttr] <;> repeat' (first | refine wpG_s ?_ ?_ | refine wpC_s ?_ ?_) <;> intro hgo <;> (try simp only [dq] at hgo) <;> simp only [hgo, e86, lenL_rowL, wz, opX, intBin, ↓reduceIte, simprocAttr])
    refine ⟨s', m', q', rl.length, h1, h2, h3, ?_⟩
    first | rfl | exact ⟨rfl, rfl⟩ | exact ⟨rfl, rfl, rfl⟩
theorem ls_in1 (kI : Int) (j : Int) (fl : List Vl) (rl : List (List Vl)) (hft : ∀ v, v ∈ fl → tyV d t v) (hrt : ∀ x, x ∈ rl → tyL d ts x) (hts : ts.length ≤ 8) (hfl : fl.length ≤ 24) (hrl : rl.length ≤ 24) (h : Hp) (s : List (List Vl)) (hs : s.length ≤ 24) (hst : ∀ x, x ∈ s → tyL d (t :: ts) x) (m q : Nat) (R : RS h 1 (s.map eVs) m q) (a0 a1 : V) :
    wp tab (.loop f86l1) [(0, a0), (1, a1), (2, .d (.int .i64 kI)), (3, .d (.int .i64 24)), (9, rowN m 1 (s.map eVs)), (10, .d (.int .i64 j)), (11, .d (eVs fl)), (12, .d (.lst (rl.map eVs))), (13, .d (.int .i64 0))] (rowQ h m 1 (s.map eVs) q)
      (fun o => ∃ (s' : List (List Vl)) (m' q' n : Nat), s'.length ≤ 24 ∧ (∀ x, x ∈ s' → tyL d (t :: ts) x) ∧ RS h 1 (s'.map eVs) m' q' ∧ o = (.exit 2, [(0, a0), (1, a1), (2, .d (.int .i64 kI)), (3, .d (.int .i64 24)), (9, rowN m' 1 (s'.map eVs)), (10, .d (.int .i64 j)), (11, .d (eVs fl)), (12, .d (.lst (rl.map eVs))), (13, .d (.int .i64 (n : Int))), (53, .d (.bool false))], rowQ h m' 1 (s'.map eVs) q')) := by
  refine loop_wp fl.length (fun n e h' => ∃ (s' : List (List Vl)) (m' q' : Nat), s'.length ≤ 24 ∧ (∀ x, x ∈ s' → tyL d (t :: ts) x) ∧ RS h 1 (s'.map eVs) m' q' ∧ e = [(0, a0), (1, a1), (2, .d (.int .i64 kI)), (3, .d (.int .i64 24)), (9, rowN m' 1 (s'.map eVs)), (10, .d (.int .i64 j)), (11, .d (eVs fl)), (12, .d (.lst (rl.map eVs))), (13, .d (.int .i64 (n : Int)))] ∧ h' = rowQ h m' 1 (s'.map eVs) q') _ ?_ ?_ fl.length 0 _ _ (by omega) ⟨s, m, q, hs, hst, R, rfl, rfl⟩
  · rintro n e h' hn ⟨s', m', q', h1, h2, h3, rfl, rfl⟩
    obtain ⟨v, hv⟩ := get_of_lt hn
    (simp only [e86, hn, wz, opX, intBin, ↓reduceIte, simprocAttr] <;> repeat' (first | refine wpG_s ?_ ?_ | refine wpC_s ?_ ?_) <;> intro hgo <;> (try simp only [dq] at hgo) <;> simp only [hgo, e86, hn, wz, opX, intBin, ↓reduceIte, simprocAttr])
    refine wq_mono (ls_in0 kI j _ _ fl rl rfl rfl hv (hft v (List.mem_of_getElem? hv)) hrt hts hrl h s' h1 h2 m' q' h3 a0 a1) ?_
    rintro o ⟨s2, m2, q2, j2, g1, g2, g3, rfl⟩
    (simp only [e86, wrap_succ (show n < 2 ^ 62 by omega), wz, opX, intBin, ↓reduceIte, simprocAttr] <;> repeat' (first | refine wpG_s ?_ ?_ | refine wpC_s ?_ ?_) <;> intro hgo <;> (try simp only [dq] at hgo) <;> simp only [hgo, e86, wrap_succ (show n < 2 ^ 62 by omega), wz, opX, intBin, ↓reduceIte, simprocAttr])
    exact ⟨s2, m2, q2, g1, g2, g3, rfl, rfl⟩
  · rintro e h' ⟨s', m', q', h1, h2, h3, rfl, rfl⟩
    (simp only [e86, wz, opX, intBin, ↓reduceIte, simprocAttr] <;> repeat' (first | refine wpG_s ?_ ?_ | refine wpC_s ?_ ?_) <;> intro hgo <;> (try simp only [dq] at hgo) <;> simp only [hgo, e86, wz, opX, intBin, ↓reduceIte, simprocAttr])
    refine ⟨s', m', q', fl.length, h1, h2, h3, ?_⟩
    first | rfl | exact ⟨rfl, rfl⟩ | exact ⟨rfl, rfl, rfl⟩
end
theorem lists_ok {d : List Dt} {k : Nat} (hk : k ≤ 3) (HE : ∀ j, j ≤ k → ExOk d j) (HL : ∀ j, j < k → LsOk d j) : LsOk d k := by
  intro ts
  induction ts with
  | nil =>
    intro _ _ h
    by_cases h0 : k = 0
    · subst h0
      refine ⟨[[]], ?_, by simp, ?_⟩
      · refine call_wp (fn := f86) rfl rfl ?_
        (simp only [e86, norm_tl0, finS_tld1, wz, opX, intBin, ↓reduceIte, simprocAttr] <;> repeat' (first | refine wpG_s ?_ ?_ | refine wpC_s ?_ ?_) <;> intro hgo <;> (try simp only [dq] at hgo) <;> simp only [hgo, e86, norm_tl0, finS_tld1, wz, opX, intBin, ↓reduceIte, simprocAttr])
        rfl
      · intro x hx; rw [List.mem_singleton.1 hx, tyL]; trivial
    · refine ⟨[], ?_, by simp, by simp⟩
      have hk0 : ((k : Int) == 0) = false := by rw [ibeq]; exact decide_eq_false (by omega)
      refine call_wp (fn := f86) rfl rfl ?_
      (simp only [e86, hk0, wz, opX, intBin, ↓reduceIte, simprocAttr] <;> repeat' (first | refine wpG_s ?_ ?_ | refine wpC_s ?_ ?_) <;> intro hgo <;> (try simp only [dq] at hgo) <;> simp only [hgo, e86, hk0, wz, opX, intBin, ↓reduceIte, simprocAttr])
  | cons t ts ih =>
    intro hT hl h
    rw [List.length_cons] at hl
    have hTt := hT t List.mem_cons_self
    have hTs : ∀ f, f ∈ ts → isT d f = true := fun f hf => hT f (List.mem_cons_of_mem _ hf)
    have hne : (((ts.length + 1 : Nat) : Int) == 0) = false := by rw [ibeq]; exact decide_eq_false (by omega)
    have HL' : ∀ j, j ≤ k → ∀ h, ∃ ls : List (List Vl), callW tab 86 [.d (eDs d), .d (eIs ts), .d (.int .i64 (j : Int)), .d (.int .i64 24)] h = some (.d (.lst (ls.map eVs)), h) ∧ ls.length ≤ 24 ∧ ∀ x, x ∈ ls → tyL d ts x := by
      intro j hj h
      by_cases e : j = k
      · subst e; exact ih hTs (by omega) h
      · exact HL j (by omega) ts hTs (by omega) h
    obtain ⟨r, hr, l, rfl, h2, h3⟩ : ∃ r, callW tab 86 [.d (eDs d), .d (eIs (t :: ts)), .d (.int .i64 (k : Int)), .d (.int .i64 24)] h = some r ∧ ∃ l : List (List Vl), r = (.d (.lst (l.map eVs)), h) ∧ l.length ≤ 24 ∧ ∀ x, x ∈ l → tyL d (t :: ts) x := by
      refine call_wpE (fn := f86) rfl rfl ?_
      (simp only [e86, hne, wz, opX, intBin, ↓reduceIte, simprocAttr] <;> repeat' (first | refine wpG_s ?_ ?_ | refine wpC_s ?_ ?_) <;> intro hgo <;> (try simp only [dq] at hgo) <;> simp only [hgo, e86, hne, wz, opX, intBin, ↓reduceIte, simprocAttr])
      refine loop_wp (k + 1) (fun c e h' => ∃ (s : List (List Vl)) (m q : Nat), s.length ≤ 24 ∧ (∀ x, x ∈ s → tyL d (t :: ts) x) ∧ RS h 1 (s.map eVs) m q ∧ e = [(0, .d (eDs d)), (1, .d (eIs (t :: ts))), (2, .d (.int .i64 (k : Int))), (3, .d (.int .i64 24)), (9, rowN m 1 (s.map eVs)), (10, .d (.int .i64 (c : Int)))] ∧ h' = rowQ h m 1 (s.map eVs) q) _ ?_ ?_ (k + 1) 0 _ _ (by omega) ⟨[], 0, h.next, by simp, by simp, ⟨by simp, Nat.le_refl _⟩, rfl, rfl⟩
      · rintro c e h' hc ⟨s, m, q, h1, h2, h3, rfl, rfl⟩
        have hfin := finS_rowQ (h := h) (m := m) (es := 1) (s := s.map eVs) (q := q) (fun e => (h3.m e).1)
        have hck : (c : Int) ≤ (k : Int) := by omega
        by_cases h24 : (s.length : Int) < 24
        · have hwc := wrap_succ (show c < 2 ^ 62 by omega)
          obtain ⟨fl, hfl, hf24, hft⟩ := HE c (by omega) t hTt (rowQ h m 1 (s.map eVs) q)
          by_cases hf : fl.length = 0
          · have hf' : ((fl.length : Int) == 0) = true := by rw [ibeq]; exact decide_eq_true (by omega)
            (simp only [e86, lenL_rowL, h24, hck, iaI0, iaI0', hfl, hf', hwc, wz, opX, intBin, ↓reduceIte, simprocAttr] <;> repeat' (first | refine wpG_s ?_ ?_ | refine wpC_s ?_ ?_) <;> intro hgo <;> (try simp only [dq] at hgo) <;> simp only [hgo, e86, lenL_rowL, h24, hck, iaI0, iaI0', hfl, hf', hwc, wz, opX, intBin, ↓reduceIte, simprocAttr])
            exact ⟨s, m, q, h1, h2, h3, rfl, rfl⟩
          · have hf' : ((fl.length : Int) == 0) = false := by rw [ibeq]; exact decide_eq_false (by omega)
            obtain ⟨rl, hrl, hr24, hrt⟩ := HL' (k - c) (by omega) (rowQ h m 1 (s.map eVs) q)
            have hkc : IntKind.i64.wrap ((k : Int) - (c : Int)) = ((k - c : Nat) : Int) := by rw [wrap_ok (by omega) (by omega)]; omega
            (simp only [e86, lenL_rowL, h24, hck, iaI0, iaI0', slcT, slcT', hfl, hf', hkc, hrl, wz, opX, intBin, ↓reduceIte, simprocAttr] <;> repeat' (first | refine wpG_s ?_ ?_ | refine wpC_s ?_ ?_) <;> intro hgo <;> (try simp only [dq] at hgo) <;> simp only [hgo, e86, lenL_rowL, h24, hck, iaI0, iaI0', slcT, slcT', hfl, hf', hkc, hrl, wz, opX, intBin, ↓reduceIte, simprocAttr])
            refine wq_mono (ls_in1 (k : Int) (c : Int) fl rl hft hrt (by omega) hf24 hr24 h s h1 h2 m q h3 _ _) ?_
            rintro o ⟨s', m', q', j', g1, g2, g3, rfl⟩
            (simp only [e86, hwc, wz, opX, intBin, ↓reduceIte, simprocAttr] <;> repeat' (first | refine wpG_s ?_ ?_ | refine wpC_s ?_ ?_) <;> intro hgo <;> (try simp only [dq] at hgo) <;> simp only [hgo, e86, hwc, wz, opX, intBin, ↓reduceIte, simprocAttr])
            exact ⟨s', m', q', g1, g2, g3, rfl, rfl⟩
        · (simp only [e86, lenL_rowL, h24, hck, hfin, wz, opX, intBin, ↓reduceIte, simprocAttr] <;> repeat' (first | refine wpG_s ?_ ?_ | refine wpC_s ?_ ?_) <;> intro hgo <;> (try simp only [dq] at hgo) <;> simp only [hgo, e86, lenL_rowL, h24, hck, hfin, wz, opX, intBin, ↓reduceIte, simprocAttr])
          exact ⟨_, rfl, s, rfl, h1, h2⟩
      · rintro e h' ⟨s, m, q, h1, h2, h3, rfl, rfl⟩
        have hfin := finS_rowQ (h := h) (m := m) (es := 1) (s := s.map eVs) (q := q) (fun e => (h3.m e).1)
        have hck : ¬ (((k + 1 : Nat) : Int) ≤ (k : Int)) := by omega
        (simp only [e86, lenL_rowL, hck, hfin, wz, opX, intBin, ↓reduceIte, simprocAttr] <;> repeat' (first | refine wpG_s ?_ ?_ | refine wpC_s ?_ ?_) <;> intro hgo <;> (try simp only [dq] at hgo) <;> simp only [hgo, e86, lenL_rowL, hck, hfin, wz, opX, intBin, ↓reduceIte, simprocAttr])
        exact ⟨_, rfl, s, rfl, h1, h2⟩
    exact ⟨l, hr, h2, h3⟩
theorem both_ok {d : List Dt} (S : Sml d) (T : typedS d = true) : ∀ k, k ≤ 3 → ExOk d k ∧ LsOk d k := by
  intro k
  induction k using Nat.strongRecOn with
  | _ k ih =>
    intro hk
    have hE := exactly_ok S T hk (fun j hj => (ih j (by omega) (by omega)).2)
    refine ⟨hE, lists_ok hk (fun j hj => ?_) (fun j hj => (ih j hj (by omega)).2)⟩
    by_cases e : j = k
    · subst e; exact hE
    · exact (ih j (by omega) (by omega)).1
theorem table_ok {d : List Dt} (B : Bd d) (N : Nm d) (hc : checkS d = 0) {t : Int} (hT : isT d t = true) (h : Hp) : callW tab 60 [.d (eDs d), .d (eI t)] h = some (.d (eI 0), h) := by
  have hck := fun h => rcheck_ok B N h
  rw [hc] at hck
  simp only [isT, Bool.and_eq_true, decide_eq_true_eq] at hT
  have h1 : ¬ t < 0 := by omega
  have h2 : ¬ ((d.length : Int) < t) := by omega
  refine call_wp (fn := f60) rfl rfl ?_
  (simp only [e60, hck, ibne, h1, h2, wz, opX, intBin, ↓reduceIte, simprocAttr] <;> repeat' (first | refine wpG_s ?_ ?_ | refine wpC_s ?_ ?_) <;> intro hgo <;> (try simp only [dq] at hgo) <;> simp only [hgo, e60, hck, ibne, h1, h2, wz, opX, intBin, ↓reduceIte, simprocAttr])
theorem all_in {d : List Dt} {t : Int} (l : List Vl) (hl : l.length ≤ 24) (hty : ∀ x, x ∈ l → tyV d t x) (h : Hp) (s : List Vl) (hs : s.length ≤ 24) (hst : ∀ v, v ∈ s → tyV d t v) (m q : Nat) (R : RS h 3 (s.map eV) m q) (a0 a1 a2 : V) (c : Int) :
    wp tab (.loop f28l0) [(0, a0), (1, a1), (2, a2), (3, .d (.int .i64 24)), (9, rowN m 3 (s.map eV)), (10, .d (.int .i64 c)), (11, .d (eVs l)), (12, .d (.int .i64 0))] (rowQ h m 3 (s.map eV) q)
      (fun o => ∃ (s' : List Vl) (m' q' j : Nat), s'.length ≤ 24 ∧ (∀ v, v ∈ s' → tyV d t v) ∧ RS h 3 (s'.map eV) m' q' ∧ o = (.exit 2, [(0, a0), (1, a1), (2, a2), (3, .d (.int .i64 24)), (9, rowN m' 3 (s'.map eV)), (10, .d (.int .i64 c)), (11, .d (eVs l)), (12, .d (.int .i64 (j : Int))), (42, .d (.bool false))], rowQ h m' 3 (s'.map eV) q')) := by
  refine loop_wp l.length (fun j e h' => ∃ (s' : List Vl) (m' q' : Nat), s'.length ≤ 24 ∧ (∀ v, v ∈ s' → tyV d t v) ∧ RS h 3 (s'.map eV) m' q' ∧ e = [(0, a0), (1, a1), (2, a2), (3, .d (.int .i64 24)), (9, rowN m' 3 (s'.map eV)), (10, .d (.int .i64 c)), (11, .d (eVs l)), (12, .d (.int .i64 (j : Int)))] ∧ h' = rowQ h m' 3 (s'.map eV) q') _ ?_ ?_ l.length 0 _ _ (by omega) ⟨s, m, q, hs, hst, R, rfl, rfl⟩
  · rintro j e h' hj ⟨s', m', q', h1, h2, h3, rfl, rfl⟩
    obtain ⟨x, hx⟩ := get_of_lt hj
    by_cases h24 : (s'.length : Int) < 24
    · have happ := fun q => rowQ_app h (m := m') (es := 3) (b := 40) (q := q) (s := s'.map eV) (x := eV x) (nl := some false) (eV_cells _) (by simp only [List.length_map, roomB]; omega) vcells
      (simp only [e28, lenL_rowV, h24, hj, iaV hx, vls, happ, rowQ_next, rowQ_mk, wrap_succ (show j < 2 ^ 62 by omega), wz, opX, intBin, ↓reduceIte, simprocAttr] <;> repeat' (first | refine wpG_s ?_ ?_ | refine wpC_s ?_ ?_) <;> intro hgo <;> (try simp only [dq] at hgo) <;> simp only [hgo, e28, lenL_rowV, h24, hj, iaV hx, vls, happ, rowQ_next, rowQ_mk, wrap_succ (show j < 2 ^ 62 by omega), wz, opX, intBin, ↓reduceIte, simprocAttr])
      refine ⟨s' ++ [x], nmQ (s'.map eV) m' q', nqQ (s'.map eV) q', by simp; omega, ?_, ?_, ?_⟩
      · intro v hv
        rcases List.mem_append.1 hv with hv | hv
        · exact h2 v hv
        · rw [List.mem_singleton.1 hv]; exact hty x (List.mem_of_getElem? hx)
      · rw [List.map_append]; exact h3.snoc _ q' (Nat.le_refl _)
      · simp only [List.map_append, List.map_cons, List.map_nil, and_self]
    · (simp only [e28, lenL_rowV, h24, hj, wz, opX, intBin, ↓reduceIte, simprocAttr] <;> repeat' (first | refine wpG_s ?_ ?_ | refine wpC_s ?_ ?_) <;> intro hgo <;> (try simp only [dq] at hgo) <;> simp only [hgo, e28, lenL_rowV, h24, hj, wz, opX, intBin, ↓reduceIte, simprocAttr])
      refine ⟨s', m', q', j, h1, h2, h3, ?_⟩
      first | rfl | exact ⟨rfl, rfl⟩ | exact ⟨rfl, rfl, rfl⟩
  · rintro e h' ⟨s', m', q', h1, h2, h3, rfl, rfl⟩
    (simp only [e28, lenL_rowV, wz, opX, intBin, ↓reduceIte, simprocAttr] <;> repeat' (first | refine wpG_s ?_ ?_ | refine wpC_s ?_ ?_) <;> intro hgo <;> (try simp only [dq] at hgo) <;> simp only [hgo, e28, lenL_rowV, wz, opX, intBin, ↓reduceIte, simprocAttr])
    refine ⟨s', m', q', l.length, h1, h2, h3, ?_⟩
    first | rfl | exact ⟨rfl, rfl⟩ | exact ⟨rfl, rfl, rfl⟩
theorem all_ok {d : List Dt} (S : Sml d) (hc : checkS d = 0) {t : Int} (hT : isT d t = true) (h : Hp) : ∃ l : List Vl, callW tab 28 [.d (eDs d), .d (eI t), .d (.int .i64 3), .d (.int .i64 24)] h = some (.d (eVs l), h) ∧ l.length ≤ 24 ∧ ∀ v, v ∈ l → tyV d t v := by
  have T := check_typed hc
  have htb := fun h => table_ok S.bd S.nm hc hT h
  obtain ⟨r, hr, l, rfl, h2, h3⟩ : ∃ r, callW tab 28 [.d (eDs d), .d (eI t), .d (.int .i64 3), .d (.int .i64 24)] h = some r ∧ ∃ l : List Vl, r = (.d (eVs l), h) ∧ l.length ≤ 24 ∧ ∀ v, v ∈ l → tyV d t v := by
    refine call_wpE (fn := f28) rfl rfl ?_
    (simp only [e28, htb, wz, opX, intBin, ↓reduceIte, simprocAttr] <;> repeat' (first | refine wpG_s ?_ ?_ | refine wpC_s ?_ ?_) <;> intro hgo <;> (try simp only [dq] at hgo) <;> simp only [hgo, e28, htb, wz, opX, intBin, ↓reduceIte, simprocAttr])
    refine loop_wp 4 (fun c e h' => ∃ (s : List Vl) (m q : Nat), s.length ≤ 24 ∧ (∀ v, v ∈ s → tyV d t v) ∧ RS h 3 (s.map eV) m q ∧ e = [(0, .d (eDs d)), (1, .d (eI t)), (2, .d (.int .i64 3)), (3, .d (.int .i64 24)), (9, rowN m 3 (s.map eV)), (10, .d (.int .i64 (c : Int)))] ∧ h' = rowQ h m 3 (s.map eV) q) _ ?_ ?_ 4 0 _ _ (by omega) ⟨[], 0, h.next, by simp, by simp, ⟨by simp, Nat.le_refl _⟩, rfl, rfl⟩
    · rintro c e h' hc4 ⟨s, m, q, h1, h2, h3, rfl, rfl⟩
      have hfin := finS_rowQ (h := h) (m := m) (es := 3) (s := s.map eV) (q := q) (fun e => (h3.m e).1)
      have hc3 : (c : Int) ≤ 3 := by omega
      by_cases h24 : (s.length : Int) < 24
      · obtain ⟨fl, hfl, hf24, hft⟩ := (both_ok S T c (by omega)).1 t hT (rowQ h m 3 (s.map eV) q)
        (simp only [e28, lenL_rowV, h24, hc3, hfl, wz, opX, intBin, ↓reduceIte, simprocAttr] <;> repeat' (first | refine wpG_s ?_ ?_ | refine wpC_s ?_ ?_) <;> intro hgo <;> (try simp only [dq] at hgo) <;> simp only [hgo, e28, lenL_rowV, h24, hc3, hfl, wz, opX, intBin, ↓reduceIte, simprocAttr])
        refine wq_mono (all_in fl hf24 hft h s h1 h2 m q h3 _ _ _ (c : Int)) ?_
        rintro o ⟨s', m', q', j', g1, g2, g3, rfl⟩
        (simp only [e28, wrap_succ (show c < 2 ^ 62 by omega), wz, opX, intBin, ↓reduceIte, simprocAttr] <;> repeat' (first | refine wpG_s ?_ ?_ | refine wpC_s ?_ ?_) <;> intro hgo <;> (try simp only [dq] at hgo) <;> simp only [hgo, e28, wrap_succ (show c < 2 ^ 62 by omega), wz, opX, intBin, ↓reduceIte, simprocAttr])
        exact ⟨s', m', q', g1, g2, g3, rfl, rfl⟩
      · (simp only [e28, lenL_rowV, h24, hc3, hfin, wz, opX, intBin, ↓reduceIte, simprocAttr] <;> repeat' (first | refine wpG_s ?_ ?_ | refine wpC_s ?_ ?_) <;> intro hgo <;> (try simp only [dq] at hgo) <;> simp only [hgo, e28, lenL_rowV, h24, hc3, hfin, wz, opX, intBin, ↓reduceIte, simprocAttr])
        exact ⟨_, rfl, s, rfl, h1, h2⟩
    · rintro e h' ⟨s, m, q, h1, h2, h3, rfl, rfl⟩
      have hfin := finS_rowQ (h := h) (m := m) (es := 3) (s := s.map eV) (q := q) (fun e => (h3.m e).1)
      (simp only [e28, lenL_rowV, hfin, wz, opX, intBin, ↓reduceIte, simprocAttr] <;> repeat' (first | refine wpG_s ?_ ?_ | refine wpC_s ?_ ?_) <;> intro hgo <;> (try simp only [dq] at hgo) <;> simp only [hgo, e28, lenL_rowV, hfin, wz, opX, intBin, ↓reduceIte, simprocAttr])
      exact ⟨_, rfl, s, rfl, h1, h2⟩
  exact ⟨l, hr, h2, h3⟩
end Zc27
end
section
set_option linter.unusedSimpArgs false
set_option linter.unusedVariables false
set_option linter.unusedSimpArgs false
set_option maxHeartbeats 4000000
namespace Zc27
open Go Zv Zs
theorem fst_case {α : Type} (p : α → Bool) : ∀ (l : List α) (n : Nat), (fst? p n l = none ∧ l.any p = false) ∨ ∃ k x, fst? p n l = some (n + k, x) ∧ l[k]? = some x ∧ p x = true ∧ ∀ y, y ∈ l.take k → p y = false
  | [], n => .inl ⟨rfl, rfl⟩
  | x :: l, n => by
    cases hx : p x with
    | true => exact .inr ⟨0, x, by simp [fst?, hx], rfl, hx, by simp⟩
    | false =>
      rcases fst_case p l (n + 1) with ⟨h1, h2⟩ | ⟨k, y, h1, h2, h3, h4⟩
      · exact .inl ⟨by simp [fst?, hx, h1], by simp [hx, h2]⟩
      · refine .inr ⟨k + 1, y, by simp [fst?, hx, h1]; omega, by simpa using h2, h3, ?_⟩
        intro z hz
        rw [List.take_succ_cons] at hz
        rcases List.mem_cons.1 hz with rfl | hz
        · exact hx
        · exact h4 z hz
theorem first_case (l : List (List Pt)) (vs : List Vl) : (firstS l vs = -1 ∧ ∀ x, x ∈ l → mtL x vs = false) ∨ ∃ (k : Nat) (x : List Pt), firstS l vs = (k : Int) ∧ l[k]? = some x ∧ mtL x vs = true ∧ ∀ y, y ∈ l.take k → mtL y vs = false := by
  unfold firstS idxZ
  rcases fst_case (fun r => mtL r vs) l 0 with ⟨h1, h2⟩ | ⟨k, y, h1, h2, h3, h4⟩
  · refine .inl ⟨by rw [h1], fun x hx => ?_⟩
    cases hm : mtL x vs with
    | false => rfl
    | true => rw [List.any_eq_true.2 ⟨x, hx, hm⟩] at h2; cases h2
  · exact .inr ⟨k, y, by rw [h1]; simp, h2, h3, h4⟩
theorem us_never {d : List Dt} (S : Sml d) (T : typedS d = true) {ts : List Int} {l : List (List Pt)} {r : List Pt} (hB : 9 * (nwS l + nwL r) + ts.length ≤ 8000) (hl : l.length ≤ 1000)
    (hT : ∀ t, t ∈ ts → isT d t = true) (hM : fitM d ts l) (hR : fitR d ts r = true) (h : usS d 8001 ts l r = false) (K : Nat) : usS d K ts l r = false := by
  cases hK : usS d K ts l r with
  | false => rfl
  | true =>
    have h1 := us_le 8001 hK
    rw [us_fuel S T (k' := 8001) (by omega) (by omega) hB hl hT hM hR, h] at h1
    cases h1
theorem set_get (A : List Int) : ∀ (M : List Bool) (n : Nat) (b : Bool), (∀ x, x ∈ A → ∃ k : Nat, x = (k : Int) ∧ k < M.length) → M[n]? = some b → (A.foldl (fun M x => M.set x.toNat true) M)[n]? = some (b || decide ((n : Int) ∈ A)) ∧ (A.foldl (fun M x => M.set x.toNat true) M).length = M.length := by
  induction A with
  | nil => intro M n b _ h; exact ⟨by simpa using h, rfl⟩
  | cons x A ih =>
    intro M n b hA h
    obtain ⟨k, rfl, hk⟩ := hA x List.mem_cons_self
    rw [List.foldl_cons, Int.toNat_natCast]
    have hA' : ∀ y, y ∈ A → ∃ j : Nat, y = (j : Int) ∧ j < (M.set k true).length := by
      intro y hy
      obtain ⟨j, hj, hl⟩ := hA y (List.mem_cons_of_mem _ hy)
      exact ⟨j, hj, by simpa using hl⟩
    by_cases e : n = k
    · subst e
      obtain ⟨i1, i2⟩ := ih (M.set n true) n true hA' (by simp [hk])
      refine ⟨by rw [i1]; simp, by rw [i2]; simp⟩
    · obtain ⟨i1, i2⟩ := ih (M.set k true) n b hA' (by rw [List.getElem?_set_ne (fun h => e h.symm)]; exact h)
      refine ⟨?_, by rw [i2]; simp⟩
      rw [i1]
      have : ¬ ((n : Int) = (k : Int)) := by omega
      simp [this]
theorem norm_two (x y : D) (nl : Option Bool) : norm (.tl [.d x, .d y] nl) = .d (.lst [x, y]) := rfl
section
variable {d : List Dt} {a b : Int} {l : List (List Pt)} (F : Few d [a, b] l) (hc : chk27 d [a, b] l = 0)
include F hc
/-- What the law finds of two values. -/
theorem pair_ok {w : List Pt} {is : Bool} (hw : (is = false ∧ wiS d 8001 [a, b] l = none) ∨ (is = true ∧ wiS d 8001 [a, b] l = some w)) {x y : Vl} (hx : tyV d a x) (hy : tyV d b y) :
    (firstS l [x, y] = -1 ∧ is = true) ∨ ∃ k : Nat, firstS l [x, y] = (k : Int) ∧ k < l.length ∧ (k : Int) ∉ deadS d [a, b] l ∧ (is = true → mtL w [x, y] = false) := by
  have G := gd_of F.sml F.ts (by have := F.rows; omega) (by have := F.cnt; omega) hc
  have hty : tyL d [a, b] [x, y] := by rw [tyL, tyL, tyL]; exact ⟨hx, hy, trivial⟩
  have hgw := G.w
  have hgl := G.len
  rcases first_case l [x, y] with ⟨h1, h2⟩ | ⟨k, r, h1, h2, h3, h4⟩
  · left
    refine ⟨h1, ?_⟩
    rcases hw with ⟨rfl, hn⟩ | ⟨h, _⟩
    · exfalso
      have hu := wi_us d 8001 [a, b] l
      rw [hn] at hu
      have hnev := us_never G.sml G.typ (ts := [a, b]) (l := l) (r := List.replicate [a, b].length wildT) (by rw [nwL_wild]; omega) G.len G.tys G.fit (fitR_wild d _) hu.symm
      obtain ⟨z, hz, hm⟩ := cover _ [a, b] l _ [x, y] (Nat.le_refl _) hty G.fit (fitR_wild d _) hnev (mtL_wild [x, y])
      rw [h2 z hz] at hm; cases hm
    · exact h
  · right
    have hk := (List.getElem?_eq_some_iff.1 h2).1
    have hmem := List.mem_of_getElem? h2
    refine ⟨k, h1, hk, ?_, ?_⟩
    · intro hd
      obtain ⟨j, e, hj, r', hr', hu⟩ := dead_lt hd
      have : j = k := by omega
      subst this
      rw [h2] at hr'; cases hr'
      have hnt := nwS_take h2
      have hft : fitM d [a, b] (l.take j) := fun q hq => G.fit q (List.mem_of_mem_take hq)
      have hnev := us_never G.sml G.typ (by omega) (by rw [List.length_take]; omega) G.tys hft (G.fit r hmem) hu
      obtain ⟨z, hz, hm⟩ := cover _ [a, b] (l.take j) r [x, y] (Nat.le_refl _) hty hft (G.fit r hmem) hnev h3
      rw [h4 z hz] at hm; cases hm
    · intro his
      rcases hw with ⟨h, _⟩ | ⟨_, hs⟩
      · rw [h] at his; cases his
      · cases hm : mtL w [x, y] with
        | false => rfl
        | true =>
          have := wi_none 8001 [a, b] l w [x, y] hty G.fit hs hm r hmem
          rw [h3] at this; cases this
end
section
variable {d : List Dt} {a b : Int} {l : List (List Pt)} (F : Few d [a, b] l) (hc : chk27 d [a, b] l = 0)
include F hc
theorem val_in {w : List Pt} {is : Bool} (hw : (is = false ∧ wiS d 8001 [a, b] l = none ∧ w = []) ∨ (is = true ∧ wiS d 8001 [a, b] l = some w)) (hcw : cntL w < 2 ^ 60) (xs ys : List Vl) (hxs : ∀ v, v ∈ xs → tyV d a v) (hys : ∀ v, v ∈ ys → tyV d b v) (hyl : ys.length ≤ 24) {i : Nat} {x : Vl} (hx : xs[i]? = some x)
    (q : Nat) (M : List Bool) (hM : M.length = l.length + 1) (hMd : ∀ n : Nat, n < l.length → M[n]? = some (decide ((n : Int) ∈ deadS d [a, b] l))) :
    ex tab (.loop f8l1) [(8, .d (eRs l)), (9, .d (ePs w)), (10, .d (.bool is)), (14, .own q 1 (l.length + 1) 0 (l.length + 1)), (16, .d (eVs xs)), (17, .d (eVs ys)), (18, .d (.int .i64 (i : Int))), (19, .d (.int .i64 0))] (HQ ⟨[], q⟩ M) =
      some (.exit 4, [(8, .d (eRs l)), (9, .d (ePs w)), (10, .d (.bool is)), (14, .own q 1 (l.length + 1) 0 (l.length + 1)), (16, .d (eVs xs)), (17, .d (eVs ys)), (18, .d (.int .i64 (i : Int))), (19, .d (.int .i64 (ys.length : Int))), (120, .d (.bool false))], HQ ⟨[], q⟩ M) := by
  have hll := F.rows
  have hcr : ∀ r, r ∈ l → cntL r < 2 ^ 60 := fun r hr => by have := sumC_mem hr; have := F.cnt; omega
  have hw' : (is = false ∧ wiS d 8001 [a, b] l = none) ∨ (is = true ∧ wiS d 8001 [a, b] l = some w) := hw.imp (fun h => ⟨h.1, h.2.1⟩) id
  have := loop_all (T := tab) (a := f8l1) (l := ys) (f := fun n => [(8, .d (eRs l)), (9, .d (ePs w)), (10, .d (.bool is)), (14, .own q 1 (l.length + 1) 0 (l.length + 1)), (16, .d (eVs xs)), (17, .d (eVs ys)), (18, .d (.int .i64 (i : Int))), (19, .d (.int .i64 (n : Int)))]) (h := HQ ⟨[], q⟩ M)
    (oN := (.exit 4, [(8, .d (eRs l)), (9, .d (ePs w)), (10, .d (.bool is)), (14, .own q 1 (l.length + 1) 0 (l.length + 1)), (16, .d (eVs xs)), (17, .d (eVs ys)), (18, .d (.int .i64 (i : Int))), (19, .d (.int .i64 (ys.length : Int))), (120, .d (.bool false))], HQ ⟨[], q⟩ M))
    (by
      intro n y hy hlt
      have hp := pair_ok F hc hw' (hxs x (List.mem_of_getElem? hx)) (hys y (List.mem_of_getElem? hy))
      have f1 : ∀ h, callW tab 26 [.d (eRs l), .d (.lst [eV x, eV y])] h = some (.d (eI (firstS l [x, y])), h) := fun h => first_ok l (by omega) hcr [x, y] h
      have f2 : ∀ h, callW tab 24 [.d (ePs w), .d (.lst [eV x, eV y])] h = some (.d (.bool (mtL w [x, y])), h) := fun h => matches_ok w hcw [x, y] h
      have hwn := wrap_succ (show n < 2 ^ 62 by omega)
      apply wq_ex.1
      rcases hp with ⟨h1, rfl⟩ | ⟨k, h1, h2, h3, h4⟩
      · rw [h1] at f1
        (simp only [hlt, e8, iaV hx, iaV hy, vls, norm_two, f1, hwn, wz, opX, intBin, ↓reduceIte, simprocAttr] <;> repeat' (first | refine wpG_s ?_ ?_ | refine wpC_s ?_ ?_) <;> intro hgo <;> (try simp only [dq] at hgo) <;> simp only [hgo, hlt, e8, iaV hx, iaV hy, vls, norm_two, f1, hwn, wz, opX, intBin, ↓reduceIte, simprocAttr])
      · rw [h1] at f1
        have hk1 : k < l.length + 1 := by omega
        have hMk := hMd k h2
        rw [decide_eq_false h3] at hMk
        have hbit := ld_bit (H := HQ ⟨[], q⟩ M) (HQ_row ⟨[], q⟩ M hM) hMk
        have hio := ia_own (es := 1) (n := q) (tot := l.length + 1) .i64 hk1
        have hk2 : ((k : Int) < ((l.length + 1 : Nat) : Int)) := by omega
        cases is with
        | false => (simp only [hlt, e8, iaV hx, iaV hy, vls, norm_two, f1, hwn, hk1, hk2, hio, hbit, wz, opX, intBin, ↓reduceIte, simprocAttr] <;> repeat' (first | refine wpG_s ?_ ?_ | refine wpC_s ?_ ?_) <;> intro hgo <;> (try simp only [dq] at hgo) <;> simp only [hgo, hlt, e8, iaV hx, iaV hy, vls, norm_two, f1, hwn, hk1, hk2, hio, hbit, wz, opX, intBin, ↓reduceIte, simprocAttr])
        | true =>
          rw [h4 rfl] at f2
          (simp only [hlt, e8, iaV hx, iaV hy, vls, norm_two, f1, f2, hwn, hk1, hk2, hio, hbit, wz, opX, intBin, ↓reduceIte, simprocAttr] <;> repeat' (first | refine wpG_s ?_ ?_ | refine wpC_s ?_ ?_) <;> intro hgo <;> (try simp only [dq] at hgo) <;> simp only [hgo, hlt, e8, iaV hx, iaV hy, vls, norm_two, f1, f2, hwn, hk1, hk2, hio, hbit, wz, opX, intBin, ↓reduceIte, simprocAttr]))
    (by
      apply wq_ex.1
      (simp only [e8, wz, opX, intBin, ↓reduceIte, simprocAttr] <;> repeat' (first | refine wpG_s ?_ ?_ | refine wpC_s ?_ ?_) <;> intro hgo <;> (try simp only [dq] at hgo) <;> simp only [hgo, e8, wz, opX, intBin, ↓reduceIte, simprocAttr]))
    (by simp)
  simpa using this
end
theorem matrixValues : ∀ x0 : D, ok (EE Zc27.es) (.st [.l 0, .l 2, .l 3, .l 4]) x0 → ∃ h', callW Zc27.tab 8 [.d x0] ⟨[], 0⟩ = some (.d (.bool true), h') := by
  intro x0 h0
  obtain ⟨ys, rfl, h0⟩ := ok_st h0
  obtain ⟨y0, r0, rfl, a0, h0⟩ := okCs_cons h0
  obtain ⟨y1, r1, rfl, a1, h0⟩ := okCs_cons h0
  obtain ⟨y2, r2, rfl, a2, h0⟩ := okCs_cons h0
  obtain ⟨y3, r3, rfl, a3, h0⟩ := okCs_cons h0
  cases okCs_nil h0
  obtain ⟨d, rfl, hd⟩ := okDs' a0
  obtain ⟨ts, rfl, ht⟩ := okIs a1
  obtain ⟨l, rfl, hl⟩ := okRs a2
  obtain ⟨p, rfl, hp⟩ := okPs a3
  refine ⟨⟨[], 0⟩, ?_⟩
  refine call_wp (fn := f8) rfl rfl ?_
  have aw : ∀ q, callW tab 10 [] ⟨[], q⟩ = some (.d (.bool true), ⟨[], q⟩) := fun q => awake_any (fun _ _ => rfl)
  obtain ⟨b, hf, hb⟩ := few_ok d ts l ⟨[], 1⟩
  cases b with
  | false => (simp only [e8, aw, hf, wz, opX, intBin, ↓reduceIte, simprocAttr] <;> repeat' (first | refine wpG_s ?_ ?_ | refine wpC_s ?_ ?_) <;> intro hgo <;> (try simp only [dq] at hgo) <;> simp only [hgo, e8, aw, hf, wz, opX, intBin, ↓reduceIte, simprocAttr])
  | true =>
    have F := hb rfl
    have c2 := fun h => rchk_ok F.rng h
    have hrows := F.rows
    have hcnt := F.cnt
    by_cases hts : ts.length = 2
    · have hts' : ((ts.length : Int) != 2) = false := by rw [ibne, decide_eq_true (by omega)]; rfl
      by_cases hc : chk27 d ts l = 0
      · rw [hc] at c2
        obtain ⟨a, b, rfl⟩ : ∃ a b, ts = [a, b] := by
          cases ts with
          | nil => simp at hts
          | cons a ts => cases ts with
            | nil => simp at hts
            | cons b ts => cases ts with
              | nil => exact ⟨a, b, rfl⟩
              | cons => simp at hts
        have G := gd_of F.sml F.ts (by omega) (by omega) hc
        obtain ⟨hcS, _⟩ := chk_S hc
        have hta := G.tys a (by simp)
        have htb := G.tys b (by simp)
        obtain ⟨q, hq⟩ : ∃ q : Nat, q = (if l.map ePs = [] then 1 else 1 + 1) := ⟨_, rfl⟩
        have r1 := fun h => F.rows_ok h
        have hrf : Zv.frz (cloO [] 1 1 (l.map ePs)) (cloV (some true) 1 1 (l.map ePs)) = some (.d (eRs l), ⟨[], q⟩) := by rw [clo_frz, ← hq]
        have w1 := fun h => Witness_ok G F.rng hc h
        have d1 := fun h => dead_ok G F.rng hc h
        have hA := fm_len (deadF d [a, b] l) l.zipIdx
        rw [List.length_zipIdx] at hA
        have hA : (deadS d [a, b] l).length ≤ 1000 := by unfold deadS; omega
        have hdl := fun x (hx : x ∈ deadS d [a, b] l) => dead_lt hx
        have hl1 := wrap_succ (n := l.length) (by omega)
        have hmk : ∀ h, mkslO (.d (.bool false)) 1 1 h (.d (.int .i64 ((l.length + 1 : Nat) : Int))) = some (.own h.next 1 (l.length + 1) 0 (l.length + 1), HQ h (List.replicate (l.length + 1) false)) := by
          intro h
          simp only [mkslO, ixOf_nat, Option.bind_some]
          rw [if_pos ⟨by simp only [roomB]; omega, by omega⟩]
          unfold HQ
          simp [Hp.alloc]
        obtain ⟨w, is, hw3, hw, hcw⟩ : ∃ (w : List Pt) (is : Bool), wi3 (wiS d 8001 [a, b] l) = .tup [.d (ePs w), .d (.bool is), .d (eI 0)] ∧ ((is = false ∧ wiS d 8001 [a, b] l = none ∧ w = []) ∨ (is = true ∧ wiS d 8001 [a, b] l = some w)) ∧ cntL w < 2 ^ 60 := by
          cases hu : wiS d 8001 [a, b] l with
          | none => exact ⟨[], false, rfl, .inl ⟨rfl, rfl, rfl⟩, by simp [cntL]⟩
          | some w =>
            have := (wi_size G.sml 8001 [a, b] l w G.fit hu).1
            have := nw_sum l
            exact ⟨w, true, rfl, .inr ⟨rfl, rfl⟩, by simp at *; omega⟩
        have hM0 : (List.replicate (l.length + 1) false).length = l.length + 1 := by simp
        obtain ⟨M, hMe⟩ : ∃ M : List Bool, M = (deadS d [a, b] l).foldl (fun M x => M.set x.toNat true) (List.replicate (l.length + 1) false) := ⟨_, rfl⟩
        have hset := fun n (hn : n < l.length + 1) => set_get (deadS d [a, b] l) (List.replicate (l.length + 1) false) n false (fun x hx => by obtain ⟨k, e, hk, _⟩ := hdl x hx; exact ⟨k, e, by simp; omega⟩) (by simp [hn])
        rw [← hMe] at hset
        have hM : M.length = l.length + 1 := by rw [(hset 0 (by omega)).2]; simp
        have hMd : ∀ n : Nat, n < l.length → M[n]? = some (decide ((n : Int) ∈ deadS d [a, b] l)) := fun n hn => by rw [(hset n (by omega)).1, Bool.false_or]
        have hl0 := loop_fold (T := tab) (a := f8l0) (l := deadS d [a, b] l) (fun n (_ : List Bool) => [(3, .d (eDs d)), (5, .d (eRs l)), (6, .d (eI a)), (7, .d (eI b)), (8, .d (eRs l)), (9, .d (ePs w)), (10, .d (.bool is)), (12, .d (eIs (deadS d [a, b] l))), (14, .own q 1 (l.length + 1) 0 (l.length + 1)), (15, .d (.int .i64 (n : Int)))]) (fun _ M => HQ ⟨[], q⟩ M) (fun _ M => M.length = l.length + 1) (fun M x => M.set x.toNat true)
          (fun M => (.exit 0, [(3, .d (eDs d)), (5, .d (eRs l)), (6, .d (eI a)), (7, .d (eI b)), (8, .d (eRs l)), (9, .d (ePs w)), (10, .d (.bool is)), (12, .d (eIs (deadS d [a, b] l))), (14, .own q 1 (l.length + 1) 0 (l.length + 1)), (15, .d (.int .i64 ((deadS d [a, b] l).length : Int))), (82, .d (.bool false))], HQ ⟨[], q⟩ M))
          (by
            intro n M' x hx hlt hI
            refine ⟨?_, by simpa using hI⟩
            obtain ⟨k, rfl, hk, _⟩ := hdl x (List.mem_of_getElem? hx)
            have hk1 : k < l.length + 1 := by omega
            have hio := ia_own (es := 1) (n := q) (tot := l.length + 1) .i64 hk1
            have hst := HQ_st ⟨[], q⟩ M' hI true hk1
            have hkl : ¬ ((l.length : Int) ≤ (k : Int)) := by omega
            have hkl' : ¬ (l.length ≤ k) := by omega
            apply wq_ex.1
            (simp only [hlt, e8, iaI hx, hkl, hkl', hio, hst, Int.toNat_natCast, wrap_succ (show n < 2 ^ 62 by omega), wz, opX, intBin, ↓reduceIte, simprocAttr] <;> repeat' (first | refine wpG_s ?_ ?_ | refine wpC_s ?_ ?_) <;> intro hgo <;> (try simp only [dq] at hgo) <;> simp only [hgo, hlt, e8, iaI hx, hkl, hkl', hio, hst, Int.toNat_natCast, wrap_succ (show n < 2 ^ 62 by omega), wz, opX, intBin, ↓reduceIte, simprocAttr]))
          (by
            intro s _
            apply wq_ex.1
            (simp only [e8, wz, opX, intBin, ↓reduceIte, simprocAttr] <;> repeat' (first | refine wpG_s ?_ ?_ | refine wpC_s ?_ ?_) <;> intro hgo <;> (try simp only [dq] at hgo) <;> simp only [hgo, e8, wz, opX, intBin, ↓reduceIte, simprocAttr]))
          (by intro s; simp) (List.replicate (l.length + 1) false) hM0
        rw [← hMe] at hl0
        simp only [Int.cast_ofNat_Int] at hl0
        obtain ⟨xs, hxs, hx24, hxt⟩ := all_ok F.sml hcS hta (HQ ⟨[], q⟩ M)
        obtain ⟨ys, hys, hy24, hyt⟩ := all_ok F.sml hcS htb (HQ ⟨[], q⟩ M)
        have hl2 := loop_all (T := tab) (a := f8l2) (l := xs) (f := fun n => [(8, .d (eRs l)), (9, .d (ePs w)), (10, .d (.bool is)), (14, .own q 1 (l.length + 1) 0 (l.length + 1)), (16, .d (eVs xs)), (17, .d (eVs ys)), (18, int n)]) (h := HQ ⟨[], q⟩ M)
            (by intro n x hx hlt; (have hin := val_in F hc hw hcw xs ys hxt hyt hy24 hx q M hM hMd); all_goals (apply wq_ex.1; (simp only [hlt, e8, wq_of hin, wrap_succ (show n < 2 ^ 62 by omega), wz, opX, intBin, ↓reduceIte, simprocAttr] <;> repeat' (first | refine wpG_s ?_ ?_ | refine wpC_s ?_ ?_) <;> intro hgo <;> (try simp only [dq] at hgo) <;> simp only [hgo, hlt, e8, wq_of hin, wrap_succ (show n < 2 ^ 62 by omega), wz, opX, intBin, ↓reduceIte, simprocAttr])))
            (by apply wq_ex.1; (simp only [e8, wz, opX, intBin, ↓reduceIte, simprocAttr] <;> repeat' (first | refine wpG_s ?_ ?_ | refine wpC_s ?_ ?_) <;> intro hgo <;> (try simp only [dq] at hgo) <;> simp only [hgo, e8, wz, opX, intBin, ↓reduceIte, simprocAttr]) <;> rfl)
            (by simp)
        simp only [int, Zv.bool, Int.cast_ofNat_Int] at hl2
        have i0 : ia 1 (.d (eIs [a, b])) (.d (.int .i64 0)) = some (.fp (eI a) 0) := iaI (l := [a, b]) (n := 0) rfl
        have i1 : ia 1 (.d (eIs [a, b])) (.d (.int .i64 1)) = some (.fp (eI b) 0) := iaI (l := [a, b]) (n := 1) rfl
        have haw : callW tab 10 [] (HQ ⟨[], q⟩ M) = some (.d (.bool true), HQ ⟨[], q⟩ M) := awake_any (by
          intro n hn
          have hn : q + 1 ≤ n := hn
          show (if n = q then _ else none) = none
          rw [if_neg (by omega)])
        (simp only [e8, aw, hf, hts', c2, ibne, i0, i1, r1, hrf, w1, hw3, d1, hl1, hmk, wq_of hl0, hxs, hys, wq_of hl2, haw, wz, opX, intBin, ↓reduceIte, simprocAttr] <;> repeat' (first | refine wpG_s ?_ ?_ | refine wpC_s ?_ ?_) <;> intro hgo <;> (try simp only [dq] at hgo) <;> simp only [hgo, e8, aw, hf, hts', c2, ibne, i0, i1, r1, hrf, w1, hw3, d1, hl1, hmk, wq_of hl0, hxs, hys, wq_of hl2, haw, wz, opX, intBin, ↓reduceIte, simprocAttr])
        rfl
      · (simp only [e8, aw, hf, c2, hts', ibne, hc, wz, opX, intBin, ↓reduceIte, simprocAttr] <;> repeat' (first | refine wpG_s ?_ ?_ | refine wpC_s ?_ ?_) <;> intro hgo <;> (try simp only [dq] at hgo) <;> simp only [hgo, e8, aw, hf, c2, hts', ibne, hc, wz, opX, intBin, ↓reduceIte, simprocAttr])
    · have hts' : ((ts.length : Int) != 2) = true := by rw [ibne, decide_eq_false (by omega)]; rfl
      (simp only [e8, aw, hf, hts', wz, opX, intBin, ↓reduceIte, simprocAttr] <;> repeat' (first | refine wpG_s ?_ ?_ | refine wpC_s ?_ ?_) <;> intro hgo <;> (try simp only [dq] at hgo) <;> simp only [hgo, e8, aw, hf, hts', wz, opX, intBin, ↓reduceIte, simprocAttr])
end Zc27
end
