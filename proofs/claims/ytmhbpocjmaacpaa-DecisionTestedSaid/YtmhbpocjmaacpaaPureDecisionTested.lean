/-
  Parts of the proof.
-/
import Derived.Test.YtmhbpocjmaacpaaZc28G1
section
set_option linter.unusedSimpArgs false
set_option linter.unusedVariables false
set_option linter.unusedSimpArgs false
set_option maxHeartbeats 4000000
namespace Zc28
open Go Zv Zs

theorem wayL_len {f : List Bool → Int → List Bool × Option Pth} {K : Nat} (hf : ∀ M a p, (f M a).2 = some p → p.length ≤ K) (pre : Pth) : ∀ (r : List Int) (M : List Bool) (p : Pth), (wayL f pre r M).2 = some p → p.length ≤ pre.length + K
  | [], M, p, h => by cases h
  | n :: r, M, p, h => by
    unfold wayL at h
    cases h1 : (f M n).2 with
    | some p' =>
      rw [h1] at h; cases h
      have := hf _ _ _ h1
      rw [List.length_append]; omega
    | none => rw [h1] at h; exact wayL_len hf pre r _ p h
theorem wayS_len (l : List Ts) (to : Int) : ∀ (k : Nat) (M : List Bool) (a : Int) (p : Pth), (wayS l to k M a).2 = some p → p.length ≤ k
  | 0, M, a, p, h => by cases h
  | k + 1, M, a, p, h => by
    unfold wayS at h
    cases hg : getI l a with
    | none => rw [hg] at h; cases h
    | some t =>
      rw [hg] at h
      simp only at h
      split at h
      · cases h
      · split at h
        · cases h; exact Nat.zero_le _
        · have h1 := wayL_len (wayS_len l to k) (preT t) t.next _ p h
          have h2 : (preT t).length ≤ 1 := by unfold preT; split <;> simp
          omega
theorem wayL_none {f : List Bool → Int → List Bool × Option Pth} {pre : Pth} {n : Int} {r : List Int} {M : List Bool} (h : (f M n).2 = none) : wayL f pre (n :: r) M = wayL f pre r (f M n).1 := by
  rw [wayL, h]
theorem wayL_some {f : List Bool → Int → List Bool × Option Pth} {pre : Pth} {n : Int} {r : List Int} {M : List Bool} {p : Pth} (h : (f M n).2 = some p) : wayL f pre (n :: r) M = ((f M n).1, some (pre ++ p)) := by
  rw [wayL, h]
theorem appf1 {p : Pth} {v : V} (x : List Int) (hv : isP p v) (hp : p.length ≤ 1000) (L : List (Nat × Ob)) (a N : Nat) : ∃ N', ((app 1 24 ⟨(a, .arr 1 [.d (eIs x)]) :: L, N⟩ (.own a 1 1 0 1) v).bind fun r => frz r.2 r.1) = some (.d (.lst ((x :: p).map eIs)), ⟨L, N'⟩) := by
  have hb : (([eIs x] : List D).length + (p.map eIs).length) * 24 ≤ roomB := by unfold roomB; simp; omega
  have h1 : app 1 24 ⟨(a, .arr 1 [.d (eIs x)]) :: L, N⟩ (.own a 1 1 0 1) v = app 1 24 ⟨(a, .arr 1 ([eIs x].map .d)) :: L, N⟩ (.own a 1 [eIs x].length 0 [eIs x].length) (.d (.lst (p.map eIs))) := by
    rcases hv with ⟨rfl, rfl⟩ | rfl
    · rfl
    · rfl
  rw [h1, own_app (fun y hy => by obtain ⟨z, _, rfl⟩ := List.mem_map.1 hy; rfl) hb, Option.bind_some, own_frz]
  exact ⟨N, rfl⟩
theorem appf0 {p : Pth} {v : V} (hv : isP p v) (hp : p.length ≤ 1000) (L : List (Nat × Ob)) (N : Nat) : ∃ N', ((app 1 24 ⟨L, N⟩ (.tl [] (some true)) v).bind fun r => frz r.2 r.1) = some (.d (.lst (p.map eIs)), ⟨L, N'⟩) := by
  have h1 : app 1 24 ⟨L, N⟩ (.tl [] (some true)) v = app 1 24 ⟨L, N⟩ (.tl [] (some true)) (.d (.lst (p.map eIs))) := by
    rcases hv with ⟨rfl, rfl⟩ | rfl <;> rfl
  rw [h1]
  cases p with
  | nil => exact ⟨N, rfl⟩
  | cons y p =>
    have hb : (p.length + 1) * 24 ≤ roomB := by unfold roomB; rw [List.length_cons] at hp; omega
    have ha : allV 1 ((((y :: p).map eIs) : List D).map V.d) = true := by
      unfold allV; rw [List.all_eq_true]; intro z hz
      obtain ⟨w, hw, rfl⟩ := List.mem_map.1 hz
      obtain ⟨u, _, rfl⟩ := List.mem_map.1 hw; rfl
    have h2 : app 1 24 ⟨L, N⟩ (.tl [] (some true)) (.d (.lst ((y :: p).map eIs))) = some (.own N 1 ((y :: p).map eIs).length 0 ((y :: p).map eIs).length, ⟨(N, .arr 1 (((y :: p).map eIs).map .d)) :: L, N + 1⟩) := by
      unfold app
      simp only [elems, Option.bind_some]
      rw [if_pos ha]
      have hn : List.map norm (((y :: p).map eIs).map V.d) = ((y :: p).map eIs).map V.d := by rw [List.map_map]; exact List.map_congr_left fun _ _ => rfl
      rw [hn]
      simp [hb, allV, Hp.alloc]
    rw [h2, Option.bind_some, own_frz]
    exact ⟨_, rfl⟩
theorem app_p (x : List Int) (L : List (Nat × Ob)) (N : Nat) : app 1 24 ⟨L, N⟩ (.tl [] (some true)) (.tl [.d (eIs x)] (some false)) = some (.own N 1 1 0 1, ⟨(N, .arr 1 [.d (eIs x)]) :: L, N + 1⟩) := rfl
theorem rway_ok (l : List Ts) (hl : Light l) (to : Int) (m : Nat) (L : List (Nat × Ob)) : ∀ (k : Nat) (M : List Bool) (a : Int) (q : Nat), M.length = l.length → l.length - cnt M < k → k ≤ 500 →
    ∃ v q', callW tab 51 [.d (eTs l), .d (eI a), .d (eI to), .own m 1 l.length 0 l.length] ⟨(m, .arr 1 (M.map bV)) :: L, q⟩ =
      some (.tup [v, .d (.bool (wayS l to k M a).2.isSome)], ⟨(m, .arr 1 ((wayS l to k M a).1.map bV)) :: L, q'⟩) ∧ isP ((wayS l to k M a).2.getD []) v := by
  intro k
  induction k with
  | zero => intro M a q _ h _; omega
  | succ k ih =>
    intro M a q hM hk hk5
    have hlen := hl.len
    have hcl := cnt_len M
    obtain ⟨r, h1, h2⟩ : ∃ r, callW tab 51 [.d (eTs l), .d (eI a), .d (eI to), .own m 1 l.length 0 l.length] ⟨(m, .arr 1 (M.map bV)) :: L, q⟩ = some r ∧
        ∃ v q', r = (.tup [v, .d (.bool (wayS l to (k + 1) M a).2.isSome)], ⟨(m, .arr 1 ((wayS l to (k + 1) M a).1.map bV)) :: L, q'⟩) ∧ isP ((wayS l to (k + 1) M a).2.getD []) v := by
      refine call_wpE (fn := f51) rfl rfl ?_
      unfold wayS
      rcases getI_cases l a with ⟨h1, h2⟩ | ⟨h1, h2, h3⟩ | ⟨j, t, rfl, hj, ht, hgt⟩
      · rw [h2]
        (simp only [e51, h1, wz, opX, intBin, ↓reduceIte, simprocAttr] <;> repeat' (first | refine wpG_s ?_ ?_ | refine wpC_s ?_ ?_) <;> intro hgo <;> (try simp only [dq] at hgo) <;> simp only [hgo, e51, h1, wz, opX, intBin, ↓reduceIte, simprocAttr])
        exact ⟨_, rfl, _, _, rfl, .inl ⟨rfl, rfl⟩⟩
      · rw [h3]
        (simp only [e51, h1, h2, wz, opX, intBin, ↓reduceIte, simprocAttr] <;> repeat' (first | refine wpG_s ?_ ?_ | refine wpC_s ?_ ?_) <;> intro hgo <;> (try simp only [dq] at hgo) <;> simp only [hgo, e51, h1, h2, wz, opX, intBin, ↓reduceIte, simprocAttr])
        exact ⟨_, rfl, _, _, rfl, .inl ⟨rfl, rfl⟩⟩
      · rw [hgt]
        obtain ⟨b, hb⟩ := get_of_lt (l := M) (n := j) (by omega)
        have hj2 : ¬ (l.length : Int) ≤ (j : Int) := by omega
        have hio := ia_own (es := 1) (n := m) (tot := l.length) .i64 hj
        have hlb := fun q => ld_bit (hr_row L m q M hM) hb
        have hgM : getI M (j : Int) = some b := by rw [getI_nat]; exact hb
        cases b with
        | true =>
          rw [hgM]
          (simp only [e51, hj2, hio, hlb, wz, opX, intBin, ↓reduceIte, simprocAttr] <;> repeat' (first | refine wpG_s ?_ ?_ | refine wpC_s ?_ ?_) <;> intro hgo <;> (try simp only [dq] at hgo) <;> simp only [hgo, e51, hj2, hio, hlb, wz, opX, intBin, ↓reduceIte, simprocAttr])
          exact ⟨_, rfl, _, _, rfl, .inl ⟨rfl, rfl⟩⟩
        | false =>
          have hst := fun q => hr_st L m q M hM true (j := j) hj
          have hgr := set_grow hb
          rw [hgM]
          simp only [Int.toNat_natCast]
          by_cases hto : (j : Int) = to
          · have hb2 : ((j : Int) == to) = true := by rw [hto]; exact beq_self_eq_true _
            rw [if_neg (by simp), if_pos hto]
            (simp only [e51, hj2, hio, hlb, hst, hb2, wz, opX, intBin, ↓reduceIte, simprocAttr] <;> repeat' (first | refine wpG_s ?_ ?_ | refine wpC_s ?_ ?_) <;> intro hgo <;> (try simp only [dq] at hgo) <;> simp only [hgo, e51, hj2, hio, hlb, hst, hb2, wz, opX, intBin, ↓reduceIte, simprocAttr])
            exact ⟨_, rfl, _, _, rfl, .inl ⟨rfl, rfl⟩⟩
          · have hb2 : ((j : Int) == to) = false := beq_eq_false_iff_ne.2 hto
            rw [if_neg (by simp), if_neg hto]
            obtain ⟨hpl, hnl⟩ := hl.ts t (List.mem_of_getElem? ht)
            (simp only [e51, hj2, hio, hlb, hst, hb2, iaT ht, wz, opX, intBin, ↓reduceIte, simprocAttr] <;> repeat' (first | refine wpG_s ?_ ?_ | refine wpC_s ?_ ?_) <;> intro hgo <;> (try simp only [dq] at hgo) <;> simp only [hgo, e51, hj2, hio, hlb, hst, hb2, iaT ht, wz, opX, intBin, ↓reduceIte, simprocAttr])
            have hcl2 := cnt_len (M.set j true)
            have hM1 : (M.set j true).length = l.length := by rw [List.length_set]; exact hM
            refine loop_wp t.next.length (fun n e h' => ∃ Mn q, h' = ⟨(m, .arr 1 (Mn.map bV)) :: L, q⟩ ∧ e = [(0, .d (eTs l)), (2, .d (eI to)), (3, .own m 1 l.length 0 l.length), (10, .fp (eT t) 0), (11, .d (.int .i64 (n : Int)))] ∧ Mn.length = l.length ∧ l.length - cnt Mn < k ∧ wayL (wayS l to k) (preT t) t.next (M.set j true) = wayL (wayS l to k) (preT t) (t.next.drop n) Mn) _ ?_ ?_ t.next.length 0 _ _ (by omega) ⟨M.set j true, q + 1, rfl, rfl, hM1, by rw [hM1] at hcl2; omega, rfl⟩
            · rintro n e h' hn ⟨Mn, q2, rfl, rfl, hMn, hkn, hw⟩
              obtain ⟨i, hi⟩ := get_of_lt hn
              have hwr : IntKind.i64.wrap ((n : Int) + 1) = ((n + 1 : Nat) : Int) := by rw [wrap_ok (by omega) (by omega)]; rfl
              rw [drop_at hi] at hw
              obtain ⟨v, q3, hv, hP⟩ := ih Mn i q2 hMn hkn (by omega)
              have hmo := wayS_mono l to k Mn i
              cases hres : (wayS l to k Mn i).2 with
              | none =>
                rw [hres] at hv
                rw [wayL_none hres] at hw
                (simp only [e51, hn, iaI hi, hv, Option.isSome_none, hwr, wz, opX, intBin, ↓reduceIte, simprocAttr] <;> repeat' (first | refine wpG_s ?_ ?_ | refine wpC_s ?_ ?_) <;> intro hgo <;> (try simp only [dq] at hgo) <;> simp only [hgo, e51, hn, iaI hi, hv, Option.isSome_none, hwr, wz, opX, intBin, ↓reduceIte, simprocAttr])
                exact ⟨_, _, rfl, hmo.1.trans hMn, by omega, hw⟩
              | some p =>
                have hpl2 := wayS_len l to k Mn i p hres
                rw [hres] at hv hP
                rw [wayL_some hres] at hw
                rw [hw]
                cases hcon : t.con with
                | true =>
                  obtain ⟨N', ha⟩ := appf1 t.path hP (by show p.length ≤ 1000; omega) ((m, .arr 1 ((wayS l to k Mn i).1.map bV)) :: L) q3 (q3 + 1)
                  (simp only [e51, hn, iaI hi, hv, Option.isSome_some, hcon, app_p, ha, wz, opX, intBin, ↓reduceIte, simprocAttr] <;> repeat' (first | refine wpG_s ?_ ?_ | refine wpC_s ?_ ?_) <;> intro hgo <;> (try simp only [dq] at hgo) <;> simp only [hgo, e51, hn, iaI hi, hv, Option.isSome_some, hcon, app_p, ha, wz, opX, intBin, ↓reduceIte, simprocAttr])
                  exact ⟨_, rfl, _, _, rfl, .inr (by simp [preT, hcon])⟩
                | false =>
                  obtain ⟨N', ha⟩ := appf0 hP (by show p.length ≤ 1000; omega) ((m, .arr 1 ((wayS l to k Mn i).1.map bV)) :: L) q3
                  (simp only [e51, hn, iaI hi, hv, Option.isSome_some, hcon, ha, wz, opX, intBin, ↓reduceIte, simprocAttr] <;> repeat' (first | refine wpG_s ?_ ?_ | refine wpC_s ?_ ?_) <;> intro hgo <;> (try simp only [dq] at hgo) <;> simp only [hgo, e51, hn, iaI hi, hv, Option.isSome_some, hcon, ha, wz, opX, intBin, ↓reduceIte, simprocAttr])
                  exact ⟨_, rfl, _, _, rfl, .inr (by simp [preT, hcon])⟩
            · rintro e h' ⟨Mn, q2, rfl, rfl, hMn, hkn, hw⟩
              rw [List.drop_length] at hw
              rw [hw]
              (simp only [e51, wz, opX, intBin, ↓reduceIte, simprocAttr] <;> repeat' (first | refine wpG_s ?_ ?_ | refine wpC_s ?_ ?_) <;> intro hgo <;> (try simp only [dq] at hgo) <;> simp only [hgo, e51, wz, opX, intBin, ↓reduceIte, simprocAttr])
              exact ⟨_, rfl, _, _, rfl, .inl ⟨rfl, rfl⟩⟩
    obtain ⟨v, q', rfl, h3⟩ := h2
    exact ⟨v, q', h1, h3⟩
end Zc28
end
section
set_option linter.unusedSimpArgs false
set_option linter.unusedVariables false
set_option linter.unusedSimpArgs false
set_option maxHeartbeats 4000000
namespace Zc28
open Go Zv Zs

def tstS (l : List Ts) (to : Int) : Pth := (wayS l to (l.length + 1) (List.replicate l.length false) 0).2.getD []
theorem finP (h : Hp) (o : Nat × Ob) (q : Nat) {p : Pth} {v : V} (hv : isP p v) : finS h ⟨o :: h.objs, q⟩ [v] = some (.d (.lst (p.map eIs)), h) := by
  rcases hv with ⟨rfl, rfl⟩ | rfl
  · have e : finS h ⟨o :: h.objs, q⟩ [.tl [] (some true)] = finS h ⟨o :: h.objs, q⟩ [.d (.lst [])] := rfl
    rw [e]; exact finS1c ..
  · exact finS1c ..
theorem rtested_ok {l : List Ts} (S : Light l) (to : Int) (h : Hp) : callW tab 16 [.d (eTs l), .d (eI to)] h = some (.d (.lst ((tstS l to).map eIs)), h) := by
  refine call_wp (fn := f16) rfl rfl ?_
  have hl := S.len
  have hmk : mkslO (.d (.bool false)) 1 1 h (.d (.int .i64 (l.length : Int))) = some (.own h.next 1 l.length 0 l.length, ⟨(h.next, .arr 1 ((List.replicate l.length false).map bV)) :: h.objs, h.next + 1⟩) := by
    simp only [mkslO, ixOf_nat, Option.bind_some]
    rw [if_pos (by unfold roomB; omega)]
    simp [Hp.alloc]
  obtain ⟨v, q', hv, hP⟩ := rway_ok l S to h.next h.objs (l.length + 1) (List.replicate l.length false) 0 (h.next + 1) (by simp) (by omega) (by omega)
  have hf := fun o q => finP h o q hP
  (simp only [e16, hmk, hv, hf, wz, opX, intBin, ↓reduceIte, simprocAttr] <;> repeat' (first | refine wpG_s ?_ ?_ | refine wpC_s ?_ ?_) <;> intro hgo <;> (try simp only [dq] at hgo) <;> simp only [hgo, e16, hmk, hv, hf, wz, opX, intBin, ↓reduceIte, simprocAttr])
  rfl
end Zc28
end
section
set_option linter.unusedSimpArgs false
set_option linter.unusedVariables false
set_option linter.unusedSimpArgs false
set_option maxHeartbeats 4000000
namespace Zc28
open Go Zv Zs

def srL (f : List Bool → Int → List Bool × Option (List Ts)) (t : Ts) : List Int → List Bool → List Bool × Option (List Ts)
  | [], M => (M, none)
  | n :: r, M => match (f M n).2 with
    | some p => ((f M n).1, some (t :: p))
    | none => srL f t r (f M n).1
def srS (l : List Ts) (to : Int) : Nat → List Bool → Int → List Bool × Option (List Ts)
  | 0, M, _ => (M, none)
  | k + 1, M, a => match getI l a with
    | none => (M, none)
    | some t => if getI M a = some true then (M, none) else
      if a = to then (M.set a.toNat true, some []) else srL (srS l to k) t t.next (M.set a.toNat true)
theorem srL_none {f : List Bool → Int → List Bool × Option (List Ts)} {t : Ts} {n : Int} {r : List Int} {M : List Bool} (h : (f M n).2 = none) : srL f t (n :: r) M = srL f t r (f M n).1 := by
  rw [srL, h]
theorem srL_some {f : List Bool → Int → List Bool × Option (List Ts)} {t : Ts} {n : Int} {r : List Int} {M : List Bool} {p : List Ts} (h : (f M n).2 = some p) : srL f t (n :: r) M = ((f M n).1, some (t :: p)) := by
  rw [srL, h]
def pthT (T : List Ts) : Pth := T.flatMap preT
theorem wayL_sr {f : List Bool → Int → List Bool × Option Pth} {g : List Bool → Int → List Bool × Option (List Ts)} (h : ∀ M a, f M a = ((g M a).1, (g M a).2.map pthT)) (t : Ts) : ∀ (r : List Int) (M : List Bool), wayL f (preT t) r M = ((srL g t r M).1, (srL g t r M).2.map pthT)
  | [], M => rfl
  | n :: r, M => by
    have h1 := h M n
    cases h2 : (g M n).2 with
    | none =>
      have h3 : (f M n).2 = none := by rw [h1, h2]; rfl
      rw [wayL_none h3, srL_none h2, wayL_sr h t r, h1]
    | some T =>
      have h3 : (f M n).2 = some (pthT T) := by rw [h1, h2]; rfl
      rw [wayL_some h3, srL_some h2, h1]
      rfl
theorem wayS_sr (l : List Ts) (to : Int) : ∀ (k : Nat) (M : List Bool) (a : Int), wayS l to k M a = ((srS l to k M a).1, (srS l to k M a).2.map pthT)
  | 0, _, _ => rfl
  | k + 1, M, a => by
    unfold wayS srS
    cases getI l a with
    | none => rfl
    | some t =>
      simp only
      split
      · rfl
      · split
        · rfl
        · exact wayL_sr (wayS_sr l to k) t t.next _
theorem srL_ne {g : List Bool → Int → List Bool × Option (List Ts)} (h : ∀ M a T, (g M a).2 = some T → ∀ t, t ∈ T → t.next ≠ []) (t : Ts) (ht : t.next ≠ []) : ∀ (r : List Int) (M : List Bool) (T : List Ts), (srL g t r M).2 = some T → ∀ x, x ∈ T → x.next ≠ []
  | [], M, T, hT => by cases hT
  | n :: r, M, T, hT => by
    cases h2 : (g M n).2 with
    | none => rw [srL_none h2] at hT; exact srL_ne h t ht r _ T hT
    | some U =>
      rw [srL_some h2] at hT
      cases hT
      intro x hx
      rcases List.mem_cons.1 hx with rfl | hx
      · exact ht
      · exact h M n U h2 x hx
theorem srS_ne (l : List Ts) (to : Int) : ∀ (k : Nat) (M : List Bool) (a : Int) (T : List Ts), (srS l to k M a).2 = some T → ∀ t, t ∈ T → t.next ≠ []
  | 0, _, _, _, h => by cases h
  | k + 1, M, a, T, h => by
    unfold srS at h
    cases hg : getI l a with
    | none => rw [hg] at h; cases h
    | some t =>
      rw [hg] at h
      simp only at h
      split at h
      · cases h
      · split at h
        · cases h; intro t ht; cases ht
        · by_cases hn : t.next = []
          · rw [hn] at h; cases h
          · exact srL_ne (srS_ne l to k) t hn t.next _ T h
theorem srS_mono (l : List Ts) (to : Int) (k : Nat) (M : List Bool) (a : Int) : (srS l to k M a).1.length = M.length ∧ cnt M ≤ cnt (srS l to k M a).1 := by
  have := wayS_mono l to k M a
  rw [wayS_sr] at this
  exact this
theorem tstS_sr (l : List Ts) (to : Int) : tstS l to = pthT ((srS l to (l.length + 1) (List.replicate l.length false) 0).2.getD []) := by
  unfold tstS
  rw [wayS_sr]
  cases (srS l to (l.length + 1) (List.replicate l.length false) 0).2 <;> rfl
end Zc28
end
section
set_option linter.unusedSimpArgs false
set_option linter.unusedVariables false
set_option linter.unusedSimpArgs false
set_option maxHeartbeats 4000000
namespace Zc28
open Go Zv Zs

theorem idxI (l : List Int) (cv : V) (J : Nat → Hp → Prop) (K : Hp → Prop) (hl : l.length < 2 ^ 60) (hcv : norm cv = cv)
    (step : ∀ n x H, l[n]? = some x → J n H → ∃ b H', cW tab cv [.d (eI x)] H = some (.d (.bool b), H') ∧ (b = true → K H') ∧ (b = false → J (n + 1) H')) (H : Hp) (h0 : J 0 H) :
    ∃ r, callW tab 131 [.d (eIs l), cv] H = some r ∧ ∃ z H', r = (.d (eI z), H') ∧ ((0 ≤ z ∧ K H') ∨ (¬ 0 ≤ z ∧ J l.length H')) := by
  refine call_wpE (fn := f131) rfl rfl ?_
  (simp only [e131, hcv, wz, opX, intBin, ↓reduceIte, simprocAttr] <;> repeat' (first | refine wpG_s ?_ ?_ | refine wpC_s ?_ ?_) <;> intro hgo <;> (try simp only [dq] at hgo) <;> simp only [hgo, e131, hcv, wz, opX, intBin, ↓reduceIte, simprocAttr])
  refine loop_wp l.length (fun n e h' => J n h' ∧ e = [(0, .d (eIs l)), (1, cv), (7, .d (.int .i64 l.length)), (8, .d (.int .i64 (n : Int)))]) _ ?_ ?_ l.length 0 _ _ (by omega) ⟨h0, rfl⟩
  · rintro n e h' hn ⟨hJ, rfl⟩
    obtain ⟨x, hx⟩ := get_of_lt hn
    have hwr : IntKind.i64.wrap ((n : Int) + 1) = ((n + 1 : Nat) : Int) := by rw [wrap_ok (by omega) (by omega)]; rfl
    obtain ⟨b, H', hc, h1, h2⟩ := step n x h' hx hJ
    cases b with
    | true =>
      (simp only [e131, hn, hcv, iaI hx, hc, wz, opX, intBin, ↓reduceIte, simprocAttr] <;> repeat' (first | refine wpG_s ?_ ?_ | refine wpC_s ?_ ?_) <;> intro hgo <;> (try simp only [dq] at hgo) <;> simp only [hgo, e131, hn, hcv, iaI hx, hc, wz, opX, intBin, ↓reduceIte, simprocAttr])
      exact ⟨_, rfl, _, _, rfl, .inl ⟨by omega, h1 rfl⟩⟩
    | false =>
      (simp only [e131, hn, hcv, iaI hx, hc, hwr, wz, opX, intBin, ↓reduceIte, simprocAttr] <;> repeat' (first | refine wpG_s ?_ ?_ | refine wpC_s ?_ ?_) <;> intro hgo <;> (try simp only [dq] at hgo) <;> simp only [hgo, e131, hn, hcv, iaI hx, hc, hwr, wz, opX, intBin, ↓reduceIte, simprocAttr])
      exact h2 rfl
  · rintro e h' ⟨hJ, rfl⟩
    (simp only [e131, wz, opX, intBin, ↓reduceIte, simprocAttr] <;> repeat' (first | refine wpG_s ?_ ?_ | refine wpC_s ?_ ?_) <;> intro hgo <;> (try simp only [dq] at hgo) <;> simp only [hgo, e131, wz, opX, intBin, ↓reduceIte, simprocAttr])
    exact ⟨_, rfl, _, _, rfl, .inr ⟨by decide, hJ⟩⟩
theorem conI (l : List Int) (cv : V) (J : Nat → Hp → Prop) (K : Hp → Prop) (hl : l.length < 2 ^ 60) (hcv : norm cv = cv)
    (step : ∀ n x H, l[n]? = some x → J n H → ∃ b H', cW tab cv [.d (eI x)] H = some (.d (.bool b), H') ∧ (b = true → K H') ∧ (b = false → J (n + 1) H')) (H : Hp) (h0 : J 0 H) :
    ∃ b H', callW tab 96 [.d (eIs l), cv] H = some (.d (.bool b), H') ∧ (b = true → K H') ∧ (b = false → J l.length H') := by
  obtain ⟨r, hr, z, H', rfl, hz⟩ := idxI l cv J K hl hcv step H h0
  refine ⟨decide (0 ≤ z), H', ?_, ?_, ?_⟩
  · refine call_wp (fn := f96) rfl rfl ?_
    (simp only [e96, hcv, hr, wz, opX, intBin, ↓reduceIte, simprocAttr] <;> repeat' (first | refine wpG_s ?_ ?_ | refine wpC_s ?_ ?_) <;> intro hgo <;> (try simp only [dq] at hgo) <;> simp only [hgo, e96, hcv, hr, wz, opX, intBin, ↓reduceIte, simprocAttr])
  · intro h
    rcases hz with ⟨_, h2⟩ | ⟨h1, _⟩
    · exact h2
    · exact absurd (of_decide_eq_true h) h1
  · intro h
    rcases hz with ⟨h1, _⟩ | ⟨_, h2⟩
    · exact absurd h1 (of_decide_eq_false h)
    · exact h2
end Zc28
end
section
set_option linter.unusedSimpArgs false
set_option linter.unusedVariables false
set_option linter.unusedSimpArgs false
set_option maxHeartbeats 4000000
namespace Zc28
open Go Zv Zs

section
variable (a : Nat) (L0 : List (Nat × Ob)) (clo : V) (n : Nat)
/-- The marks, their variable, the stack's variable, the function's variable, and the stack's row once there is one. -/
def hW (M : List Bool) : Option (List V × Nat) → Hp
  | none => ⟨(a + 3, .arr 1 [clo]) :: (a + 2, .arr 1 [.tl [] (some true)]) :: (a + 1, .arr 1 [.own a 1 n 0 n]) :: (a, .arr 1 (M.map bV)) :: L0, a + 4⟩
  | some (els, k) => ⟨(a + 4, .arr 5 els) :: (a + 3, .arr 1 [clo]) :: (a + 2, .arr 1 [.own (a + 4) 5 els.length 0 k]) :: (a + 1, .arr 1 [.own a 1 n 0 n]) :: (a, .arr 1 (M.map bV)) :: L0, a + 5⟩
def stkV : Option (List V × Nat) → V
  | none => .tl [] (some true)
  | some (els, k) => .own (a + 4) 5 els.length 0 k
def StkOk (s : List Ts) : Option (List V × Nat) → Prop
  | none => s = []
  | some (els, k) => k = s.length ∧ k ≤ els.length ∧ els.take k = s.map (fun t => V.d (eT t)) ∧ els.length ≤ 200
theorem hW_met (M : List Bool) (o : Option (List V × Nat)) : (hW a L0 clo n M o).row (a + 1) 1 = some (1, [.own a 1 n 0 n]) := by
  rcases o with _ | ⟨els, k⟩ <;> refine row_look ?_ rfl <;> simp [hW, Zv.look]
theorem hW_stk (M : List Bool) (o : Option (List V × Nat)) : (hW a L0 clo n M o).row (a + 2) 1 = some (1, [stkV a o]) := by
  rcases o with _ | ⟨els, k⟩ <;> refine row_look ?_ rfl <;> simp [hW, Zv.look, stkV]
theorem hW_clo (M : List Bool) (o : Option (List V × Nat)) : (hW a L0 clo n M o).row (a + 3) 1 = some (1, [clo]) := by
  rcases o with _ | ⟨els, k⟩ <;> refine row_look ?_ rfl <;> simp [hW, Zv.look]
theorem hW_row (M : List Bool) (hM : M.length = n) (o : Option (List V × Nat)) : (hW a L0 clo n M o).row a n = some (1, M.map bV) := by
  rcases o with _ | ⟨els, k⟩ <;> refine row_look ?_ (by simp [hM]) <;> simp [hW, Zv.look]
theorem hW_mark (M : List Bool) (hM : M.length = n) (o : Option (List V × Nat)) (j : Nat) (hj : j < n) (b : Bool) : st 1 (hW a L0 clo n M o) (.ptr a n j 0) (.d (.bool b)) = some (hW a L0 clo n (M.set j b) o) := by
  unfold st
  have : (M.map bV)[j]? = some (bV (M[j]'(by omega))) := by simp [show j < M.length by omega]
  simp only [hW_row a L0 clo n M hM, Option.bind_some, this]
  rw [if_pos (by simp [stor, V.cells, D.cells]), if_pos (by simp)]
  rcases o with _ | ⟨els, k⟩ <;> simp [hW, Hp.set, upd, List.map_set]
/-- A test goes onto the stack. -/
theorem hW_push (M : List Bool) (t : Ts) : ∀ (s : List Ts) (o : Option (List V × Nat)), StkOk s o → s.length ≤ 100 → ∃ o' v H', app 5 72 (hW a L0 clo n M o) (stkV a o) (.tl [.d (eT t)] (some false)) = some (v, H') ∧ stor v = true ∧ v.cells.length = 1 ∧ st 1 H' (.ptr (a + 2) 1 0 0) v = some (hW a L0 clo n M o') ∧ StkOk (s ++ [t]) o' := by
  rintro s (_ | ⟨els, k⟩) hS hs
  · obtain rfl : s = [] := hS
    refine ⟨some ([.d (eT t)], 1), .own (a + 4) 5 1 0 1, _, app_0 (eT t) rfl _ _ _, rfl, rfl, ?_, rfl, by simp, rfl, by simp⟩
    have hr : Hp.row ⟨(a + 4, .arr 5 [.d (eT t)]) :: (a + 3, .arr 1 [clo]) :: (a + 2, .arr 1 [.tl [] (some true)]) :: (a + 1, .arr 1 [.own a 1 n 0 n]) :: (a, .arr 1 (M.map bV)) :: L0, a + 4 + 1⟩ (a + 2) 1 = some (1, [.tl [] (some true)]) := row_look (by simp [Zv.look]) rfl
    simp [st, hr, hW, Hp.set, upd, stor, V.cells]
  · obtain ⟨rfl, h1, h2, h3⟩ := hS
    have hlen : (els.take s.length).length = s.length := by rw [List.length_take]; omega
    have hr : (hW a L0 clo n M (some (els, s.length))).row (a + 4) els.length = some (5, els) := row_look (by simp [hW, Zv.look]) rfl
    have hset : ∀ y, (hW a L0 clo n M (some (els, s.length))).set (a + 4) y = ⟨(a + 4, y) :: (a + 3, .arr 1 [clo]) :: (a + 2, .arr 1 [.own (a + 4) 5 els.length 0 s.length]) :: (a + 1, .arr 1 [.own a 1 n 0 n]) :: (a, .arr 1 (M.map bV)) :: L0, a + 5⟩ := by
      intro y; simp [hW, Hp.set, upd]
    have hb : (s.length + 1) * 72 ≤ roomB := by unfold roomB; omega
    have hcl : (eT t).cells.length = 5 := rfl
    have hr2 : ∀ e : List V, Hp.row ⟨(a + 4, .arr 5 e) :: (a + 3, .arr 1 [clo]) :: (a + 2, .arr 1 [.own (a + 4) 5 els.length 0 s.length]) :: (a + 1, .arr 1 [.own a 1 n 0 n]) :: (a, .arr 1 (M.map bV)) :: L0, a + 5⟩ (a + 2) 1 = some (1, [.own (a + 4) 5 els.length 0 s.length]) := fun e => row_look (by simp [Zv.look]) rfl
    refine ⟨some (els.take s.length ++ [.d (eT t)] ++ els.drop (s.length + 1), s.length + 1), .own (a + 4) 5 (els.take s.length ++ [V.d (eT t)] ++ els.drop (s.length + 1)).length 0 (s.length + 1), ⟨(a + 4, .arr 5 (els.take s.length ++ [.d (eT t)] ++ els.drop (s.length + 1))) :: (a + 3, .arr 1 [clo]) :: (a + 2, .arr 1 [.own (a + 4) 5 els.length 0 s.length]) :: (a + 1, .arr 1 [.own a 1 n 0 n]) :: (a, .arr 1 (M.map bV)) :: L0, a + 5⟩, ?_, rfl, rfl, ?_, by simp, ?_, ?_, ?_⟩
    · by_cases hk : s.length + 1 ≤ els.length
      · have e : (els.take s.length ++ [V.d (eT t)] ++ els.drop (s.length + 1)).length = els.length := by simp; omega
        rw [e]
        simp [app, elems, allV, V.cells, norm_d, stkV, hr, hset, hk, h1]
        rfl
      · have e : els.length = s.length := by omega
        have e2 : els.drop (s.length + 1) = [] := List.drop_of_length_le (by omega)
        rw [e2]
        simp [app, elems, allV, V.cells, norm_d, stkV, hr, hset, hk, h1, hb, hlen]
        rfl
    · simp [st, hr2, hW, Hp.set, upd, stor, V.cells]
    · simp; omega
    · rw [List.take_left' (by rw [List.length_append, hlen]; rfl), h2, List.map_append]; rfl
    · simp; omega
end
end Zc28
end
section
set_option linter.unusedSimpArgs false
set_option linter.unusedVariables false
set_option linter.unusedSimpArgs false
set_option maxHeartbeats 4000000
namespace Zc28
open Go Zv Zs

abbrev cloS (l : List Ts) (to : Int) (a : Nat) : V := .clo 95 [.fp (.agg [eTs l]) 0, .ptr (a + 1) 1 0 0, .fp (eI to) 0, .ptr (a + 2) 1 0 0, .ptr (a + 3) 1 0 0]
abbrev hpS (l : List Ts) (to : Int) (a : Nat) (L0 : List (Nat × Ob)) (M : List Bool) (o : Option (List V × Nat)) : Hp := hW a L0 (cloS l to a) l.length M o
theorem stk_cell (a : Nat) (o : Option (List V × Nat)) : (stkV a o).cells[0]? = some (stkV a o) := by
  rcases o with _ | ⟨els, k⟩ <;> rfl
/-- A test goes off the stack. -/
theorem hW_pop (a : Nat) (L0 : List (Nat × Ob)) (clo : V) (n : Nat) (M : List Bool) (s : List Ts) (t : Ts) : ∀ (o : Option (List V × Nat)), StkOk (s ++ [t]) o → ∃ o' v, lenL (stkV a o) = some (.d (.int .i64 ((s.length + 1 : Nat) : Int))) ∧ slc 5 (stkV a o) none (some (.d (.int .i64 (s.length : Int)))) = some v ∧ stor v = true ∧ v.cells.length = 1 ∧ st 1 (hW a L0 clo n M o) (.ptr (a + 2) 1 0 0) v = some (hW a L0 clo n M o') ∧ StkOk s o' := by
  rintro (_ | ⟨els, k⟩) hS
  · have : s ++ [t] = [] := hS
    simp at this
  · obtain ⟨rfl, h1, h2, h3⟩ := hS
    have hkl : (s ++ [t]).length = s.length + 1 := by simp
    rw [hkl] at h1 h2 ⊢
    have hr := hW_stk a L0 clo n M (some (els, s.length + 1))
    refine ⟨some (els, s.length), .own (a + 4) 5 els.length 0 s.length, rfl, ?_, rfl, rfl, ?_, rfl, by omega, ?_, h3⟩
    · simp [stkV, slc, bnd, ixOf]
    · show (Hp.row _ (a + 2) 1).bind _ = _
      rw [hr, Option.bind_some]
      simp [hW, Hp.set, upd, stor, V.cells]
    · have := congrArg (List.take s.length) h2
      rw [List.take_take, Nat.min_eq_left (by omega), List.map_append, List.take_left' (by simp)] at this
      exact this
theorem search_ok (l : List Ts) (hl : Light l) (to : Int) (a : Nat) (L0 : List (Nat × Ob)) : ∀ (k : Nat) (M : List Bool) (x : Int) (s : List Ts) (o : Option (List V × Nat)), M.length = l.length → l.length - cnt M < k → StkOk s o → s.length + k ≤ 100 →
    ∃ r, callW tab 95 [.d (eI x), .fp (.agg [eTs l]) 0, .ptr (a + 1) 1 0 0, .fp (eI to) 0, .ptr (a + 2) 1 0 0, .ptr (a + 3) 1 0 0] (hpS l to a L0 M o) = some r ∧
      ∃ o', r = (.d (.bool (srS l to k M x).2.isSome), hpS l to a L0 (srS l to k M x).1 o') ∧ StkOk (s ++ (srS l to k M x).2.getD []) o' := by
  intro k
  induction k with
  | zero => intro M x s o _ h; omega
  | succ k ih =>
    intro M x s o hM hk hS hsk
    have hlen := hl.len
    have hcl := cnt_len M
    refine call_wpE (fn := f95) rfl rfl ?_
    unfold srS
    rcases getI_cases l x with ⟨h1, h2⟩ | ⟨h1, h2, h3⟩ | ⟨j, t, rfl, hj, ht, hgt⟩
    · rw [h2]
      (simp only [e95, h1, wz, opX, intBin, ↓reduceIte, simprocAttr] <;> repeat' (first | refine wpG_s ?_ ?_ | refine wpC_s ?_ ?_) <;> intro hgo <;> (try simp only [dq] at hgo) <;> simp only [hgo, e95, h1, wz, opX, intBin, ↓reduceIte, simprocAttr])
      exact ⟨_, rfl, o, rfl, by simpa using hS⟩
    · rw [h3]
      (simp only [e95, h1, h2, wz, opX, intBin, ↓reduceIte, simprocAttr] <;> repeat' (first | refine wpG_s ?_ ?_ | refine wpC_s ?_ ?_) <;> intro hgo <;> (try simp only [dq] at hgo) <;> simp only [hgo, e95, h1, h2, wz, opX, intBin, ↓reduceIte, simprocAttr])
      exact ⟨_, rfl, o, rfl, by simpa using hS⟩
    · rw [hgt]
      obtain ⟨b, hb⟩ := get_of_lt (l := M) (n := j) (by omega)
      have hj2 : ¬ (l.length : Int) ≤ (j : Int) := by omega
      have hio := ia_own (es := 1) (n := a) (tot := l.length) .i64 hj
      have hmet := fun M o => hW_met a L0 (cloS l to a) l.length M o
      have hstk := fun M o => hW_stk a L0 (cloS l to a) l.length M o
      have hclo := fun M o => hW_clo a L0 (cloS l to a) l.length M o
      have hlb := ld_bit (hW_row a L0 (cloS l to a) l.length M hM o) hb
      have hgM : getI M (j : Int) = some b := by rw [getI_nat]; exact hb
      cases b with
      | true =>
        rw [hgM]
        (simp only [e95, hj2, hmet, hio, hlb, wz, opX, intBin, ↓reduceIte, simprocAttr] <;> repeat' (first | refine wpG_s ?_ ?_ | refine wpC_s ?_ ?_) <;> intro hgo <;> (try simp only [dq] at hgo) <;> simp only [hgo, e95, hj2, hmet, hio, hlb, wz, opX, intBin, ↓reduceIte, simprocAttr])
        exact ⟨_, rfl, o, rfl, by simpa using hS⟩
      | false =>
        have hst := hW_mark a L0 (cloS l to a) l.length M hM o j hj true
        have hgr := set_grow hb
        rw [hgM]
        simp only [Int.toNat_natCast]
        by_cases hto : (j : Int) = to
        · have hb2 : ((j : Int) == to) = true := by rw [hto]; exact beq_self_eq_true _
          rw [if_neg (by simp), if_pos hto]
          (simp only [e95, hj2, hmet, hio, hlb, hst, hb2, wz, opX, intBin, ↓reduceIte, simprocAttr] <;> repeat' (first | refine wpG_s ?_ ?_ | refine wpC_s ?_ ?_) <;> intro hgo <;> (try simp only [dq] at hgo) <;> simp only [hgo, e95, hj2, hmet, hio, hlb, hst, hb2, wz, opX, intBin, ↓reduceIte, simprocAttr])
          exact ⟨_, rfl, o, rfl, by simpa using hS⟩
        · have hb2 : ((j : Int) == to) = false := beq_eq_false_iff_ne.2 hto
          rw [if_neg (by simp), if_neg hto]
          obtain ⟨hpl, hnl⟩ := hl.ts t (List.mem_of_getElem? ht)
          obtain ⟨o1, v, H', p1, p2, p3, p4, hS1⟩ := hW_push a L0 (cloS l to a) l.length (M.set j true) t s o hS (by omega)
          have hM1 : (M.set j true).length = l.length := by rw [List.length_set]; exact hM
          have hcl2 := cnt_len (M.set j true)
          obtain ⟨b, H2, hc, hK, hJ⟩ := conI t.next (cloS l to a)
            (fun n H => ∃ Mn on, H = hpS l to a L0 Mn on ∧ Mn.length = l.length ∧ l.length - cnt Mn < k ∧ StkOk (s ++ [t]) on ∧ srL (srS l to k) t t.next (M.set j true) = srL (srS l to k) t (t.next.drop n) Mn)
            (fun H => ∃ on T, H = hpS l to a L0 (srL (srS l to k) t t.next (M.set j true)).1 on ∧ (srL (srS l to k) t t.next (M.set j true)).2 = some T ∧ StkOk (s ++ T) on)
            (by omega) rfl (by
              rintro n y H hy ⟨Mn, on, rfl, hMn, hkn, hSn, hw⟩
              obtain ⟨r, hr, o', rfl, hS'⟩ := ih Mn y (s ++ [t]) on hMn hkn hSn (by simp; omega)
              have hmo := srS_mono l to k Mn y
              rw [drop_at hy] at hw
              refine ⟨_, _, by rw [cW_clo, if_neg (by decide)]; exact hr, ?_, ?_⟩
              · intro hb
                obtain ⟨T, hT⟩ := Option.isSome_iff_exists.1 hb
                rw [srL_some hT] at hw
                rw [hT] at hS'
                exact ⟨o', t :: T, by rw [hw], by rw [hw], by simpa using hS'⟩
              · intro hb
                have hT : (srS l to k Mn y).2 = none := by simpa using hb
                rw [srL_none hT] at hw
                rw [hT] at hS'
                exact ⟨_, o', rfl, hmo.1.trans hMn, by omega, by simpa using hS', hw⟩)
            (hpS l to a L0 (M.set j true) o1) ⟨_, o1, rfl, hM1, by rw [hM1] at hcl2; omega, hS1, rfl⟩
          have hsc := stk_cell a o
          cases b with
          | true =>
            obtain ⟨on, T, rfl, hT, hST⟩ := hK rfl
            (simp only [e95, hj2, hmet, hio, hlb, hst, hb2, hstk, hsc, iaT ht, p1, p2, p3, p4, hclo, hc, wz, opX, intBin, ↓reduceIte, simprocAttr] <;> repeat' (first | refine wpG_s ?_ ?_ | refine wpC_s ?_ ?_) <;> intro hgo <;> (try simp only [dq] at hgo) <;> simp only [hgo, e95, hj2, hmet, hio, hlb, hst, hb2, hstk, hsc, iaT ht, p1, p2, p3, p4, hclo, hc, wz, opX, intBin, ↓reduceIte, simprocAttr])
            exact ⟨_, rfl, on, by rw [hT]; rfl, by rw [hT]; exact hST⟩
          | false =>
            obtain ⟨Mn, on, rfl, hMn, hkn, hSn, hw⟩ := hJ rfl
            obtain ⟨o', v2, q1, q2, q3, q4, q5, q6⟩ := hW_pop a L0 (cloS l to a) l.length Mn s t on hSn
            have hsc2 := stk_cell a on
            have hwr : IntKind.i64.wrap (((s.length + 1 : Nat) : Int) - 1) = (s.length : Int) := by rw [wrap_ok (by omega) (by omega)]; omega
            rw [List.drop_length] at hw
            have hw : srL (srS l to k) t t.next (M.set j true) = (Mn, none) := hw
            (simp only [e95, hj2, hmet, hio, hlb, hst, hb2, hstk, hsc, hsc2, iaT ht, p1, p2, p3, p4, hclo, hc, q1, hwr, q2, q3, q4, q5, wz, opX, intBin, ↓reduceIte, simprocAttr] <;> repeat' (first | refine wpG_s ?_ ?_ | refine wpC_s ?_ ?_) <;> intro hgo <;> (try simp only [dq] at hgo) <;> simp only [hgo, e95, hj2, hmet, hio, hlb, hst, hb2, hstk, hsc, hsc2, iaT ht, p1, p2, p3, p4, hclo, hc, q1, hwr, q2, q3, q4, q5, wz, opX, intBin, ↓reduceIte, simprocAttr])
            exact ⟨_, rfl, o', by rw [hw]; rfl, by rw [hw]; simpa using q6⟩
end Zc28
end
section
set_option linter.unusedSimpArgs false
set_option linter.unusedVariables false
set_option linter.unusedSimpArgs false
set_option maxHeartbeats 4000000
namespace Zc28
open Go Zv Zs

theorem eqI_self (l : List Int) (hl : l.length < 2 ^ 60) (h : Hp) : callW tab 21 [.d (eIs l), .d (eIs l)] h = some (.d (.bool true), h) := by
  refine call_wp (fn := f21) rfl rfl ?_
  (simp only [e21, wz, opX, intBin, ↓reduceIte, simprocAttr] <;> repeat' (first | refine wpG_s ?_ ?_ | refine wpC_s ?_ ?_) <;> intro hgo <;> (try simp only [dq] at hgo) <;> simp only [hgo, e21, wz, opX, intBin, ↓reduceIte, simprocAttr])
  refine loop_wp l.length (fun n e h' => h' = h ∧ e = [(0, .d (eIs l)), (1, .d (eIs l)), (12, .d (.int .i64 l.length)), (13, .d (.int .i64 (n : Int)))]) _ ?_ ?_ l.length 0 _ _ (by omega) ⟨rfl, rfl⟩
  · rintro n e h' hn ⟨rfl, rfl⟩
    obtain ⟨x, hx⟩ := get_of_lt hn
    have hwr : IntKind.i64.wrap ((n : Int) + 1) = ((n + 1 : Nat) : Int) := by rw [wrap_ok (by omega) (by omega)]; rfl
    (simp only [e21, hn, iaI hx, hwr, wz, opX, intBin, ↓reduceIte, simprocAttr] <;> repeat' (first | refine wpG_s ?_ ?_ | refine wpC_s ?_ ?_) <;> intro hgo <;> (try simp only [dq] at hgo) <;> simp only [hgo, e21, hn, iaI hx, hwr, wz, opX, intBin, ↓reduceIte, simprocAttr])
  · rintro e h' ⟨rfl, rfl⟩
    (simp only [e21, wz, opX, intBin, ↓reduceIte, simprocAttr] <;> repeat' (first | refine wpG_s ?_ ?_ | refine wpC_s ?_ ?_) <;> intro hgo <;> (try simp only [dq] at hgo) <;> simp only [hgo, e21, wz, opX, intBin, ↓reduceIte, simprocAttr])
theorem eqL_self (l : Pth) (hl : l.length < 2 ^ 60) (hp : ∀ p, p ∈ l → p.length < 2 ^ 60) (h : Hp) : callW tab 17 [.d (.lst (l.map eIs)), .d (.lst (l.map eIs)), .clo 20 []] h = some (.d (.bool true), h) := by
  have hcl : ∀ p, p ∈ l → ∀ h, callW tab 20 [.d (eIs p), .d (eIs p)] h = some (.d (.bool true), h) := by
    intro p hp' h
    refine call_wp (fn := f20) rfl rfl ?_
    (simp only [e20, eqI_self p (hp p hp'), wz, opX, intBin, ↓reduceIte, simprocAttr] <;> repeat' (first | refine wpG_s ?_ ?_ | refine wpC_s ?_ ?_) <;> intro hgo <;> (try simp only [dq] at hgo) <;> simp only [hgo, e20, eqI_self p (hp p hp'), wz, opX, intBin, ↓reduceIte, simprocAttr])
  refine call_wp (fn := f17) rfl rfl ?_
  (simp only [e17, wz, opX, intBin, ↓reduceIte, simprocAttr] <;> repeat' (first | refine wpG_s ?_ ?_ | refine wpC_s ?_ ?_) <;> intro hgo <;> (try simp only [dq] at hgo) <;> simp only [hgo, e17, wz, opX, intBin, ↓reduceIte, simprocAttr])
  refine loop_wp l.length (fun n e h' => h' = h ∧ e = [(1, .d (.lst (l.map eIs))), (2, .clo 20 []), (15, .d (.lst (l.map eIs))), (16, .d (.int .i64 l.length)), (17, .d (.int .i64 (n : Int)))]) _ ?_ ?_ l.length 0 _ _ (by omega) ⟨rfl, rfl⟩
  · rintro n e h' hn ⟨rfl, rfl⟩
    obtain ⟨x, hx⟩ := get_of_lt hn
    have hwr : IntKind.i64.wrap ((n : Int) + 1) = ((n + 1 : Nat) : Int) := by rw [wrap_ok (by omega) (by omega)]; rfl
    have hia : ia 1 (.d (.lst (l.map eIs))) (.d (.int .i64 (n : Int))) = some (.fp (eIs x) 0) := ia_map (f := eIs) .i64 hx rfl
    have hc := hcl x (List.mem_of_getElem? hx)
    (simp only [e17, hn, hia, hc, hwr, wz, opX, intBin, ↓reduceIte, simprocAttr] <;> repeat' (first | refine wpG_s ?_ ?_ | refine wpC_s ?_ ?_) <;> intro hgo <;> (try simp only [dq] at hgo) <;> simp only [hgo, e17, hn, hia, hc, hwr, wz, opX, intBin, ↓reduceIte, simprocAttr])
  · rintro e h' ⟨rfl, rfl⟩
    (simp only [e17, wz, opX, intBin, ↓reduceIte, simprocAttr] <;> repeat' (first | refine wpG_s ?_ ?_ | refine wpC_s ?_ ?_) <;> intro hgo <;> (try simp only [dq] at hgo) <;> simp only [hgo, e17, wz, opX, intBin, ↓reduceIte, simprocAttr])
end Zc28
end
section
set_option linter.unusedSimpArgs false
set_option linter.unusedVariables false
set_option linter.unusedSimpArgs false
set_option maxHeartbeats 4000000
namespace Zc28
open Go Zv Zs

abbrev wayT (l : List Ts) (to : Int) : List Ts := (srS l to (l.length + 1) (List.replicate l.length false) 0).2.getD []
theorem ld_T {H : Hp} {m n : Nat} {els : List V} {t : Ts} (hr : H.row m els.length = some (5, els)) (ht : els[n]? = some (.d (eT t))) : ld true 5 H (.ptr m els.length n 0) = some (.d (eT t)) := by
  simp [ld, hr, ht]
theorem way1_ok (l : List Ts) (hl : Light l) (to : Int) (yv : V) (hy : norm yv = yv) (L0 : List (Nat × Ob)) (a : Nat) (J : List V → Nat → Hp → Prop)
    (h0 : ∀ M els k, StkOk (wayT l to) (some (els, k)) → J els 0 (hpS l to a L0 M (some (els, k))))
    (hrow : ∀ els n H, J els n H → H.row (a + 4) els.length = some (5, els))
    (hJ : ∀ els n t H, (wayT l to)[n]? = some t → J els n H → ∃ H', cW tab yv [.d (eT t)] ⟨H.objs, H.next + 1⟩ = some (.d (.bool true), H') ∧ J els (n + 1) H') :
    ∃ r, callW tab 94 [yv, .fp (.agg [eTs l]) 0, .fp (eI to) 0] ⟨L0, a⟩ = some r ∧ ∃ H', r = (.tup [], H') ∧ ((wayT l to = [] ∧ ∃ M o, H' = hpS l to a L0 M o) ∨ ∃ els, J els (wayT l to).length H') := by
  have hlen := hl.len
  have hmk : mkslO (.d (.bool false)) 1 1 ⟨L0, a⟩ (.d (.int .i64 (l.length : Int))) = some (.own a 1 l.length 0 l.length, ⟨(a, .arr 1 ((List.replicate l.length false).map bV)) :: L0, a + 1⟩) := by
    simp only [mkslO, ixOf_nat, Option.bind_some]
    rw [if_pos (by unfold roomB; omega)]
    simp [Hp.alloc]
  obtain ⟨r, hr, o', rfl, hS⟩ := search_ok l hl to a L0 (l.length + 1) (List.replicate l.length false) 0 [] none (by simp) (by omega) rfl (by simp; omega)
  have hr' : callW tab 95 [.d (.int .i64 0), .fp (.agg [eTs l]) 0, .ptr (a + 1) 1 0 0, .fp (eI to) 0, .ptr (a + 2) 1 0 0, .ptr (a + 3) 1 0 0] ⟨(a + 3, .arr 1 [cloS l to a]) :: (a + 2, .arr 1 [.tl [] (some true)]) :: (a + 1, .arr 1 [.own a 1 l.length 0 l.length]) :: (a, .arr 1 ((List.replicate l.length false).map bV)) :: L0, a + 4⟩ = _ := hr
  have hS : StkOk (wayT l to) o' := by simpa using hS
  refine call_wpE (fn := f94) rfl rfl ?_
  cases hR : (srS l to (l.length + 1) (List.replicate l.length false) 0).2 with
  | none =>
    rw [hR] at hr'
    have hT : wayT l to = [] := by unfold wayT; rw [hR]; rfl
    (simp only [e94, hmk, hy, hr', Option.isSome_none, wz, opX, intBin, ↓reduceIte, simprocAttr] <;> repeat' (first | refine wpG_s ?_ ?_ | refine wpC_s ?_ ?_) <;> intro hgo <;> (try simp only [dq] at hgo) <;> simp only [hgo, e94, hmk, hy, hr', Option.isSome_none, wz, opX, intBin, ↓reduceIte, simprocAttr])
    exact ⟨_, rfl, _, rfl, .inl ⟨hT, _, _, rfl⟩⟩
  | some T =>
    rw [hR] at hr'
    have hT : wayT l to = T := by unfold wayT; rw [hR]; rfl
    rw [hT] at hS
    have hstk : (hpS l to a L0 (srS l to (l.length + 1) (List.replicate l.length false) 0).1 o').row (a + 1 + 1) 1 = some (1, [stkV a o']) := hW_stk ..
    have hsc := stk_cell a o'
    rcases o' with _ | ⟨els, k⟩
    · obtain rfl : T = [] := hS
      (simp only [e94, hmk, hy, hr', Option.isSome_some, hstk, hsc, stkV, wz, opX, intBin, ↓reduceIte, simprocAttr] <;> repeat' (first | refine wpG_s ?_ ?_ | refine wpC_s ?_ ?_) <;> intro hgo <;> (try simp only [dq] at hgo) <;> simp only [hgo, e94, hmk, hy, hr', Option.isSome_some, hstk, hsc, stkV, wz, opX, intBin, ↓reduceIte, simprocAttr])
      rw [wq_loop]
      (simp only [e94, wz, opX, intBin, ↓reduceIte, simprocAttr] <;> repeat' (first | refine wpG_s ?_ ?_ | refine wpC_s ?_ ?_) <;> intro hgo <;> (try simp only [dq] at hgo) <;> simp only [hgo, e94, wz, opX, intBin, ↓reduceIte, simprocAttr])
      exact ⟨_, rfl, _, rfl, .inl ⟨hT, _, _, rfl⟩⟩
    · have hS2 := hS
      obtain ⟨rfl, h1, h2, h3⟩ := hS2
      (simp only [e94, hmk, hy, hr', Option.isSome_some, hstk, hsc, stkV, wz, opX, intBin, ↓reduceIte, simprocAttr] <;> repeat' (first | refine wpG_s ?_ ?_ | refine wpC_s ?_ ?_) <;> intro hgo <;> (try simp only [dq] at hgo) <;> simp only [hgo, e94, hmk, hy, hr', Option.isSome_some, hstk, hsc, stkV, wz, opX, intBin, ↓reduceIte, simprocAttr])
      refine loop_wp T.length (fun n e h' => J els n h' ∧ e = [(0, yv), (17, .own (a + 4) 5 els.length 0 T.length), (18, .d (.int .i64 T.length)), (19, .d (.int .i64 (n : Int)))]) _ ?_ ?_ T.length 0 _ _ (by omega) ⟨h0 _ _ _ (by rw [hT]; exact hS), rfl⟩
      · rintro n e h' hn ⟨hJn, rfl⟩
        obtain ⟨t, ht⟩ := get_of_lt hn
        have hwr : IntKind.i64.wrap ((n : Int) + 1) = ((n + 1 : Nat) : Int) := by rw [wrap_ok (by omega) (by omega)]; rfl
        have hio := ia_own (es := 5) (n := a + 4) (tot := els.length) .i64 hn
        have he : els[n]? = some (.d (eT t)) := by
          rw [← List.getElem?_take_of_lt hn, h2, List.getElem?_map, ht]; rfl
        have hld := ld_T (hrow els n h' hJn) he
        obtain ⟨H', hc, hJ'⟩ := hJ els n t h' (by rw [hT]; exact ht) hJn
        (simp only [e94, hn, hio, hld, hy, hc, hwr, hJ', wz, opX, intBin, ↓reduceIte, simprocAttr] <;> repeat' (first | refine wpG_s ?_ ?_ | refine wpC_s ?_ ?_) <;> intro hgo <;> (try simp only [dq] at hgo) <;> simp only [hgo, e94, hn, hio, hld, hy, hc, hwr, hJ', wz, opX, intBin, ↓reduceIte, simprocAttr])
      · rintro e h' ⟨hJn, rfl⟩
        (simp only [e94, wz, opX, intBin, ↓reduceIte, simprocAttr] <;> repeat' (first | refine wpG_s ?_ ?_ | refine wpC_s ?_ ?_) <;> intro hgo <;> (try simp only [dq] at hgo) <;> simp only [hgo, e94, wz, opX, intBin, ↓reduceIte, simprocAttr])
        exact ⟨_, rfl, _, rfl, .inr ⟨els, by rw [hT]; exact hJn⟩⟩
end Zc28
end
section
set_option linter.unusedSimpArgs false
set_option linter.unusedVariables false
set_option linter.unusedSimpArgs false
set_option maxHeartbeats 4000000
namespace Zc28
open Go Zv Zs

theorem icells {l : List Int} : ∀ y, y ∈ l.map eI → y.cells.length = 1 := by
  intro y hy
  obtain ⟨p, _, rfl⟩ := List.mem_map.1 hy
  rfl
theorem cloneI_ok (l : List Int) (hl : l.length ≤ 1000000) (h : Hp) : callW tab 40 [.d (eIs l)] h = some (.d (eIs l), h) := by
  refine call_wp (fn := f40) rfl rfl ?_
  have hb : wp tab b40 (args 0 [.d (eIs l)]) h (· = (.ret, [(2, cloV none h.next 1 (l.map eI))], cloO h.objs h.next 1 (l.map eI))) := by
    cases l with
    | nil =>
      have hn0 : nilBin NK.s BinOp.eql (.d (eIs [])) = some .ub := rfl
      have happ : app 1 8 h (.tl [] (some false)) (.d (.lst [])) = some (.tl [] (some false), h) := rfl
      (simp only [e40, wz, opX, intBin, ↓reduceIte, simprocAttr] <;> repeat' (first | refine wpG_s ?_ ?_ | refine wpC_s ?_ ?_) <;> intro hgo <;> (try simp only [dq] at hgo) <;> simp only [hgo, e40, wz, opX, intBin, ↓reduceIte, simprocAttr])
      refine wq_ex.2 (ex_ambU (e1 := [(0, .d (.lst [])), (4, .ub)]) (h1 := h) (o := (.ret, [(2, .tl [] (some true))], h)) (q := (.ret, [(2, .tl [] (some false))], h)) ?_ rfl ?_ ?_ ?_)
      · apply wq_ex.1; (simp only [e40, hn0, wz, opX, intBin, ↓reduceIte, simprocAttr] <;> repeat' (first | refine wpG_s ?_ ?_ | refine wpC_s ?_ ?_) <;> intro hgo <;> (try simp only [dq] at hgo) <;> simp only [hgo, e40, hn0, wz, opX, intBin, ↓reduceIte, simprocAttr])
        rfl
      · apply wq_ex.1; (simp only [e40, wz, opX, intBin, ↓reduceIte, simprocAttr] <;> repeat' (first | refine wpG_s ?_ ?_ | refine wpC_s ?_ ?_) <;> intro hgo <;> (try simp only [dq] at hgo) <;> simp only [hgo, e40, wz, opX, intBin, ↓reduceIte, simprocAttr])
      · apply wq_ex.1; (simp only [e40, happ, wz, opX, intBin, ↓reduceIte, simprocAttr] <;> repeat' (first | refine wpG_s ?_ ?_ | refine wpC_s ?_ ?_) <;> intro hgo <;> (try simp only [dq] at hgo) <;> simp only [hgo, e40, happ, wz, opX, intBin, ↓reduceIte, simprocAttr])
      · unfold outJoin
        rw [if_pos ⟨rfl, objsBeq_refl _, rfl⟩]
        rfl
    | cons p r =>
      have happ := tl_app (nl := some false) (es := 1) (b := 8) (h := h) (r := (p :: r).map eI) icells (by simp only [roomB, List.length_map]; omega)
      rw [List.map_cons] at happ
      have hn0 : nilBin NK.s BinOp.eql (.d (eIs (p :: r))) = some (.d (.bool false)) := rfl
      (simp only [e40, wz, opX, intBin, ↓reduceIte, simprocAttr] <;> repeat' (first | refine wpG_s ?_ ?_ | refine wpC_s ?_ ?_) <;> intro hgo <;> (try simp only [dq] at hgo) <;> simp only [hgo, e40, wz, opX, intBin, ↓reduceIte, simprocAttr])
      refine wq_ex.2 (ex_ambD (e1 := [(0, .d (.lst ((p :: r).map eI))), (4, .d (.bool false))]) (h1 := h) false ?_ rfl ?_)
      · apply wq_ex.1; (simp only [e40, hn0, wz, opX, intBin, ↓reduceIte, simprocAttr] <;> repeat' (first | refine wpG_s ?_ ?_ | refine wpC_s ?_ ?_) <;> intro hgo <;> (try simp only [dq] at hgo) <;> simp only [hgo, e40, hn0, wz, opX, intBin, ↓reduceIte, simprocAttr])
        rfl
      · apply wq_ex.1; (simp only [e40, happ, wz, opX, intBin, ↓reduceIte, simprocAttr] <;> repeat' (first | refine wpG_s ?_ ?_ | refine wpC_s ?_ ?_) <;> intro hgo <;> (try simp only [dq] at hgo) <;> simp only [hgo, e40, happ, wz, opX, intBin, ↓reduceIte, simprocAttr])
        rfl
  obtain ⟨o, h1, rfl⟩ := hb
  exact ⟨_, h1, finS_clo (Nat.le_refl _)⟩
theorem way_ok (l : List Ts) (to : Int) (h : Hp) : callW tab 52 [.d (.agg [eTs l]), .d (eI to)] h = some (.clo 94 [.fp (.agg [eTs l]) 0, .fp (eI to) 0], ⟨h.objs, h.next + 2⟩) := by
  refine call_wp (fn := f52) rfl rfl ?_
  have h1 : (D.agg [eTs l]).cells.length = 1 := rfl
  (simp only [e52, h1, wz, opX, intBin, ↓reduceIte, simprocAttr] <;> repeat' (first | refine wpG_s ?_ ?_ | refine wpC_s ?_ ?_) <;> intro hgo <;> (try simp only [dq] at hgo) <;> simp only [hgo, e52, h1, wz, opX, intBin, ↓reduceIte, simprocAttr])

/-! ### Objects of other names ahead -/
theorem look_pre {n : Nat} {l : List (Nat × Ob)} : ∀ {P : List (Nat × Ob)}, (∀ x, x ∈ P → x.1 ≠ n) → Zv.look (P ++ l) n = Zv.look l n
  | [], _ => rfl
  | x :: P, h => by
    rw [List.cons_append]
    show (if n = x.1 then _ else Zv.look (P ++ l) n) = _
    rw [if_neg (fun e => h x (.head _) e.symm), look_pre fun y hy => h y (.tail _ hy)]
theorem upd_pre {n : Nat} {o : Ob} {l : List (Nat × Ob)} : ∀ {P : List (Nat × Ob)}, (∀ x, x ∈ P → x.1 ≠ n) → Zv.upd (P ++ l) n o = P ++ Zv.upd l n o
  | [], _ => rfl
  | x :: P, h => by
    rw [List.cons_append]
    show (if n = x.1 then _ else (x.1, x.2) :: Zv.upd (P ++ l) n o) = _
    rw [if_neg (fun e => h x (.head _) e.symm), upd_pre fun y hy => h y (.tail _ hy)]
    rfl
theorem del_pre {n : Nat} {l : List (Nat × Ob)} : ∀ {P : List (Nat × Ob)}, (∀ x, x ∈ P → x.1 ≠ n) → Zv.del (P ++ l) n = P ++ Zv.del l n
  | [], _ => rfl
  | x :: P, h => by
    rw [List.cons_append]
    show (if n = x.1 then _ else (x.1, x.2) :: Zv.del (P ++ l) n) = _
    rw [if_neg (fun e => h x (.head _) e.symm), del_pre fun y hy => h y (.tail _ hy)]
    rfl
section
variable {P : List (Nat × Ob)} {C m : Nat} (hC : ∀ x, x ∈ P → x.1 ≠ C) (hm : ∀ x, x ∈ P → x.1 ≠ m) (hmC : m ≠ C) (b : Nat) (e0 : List (Nat × V)) (O : List (Nat × Ob))
def HX (P : List (Nat × Ob)) (C m b : Nat) (e0 : List (Nat × V)) (O : List (Nat × Ob)) (s0 : Option Ex) (v : V) (q : Nat) : Hp := ⟨P ++ (C, .lp b e0 s0) :: (m, .arr 1 [v]) :: O, q⟩
include hC in
theorem HX_get (s0 v q) : (HX P C m b e0 O s0 v q).get C = some (.lp b e0 s0) := by
  unfold HX Hp.get; rw [look_pre hC]; simp [Zv.look]
include hC in
theorem HX_set (s0 s1 v q) : (HX P C m b e0 O s0 v q).set C (.lp b e0 s1) = HX P C m b e0 O s1 v q := by
  unfold HX Hp.set; simp only; rw [upd_pre hC]; simp [upd]
include hm hmC in
theorem HX_look (s0 v q) : (HX P C m b e0 O s0 v q).get m = some (.arr 1 [v]) := by
  unfold HX Hp.get; rw [look_pre hm]; simp [Zv.look, hmC]
include hm hmC in
theorem HX_row (s0 v q) : (HX P C m b e0 O s0 v q).row m 1 = some (1, [v]) := by
  unfold Hp.row; rw [HX_look hm hmC]; rfl
include hm hmC in
theorem HX_st (s0 v x q) (h1 : stor x = true) (h2 : x.cells.length = 1) : st 1 (HX P C m b e0 O s0 v q) (.ptr m 1 0 0) x = some (HX P C m b e0 O s0 x q) := by
  have hs : ∀ w, (HX P C m b e0 O s0 v q).set m (.arr 1 [w]) = HX P C m b e0 O s0 w q := by
    intro w; unfold HX Hp.set; simp only; rw [upd_pre hm]; simp [upd, hmC]
  simp [st, HX_row hm hmC, h1, h2, hs]
include hm hmC in
theorem HX_same (s0 v q) : sameAt (HX P C m b e0 O s0 v q) (HX P C m b e0 O s0 v q) (.ptr m 1 0 0) = true := by
  simp only [sameAt, HX_look hm hmC, Ob.beq_refl]
include hC in
theorem HX_end (v q) : rngEnd e0 (HX P C m b e0 O none v q) C = some (.norm, e0, ⟨P ++ (m, .arr 1 [v]) :: O, q⟩) := by
  unfold rngEnd
  rw [HX_get hC]
  have : (HX P C m b e0 O none v q).kill C = ⟨P ++ (m, .arr 1 [v]) :: O, q⟩ := by
    unfold HX Hp.kill; simp only; rw [del_pre hC]; simp [del]
  rw [this]
include hm in
theorem HM_row (v q) : (⟨P ++ (m, .arr 1 [v]) :: O, q⟩ : Hp).row m 1 = some (1, [v]) := by
  unfold Hp.row Hp.get; simp only; rw [look_pre hm]; simp [Zv.look]
include hm in
theorem HM_kill (v q) : (⟨P ++ (m, .arr 1 [v]) :: O, q⟩ : Hp).kill m = ⟨P ++ O, q⟩ := by
  unfold Hp.kill; simp only; rw [del_pre hm]; simp [del]
end
/-- The row of the answer, once there is one. -/
def preR (mm : Nat) (s : List D) : List (Nat × Ob) := if s = [] then [] else [(mm, .arr 1 (s.map .d))]
theorem preR_keys {mm n : Nat} {s : List D} (h : s ≠ [] → mm ≠ n) : ∀ x, x ∈ preR mm s → x.1 ≠ n := by
  unfold preR
  split
  · intro x hx; cases hx
  · rename_i h0
    intro x hx
    rw [List.mem_singleton] at hx
    subst hx
    exact h h0
theorem preR_app {Q : List (Nat × Ob)} {C m b q mm : Nat} {e0 : List (Nat × V)} {O : List (Nat × Ob)} {s0 : Option Ex} {v : V} {s : List D} {x : D} {nl : Option Bool} (hx : x.cells.length = 1) (hlen : (s.length + 1) * 24 ≤ roomB) (hl : ∀ y, y ∈ s → y.cells.length = 1) :
    app 1 24 (HX (preR mm s ++ Q) C m b e0 O s0 v q) (rowN mm 1 s) (.tl [.d x] nl) = some (rowN (nmQ s mm q) 1 (s ++ [x]), HX (preR (nmQ s mm q) (s ++ [x]) ++ Q) C m b e0 O s0 v (nqQ s q)) := by
  have e : ∀ (mm : Nat) (s : List D) (q : Nat), HX (preR mm s ++ Q) C m b e0 O s0 v q = rowQ (HX Q C m b e0 O s0 v q) mm 1 s q := by
    intro mm s q
    unfold rowQ preR HX
    split <;> simp
  rw [e, rowQ_app _ hx hlen hl, e]
  unfold rowQ HX
  rfl
theorem fin_pre {h : Hp} {mm q : Nat} {Q : List (Nat × Ob)} {s : List D} (hm : s ≠ [] → h.next ≤ mm) : finS h ⟨(preR mm s ++ Q) ++ h.objs, q⟩ [rowN mm 1 s] = some (.d (.lst s), h) := by
  rw [finS, if_pos (suf_app _ _)]
  have e : (⟨(preR mm s ++ Q) ++ h.objs, q⟩ : Hp) = rowQ ⟨Q ++ h.objs, q⟩ mm 1 s q := by
    unfold rowQ preR
    split <;> simp
  rw [e]
  simp only [List.mapM_cons, List.mapM_nil, back1, rowQ_deep _ s q hm]
  rfl
end Zc28
end
section
set_option linter.unusedSimpArgs false
set_option linter.unusedVariables false
set_option linter.unusedSimpArgs false
set_option maxHeartbeats 4000000
namespace Zc28
open Go Zv Zs

theorem preT_len (t : Ts) : (preT t).length ≤ 1 := by unfold preT; split <;> simp
theorem pthT_len : ∀ (T : List Ts), (pthT T).length ≤ T.length
  | [] => Nat.le_refl _
  | t :: T => by
    have h1 := pthT_len T
    have h2 := preT_len t
    unfold pthT at h1 ⊢
    rw [List.flatMap_cons, List.length_append, List.length_cons]; omega
theorem pthT_snoc (T : List Ts) (t : Ts) : pthT (T ++ [t]) = pthT T ++ preT t := by
  unfold pthT; rw [List.flatMap_append]; simp
theorem way_ne {l : List Ts} {to : Int} : ∀ t, t ∈ wayT l to → t.next ≠ [] := by
  intro t ht
  unfold wayT at ht
  cases hs : (srS l to (l.length + 1) (List.replicate l.length false) 0).2 with
  | none => rw [hs] at ht; cases ht
  | some T => rw [hs] at ht; exact srS_ne l to _ _ _ T hs t ht

theorem partR (mm : Nat) (s : List D) : partV false 0 1 (rowN mm 1 s).cells = some (rowN mm 1 s) := by
  by_cases h : s = []
  · subst h; rfl
  · rw [show rowN mm 1 s = .own mm 1 s.length 0 s.length from if_neg h]; rfl
section
variable {Q : List (Nat × Ob)} {C m : Nat} (hQC : ∀ x, x ∈ Q → x.1 ≠ C) (hQm : ∀ x, x ∈ Q → x.1 ≠ m) (hmC : m < C) (cl : V) (O : List (Nat × Ob))
include hQC hQm hmC
theorem tround_ok (t : Ts) (hp : t.path.length ≤ 1000000) (ht : t.next ≠ []) (s : Pth) (hs : s.length ≤ 1000) (mm q : Nat) (hmm : s ≠ [] → C < mm) (hq : C < q) :
    let e0 : List (Nat × V) := [(5, .ptr m 1 0 0), (9, cl)]
    ∃ mm' q', (s ++ preT t ≠ [] → q ≤ mm' ∨ (mm' = mm ∧ s ≠ [])) ∧ q ≤ q' ∧ cW tab (.yld C) [.d (eT t)] (HX (preR mm (s.map eIs) ++ Q) C m 288 e0 O none (rowN mm 1 (s.map eIs)) q) =
      some (.d (.bool true), HX (preR mm' ((s ++ preT t).map eIs) ++ Q) C m 288 e0 O none (rowN mm' 1 ((s ++ preT t).map eIs)) q') := by
  intro e0
  have kC : ∀ (mm : Nat) (s : Pth), (s ≠ [] → C < mm) → ∀ x, x ∈ preR mm (s.map eIs) ++ Q → x.1 ≠ C := by
    intro mm s h x hx
    rcases List.mem_append.1 hx with hx | hx
    · exact preR_keys (fun h1 => by have := h (by simpa using h1); omega) x hx
    · exact hQC x hx
  have km : ∀ (mm : Nat) (s : Pth), (s ≠ [] → C < mm) → ∀ x, x ∈ preR mm (s.map eIs) ++ Q → x.1 ≠ m := by
    intro mm s h x hx
    rcases List.mem_append.1 hx with hx | hx
    · exact preR_keys (fun h1 => by have := h (by simpa using h1); omega) x hx
    · exact hQm x hx
  have hcl : (eT t).cells.length = 5 := rfl
  have hne : (0 : Int) < (t.next.length : Int) := by have := List.length_pos_iff.2 ht; omega
  have mk : ∀ P s0 v q q', (⟨(HX P C m 288 e0 O s0 v q).objs, q'⟩ : Hp) = HX P C m 288 e0 O s0 v q' := fun _ _ _ _ _ => rfl
  have nx : ∀ P s0 v q, (HX P C m 288 e0 O s0 v q).next = q := fun _ _ _ _ => rfl
  have hasg : ∀ h : Hp, ex tab a18q0 [(10, .d (eT t)), (5, .ptr m 1 0 0), (9, cl)] h = some (.norm, [(5, .ptr m 1 0 0), (6, .fp (eT t) 0)], ⟨h.objs, h.next + 1⟩) := by
    intro h
    unfold a18q0; apply wq_ex.1; (simp only [e18, hcl, wz, opX, intBin, ↓reduceIte, simprocAttr] <;> repeat' (first | refine wpG_s ?_ ?_ | refine wpC_s ?_ ?_) <;> intro hgo <;> (try simp only [dq] at hgo) <;> simp only [hgo, e18, hcl, wz, opX, intBin, ↓reduceIte, simprocAttr])
  have fin : ∀ (mm' q' : Nat) (s' : Pth) (e2 : Env), (s' ≠ [] → C < mm') → ex tab d18q0 [(5, .ptr m 1 0 0), (6, .fp (eT t) 0)] (HX (preR mm (s.map eIs) ++ Q) C m 288 e0 O (some .norm) (rowN mm 1 (s.map eIs)) (q + 1)) = some (.norm, e2, HX (preR mm' (s'.map eIs) ++ Q) C m 288 e0 O (some .norm) (rowN mm' 1 (s'.map eIs)) q') →
      cW tab (.yld C) [.d (eT t)] (HX (preR mm (s.map eIs) ++ Q) C m 288 e0 O none (rowN mm 1 (s.map eIs)) q) = some (.d (.bool true), HX (preR mm' (s'.map eIs) ++ Q) C m 288 e0 O none (rowN mm' 1 (s'.map eIs)) q') := by
    intro mm' q' s' e2 hs' hbody
    have := cW_yld (T := tab) (n := C) (b := 288) (e := e0) (vs := [.d (eT t)]) (h := HX (preR mm (s.map eIs) ++ Q) C m 288 e0 O none (rowN mm 1 (s.map eIs)) q) (fn := f1000288) (asg := a18q0) (bdy := d18q0) (e1 := [(5, .ptr m 1 0 0), (6, .fp (eT t) 0)]) (h1 := HX (preR mm (s.map eIs) ++ Q) C m 288 e0 O none (rowN mm 1 (s.map eIs)) (q + 1)) (b' := 288) (e' := e0)
      (HX_get (kC mm s hmm) ..) rfl rfl rfl (hasg _) (HX_get (kC mm s hmm) ..) (by rw [HX_set (kC mm s hmm)]; exact hbody)
    rw [this]
    unfold rndEnd
    simp only [HX_get (kC mm' s' hs'), HX_set (kC mm' s' hs')]
    rfl
  cases hc : t.con with
  | false =>
    have hpr : preT t = [] := by unfold preT; rw [hc]; rfl
    refine ⟨mm, q + 1, fun h => .inr ⟨rfl, by simpa [hpr] using h⟩, by omega, ?_⟩
    rw [hpr, List.append_nil]
    refine fin mm _ s [(5, .ptr m 1 0 0), (6, .fp (eT t) 0), (18, .d (.bool false))] hmm ?_
    unfold d18q0
    apply wq_ex.1
    (simp only [e18, hcl, hc, wz, opX, intBin, ↓reduceIte, simprocAttr] <;> repeat' (first | refine wpG_s ?_ ?_ | refine wpC_s ?_ ?_) <;> intro hgo <;> (try simp only [dq] at hgo) <;> simp only [hgo, e18, hcl, hc, wz, opX, intBin, ↓reduceIte, simprocAttr])
  | true =>
    have hpr : preT t = [t.path] := by unfold preT; rw [hc]; rfl
    have happ := fun q => preR_app (Q := Q) (C := C) (m := m) (b := 288) (q := q) (mm := mm) (e0 := e0) (O := O) (s0 := some .norm) (v := rowN mm 1 (s.map eIs)) (s := s.map eIs) (x := eIs t.path) (nl := some false) rfl (by simp only [List.length_map, roomB]; omega) (by intro y hy; obtain ⟨p, _, rfl⟩ := List.mem_map.1 hy; rfl)
    have hm2 : s ++ [t.path] ≠ [] → C < nmQ (s.map eIs) mm (q + 1) := by
      intro _
      unfold nmQ
      split
      · omega
      · exact hmm (fun h => by subst h; simp at *)
    refine ⟨nmQ (s.map eIs) mm (q + 1), nqQ (s.map eIs) (q + 1), ?_, by unfold nqQ; split <;> omega, ?_⟩
    · intro _
      unfold nmQ
      by_cases h0 : s = []
      · subst h0; left; simp
      · right; exact ⟨if_neg (by simpa using h0), h0⟩
    rw [hpr]
    refine fin _ _ _ [] hm2 ?_
    have hmn : m ≠ C := by omega
    have hsm := HX_same (km mm s hmm) hmn 288 e0 O (some .norm) (rowN mm 1 (s.map eIs)) (q + 1)
    have hrw := HX_row (km mm s hmm) hmn 288 e0 O (some .norm) (rowN mm 1 (s.map eIs)) (q + 1)
    have hst := HX_st (P := preR (nmQ (s.map eIs) mm (q + 1)) ((s ++ [t.path]).map eIs) ++ Q) (km _ _ hm2) hmn 288 e0 O (some .norm) (rowN mm 1 (s.map eIs)) (rowN (nmQ (s.map eIs) mm (q + 1)) 1 (s.map eIs ++ [eIs t.path])) (nqQ (s.map eIs) (q + 1)) (by unfold rowN; split <;> rfl) (by unfold rowN; split <;> rfl)

    have hld : ldk false 1 (HX (preR mm (s.map eIs) ++ Q) C m 288 e0 O (some .norm) (rowN mm 1 (s.map eIs)) (q + 1)) (.ptr m 1 0 0) (.ptr m 1 0 0) = some (rowN mm 1 (s.map eIs)) := by simp [ldk, ld, hrw, partR]
    have hcn := fun h => cloneI_ok t.path hp h
    have hfd : ∀ (h : Hp) (x : D), frz h (.d x) = some (.d x, h) := fun _ _ => rfl
    simp only [List.map_append, List.map_cons, List.map_nil] at hst ⊢
    unfold d18q0
    apply wq_ex.1
    (simp only [e18, hcl, hc, hne, hld, hcn, hfd, hsm, happ, hst, wz, opX, intBin, ↓reduceIte, simprocAttr] <;> repeat' (first | refine wpG_s ?_ ?_ | refine wpC_s ?_ ?_) <;> intro hgo <;> (try simp only [dq] at hgo) <;> simp only [hgo, e18, hcl, hc, hne, hld, hcn, hfd, hsm, happ, hst, wz, opX, intBin, ↓reduceIte, simprocAttr])
end
end Zc28
end
section
set_option linter.unusedSimpArgs false
set_option linter.unusedVariables false
set_option linter.unusedSimpArgs false
set_option maxHeartbeats 4000000
namespace Zc28
open Go Zv Zs

theorem way_mem {l : List Ts} {to : Int} : ∀ t, t ∈ wayT l to → t ∈ l := by
  have hL : ∀ (g : List Bool → Int → List Bool × Option (List Ts)), (∀ M a T, (g M a).2 = some T → ∀ t, t ∈ T → t ∈ l) → ∀ (t : Ts), t ∈ l → ∀ (r : List Int) (M : List Bool) (T : List Ts), (srL g t r M).2 = some T → ∀ x, x ∈ T → x ∈ l := by
    intro g hg t ht r
    induction r with
    | nil => intro M T hT; cases hT
    | cons n r ih =>
      intro M T hT
      cases h2 : (g M n).2 with
      | none => rw [srL_none h2] at hT; exact ih _ T hT
      | some U =>
        rw [srL_some h2] at hT
        cases hT
        intro x hx
        rcases List.mem_cons.1 hx with rfl | hx
        · exact ht
        · exact hg M n U h2 x hx
  have hS : ∀ (k : Nat) (M : List Bool) (a : Int) (T : List Ts), (srS l to k M a).2 = some T → ∀ t, t ∈ T → t ∈ l := by
    intro k
    induction k with
    | zero => intro M a T h; cases h
    | succ k ih =>
      intro M a T h
      unfold srS at h
      cases hg : getI l a with
      | none => rw [hg] at h; cases h
      | some t =>
        rw [hg] at h
        simp only at h
        split at h
        · cases h
        · split at h
          · cases h; intro t ht; cases ht
          · have hm : t ∈ l := by
              unfold getI at hg
              split at hg
              · exact List.mem_of_getElem? hg
              · cases hg
            exact hL _ ih t hm t.next _ T h
  intro t ht
  unfold wayT at ht
  cases hs : (srS l to (l.length + 1) (List.replicate l.length false) 0).2 with
  | none => rw [hs] at ht; cases ht
  | some T => rw [hs] at ht; exact hS _ _ _ T hs t ht
theorem ptested_ok {l : List Ts} (S : Light l) (hpl : ∀ t, t ∈ l → t.path.length ≤ 1000000) (to : Int) (h : Hp) : callW tab 18 [.d (.agg [eTs l]), .d (eI to)] h = some (.d (.lst ((tstS l to).map eIs)), h) := by
  refine call_wp (fn := f18) rfl rfl ?_
  have h1 : (D.agg [eTs l]).cells.length = 1 := rfl
  have hway := fun h => way_ok l to h
  let cl : V := .clo 94 [.fp (.agg [eTs l]) 0, .fp (eI to) 0]
  let e0 : List (Nat × V) := [(5, .ptr (h.next + 1) 1 0 0), (9, cl)]
  obtain ⟨r, hr, H', rfl, hH⟩ := way1_ok l S to (.yld (h.next + 1 + 1 + 2)) rfl ((h.next + 1 + 1 + 2, .lp 288 e0 none) :: (h.next + 1, .arr 1 [.tl [] (some true)]) :: h.objs) (h.next + 1 + 1 + 2 + 1)
    (fun els n H => ∃ (Q0 : List (Nat × Ob)) (mm q : Nat), (∀ x, x ∈ Q0 → h.next + 1 + 1 + 2 < x.1 ∧ x.1 < h.next + 1 + 1 + 2 + 1 + 4) ∧ els.length ≤ 200 ∧ (wayT l to).length ≤ els.length ∧ (pthT ((wayT l to).take n) ≠ [] → h.next + 1 + 1 + 2 + 1 + 4 < mm) ∧ h.next + 1 + 1 + 2 + 1 + 4 < q ∧
      H = HX (preR mm ((pthT ((wayT l to).take n)).map eIs) ++ ((h.next + 1 + 1 + 2 + 1 + 4, .arr 5 els) :: Q0)) (h.next + 1 + 1 + 2) (h.next + 1) 288 e0 h.objs none (rowN mm 1 ((pthT ((wayT l to).take n)).map eIs)) q)
    (by
      intro M els k hS
      obtain ⟨rfl, k1, k2, k3⟩ := hS
      refine ⟨[_, _, _, _], 0, _, ?_, k3, k1, fun h => absurd rfl h, ?_, rfl⟩
      · intro x hx
        simp only [List.mem_cons, List.not_mem_nil, or_false] at hx
        rcases hx with rfl | rfl | rfl | rfl <;> simp only <;> omega
      · omega)
    (by
      rintro els n H ⟨Q0, mm, q, a1, a2, a3, a4, a5, rfl⟩
      refine row_look ?_ rfl
      unfold HX
      simp only
      rw [List.append_assoc, look_pre (preR_keys fun h1 => by have := a4 (by simpa using h1); omega)]
      simp [Zv.look])
    (by
      rintro els n t H ht ⟨Q0, mm, q, a1, a2, a3, a4, a5, rfl⟩
      have hlen : (pthT ((wayT l to).take n)).length ≤ 1000 := by
        have := pthT_len ((wayT l to).take n)
        rw [List.length_take] at this; omega
      have htm := List.mem_of_getElem? ht
      obtain ⟨mm', q', b1, b2, b3⟩ := tround_ok (Q := (h.next + 1 + 1 + 2 + 1 + 4, .arr 5 els) :: Q0) (C := h.next + 1 + 1 + 2) (m := h.next + 1)
        (by intro x hx; rcases List.mem_cons.1 hx with rfl | hx; (· simp only; omega); have := a1 x hx; omega)
        (by intro x hx; rcases List.mem_cons.1 hx with rfl | hx; (· simp only; omega); have := a1 x hx; omega)
        (by omega) cl h.objs t (hpl t (way_mem t htm)) (way_ne t htm) (pthT ((wayT l to).take n)) hlen mm (q + 1) (fun h => by have := a4 h; omega) (by omega)
      refine ⟨_, b3, Q0, mm', q', a1, a2, a3, ?_, by omega, ?_⟩
      · have htk : (wayT l to).take (n + 1) = (wayT l to).take n ++ [t] := by rw [List.take_add_one, ht]; rfl
        rw [htk, pthT_snoc]
        intro hne
        rcases b1 hne with b1 | ⟨b1, b4⟩
        · omega
        · rw [b1]; exact a4 b4
      · have htk : (wayT l to).take (n + 1) = (wayT l to).take n ++ [t] := by rw [List.take_add_one, ht]; rfl
        rw [htk, pthT_snoc])
  have hE : ∃ (P : List (Nat × Ob)) (Q : List (Nat × Ob)) (mm q : Nat), (∀ x, x ∈ P → h.next + 1 + 1 + 2 < x.1) ∧ P = preR mm ((tstS l to).map eIs) ++ Q ∧ ((tstS l to).map eIs ≠ [] → h.next ≤ mm) ∧ H' = HX P (h.next + 1 + 1 + 2) (h.next + 1) 288 e0 h.objs none (rowN mm 1 ((tstS l to).map eIs)) q := by
    rcases hH with ⟨hT, M, o, rfl⟩ | ⟨els, Q0, mm, q, a1, a2, a3, a4, a5, rfl⟩
    · have ht : tstS l to = [] := by rw [tstS_sr]; show pthT (wayT l to) = []; rw [hT]; rfl
      rw [ht]
      rcases o with _ | ⟨els, k⟩
      · refine ⟨[_, _, _, _], _, 0, _, ?_, rfl, fun h => absurd rfl h, rfl⟩
        intro x hx
        simp only [List.mem_cons, List.not_mem_nil, or_false] at hx
        rcases hx with rfl | rfl | rfl | rfl <;> simp only <;> omega
      · refine ⟨[_, _, _, _, _], _, 0, _, ?_, rfl, fun h => absurd rfl h, rfl⟩
        intro x hx
        simp only [List.mem_cons, List.not_mem_nil, or_false] at hx
        rcases hx with rfl | rfl | rfl | rfl | rfl <;> simp only <;> omega
    · rw [List.take_length] at a4 ⊢
      have ht : tstS l to = pthT (wayT l to) := tstS_sr l to
      rw [← ht] at a4 ⊢
      refine ⟨_, _, mm, q, ?_, rfl, fun h => by have := a4 (by simpa using h); omega, rfl⟩
      intro x hx
      rcases List.mem_append.1 hx with hx | hx
      · unfold preR at hx
        split at hx
        · cases hx
        · rename_i hs
          rw [List.mem_singleton] at hx
          subst hx
          have := a4 (by simpa using hs)
          simp only; omega
      · rcases List.mem_cons.1 hx with rfl | hx
        · simp only; omega
        · have := a1 x hx; omega
  obtain ⟨P, Q, mm, q, hP, rfl, hmm, rfl⟩ := hE
  have kC : ∀ x, x ∈ preR mm ((tstS l to).map eIs) ++ Q → x.1 ≠ h.next + 1 + 1 + 2 := fun x hx => by have := hP x hx; omega
  have km : ∀ x, x ∈ preR mm ((tstS l to).map eIs) ++ Q → x.1 ≠ h.next + 1 := fun x hx => by have := hP x hx; omega
  have hrng : ex tab (.rng (.t 9) 288) [(5, .ptr (h.next + 1) 1 0 0), (9, .clo 94 [.fp (.agg [eTs l]) 0, .fp (eI to) 0])] ⟨(h.next + 1, .arr 1 [.tl [] (some true)]) :: h.objs, h.next + 1 + 1 + 2⟩ = some (.norm, [(5, .ptr (h.next + 1) 1 0 0), (9, .clo 94 [.fp (.agg [eTs l]) 0, .fp (eI to) 0])], ⟨(preR mm ((tstS l to).map eIs) ++ Q) ++ (h.next + 1, .arr 1 [rowN mm 1 ((tstS l to).map eIs)]) :: h.objs, q⟩) :=
    ex_rng (f := 94) rfl hr (HX_end kC 288 e0 h.objs _ q)
  have hrow := HM_row (m := h.next + 1) km h.objs (rowN mm 1 ((tstS l to).map eIs)) q
  have hkill := HM_kill (m := h.next + 1) km h.objs (rowN mm 1 ((tstS l to).map eIs)) q
  have hld : ld false 1 ⟨(preR mm ((tstS l to).map eIs) ++ Q) ++ (h.next + 1, .arr 1 [rowN mm 1 ((tstS l to).map eIs)]) :: h.objs, q⟩ (.ptr (h.next + 1) 1 0 0) = some (rowN mm 1 ((tstS l to).map eIs)) := by simp only [ld, hrow, Option.bind_some, List.getElem?_cons_zero, partR]; simp [partR]
  have hfin := fin_pre (h := h) (mm := mm) (q := q) (Q := Q) (s := (tstS l to).map eIs) hmm
  (simp only [e18, h1, hway, wq_of hrng, hld, hkill, hfin, wz, opX, intBin, ↓reduceIte, simprocAttr] <;> repeat' (first | refine wpG_s ?_ ?_ | refine wpC_s ?_ ?_) <;> intro hgo <;> (try simp only [dq] at hgo) <;> simp only [hgo, e18, h1, hway, wq_of hrng, hld, hkill, hfin, wz, opX, intBin, ↓reduceIte, simprocAttr])
theorem tstS_path {l : List Ts} {to : Int} : ∀ p, p ∈ tstS l to → ∃ t, t ∈ l ∧ p = t.path := by
  intro p hp
  rw [show tstS l to = pthT (wayT l to) from tstS_sr l to] at hp
  obtain ⟨t, ht, hp⟩ := List.mem_flatMap.1 hp
  unfold preT at hp
  split at hp
  · rw [List.mem_singleton] at hp
    exact ⟨t, way_mem t ht, hp⟩
  · cases hp
theorem tstS_len (l : List Ts) (to : Int) : (tstS l to).length ≤ l.length + 1 := by
  unfold tstS
  cases hs : (wayS l to (l.length + 1) (List.replicate l.length false) 0).2 with
  | none => simp
  | some p => exact wayS_len l to _ _ _ p hs
end Zc28
end
section
set_option linter.unusedSimpArgs false
set_option linter.unusedVariables false
set_option linter.unusedSimpArgs false
set_option maxHeartbeats 4000000
namespace Zc28
open Go Zv Zs
theorem decisionTested : ∀ x0 x1 : D, ok (EE Zc28.es) (.one (.l 5)) x0 → ok (EE Zc28.es) (.one (.i .i64)) x1 → ∃ h', callW Zc28.tab 4 [.d x0, .d x1] ⟨[], 0⟩ = some (.d (.bool true), h') := by
  intro x0 x1 h0 h1
  obtain ⟨l, rfl, hl⟩ := okTs h0
  obtain ⟨to, rfl⟩ := okI h1
  refine ⟨⟨[], 0⟩, ?_⟩
  refine call_wp (fn := f4) rfl rfl ?_
  have aw := awake
  obtain ⟨b, hf, hb⟩ := light_ok l hl ⟨[], 0⟩
  cases b with
  | false => (simp only [e4, aw, hf, wz, opX, intBin, ↓reduceIte, simprocAttr] <;> repeat' (first | refine wpG_s ?_ ?_ | refine wpC_s ?_ ?_) <;> intro hgo <;> (try simp only [dq] at hgo) <;> simp only [hgo, e4, aw, hf, wz, opX, intBin, ↓reduceIte, simprocAttr])
  | true =>
    have F := hb rfl
    have hp : ∀ t, t ∈ l → t.path.length ≤ 1000000 := fun t ht => by have := (F.ts t ht).1; omega
    have c1 := choice_ok F.len ⟨[], 0⟩
    have s1 := ptested_ok F hp to ⟨[], 0⟩
    have s2 := rtested_ok F to ⟨[], 0⟩
    have s3 := eqL_self (tstS l to) (by have := tstS_len l to; have := F.len; omega) (fun p hp' => by
      have := tstS_path p hp'
      obtain ⟨t, ht, rfl⟩ := this
      have := (F.ts t ht).1; omega) ⟨[], 0⟩
    (simp only [e4, aw, hf, c1, s1, s2, s3, wz, opX, intBin, ↓reduceIte, simprocAttr] <;> repeat' (first | refine wpG_s ?_ ?_ | refine wpC_s ?_ ?_) <;> intro hgo <;> (try simp only [dq] at hgo) <;> simp only [hgo, e4, aw, hf, c1, s1, s2, s3, wz, opX, intBin, ↓reduceIte, simprocAttr])
end Zc28
end
