/-
  Parts of the proof.
-/
import Derived.Test.YtmhbpocjmaacpaaZc28D4
section
set_option linter.unusedSimpArgs false
set_option linter.unusedVariables false
set_option linter.unusedSimpArgs false
set_option maxHeartbeats 4000000
namespace Zc28
open Go Zv Zs

theorem rsel_l0 (l : List Ts) (v : List Vl) (t : Ts) (hp : t.path.length ≤ 12) (L : List (Nat × Ob)) (q N : Nat) (n : Nat) (x0 : Vl) (hp1 : 1 ≤ t.path.length) :
    wp tab (.loop f26l0) [(0, .d (eTs l)), (1, .d (eVs v)), (7, .d (.int .i64 (n : Int))), (8, .fp (eT t) 0), (9, .ptr q 1 0 0), (10, .d (.int .i64 1))] ⟨(q, .arr 3 [.d (eV x0)]) :: L, N⟩
      (fun o => (atG (t.path.drop 1) x0 (argV x0) = none ∧ o = (.ret, [(4, .d (eI 0)), (5, .d (eI 3))], ⟨L, N⟩)) ∨ ∃ x, atG (t.path.drop 1) x0 (argV x0) = some x ∧ o = (.exit 2, [(0, .d (eTs l)), (1, .d (eVs v)), (7, .d (.int .i64 (n : Int))), (8, .fp (eT t) 0), (9, .ptr q 1 0 0), (10, .d (.int .i64 (t.path.length : Int))), (73, .d (.bool false))], ⟨(q, .arr 3 [.d (eV x)]) :: L, N⟩)) := by
  refine loop_wp (t.path.length - 1) (fun j e h' => ∃ x, e = [(0, .d (eTs l)), (1, .d (eVs v)), (7, .d (.int .i64 (n : Int))), (8, .fp (eT t) 0), (9, .ptr q 1 0 0), (10, .d (.int .i64 ((j + 1 : Nat) : Int)))] ∧ h' = ⟨(q, .arr 3 [.d (eV x)]) :: L, N⟩ ∧ atG (t.path.drop 1) x0 (argV x0) = atG (t.path.drop (j + 1)) x (argV x)) _ ?_ ?_ (t.path.length - 1) 0 _ _ (by omega) ⟨x0, rfl, rfl, rfl⟩
  · rintro j e h' hj ⟨x, rfl, rfl, hx⟩
    have hj1 : j + 1 < t.path.length := by omega
    obtain ⟨i, hi⟩ := get_of_lt hj1
    have hlt : ((j + 1 : Nat) : Int) < (t.path.length : Int) := by omega
    have hia := iaI hi
    have hwr : IntKind.i64.wrap (((j + 1 : Nat) : Int) + 1) = ((j + 1 + 1 : Nat) : Int) := by rw [wrap_ok (by omega) (by omega)]; rfl
    generalize hJ : ((j + 1 : Nat) : Int) = J at *
    rw [drop_at hi] at hx
    simp only [atG] at hx
    rcases getI_cases (argV x) i with ⟨h1, h2⟩ | ⟨h1, h2, h3⟩ | ⟨m, y, rfl, hm, hy, h2⟩
    · rw [h2] at hx
      rw [hx]
      (simp only [e26, hlt, hia, h1, eV_cs, wz, opX, intBin, ↓reduceIte, simprocAttr] <;> repeat' (first | refine wpG_s ?_ ?_ | refine wpC_s ?_ ?_) <;> intro hgo <;> (try simp only [dq] at hgo) <;> simp only [hgo, e26, hlt, hia, h1, eV_cs, wz, opX, intBin, ↓reduceIte, simprocAttr])
    · rw [h3] at hx
      rw [hx]
      (simp only [e26, hlt, hia, h1, h2, eV_cs, wz, opX, intBin, ↓reduceIte, simprocAttr] <;> repeat' (first | refine wpG_s ?_ ?_ | refine wpC_s ?_ ?_) <;> intro hgo <;> (try simp only [dq] at hgo) <;> simp only [hgo, e26, hlt, hia, h1, h2, eV_cs, wz, opX, intBin, ↓reduceIte, simprocAttr])
    · rw [h2] at hx
      have hm2 : ¬ ((argV x).length : Int) ≤ (m : Int) := by omega
      (simp only [e26, hlt, hia, hm2, iaV hy, aggV, eV_cs, eV_cells, hwr, wz, opX, intBin, ↓reduceIte, simprocAttr] <;> repeat' (first | refine wpG_s ?_ ?_ | refine wpC_s ?_ ?_) <;> intro hgo <;> (try simp only [dq] at hgo) <;> simp only [hgo, e26, hlt, hia, hm2, iaV hy, aggV, eV_cs, eV_cells, hwr, wz, opX, intBin, ↓reduceIte, simprocAttr])
      exact ⟨y, by obtain ⟨a, b, c⟩ := y; rw [eV_mk]; rfl, hx⟩
  · rintro e h' ⟨x, rfl, rfl, hx⟩
    have e1 : t.path.length - 1 + 1 = t.path.length := by omega
    rw [e1, List.drop_length] at hx
    rw [hx, e1]
    (simp only [e26, wz, opX, intBin, ↓reduceIte, simprocAttr] <;> repeat' (first | refine wpG_s ?_ ?_ | refine wpC_s ?_ ?_) <;> intro hgo <;> (try simp only [dq] at hgo) <;> simp only [hgo, e26, wz, opX, intBin, ↓reduceIte, simprocAttr])
    exact ⟨x, rfl, rfl⟩
def ogo : Option Vl → List Int → Option Vl
  | none, _ => none
  | some y, p => atG p y (argV y)
theorem rsel_ok {l : List Ts} {v : List Vl} (S : Light l) (hv : v.length ≤ 8) (h : Hp) : callW tab 26 [.d (eTs l), .d (eVs v)] h = some (.tup [.d (eI (runS l v (l.length + 1) 0).1), .d (eI (runS l v (l.length + 1) 0).2)], h) := by
  refine call_wp (fn := f26) rfl rfl ?_
  have hl := S.len
  (simp only [e26, wz, opX, intBin, ↓reduceIte, simprocAttr] <;> repeat' (first | refine wpG_s ?_ ?_ | refine wpC_s ?_ ?_) <;> intro hgo <;> (try simp only [dq] at hgo) <;> simp only [hgo, e26, wz, opX, intBin, ↓reduceIte, simprocAttr])
  refine loop_wp (l.length + 1) (fun n e h' => ∃ q a, h' = ⟨h.objs, q⟩ ∧ e = [(0, .d (eTs l)), (1, .d (eVs v)), (6, .d (eI a)), (7, .d (.int .i64 (n : Int)))] ∧ runS l v (l.length + 1) 0 = runS l v (l.length + 1 - n) a) _ ?_ ?_ (l.length + 1) 0 _ _ (by omega) ⟨h.next, 0, rfl, rfl, rfl⟩
  · rintro n e h' hn ⟨q, a, rfl, rfl, hR⟩
    have hn1 : (n : Int) ≤ (l.length : Int) := by omega
    have hwr : IntKind.i64.wrap ((n : Int) + 1) = ((n + 1 : Nat) : Int) := by rw [wrap_ok (by omega) (by omega)]; rfl
    rcases getI_cases l a with ⟨h1, h2⟩ | ⟨h1, h2, h3⟩ | ⟨m, t, rfl, hm, ht, hgt⟩
    · rw [hR, run_E (stp_none h2)]
      (simp only [e26, hn1, h1, wz, opX, intBin, ↓reduceIte, simprocAttr] <;> repeat' (first | refine wpG_s ?_ ?_ | refine wpC_s ?_ ?_) <;> intro hgo <;> (try simp only [dq] at hgo) <;> simp only [hgo, e26, hn1, h1, wz, opX, intBin, ↓reduceIte, simprocAttr])
    · rw [hR, run_E (stp_none h3)]
      (simp only [e26, hn1, h1, h2, wz, opX, intBin, ↓reduceIte, simprocAttr] <;> repeat' (first | refine wpG_s ?_ ?_ | refine wpC_s ?_ ?_) <;> intro hgo <;> (try simp only [dq] at hgo) <;> simp only [hgo, e26, hn1, h1, h2, wz, opX, intBin, ↓reduceIte, simprocAttr])
    · obtain ⟨k, hk⟩ : ∃ k, l.length + 1 - n = k + 1 := ⟨l.length - n, by omega⟩
      have hm2 : ¬ (l.length : Int) ≤ (m : Int) := by omega
      obtain ⟨hpl, -⟩ := S.ts t (List.mem_of_getElem? ht)
      by_cases hx : t.next.length = 0
      · have hs : stpS l v m = .R t.row := by unfold stpS; rw [hgt]; simp only [hx, if_true]
        rw [hR, hk, runS, hs]
        (simp only [e26, hn1, hm2, iaT ht, hx, conS, wz, opX, intBin, ↓reduceIte, simprocAttr] <;> repeat' (first | refine wpG_s ?_ ?_ | refine wpC_s ?_ ?_) <;> intro hgo <;> (try simp only [dq] at hgo) <;> simp only [hgo, e26, hn1, hm2, iaT ht, hx, conS, wz, opX, intBin, ↓reduceIte, simprocAttr])
      · have hst8 : stpS l v m = spO (goS t v) := by
          unfold stpS; rw [hgt]; simp only [hx, if_false]
        have hxl : ((t.next.length : Int) == 0) = false := by rw [beq_eq_false_iff_ne]; omega
        by_cases hnl : n = l.length
        · have hnb : ((n : Int) == (l.length : Int)) = true := by rw [hnl]; exact beq_self_eq_true _
          have hE : runS l v (l.length + 1 - n) (m : Int) = (0, 3) := by
            rw [show l.length + 1 - n = 1 by omega, runS, hst8]
            cases goS t v <;> rfl
          rw [hR, hE]
          (simp only [e26, hn1, hm2, iaT ht, hxl, hnb, wz, opX, intBin, ↓reduceIte, simprocAttr] <;> repeat' (first | refine wpG_s ?_ ?_ | refine wpC_s ?_ ?_) <;> intro hgo <;> (try simp only [dq] at hgo) <;> simp only [hgo, e26, hn1, hm2, iaT ht, hxl, hnb, wz, opX, intBin, ↓reduceIte, simprocAttr])
        · have hnb : ((n : Int) == (l.length : Int)) = false := by rw [beq_eq_false_iff_ne]; omega
          have hR1 : runS l v (l.length + 1) 0 = conS (runS l v k) (spO (goS t v)) := by rw [hR, hk, runS, hst8]
          rcases hpath : t.path with _ | ⟨i, p⟩
          · have hg : goS t v = none := by unfold goS; rw [hpath]; rfl
            rw [hR1, hg]
            (simp only [e26, hn1, hm2, iaT ht, hxl, hnb, hpath, spO, conS, wz, opX, intBin, ↓reduceIte, simprocAttr] <;> repeat' (first | refine wpG_s ?_ ?_ | refine wpC_s ?_ ?_) <;> intro hgo <;> (try simp only [dq] at hgo) <;> simp only [hgo, e26, hn1, hm2, iaT ht, hxl, hnb, hpath, spO, conS, wz, opX, intBin, ↓reduceIte, simprocAttr])
          · have hpl0 : ((t.path.length : Int) == 0) = false := by rw [beq_eq_false_iff_ne, hpath, List.length_cons]; omega
            have h0 : t.path[0]? = some i := by rw [hpath]; rfl
            have hia : ia 1 (.d (eIs t.path)) (.d (.int .i64 0)) = some (.fp (eI i) 0) := iaI h0
            have hdr : t.path.drop 1 = p := by rw [hpath]; rfl
            have haR : atR t.path v = ogo (getI v i) p := by rw [hpath]; cases hg : getI v i <;> simp [atR, hg, ogo]
            clear hpath
            rcases getI_cases v i with ⟨h1, h2⟩ | ⟨h1, h2, h3⟩ | ⟨m2, x0, rfl, hm3, hx0, h2⟩
            · have hg : goS t v = none := by unfold goS; rw [haR, h2]; rfl
              rw [hR1, hg]
              (simp only [e26, hn1, hm2, iaT ht, hxl, hnb, hpl0, hia, h1, spO, conS, wz, opX, intBin, ↓reduceIte, simprocAttr] <;> repeat' (first | refine wpG_s ?_ ?_ | refine wpC_s ?_ ?_) <;> intro hgo <;> (try simp only [dq] at hgo) <;> simp only [hgo, e26, hn1, hm2, iaT ht, hxl, hnb, hpl0, hia, h1, spO, conS, wz, opX, intBin, ↓reduceIte, simprocAttr])
            · have hg : goS t v = none := by unfold goS; rw [haR, h3]; rfl
              rw [hR1, hg]
              (simp only [e26, hn1, hm2, iaT ht, hxl, hnb, hpl0, hia, h1, h2, spO, conS, wz, opX, intBin, ↓reduceIte, simprocAttr] <;> repeat' (first | refine wpG_s ?_ ?_ | refine wpC_s ?_ ?_) <;> intro hgo <;> (try simp only [dq] at hgo) <;> simp only [hgo, e26, hn1, hm2, iaT ht, hxl, hnb, hpl0, hia, h1, h2, spO, conS, wz, opX, intBin, ↓reduceIte, simprocAttr])
            · have hm4 : ¬ (v.length : Int) ≤ (m2 : Int) := by omega
              have haR : atR t.path v = atG p x0 (argV x0) := by rw [haR, h2]; rfl
              have hp1 : 1 ≤ t.path.length := by
                rcases hq : t.path with _ | ⟨a, b⟩
                · rw [hq] at h0; cases h0
                · simp
              have hwp := fun L q N => rsel_l0 l v t hpl L q N n x0 hp1
              rw [hdr, ← haR] at hwp
              (simp only [e26, hn1, hm2, iaT ht, hxl, hnb, hpl0, hia, hm4, iaV hx0, aggV, eV_cells, wz, opX, intBin, ↓reduceIte, simprocAttr] <;> repeat' (first | refine wpG_s ?_ ?_ | refine wpC_s ?_ ?_) <;> intro hgo <;> (try simp only [dq] at hgo) <;> simp only [hgo, e26, hn1, hm2, iaT ht, hxl, hnb, hpl0, hia, hm4, iaV hx0, aggV, eV_cells, wz, opX, intBin, ↓reduceIte, simprocAttr])
              refine wq_mono (hwp _ _ _) ?_
              rintro o (⟨hz, rfl⟩ | ⟨x, hz, rfl⟩)
              · have hg : goS t v = none := by unfold goS; rw [hz]
                rw [hR1, hg]
                (simp only [e26, spO, conS, wz, opX, intBin, ↓reduceIte, simprocAttr] <;> repeat' (first | refine wpG_s ?_ ?_ | refine wpC_s ?_ ?_) <;> intro hgo <;> (try simp only [dq] at hgo) <;> simp only [hgo, e26, spO, conS, wz, opX, intBin, ↓reduceIte, simprocAttr])
              · cases hcon : t.con with
                | true =>
                  have hg : goS t v = getI t.next (conV x) := by unfold goS; rw [hz]; simp only [hcon, if_true]
                  rcases getI_cases t.next (conV x) with ⟨h1, h2⟩ | ⟨h1, h2, h3⟩ | ⟨i, b, h1, hi, hb2, h3⟩
                  · have hgo2 : goS t v = none := by rw [hg, h2]
                    rw [hR1, hgo2]
                    first | exact absurd h1 (by decide) | ((simp only [e26, hcon, eV_cs, h1, spO, conS, wz, opX, intBin, ↓reduceIte, simprocAttr] <;> repeat' (first | refine wpG_s ?_ ?_ | refine wpC_s ?_ ?_) <;> intro hgo <;> (try simp only [dq] at hgo) <;> simp only [hgo, e26, hcon, eV_cs, h1, spO, conS, wz, opX, intBin, ↓reduceIte, simprocAttr]))
                  · have hgo2 : goS t v = none := by rw [hg, h3]
                    rw [hR1, hgo2]
                    (simp only [e26, hcon, eV_cs, h1, h2, spO, conS, wz, opX, intBin, ↓reduceIte, simprocAttr] <;> repeat' (first | refine wpG_s ?_ ?_ | refine wpC_s ?_ ?_) <;> intro hgo <;> (try simp only [dq] at hgo) <;> simp only [hgo, e26, hcon, eV_cs, h1, h2, spO, conS, wz, opX, intBin, ↓reduceIte, simprocAttr])
                  · have hgo2 : goS t v = some b := by rw [hg, h3]
                    have hi2 : ¬ (t.next.length : Int) ≤ (conV x) := by omega
                    have hi3 : ¬ ((conV x) : Int) < 0 := by omega
                    have hia2 := iaI hb2
                    rw [← h1] at hia2
                    rw [hgo2] at hR1
                    (simp only [e26, hcon, eV_cs, hi2, hi3, hia2, hwr, wz, opX, intBin, ↓reduceIte, simprocAttr] <;> repeat' (first | refine wpG_s ?_ ?_ | refine wpC_s ?_ ?_) <;> intro hgo <;> (try simp only [dq] at hgo) <;> simp only [hgo, e26, hcon, eV_cs, hi2, hi3, hia2, hwr, wz, opX, intBin, ↓reduceIte, simprocAttr])
                    exact ⟨_, b, rfl, rfl, by rw [hR1, show l.length - n = k by omega]; rfl⟩
                | false =>
                  by_cases hnum : numV x = t.num
                  · have hg : goS t v = getI t.next 0 := by unfold goS; rw [hz]; simp only [hcon, hnum, if_true, if_false, Bool.false_eq_true]
                    have hnb : (numV x == t.num) = true := by rw [hnum]; exact beq_self_eq_true _
                    rcases getI_cases t.next 0 with ⟨h1, h2⟩ | ⟨h1, h2, h3⟩ | ⟨i, b, h1, hi, hb2, h3⟩
                    · have hgo2 : goS t v = none := by rw [hg, h2]
                      rw [hR1, hgo2]
                      first | exact absurd h1 (by decide) | ((simp only [e26, hcon, hnb, eV_cs, h1, spO, conS, wz, opX, intBin, ↓reduceIte, simprocAttr] <;> repeat' (first | refine wpG_s ?_ ?_ | refine wpC_s ?_ ?_) <;> intro hgo <;> (try simp only [dq] at hgo) <;> simp only [hgo, e26, hcon, hnb, eV_cs, h1, spO, conS, wz, opX, intBin, ↓reduceIte, simprocAttr]))
                    · have hgo2 : goS t v = none := by rw [hg, h3]
                      rw [hR1, hgo2]
                      (simp only [e26, hcon, hnb, eV_cs, h1, h2, spO, conS, wz, opX, intBin, ↓reduceIte, simprocAttr] <;> repeat' (first | refine wpG_s ?_ ?_ | refine wpC_s ?_ ?_) <;> intro hgo <;> (try simp only [dq] at hgo) <;> simp only [hgo, e26, hcon, hnb, eV_cs, h1, h2, spO, conS, wz, opX, intBin, ↓reduceIte, simprocAttr])
                    · have hgo2 : goS t v = some b := by rw [hg, h3]
                      have hi2 : ¬ (t.next.length : Int) ≤ 0 := by omega
                      have hi3 : ¬ (0 : Int) < 0 := by omega
                      have hia2 := iaI hb2
                      rw [← h1] at hia2
                      rw [hgo2] at hR1
                      (simp only [e26, hcon, hnb, eV_cs, hi2, hi3, hia2, hwr, wz, opX, intBin, ↓reduceIte, simprocAttr] <;> repeat' (first | refine wpG_s ?_ ?_ | refine wpC_s ?_ ?_) <;> intro hgo <;> (try simp only [dq] at hgo) <;> simp only [hgo, e26, hcon, hnb, eV_cs, hi2, hi3, hia2, hwr, wz, opX, intBin, ↓reduceIte, simprocAttr])
                      exact ⟨_, b, rfl, rfl, by rw [hR1, show l.length - n = k by omega]; rfl⟩
                  · have hg : goS t v = getI t.next 1 := by unfold goS; rw [hz]; simp only [hcon, hnum, if_true, if_false, Bool.false_eq_true]
                    have hnb : (numV x == t.num) = false := beq_eq_false_iff_ne.2 hnum
                    rcases getI_cases t.next 1 with ⟨h1, h2⟩ | ⟨h1, h2, h3⟩ | ⟨i, b, h1, hi, hb2, h3⟩
                    · have hgo2 : goS t v = none := by rw [hg, h2]
                      rw [hR1, hgo2]
                      first | exact absurd h1 (by decide) | ((simp only [e26, hcon, hnb, eV_cs, h1, spO, conS, wz, opX, intBin, ↓reduceIte, simprocAttr] <;> repeat' (first | refine wpG_s ?_ ?_ | refine wpC_s ?_ ?_) <;> intro hgo <;> (try simp only [dq] at hgo) <;> simp only [hgo, e26, hcon, hnb, eV_cs, h1, spO, conS, wz, opX, intBin, ↓reduceIte, simprocAttr]))
                    · have hgo2 : goS t v = none := by rw [hg, h3]
                      rw [hR1, hgo2]
                      (simp only [e26, hcon, hnb, eV_cs, h1, h2, spO, conS, wz, opX, intBin, ↓reduceIte, simprocAttr] <;> repeat' (first | refine wpG_s ?_ ?_ | refine wpC_s ?_ ?_) <;> intro hgo <;> (try simp only [dq] at hgo) <;> simp only [hgo, e26, hcon, hnb, eV_cs, h1, h2, spO, conS, wz, opX, intBin, ↓reduceIte, simprocAttr])
                    · have hgo2 : goS t v = some b := by rw [hg, h3]
                      have hi2 : ¬ (t.next.length : Int) ≤ 1 := by omega
                      have hi3 : ¬ (1 : Int) < 0 := by omega
                      have hia2 := iaI hb2
                      rw [← h1] at hia2
                      rw [hgo2] at hR1
                      (simp only [e26, hcon, hnb, eV_cs, hi2, hi3, hia2, hwr, wz, opX, intBin, ↓reduceIte, simprocAttr] <;> repeat' (first | refine wpG_s ?_ ?_ | refine wpC_s ?_ ?_) <;> intro hgo <;> (try simp only [dq] at hgo) <;> simp only [hgo, e26, hcon, hnb, eV_cs, hi2, hi3, hia2, hwr, wz, opX, intBin, ↓reduceIte, simprocAttr])
                      exact ⟨_, b, rfl, rfl, by rw [hR1, show l.length - n = k by omega]; rfl⟩
  · rintro e h' ⟨q, a, rfl, rfl, hR⟩
    have hw : ¬ ((l.length + 1 : Nat) : Int) ≤ (l.length : Int) := by omega
    rw [hR, show l.length + 1 - (l.length + 1) = 0 by omega]
    (simp only [e26, hw, runS, wz, opX, intBin, ↓reduceIte, simprocAttr] <;> repeat' (first | refine wpG_s ?_ ?_ | refine wpC_s ?_ ?_) <;> intro hgo <;> (try simp only [dq] at hgo) <;> simp only [hgo, e26, hw, runS, wz, opX, intBin, ↓reduceIte, simprocAttr])
end Zc28
end
section
set_option linter.unusedSimpArgs false
set_option linter.unusedVariables false
set_option linter.unusedSimpArgs false
set_option maxHeartbeats 4000000
namespace Zc28
open Go Zv Zs

abbrev zC : V := .agg [.tl [] (some true)]
def hC (h : Hp) (s : List Ts) (q : Nat) : Hp := if s = [] then ⟨(h.next + 1, .arr 1 [zC]) :: (h.next, .arr 1 [zC]) :: h.objs, h.next + 1 + 1⟩ else
  ⟨(h.next + 3, .arr 5 ((s.map eT).map .d)) :: (h.next + 1, .arr 1 [.own (h.next + 3) 5 s.length 0 s.length]) :: (h.next, .arr 1 [zC]) :: h.objs, q⟩
theorem row_s {a b : Nat} (hn : b ≠ a) (o : Ob) (es : Nat) (z : V) (r : List (Nat × Ob)) (q : Nat) : Hp.row ⟨(a, o) :: (b, .arr es [z]) :: r, q⟩ b 1 = some (es, [z]) :=
  row_look (by rw [look_tl _ _ hn, look_hd]) rfl
theorem st_t {a b : Nat} (hn : b ≠ a) (o : Ob) (z : V) (r : List (Nat × Ob)) (q : Nat) (x : V) (h1 : stor x = true) (h2 : x.cells.length = 1) : st 1 ⟨(a, o) :: (b, .arr 1 [z]) :: r, q⟩ (.ptr b 1 0 0) x = some ⟨(a, o) :: (b, .arr 1 [x]) :: r, q⟩ := by
  have hs : ∀ y, Hp.set ⟨(a, o) :: (b, .arr 1 [z]) :: r, q⟩ b y = ⟨(a, o) :: (b, y) :: r, q⟩ := by
    intro y; unfold Hp.set; simp [upd, hn]
  simp [st, row_s hn, h1, h2, hs]
theorem app_0 (x : D) (hx : x.cells.length = 5) (r : List (Nat × Ob)) (q : Nat) (nl : Option Bool) : app 5 72 ⟨r, q⟩ (.tl [] nl) (.tl [.d x] (some false)) = some (.own q 5 1 0 1, ⟨(q, .arr 5 [.d x]) :: r, q + 1⟩) := by
  simp [app, elems, allV, roomB, Hp.alloc, stor, V.cells, hx, norm_d]
theorem app_1 (x : D) (hx : x.cells.length = 5) (s : List D) (hs : s.length ≤ 1000) (m : Nat) (r : List (Nat × Ob)) (q : Nat) : app 5 72 ⟨(m, .arr 5 (s.map .d)) :: r, q⟩ (.own m 5 s.length 0 s.length) (.tl [.d x] (some false)) = some (.own m 5 (s.length + 1) 0 (s.length + 1), ⟨(m, .arr 5 ((s ++ [x]).map .d)) :: r, q⟩) := by
  have hr : Hp.row ⟨(m, .arr 5 (s.map V.d)) :: r, q⟩ m s.length = some (5, s.map .d) := row_look (look_hd ..) (by simp)
  have hs2 : ∀ y, Hp.set ⟨(m, .arr 5 (s.map V.d)) :: r, q⟩ m y = ⟨(m, y) :: r, q⟩ := by
    intro y; unfold Hp.set; simp [upd]
  have hb : (s.length + 1) * 72 ≤ roomB := by unfold roomB; omega
  have ht : List.take s.length (s.map V.d) = s.map V.d := List.take_of_length_le (by simp)
  have hn : ¬ s.length + 1 ≤ s.length := by omega
  simp [app, elems, allV, stor, V.cells, hx, norm_d, hr, hs2, hb, ht, hn]
theorem hC_ne (h : Hp) {s : List Ts} (hs : s ≠ []) (q : Nat) : hC h s q = ⟨(h.next + 3, .arr 5 ((s.map eT).map .d)) :: (h.next + 1, .arr 1 [.own (h.next + 3) 5 s.length 0 s.length]) :: (h.next, .arr 1 [zC]) :: h.objs, q⟩ := if_neg hs
theorem hC_sn (h : Hp) (s : List Ts) (t : Ts) (q : Nat) : hC h (s ++ [t]) q = ⟨(h.next + 3, .arr 5 ((s.map eT ++ [eT t]).map .d)) :: (h.next + 1, .arr 1 [.own (h.next + 3) 5 (s.length + 1) 0 (s.length + 1)]) :: (h.next, .arr 1 [zC]) :: h.objs, q⟩ := by
  rw [hC_ne h (by simp)]; simp
theorem ld_z (n : Nat) (r : List (Nat × Ob)) (q : Nat) : ld true 1 ⟨(n, .arr 1 [zC]) :: r, q⟩ (.ptr n 1 0 0) = some zC := by simp [ld, row_hd]
theorem fin_z (h : Hp) (o : Nat × Ob) (m : Nat) : finS h ⟨o :: h.objs, m⟩ [zC] = some (.d (.agg [.lst []]), h) := by
  have e : finS h ⟨o :: h.objs, m⟩ [zC] = finS h ⟨o :: h.objs, m⟩ [.d (.agg [.lst []])] := rfl
  rw [e]; exact finS1c ..
section
variable (h : Hp) (o : Ob) (n q : Nat) (z : V)
theorem e_ld : ld true 1 ⟨(h.next + 3, o) :: (h.next + 1, .arr 1 [.own (h.next + 3) 5 n 0 n]) :: (h.next, .arr 1 [z]) :: h.objs, q⟩ (.ptr (h.next + 1) 1 0 0) = some (.agg [.own (h.next + 3) 5 n 0 n]) := by
  have hrw := row_s (a := h.next + 3) (b := h.next + 1) (by omega) o 1 (.own (h.next + 3) 5 n 0 n) ((h.next, .arr 1 [z]) :: h.objs) q
  simp [ld, hrw, partV, V.cells, mkAgg_own]
theorem e_st (x y : V) (h1 : stor x = true) (h2 : x.cells.length = 1) : st 1 ⟨(h.next + 3, o) :: (h.next + 1, .arr 1 [y]) :: (h.next, .arr 1 [z]) :: h.objs, q⟩ (.ptr h.next 1 0 0) x = some ⟨(h.next + 3, o) :: (h.next + 1, .arr 1 [y]) :: (h.next, .arr 1 [x]) :: h.objs, q⟩ := by
  have hr : Hp.row ⟨(h.next + 3, o) :: (h.next + 1, .arr 1 [y]) :: (h.next, .arr 1 [z]) :: h.objs, q⟩ h.next 1 = some (1, [z]) :=
    row_look (by rw [look_tl _ _ (by omega), look_tl _ _ (by omega), look_hd]) rfl
  have hs : ∀ w, Hp.set ⟨(h.next + 3, o) :: (h.next + 1, .arr 1 [y]) :: (h.next, .arr 1 [z]) :: h.objs, q⟩ h.next w = ⟨(h.next + 3, o) :: (h.next + 1, .arr 1 [y]) :: (h.next, w) :: h.objs, q⟩ := by
    intro w; unfold Hp.set; simp [upd]
  simp [st, hr, h1, h2, hs]
theorem e_kill (y : V) : Hp.kill ⟨(h.next + 3, o) :: (h.next + 1, .arr 1 [y]) :: (h.next, .arr 1 [z]) :: h.objs, q⟩ (h.next + 1) = ⟨(h.next + 3, o) :: (h.next, .arr 1 [z]) :: h.objs, q⟩ := by
  unfold Hp.kill
  simp [del]
theorem e_ld2 (vs : List V) : ld true 1 ⟨(h.next + 3, o) :: (h.next, .arr 1 [.agg vs]) :: h.objs, q⟩ (.ptr h.next 1 0 0) = some (.agg vs) := by
  have hrw := row_s (a := h.next + 3) (b := h.next) (by omega) o 1 (.agg vs) h.objs q
  simp [ld, hrw]
theorem e_fin (s : List D) (p : Nat × Ob) : finS h ⟨(h.next + 3, .arr 5 (s.map .d)) :: p :: h.objs, q⟩ [.agg [.own (h.next + 3) 5 s.length 0 s.length]] = some (.d (.agg [.lst s]), h) := by
  have hr : Hp.row ⟨(h.next + 3, .arr 5 (s.map .d)) :: p :: h.objs, q⟩ (h.next + 3) s.length = some (5, s.map .d) := row_look (look_hd ..) (by simp)
  have hm : ∀ (H : Hp) (k : Nat) (l : List D), (l.map V.d).mapM (deep H h.next (k + 1)) = some l := by
    intro H k l
    induction l with
    | nil => rfl
    | cons x l ih => rw [List.map_cons, List.mapM_cons, ih]; rfl
  have ht : List.take s.length (s.map V.d) = s.map V.d := List.take_of_length_le (by simp)
  have hd : deep ⟨(h.next + 3, .arr 5 (s.map .d)) :: p :: h.objs, q⟩ h.next 8 (.agg [.own (h.next + 3) 5 s.length 0 s.length]) = some (.agg [.lst s]) := by
    have h1 : deep ⟨(h.next + 3, .arr 5 (s.map .d)) :: p :: h.objs, q⟩ h.next 7 (.own (h.next + 3) 5 s.length 0 s.length) = some (.lst s) := by
      show (if h.next ≤ h.next + 3 then _ else _) = _
      rw [if_pos (by omega), hr, Option.bind_some, if_pos (by simp), List.drop_zero, ht, hm]; rfl
    show Option.map D.agg (List.mapM (deep _ h.next 7) [_]) = _
    rw [List.mapM_cons, h1]; rfl
  unfold finS
  rw [if_pos (suf_two _ _ _)]
  simp [back1, hd, resV]
end
theorem choice_ok {l : List Ts} (hl : l.length ≤ 40) (h : Hp) : callW tab 19 [.d (eTs l)] h = some (.d (.agg [eTs l]), h) := by
  refine call_wp (fn := f19) rfl rfl ?_
  (simp only [e19, wz, opX, intBin, ↓reduceIte, simprocAttr] <;> repeat' (first | refine wpG_s ?_ ?_ | refine wpC_s ?_ ?_) <;> intro hgo <;> (try simp only [dq] at hgo) <;> simp only [hgo, e19, wz, opX, intBin, ↓reduceIte, simprocAttr])
  refine loop_wp l.length (fun n e h' => ∃ q, h' = hC h (l.take n) q ∧ e = [(2, .ptr h.next 1 0 0), (3, .ptr (h.next + 1) 1 0 0), (6, .d (eTs l)), (7, .d (.int .i64 l.length)), (8, .d (.int .i64 (n : Int)))]) _ ?_ ?_ l.length 0 _ _ (by omega) ⟨0, rfl, rfl⟩
  · rintro n e h' hn ⟨q, rfl, rfl⟩
    obtain ⟨t, ht⟩ := get_of_lt hn
    have hwr : IntKind.i64.wrap ((n : Int) + 1) = ((n + 1 : Nat) : Int) := by rw [wrap_ok (by omega) (by omega)]; rfl
    have htk : l.take (n + 1) = l.take n ++ [t] := by rw [List.take_add_one, ht]; rfl
    by_cases h0 : n = 0
    · subst h0
      rw [htk]
      simp only [List.take_zero, List.nil_append, hC, if_true]
      have h0l : (0 : Int) < (l.length : Int) := by omega
      have hia : ia 5 (.d (eTs l)) (.d (.int .i64 0)) = some (.fp (eT t) 0) := iaT ht
      have hcl : (eT t).cells.length = 5 := rfl
      have happ := fun r q nl => app_0 (eT t) hcl r q nl
      have hst := fun z r q x => st_t (a := h.next + 1 + 1 + 1) (b := h.next + 1) (by omega) (.arr 5 [.d (eT t)]) z r q x
      (simp only [e19, h0l, hia, happ, hst, wz, opX, intBin, ↓reduceIte, simprocAttr] <;> repeat' (first | refine wpG_s ?_ ?_ | refine wpC_s ?_ ?_) <;> intro hgo <;> (try simp only [dq] at hgo) <;> simp only [hgo, e19, h0l, hia, happ, hst, wz, opX, intBin, ↓reduceIte, simprocAttr])
      exact ⟨_, rfl, rfl⟩
    · have hne : l.take n ≠ [] := by
        intro hz
        have := congrArg List.length hz
        rw [List.length_take, List.length_nil] at this; omega
      have htl : (l.take n).length = n := by rw [List.length_take]; omega
      rw [htk, hC_ne h hne]
      simp only [hC_sn, htl]
      have hcl : (eT t).cells.length = 5 := rfl
      have happ := fun r q => app_1 (eT t) hcl ((l.take n).map eT) (by simp; omega) (h.next + 3) r q
      simp only [List.length_map, htl] at happ
      have hst := fun o z r q x => st_t (a := h.next + 3) (b := h.next + 1) (by omega) o z r q x
      have hrw := fun o z r q => row_s (a := h.next + 3) (b := h.next + 1) (by omega) o 1 z r q
      (simp only [e19, hn, iaT ht, happ, hst, hrw, hwr, wz, opX, intBin, ↓reduceIte, simprocAttr] <;> repeat' (first | refine wpG_s ?_ ?_ | refine wpC_s ?_ ?_) <;> intro hgo <;> (try simp only [dq] at hgo) <;> simp only [hgo, e19, hn, iaT ht, happ, hst, hrw, hwr, wz, opX, intBin, ↓reduceIte, simprocAttr])
      exact ⟨_, rfl⟩
  · rintro e h' ⟨q, rfl, rfl⟩
    rw [List.take_length]
    by_cases hne : l = []
    · subst hne
      (simp only [e19, hC, ld_z, fin_z, wz, opX, intBin, ↓reduceIte, simprocAttr] <;> repeat' (first | refine wpG_s ?_ ?_ | refine wpC_s ?_ ?_) <;> intro hgo <;> (try simp only [dq] at hgo) <;> simp only [hgo, e19, hC, ld_z, fin_z, wz, opX, intBin, ↓reduceIte, simprocAttr])
      rfl
    · rw [hC_ne h hne]
      have hf := fun q p => e_fin h q (l.map eT) p
      simp only [List.length_map] at hf
      (simp only [e19, e_ld, e_st, e_kill, e_ld2, hf, wz, opX, intBin, ↓reduceIte, simprocAttr] <;> repeat' (first | refine wpG_s ?_ ?_ | refine wpC_s ?_ ?_) <;> intro hgo <;> (try simp only [dq] at hgo) <;> simp only [hgo, e19, e_ld, e_st, e_kill, e_ld2, hf, wz, opX, intBin, ↓reduceIte, simprocAttr])
end Zc28
end
section
set_option linter.unusedSimpArgs false
set_option linter.unusedVariables false
set_option linter.unusedSimpArgs false
set_option maxHeartbeats 4000000
namespace Zc28
open Go Zv Zs
theorem decisionSelects : ∀ x0 x1 : D, ok (EE Zc28.es) (.one (.l 5)) x0 → ok (EE Zc28.es) (.one (.l 7)) x1 → ∃ h', callW Zc28.tab 6 [.d x0, .d x1] ⟨[], 0⟩ = some (.d (.bool true), h') := by
  intro x0 x1 h0 h1
  obtain ⟨l, rfl, hl⟩ := okTs h0
  obtain ⟨v, rfl, hv⟩ := okVs h1
  refine ⟨⟨[], 0⟩, ?_⟩
  refine call_wp (fn := f6) rfl rfl ?_
  have aw := awake
  obtain ⟨b, hf, hb⟩ := light_ok l hl ⟨[], 0⟩
  cases b with
  | false => (simp only [e6, aw, hf, wz, opX, intBin, ↓reduceIte, simprocAttr] <;> repeat' (first | refine wpG_s ?_ ?_ | refine wpC_s ?_ ?_) <;> intro hgo <;> (try simp only [dq] at hgo) <;> simp only [hgo, e6, aw, hf, wz, opX, intBin, ↓reduceIte, simprocAttr])
  | true =>
    have F := hb rfl
    by_cases h8 : (8 : Int) < (v.length : Int)
    · (simp only [e6, aw, hf, h8, wz, opX, intBin, ↓reduceIte, simprocAttr] <;> repeat' (first | refine wpG_s ?_ ?_ | refine wpC_s ?_ ?_) <;> intro hgo <;> (try simp only [dq] at hgo) <;> simp only [hgo, e6, aw, hf, h8, wz, opX, intBin, ↓reduceIte, simprocAttr])
    · have hv8 : v.length ≤ 8 := by omega
      have c1 := choice_ok F.len ⟨[], 0⟩
      have s1 := psel_ok F hv8 ⟨[], 0⟩
      have s2 := rsel_ok F hv8 ⟨[], 0⟩
      (simp only [e6, aw, hf, h8, c1, s1, s2, wz, opX, intBin, ↓reduceIte, simprocAttr] <;> repeat' (first | refine wpG_s ?_ ?_ | refine wpC_s ?_ ?_) <;> intro hgo <;> (try simp only [dq] at hgo) <;> simp only [hgo, e6, aw, hf, h8, c1, s1, s2, wz, opX, intBin, ↓reduceIte, simprocAttr])
end Zc28
end
