/-
  What the laws are given.
-/
import Derived.Test.YtfbkbopmenilkaaZc27S6
import Derived.Test.YtfbkbopmenilkaaZc27C0
set_option linter.unusedSimpArgs false
set_option maxHeartbeats 4000000
namespace Zc27
open Go Zv Zs

theorem okDs' {x : D} (h : ok (EE es) (.one (.l 0)) x) : ∃ a, x = eDs a ∧ a.length ≤ maxLen := by
  obtain ⟨l, rfl, hl, h2⟩ := ok_l h
  obtain ⟨xs, rfl⟩ := okEs_map (fun _ => okD) h2
  refine ⟨xs, rfl, ?_⟩
  rw [List.length_map] at hl
  exact hl
theorem okIs {x : D} (h : ok (EE es) (.one (.l 2)) x) : ∃ a, x = eIs a ∧ a.length ≤ maxLen := by
  obtain ⟨l, rfl, hl, h2⟩ := ok_l h
  obtain ⟨xs, rfl⟩ := okEs_map (fun _ => okI) h2
  refine ⟨xs, rfl, ?_⟩
  rw [List.length_map] at hl
  exact hl
mutual
theorem okP : ∀ (x : D), ok (EE es) (.st [.i .i64, .i .i64, .i .i64, .l 4]) x → ∃ p, x = ePt p
  | .agg [.int k a, .int k' b, .int k'' c, .lst qs], h => by
    simp only [ok, okCs] at h
    obtain ⟨⟨rfl, _⟩, ⟨rfl, _⟩, ⟨rfl, _⟩, ⟨_, hq⟩, _⟩ := h
    obtain ⟨ps, rfl⟩ := okPl qs hq
    exact ⟨.mk a b c ps, by rw [ePt_mk]⟩
  | x, h => by
    obtain ⟨l, rfl, h1⟩ := ok_st h
    obtain ⟨a, r, rfl, ha, h1⟩ := okCs_cons h1
    obtain ⟨b, r, rfl, hb, h1⟩ := okCs_cons h1
    obtain ⟨c, r, rfl, hc, h1⟩ := okCs_cons h1
    obtain ⟨q, r, rfl, hq, h1⟩ := okCs_cons h1
    obtain rfl := okCs_nil h1
    obtain ⟨k, rfl⟩ := okI ha
    obtain ⟨n, rfl⟩ := okI hb
    obtain ⟨m, rfl⟩ := okI hc
    obtain ⟨qs, rfl, _, hq2⟩ := ok_l hq
    obtain ⟨ps, rfl⟩ := okPl qs hq2
    exact ⟨.mk k n m ps, by rw [ePt_mk]⟩
termination_by x => sizeOf x
decreasing_by
  all_goals simp_wf
  all_goals subst_vars
  all_goals simp
  all_goals omega
theorem okPl : ∀ (l : List D), okEs (EE es) (EE es 4) l → ∃ ps : List Pt, l = ps.map ePt
  | [], _ => ⟨[], rfl⟩
  | x :: l, h => by
    simp only [okEs] at h
    obtain ⟨p, rfl⟩ := okP x h.1
    obtain ⟨ps, rfl⟩ := okPl l h.2
    exact ⟨p :: ps, rfl⟩
termination_by l => sizeOf l
end
theorem okPs {x : D} (h : ok (EE es) (.one (.l 4)) x) : ∃ a, x = ePs a ∧ a.length ≤ maxLen := by
  obtain ⟨l, rfl, hl, h2⟩ := ok_l h
  obtain ⟨xs, rfl⟩ := okPl l h2
  rw [List.length_map] at hl
  exact ⟨xs, rfl, hl⟩
theorem okRs {x : D} (h : ok (EE es) (.one (.l 3)) x) : ∃ a, x = eRs a ∧ a.length ≤ maxLen := by
  obtain ⟨l, rfl, hl, h2⟩ := ok_l h
  obtain ⟨xs, rfl⟩ := okEs_map (fun x hx => by obtain ⟨a, ha, _⟩ := okPs (x := x) hx; exact ⟨a, ha⟩) h2
  refine ⟨xs, rfl, ?_⟩
  rw [List.length_map] at hl
  exact hl
theorem Sml.bd {d : List Dt} (S : Sml d) : Bd d := ⟨by have := S.len; omega, fun y hy => by have := (S.ds y hy).2.1; omega, fun y hy c hc => by have := ((S.ds y hy).2.2 c hc).2; omega⟩
theorem Sml.nm {d : List Dt} (S : Sml d) : Nm d := fun y hy => ⟨by have := (S.ds y hy).1; omega, fun c hc => by have := ((S.ds y hy).2.2 c hc).1; omega⟩
theorem Few.rng {d : List Dt} {ts : List Int} {l : List (List Pt)} (F : Few d ts l) : Rng d ts l :=
  ⟨F.sml.bd, F.sml.nm, by have := F.ts; omega, by have := F.rows; omega, fun r hr => by have := sumC_mem hr; have := F.cnt; omega⟩
theorem Few.rows_ok {d : List Dt} {ts : List Int} {l : List (List Pt)} (F : Few d ts l) (h : Hp) : callW tab 12 [.d (eRs l)] h = some (.d (eRs l), h) :=
  Zc27.rows_ok l (by have := F.rows; omega) (fun r hr => by have := sumC_mem hr; have := F.cnt; omega) h
-- ws, wsl, opX, int, Zv.bool, intBin, reduceIte, ↓reduceIte, Nat.reduceEqDiff, Nat.reduceAdd, Nat.reduceSub, Nat.reduceLeDiff, Int.reduceLT, Int.reduceLE, Int.reduceEq, Int.reduceBEq, Int.reduceNe, Int.reduceBNe, reduceCtorEq, Nat.reduceBEq
end Zc27
