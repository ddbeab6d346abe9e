/-
  What the reference's Audit does.
-/
import Derived.Test.YtlncinhieeopmaaZc55S9
set_option linter.unusedSimpArgs false
set_option maxHeartbeats 4000000
namespace Zc55
open Go Zv Zs

theorem RP.mono {g g' : Nat → Option Ob} {nt nc : Nat} {cs : List RC} {fv : V} (P : RP g nt nc cs fv) (H : ∀ n o, g n = some o → g' n = g n) : RP g' nt nc cs fv :=
  ⟨by rw [H _ _ P.s]; exact P.s, by rw [H _ _ P.c]; exact P.c, fun i c n hc hw => by
    obtain ⟨q1, q2⟩ := P.w i c n hc hw
    exact ⟨by rw [H _ _ q1]; exact q1, q2⟩, P.e, P.ne⟩

theorem bfs_loop {h : Hp} {nt nc : Nat} {cs : List RC} {fv : V} {A : List ACl} (P : RP h.get nt nc cs fv) (L : Low h) (hab : cs.map rab = A) (sm : ∀ c, c ∈ A → c.2.2.length ≤ 24) (hN : cs.length < 2 ^ 21) :
    ∀ (k : Nat) (M : List Bool) (T : List Wd) (i p : Nat), M.length = cs.length → T.length - i + 25 * (cs.length - cnt M) < k → i ≤ T.length → T.length + 24 * (cs.length - cnt M) < 2 ^ 29 →
    wp tab (.loop f34l1) [(0, .ptr nt 1 0 0), (7, .own h.next 1 cs.length 0 cs.length), (8, .own (h.next + 1) 2 T.length 0 T.length), (9, .d (.int .i64 (cnt M : Nat))), (10, .d (.int .i64 i))] (HB h M T p)
      (fun o => ∃ M' T' p', M'.length = cs.length ∧ ((o = (.exit 2, [(0, .ptr nt 1 0 0), (7, .own h.next 1 cs.length 0 cs.length), (8, .own (h.next + 1) 2 T'.length 0 T'.length), (9, .d (.int .i64 (cnt M' : Nat))), (10, .d (.int .i64 T'.length)), (37, .d (.bool false))], HB h M' T' p') ∧ bfs A k M (T.drop i) = some M') ∨
        (o = (.ret, [(4, .d (.int .i64 0)), (5, .d (.int .i64 9))], HB h M' T' p') ∧ bfs A k M (T.drop i) = none))) := by
  have hnt := low_lt L P.s
  have hnc := low_lt L P.c
  have P' : ∀ M T p, RP (HB h M T p).get nt nc cs fv := fun M T p => P.mono (fun n o ho => HB_old h M T p (low_lt L ho))
  have hused : ∀ M T p n, callW tab 38 [.ptr nt 1 0 0, .d (eI n)] (HB h M T p) = some (.d (.bool (usedA A n)), HB h M T p) := by
    intro M T p n; rw [← hab]; exact rused_ok (P' M T p) n
  intro k
  induction k with
  | zero => intro M T i p _ hk; omega
  | succ k ih =>
    intro M T i p hM hk hi hT
    rw [wq_loop]
    by_cases hend : i = T.length
    · subst hend
      (simp only [e34, ws, wsl, opX, int, Zv.bool, intBin, reduceIte, ↓reduceIte, Nat.reduceEqDiff, Nat.reduceAdd, Nat.reduceSub, Nat.reduceLeDiff, Int.reduceLT, Int.reduceLE, Int.reduceEq, Int.reduceBEq, Int.reduceNe, Int.reduceBNe, reduceCtorEq, Nat.reduceBEq] <;> repeat' (first | refine wpG_s ?_ ?_ | refine wpC_s ?_ ?_) <;> intro hgo <;> (try simp only [decide_eq_true_eq, decide_eq_false_iff_not, Bool.not_eq_true', Bool.not_eq_false'] at hgo) <;> simp only [hgo, e34, ws, wsl, opX, int, Zv.bool, intBin, reduceIte, ↓reduceIte, Nat.reduceEqDiff, Nat.reduceAdd, Nat.reduceSub, Nat.reduceLeDiff, Int.reduceLT, Int.reduceLE, Int.reduceEq, Int.reduceBEq, Int.reduceNe, Int.reduceBNe, reduceCtorEq, Nat.reduceBEq])
      refine ⟨M, T, p, hM, ⟨rfl, rfl⟩, ?_⟩
      rw [List.drop_length]; rfl
    · have hlt : i < T.length := by omega
      obtain ⟨w, hx⟩ := get_of_lt hlt
      have hla := fun p => HB_at h M T p hx
      have hio := ia_own (es := 2) (n := h.next + 1) (tot := T.length) .i64 hlt
      have hw := wrap_succ (show i < 2 ^ 62 by omega)
      have hdrop : T.drop i = w :: T.drop (i + 1) := by
        obtain ⟨hlt, he⟩ := List.getElem?_eq_some_iff.1 hx
        rw [List.drop_eq_getElem_cons hlt, he]
      rw [hdrop, bfs]
      obtain ⟨w1, w2⟩ := w
      by_cases h2 : w1 = 2
      · subst h2
        simp only [if_true]
        cases hu : usedA A w2 with
        | false =>
          simp only [if_true]
          (simp only [e34, hlt, hio, hla, HB_next, HB_up, ibne, hused, hu, ws, wsl, opX, int, Zv.bool, intBin, reduceIte, ↓reduceIte, Nat.reduceEqDiff, Nat.reduceAdd, Nat.reduceSub, Nat.reduceLeDiff, Int.reduceLT, Int.reduceLE, Int.reduceEq, Int.reduceBEq, Int.reduceNe, Int.reduceBNe, reduceCtorEq, Nat.reduceBEq] <;> repeat' (first | refine wpG_s ?_ ?_ | refine wpC_s ?_ ?_) <;> intro hgo <;> (try simp only [decide_eq_true_eq, decide_eq_false_iff_not, Bool.not_eq_true', Bool.not_eq_false'] at hgo) <;> simp only [hgo, e34, hlt, hio, hla, HB_next, HB_up, ibne, hused, hu, ws, wsl, opX, int, Zv.bool, intBin, reduceIte, ↓reduceIte, Nat.reduceEqDiff, Nat.reduceAdd, Nat.reduceSub, Nat.reduceLeDiff, Int.reduceLT, Int.reduceLE, Int.reduceEq, Int.reduceBEq, Int.reduceNe, Int.reduceBNe, reduceCtorEq, Nat.reduceBEq])
          exact ⟨M, T, _, hM, rfl⟩
        | true =>
          obtain ⟨j, ac, rfl, hac⟩ := usedA_true hu
          have hjl : j < cs.length := by have := lt_of_get hac; rw [← hab, List.length_map] at this; exact this
          obtain ⟨c, hc⟩ := get_of_lt hjl
          obtain ⟨b, hb⟩ := get_of_lt (l := M) (n := j) (by omega)
          have hlb := fun T p => ld_bit (HB_m h M T p hM) hb
          have hoq := ia_own (es := 1) (n := h.next) (tot := cs.length) .i64 hjl
          have hgd : M.getD ((j : Int)).toNat false = b := by rw [Int.toNat_natCast, List.getD_eq_getElem?_getD, hb]; rfl
          simp only [hgd, Bool.true_eq_false, if_false]
          cases b with
          | true =>
            simp only [if_true]
            (simp only [e34, hlt, hio, hla, HB_next, HB_up, ibne, hused, hu, hoq, hlb, hw, ws, wsl, opX, int, Zv.bool, intBin, reduceIte, ↓reduceIte, Nat.reduceEqDiff, Nat.reduceAdd, Nat.reduceSub, Nat.reduceLeDiff, Int.reduceLT, Int.reduceLE, Int.reduceEq, Int.reduceBEq, Int.reduceNe, Int.reduceBNe, reduceCtorEq, Nat.reduceBEq] <;> repeat' (first | refine wpG_s ?_ ?_ | refine wpC_s ?_ ?_) <;> intro hgo <;> (try simp only [decide_eq_true_eq, decide_eq_false_iff_not, Bool.not_eq_true', Bool.not_eq_false'] at hgo) <;> simp only [hgo, e34, hlt, hio, hla, HB_next, HB_up, ibne, hused, hu, hoq, hlb, hw, ws, wsl, opX, int, Zv.bool, intBin, reduceIte, ↓reduceIte, Nat.reduceEqDiff, Nat.reduceAdd, Nat.reduceSub, Nat.reduceLeDiff, Int.reduceLT, Int.reduceLE, Int.reduceEq, Int.reduceBEq, Int.reduceNe, Int.reduceBNe, reduceCtorEq, Nat.reduceBEq])
            exact ih M T (i + 1) (p + 1) hM (by omega) (by omega) hT
          | false =>
            simp only [Bool.false_eq_true, if_false]
            have hcs := cnt_set M j hb
            have hca := cnt_all hb
            have hac' : ac = rab c := by rw [← hab, List.getElem?_map, hc] at hac; cases hac; rfl
            have hwA : wordsA A ((j : Int)).toNat = c.words := by unfold wordsA; rw [Int.toNat_natCast, hac, hac']; rfl
            have hl24 : c.words.length ≤ 24 := by have := sm ac (List.mem_of_getElem? hac); rw [hac'] at this; exact this
            have hst := fun p => HB_st h M T p hM hjl
            have hce : IntKind.i64.wrap ((cnt M : Nat) + 1) = ((cnt M + 1 : Nat) : Int) := wrap_succ (by have := cnt_le M; omega)
            have happ := fun p => HB_app h (M.set j true) T p (((P' (M.set j true) T p).words hc).2.els) (by omega)
            have prow := fun M T p => (P' M T p).row
            have pcel := fun M T p => (P' M T p).cells
            have hc3 := ia_own (es := 3) (n := nc) (tot := cs.length) .i64 hjl
            (simp only [e34, hlt, hio, hla, HB_next, HB_up, ibne, hused, hu, hoq, hlb, hst, hce, prow, pcel, hc3, List.getElem?_map, hc, rcV_cells, happ, hw, ws, wsl, opX, int, Zv.bool, intBin, reduceIte, ↓reduceIte, Nat.reduceEqDiff, Nat.reduceAdd, Nat.reduceSub, Nat.reduceLeDiff, Int.reduceLT, Int.reduceLE, Int.reduceEq, Int.reduceBEq, Int.reduceNe, Int.reduceBNe, reduceCtorEq, Nat.reduceBEq] <;> repeat' (first | refine wpG_s ?_ ?_ | refine wpC_s ?_ ?_) <;> intro hgo <;> (try simp only [decide_eq_true_eq, decide_eq_false_iff_not, Bool.not_eq_true', Bool.not_eq_false'] at hgo) <;> simp only [hgo, e34, hlt, hio, hla, HB_next, HB_up, ibne, hused, hu, hoq, hlb, hst, hce, prow, pcel, hc3, List.getElem?_map, hc, rcV_cells, happ, hw, ws, wsl, opX, int, Zv.bool, intBin, reduceIte, ↓reduceIte, Nat.reduceEqDiff, Nat.reduceAdd, Nat.reduceSub, Nat.reduceLeDiff, Int.reduceLT, Int.reduceLE, Int.reduceEq, Int.reduceBEq, Int.reduceNe, Int.reduceBNe, reduceCtorEq, Nat.reduceBEq])
            have := ih (M.set j true) (T ++ c.words) (i + 1) (p + 1) (by rw [List.length_set]; exact hM) (by rw [List.length_append, hcs]; omega) (by rw [List.length_append]; omega) (by rw [List.length_append, hcs]; omega)
            rw [hcs, List.drop_append_of_le_length (by omega)] at this
            rw [hwA]
            simp only [List.length_append] at this
            exact this
      · simp only [h2, if_false]
        (simp only [e34, hlt, hio, hla, HB_next, HB_up, ibne, h2, hw, ws, wsl, opX, int, Zv.bool, intBin, reduceIte, ↓reduceIte, Nat.reduceEqDiff, Nat.reduceAdd, Nat.reduceSub, Nat.reduceLeDiff, Int.reduceLT, Int.reduceLE, Int.reduceEq, Int.reduceBEq, Int.reduceNe, Int.reduceBNe, reduceCtorEq, Nat.reduceBEq] <;> repeat' (first | refine wpG_s ?_ ?_ | refine wpC_s ?_ ?_) <;> intro hgo <;> (try simp only [decide_eq_true_eq, decide_eq_false_iff_not, Bool.not_eq_true', Bool.not_eq_false'] at hgo) <;> simp only [hgo, e34, hlt, hio, hla, HB_next, HB_up, ibne, h2, hw, ws, wsl, opX, int, Zv.bool, intBin, reduceIte, ↓reduceIte, Nat.reduceEqDiff, Nat.reduceAdd, Nat.reduceSub, Nat.reduceLeDiff, Int.reduceLT, Int.reduceLE, Int.reduceEq, Int.reduceBEq, Int.reduceNe, Int.reduceBNe, reduceCtorEq, Nat.reduceBEq])
        exact ih M T (i + 1) (p + 1) hM (by omega) (by omega) hT

def raudS (S : St) (roots : List Wd) : Int × Int :=
  if roots.any (fun w => !formedS w) = true then (0, 3) else
  match bfs S.cells (roots.length + 25 * S.cells.length + 1) (List.replicate S.cells.length false) roots with
  | none => (0, 9)
  | some M => if (S.cells.zip M).any (fun q => q.1.1 && !q.2) = true then (0, 23) else ((cnt M : Nat), 0)
theorem raudit_ok {h : Hp} {nt nc : Nat} {O : Nat → Prop} {S : St} (R : RS h nt nc O S) (L : Low h) (hN : S.cells.length ≤ 2 ^ 20) (roots : List Wd) (hl : roots.length < 2 ^ 20) :
    callW tab 34 [.ptr nt 1 0 0, .d (eWs roots)] h = some (.tup [.d (eI (raudS S roots).1), .d (eI (raudS S roots).2)], h) := by
  apply call_wp (fn := f34) rfl rfl
  obtain ⟨⟨cs, fv, P, F, hab, hown⟩, hok, hos⟩ := R
  have hcl : cs.length = S.cells.length := by rw [← hab, List.length_map]
  have hnt := low_lt L P.s
  have hnc := low_lt L P.c
  have hloop := loop_any (T := tab) (a := f34l0) (l := roots) (p := (fun w => !formedS w)) (f := fun n => [(0, .ptr nt 1 0 0), (1, .d (eWs roots)), (6, int n)]) (h := h)
      (by intro n x hx hlt hp; simp only [Bool.not_eq_true', Bool.not_eq_false'] at hp; all_goals (apply wq_ex.1; (simp only [hlt, hp, e34, iaW hx, rform_ok, wrap_succ (show n < 2 ^ 62 by omega), ws, wsl, opX, int, Zv.bool, intBin, reduceIte, ↓reduceIte, Nat.reduceEqDiff, Nat.reduceAdd, Nat.reduceSub, Nat.reduceLeDiff, Int.reduceLT, Int.reduceLE, Int.reduceEq, Int.reduceBEq, Int.reduceNe, Int.reduceBNe, reduceCtorEq, Nat.reduceBEq] <;> repeat' (first | refine wpG_s ?_ ?_ | refine wpC_s ?_ ?_) <;> intro hgo <;> (try simp only [decide_eq_true_eq, decide_eq_false_iff_not, Bool.not_eq_true', Bool.not_eq_false'] at hgo) <;> simp only [hgo, hlt, hp, e34, iaW hx, rform_ok, wrap_succ (show n < 2 ^ 62 by omega), ws, wsl, opX, int, Zv.bool, intBin, reduceIte, ↓reduceIte, Nat.reduceEqDiff, Nat.reduceAdd, Nat.reduceSub, Nat.reduceLeDiff, Int.reduceLT, Int.reduceLE, Int.reduceEq, Int.reduceBEq, Int.reduceNe, Int.reduceBNe, reduceCtorEq, Nat.reduceBEq])))
      (by intro n x hx hlt hp; simp only [Bool.not_eq_true', Bool.not_eq_false'] at hp; all_goals (apply wq_ex.1; (simp only [hlt, hp, e34, iaW hx, rform_ok, wrap_succ (show n < 2 ^ 62 by omega), ws, wsl, opX, int, Zv.bool, intBin, reduceIte, ↓reduceIte, Nat.reduceEqDiff, Nat.reduceAdd, Nat.reduceSub, Nat.reduceLeDiff, Int.reduceLT, Int.reduceLE, Int.reduceEq, Int.reduceBEq, Int.reduceNe, Int.reduceBNe, reduceCtorEq, Nat.reduceBEq] <;> repeat' (first | refine wpG_s ?_ ?_ | refine wpC_s ?_ ?_) <;> intro hgo <;> (try simp only [decide_eq_true_eq, decide_eq_false_iff_not, Bool.not_eq_true', Bool.not_eq_false'] at hgo) <;> simp only [hgo, hlt, hp, e34, iaW hx, rform_ok, wrap_succ (show n < 2 ^ 62 by omega), ws, wsl, opX, int, Zv.bool, intBin, reduceIte, ↓reduceIte, Nat.reduceEqDiff, Nat.reduceAdd, Nat.reduceSub, Nat.reduceLeDiff, Int.reduceLT, Int.reduceLE, Int.reduceEq, Int.reduceBEq, Int.reduceNe, Int.reduceBNe, reduceCtorEq, Nat.reduceBEq]) <;> rfl))
      (by apply wq_ex.1; (simp only [e34, ws, wsl, opX, int, Zv.bool, intBin, reduceIte, ↓reduceIte, Nat.reduceEqDiff, Nat.reduceAdd, Nat.reduceSub, Nat.reduceLeDiff, Int.reduceLT, Int.reduceLE, Int.reduceEq, Int.reduceBEq, Int.reduceNe, Int.reduceBNe, reduceCtorEq, Nat.reduceBEq] <;> repeat' (first | refine wpG_s ?_ ?_ | refine wpC_s ?_ ?_) <;> intro hgo <;> (try simp only [decide_eq_true_eq, decide_eq_false_iff_not, Bool.not_eq_true', Bool.not_eq_false'] at hgo) <;> simp only [hgo, e34, ws, wsl, opX, int, Zv.bool, intBin, reduceIte, ↓reduceIte, Nat.reduceEqDiff, Nat.reduceAdd, Nat.reduceSub, Nat.reduceLeDiff, Int.reduceLT, Int.reduceLE, Int.reduceEq, Int.reduceBEq, Int.reduceNe, Int.reduceBNe, reduceCtorEq, Nat.reduceBEq]) <;> rfl)
      (by simp) (by simp)
  simp only [int, Zv.bool, Int.cast_ofNat_Int] at hloop
  unfold raudS
  cases hf : roots.any fun w => !formedS w with
  | true =>
    rw [hf, if_pos rfl] at hloop
    (simp only [e34, wq_of hloop, ws, wsl, opX, int, Zv.bool, intBin, reduceIte, ↓reduceIte, Nat.reduceEqDiff, Nat.reduceAdd, Nat.reduceSub, Nat.reduceLeDiff, Int.reduceLT, Int.reduceLE, Int.reduceEq, Int.reduceBEq, Int.reduceNe, Int.reduceBNe, reduceCtorEq, Nat.reduceBEq] <;> repeat' (first | refine wpG_s ?_ ?_ | refine wpC_s ?_ ?_) <;> intro hgo <;> (try simp only [decide_eq_true_eq, decide_eq_false_iff_not, Bool.not_eq_true', Bool.not_eq_false'] at hgo) <;> simp only [hgo, e34, wq_of hloop, ws, wsl, opX, int, Zv.bool, intBin, reduceIte, ↓reduceIte, Nat.reduceEqDiff, Nat.reduceAdd, Nat.reduceSub, Nat.reduceLeDiff, Int.reduceLT, Int.reduceLE, Int.reduceEq, Int.reduceBEq, Int.reduceNe, Int.reduceBNe, reduceCtorEq, Nat.reduceBEq])
  | false =>
    rw [hf, if_neg (by simp)] at hloop
    rw [if_neg (by simp)]
    have hmk : mkslO (.d (.bool false)) 1 1 h (.d (.int .i64 (cs.length : Int))) = some (.own h.next 1 cs.length 0 cs.length, ⟨(h.next, .arr 1 ((List.replicate cs.length false).map bV)) :: h.objs, h.next + 1⟩) := by
      simp only [mkslO, ixOf_nat, Option.bind_some]
      rw [if_pos (by unfold roomB; omega)]
      simp [Hp.alloc]
    have hc0 : cnt (List.replicate cs.length false) = 0 := by unfold cnt; simp
    have happ := app_cp (h := ⟨(h.next, .arr 1 ((List.replicate cs.length false).map bV)) :: h.objs, h.next + 1⟩) (v := .d (eWs roots)) (l := roots) rfl hl
    -- the last loop
    have last : ∀ (H : Hp) (M : List Bool), M.length = cs.length → RP H.get nt nc cs fv → H.row h.next cs.length = some (1, M.map bV) →
        ex tab (.loop f34l2) [(0, .ptr nt 1 0 0), (7, .own h.next 1 cs.length 0 cs.length), (9, .d (.int .i64 (cnt M : Nat))), (12, .d (.int .i64 0))] H =
          some (if (cs.zip M).any (fun q => q.1.used && !q.2) = true then (.ret, [(4, .d (.int .i64 0)), (5, .d (.int .i64 23))], H) else (.exit 4, [(0, .ptr nt 1 0 0), (7, .own h.next 1 cs.length 0 cs.length), (9, .d (.int .i64 (cnt M : Nat))), (12, .d (.int .i64 cs.length)), (81, .d (.bool false))], H)) := by
      intro H M hM PH hrm
      have prow := PH.row
      have pcel := PH.cells
      have hl2 := loop_any (T := tab) (a := f34l2) (l := cs.zip M) (p := (fun q => q.1.used && !q.2)) (f := fun n => [(0, .ptr nt 1 0 0), (7, .own h.next 1 cs.length 0 cs.length), (9, .d (.int .i64 (cnt M : Nat))), (12, int n)]) (h := H)
          (by intro n x hx hlt hp; obtain ⟨c, b⟩ := x; have hx' := List.getElem?_zip_eq_some.1 hx; have hlt' := lt_of_get hx'.1; have hxc : cs[n]? = some c := hx'.1; have hxb : M[n]? = some b := hx'.2; have hc3 := ia_own (es := 3) (n := nc) (tot := cs.length) .i64 hlt'; have hc1 := ia_own (es := 1) (n := h.next) (tot := cs.length) .i64 hlt'; have hlb := ld_bit hrm hxb; simp only at hp; cases hcu : c.used; all_goals cases b; all_goals simp only [hcu, Bool.not_true, Bool.not_false, Bool.and_true, Bool.and_false, Bool.true_and, Bool.false_and, Bool.true_eq_false, Bool.false_eq_true] at hp; all_goals (apply wq_ex.1; (simp only [hlt, hp, e34, prow, pcel, hc3, hc1, hlb, hlt', List.getElem?_map, hxc, rcV_cells, hcu, wrap_succ (show n < 2 ^ 62 by omega), ws, wsl, opX, int, Zv.bool, intBin, reduceIte, ↓reduceIte, Nat.reduceEqDiff, Nat.reduceAdd, Nat.reduceSub, Nat.reduceLeDiff, Int.reduceLT, Int.reduceLE, Int.reduceEq, Int.reduceBEq, Int.reduceNe, Int.reduceBNe, reduceCtorEq, Nat.reduceBEq] <;> repeat' (first | refine wpG_s ?_ ?_ | refine wpC_s ?_ ?_) <;> intro hgo <;> (try simp only [decide_eq_true_eq, decide_eq_false_iff_not, Bool.not_eq_true', Bool.not_eq_false'] at hgo) <;> simp only [hgo, hlt, hp, e34, prow, pcel, hc3, hc1, hlb, hlt', List.getElem?_map, hxc, rcV_cells, hcu, wrap_succ (show n < 2 ^ 62 by omega), ws, wsl, opX, int, Zv.bool, intBin, reduceIte, ↓reduceIte, Nat.reduceEqDiff, Nat.reduceAdd, Nat.reduceSub, Nat.reduceLeDiff, Int.reduceLT, Int.reduceLE, Int.reduceEq, Int.reduceBEq, Int.reduceNe, Int.reduceBNe, reduceCtorEq, Nat.reduceBEq])))
          (by intro n x hx hlt hp; obtain ⟨c, b⟩ := x; have hx' := List.getElem?_zip_eq_some.1 hx; have hlt' := lt_of_get hx'.1; have hxc : cs[n]? = some c := hx'.1; have hxb : M[n]? = some b := hx'.2; have hc3 := ia_own (es := 3) (n := nc) (tot := cs.length) .i64 hlt'; have hc1 := ia_own (es := 1) (n := h.next) (tot := cs.length) .i64 hlt'; have hlb := ld_bit hrm hxb; simp only at hp; cases hcu : c.used; all_goals cases b; all_goals simp only [hcu, Bool.not_true, Bool.not_false, Bool.and_true, Bool.and_false, Bool.true_and, Bool.false_and, Bool.true_eq_false, Bool.false_eq_true] at hp; all_goals (apply wq_ex.1; (simp only [hlt, hp, e34, prow, pcel, hc3, hc1, hlb, hlt', List.getElem?_map, hxc, rcV_cells, hcu, wrap_succ (show n < 2 ^ 62 by omega), ws, wsl, opX, int, Zv.bool, intBin, reduceIte, ↓reduceIte, Nat.reduceEqDiff, Nat.reduceAdd, Nat.reduceSub, Nat.reduceLeDiff, Int.reduceLT, Int.reduceLE, Int.reduceEq, Int.reduceBEq, Int.reduceNe, Int.reduceBNe, reduceCtorEq, Nat.reduceBEq] <;> repeat' (first | refine wpG_s ?_ ?_ | refine wpC_s ?_ ?_) <;> intro hgo <;> (try simp only [decide_eq_true_eq, decide_eq_false_iff_not, Bool.not_eq_true', Bool.not_eq_false'] at hgo) <;> simp only [hgo, hlt, hp, e34, prow, pcel, hc3, hc1, hlb, hlt', List.getElem?_map, hxc, rcV_cells, hcu, wrap_succ (show n < 2 ^ 62 by omega), ws, wsl, opX, int, Zv.bool, intBin, reduceIte, ↓reduceIte, Nat.reduceEqDiff, Nat.reduceAdd, Nat.reduceSub, Nat.reduceLeDiff, Int.reduceLT, Int.reduceLE, Int.reduceEq, Int.reduceBEq, Int.reduceNe, Int.reduceBNe, reduceCtorEq, Nat.reduceBEq]) <;> rfl))
          (by apply wq_ex.1; (simp only [e34, prow, show (cs.zip M).length = cs.length by simp [hM], ws, wsl, opX, int, Zv.bool, intBin, reduceIte, ↓reduceIte, Nat.reduceEqDiff, Nat.reduceAdd, Nat.reduceSub, Nat.reduceLeDiff, Int.reduceLT, Int.reduceLE, Int.reduceEq, Int.reduceBEq, Int.reduceNe, Int.reduceBNe, reduceCtorEq, Nat.reduceBEq] <;> repeat' (first | refine wpG_s ?_ ?_ | refine wpC_s ?_ ?_) <;> intro hgo <;> (try simp only [decide_eq_true_eq, decide_eq_false_iff_not, Bool.not_eq_true', Bool.not_eq_false'] at hgo) <;> simp only [hgo, e34, prow, show (cs.zip M).length = cs.length by simp [hM], ws, wsl, opX, int, Zv.bool, intBin, reduceIte, ↓reduceIte, Nat.reduceEqDiff, Nat.reduceAdd, Nat.reduceSub, Nat.reduceLeDiff, Int.reduceLT, Int.reduceLE, Int.reduceEq, Int.reduceBEq, Int.reduceNe, Int.reduceBNe, reduceCtorEq, Nat.reduceBEq]) <;> rfl)
          (by simp) (by simp)
      simp only [int, Zv.bool, Int.cast_ofNat_Int] at hl2
      exact hl2
    have hzip : ∀ M : List Bool, (S.cells.zip M).any (fun q => q.1.1 && !q.2) = (cs.zip M).any (fun q => q.1.used && !q.2) := by
      intro M
      rw [← hab]
      generalize cs = l
      induction l generalizing M with
      | nil => rfl
      | cons c l ih =>
        cases M with
        | nil => rfl
        | cons b M => simp only [List.map_cons, List.zip_cons_cons, List.any_cons, ih M]; rfl
    by_cases hr : roots = []
    · subst hr
      have hb : bfs S.cells (([] : List Wd).length + 25 * S.cells.length + 1) (List.replicate S.cells.length false) [] = some (List.replicate S.cells.length false) := rfl
      rw [hb]
      simp only [cpV, cpH, if_true] at happ
      have PH : RP (⟨(h.next, .arr 1 ((List.replicate cs.length false).map bV)) :: h.objs, h.next + 1⟩ : Hp).get nt nc cs fv := P.mono (fun n o ho => by
        have := low_lt L ho
        rw [get_mk, if_neg (by omega)]; rfl)
      have hl2 := last _ (List.replicate cs.length false) (by simp) PH (by rw [row_lk, get_mk, if_pos rfl, rowOf_arr, if_pos (by simp)])
      rw [hc0] at hl2
      rw [← hcl]
      simp only [hc0, hzip]
      have e0 : ex tab (.loop f34l1) [(0, .ptr nt 1 0 0), (7, .own h.next 1 cs.length 0 cs.length), (8, .tl [] (some false)), (9, .d (.int .i64 0)), (10, .d (.int .i64 0))] ⟨(h.next, .arr 1 ((List.replicate cs.length false).map bV)) :: h.objs, h.next + 1⟩ = some (.exit 2, [(0, .ptr nt 1 0 0), (7, .own h.next 1 cs.length 0 cs.length), (8, .tl [] (some false)), (9, .d (.int .i64 0)), (10, .d (.int .i64 0)), (37, .d (.bool false))], ⟨(h.next, .arr 1 ((List.replicate cs.length false).map bV)) :: h.objs, h.next + 1⟩) := by
        apply wq_ex.1
        rw [wq_loop]
        (simp only [e34, Int.cast_ofNat_Int, ws, wsl, opX, int, Zv.bool, intBin, reduceIte, ↓reduceIte, Nat.reduceEqDiff, Nat.reduceAdd, Nat.reduceSub, Nat.reduceLeDiff, Int.reduceLT, Int.reduceLE, Int.reduceEq, Int.reduceBEq, Int.reduceNe, Int.reduceBNe, reduceCtorEq, Nat.reduceBEq] <;> repeat' (first | refine wpG_s ?_ ?_ | refine wpC_s ?_ ?_) <;> intro hgo <;> (try simp only [decide_eq_true_eq, decide_eq_false_iff_not, Bool.not_eq_true', Bool.not_eq_false'] at hgo) <;> simp only [hgo, e34, Int.cast_ofNat_Int, ws, wsl, opX, int, Zv.bool, intBin, reduceIte, ↓reduceIte, Nat.reduceEqDiff, Nat.reduceAdd, Nat.reduceSub, Nat.reduceLeDiff, Int.reduceLT, Int.reduceLE, Int.reduceEq, Int.reduceBEq, Int.reduceNe, Int.reduceBNe, reduceCtorEq, Nat.reduceBEq])
      simp only [Int.cast_ofNat_Int] at hl2
      cases hz : (cs.zip (List.replicate cs.length false)).any (fun q => q.1.used && !q.2) with
      | true =>
        rw [hz, if_pos rfl] at hl2
        (simp only [e34, wq_of hloop, P.row, hmk, happ, wq_of e0, wq_of hl2, ws, wsl, opX, int, Zv.bool, intBin, reduceIte, ↓reduceIte, Nat.reduceEqDiff, Nat.reduceAdd, Nat.reduceSub, Nat.reduceLeDiff, Int.reduceLT, Int.reduceLE, Int.reduceEq, Int.reduceBEq, Int.reduceNe, Int.reduceBNe, reduceCtorEq, Nat.reduceBEq] <;> repeat' (first | refine wpG_s ?_ ?_ | refine wpC_s ?_ ?_) <;> intro hgo <;> (try simp only [decide_eq_true_eq, decide_eq_false_iff_not, Bool.not_eq_true', Bool.not_eq_false'] at hgo) <;> simp only [hgo, e34, wq_of hloop, P.row, hmk, happ, wq_of e0, wq_of hl2, ws, wsl, opX, int, Zv.bool, intBin, reduceIte, ↓reduceIte, Nat.reduceEqDiff, Nat.reduceAdd, Nat.reduceSub, Nat.reduceLeDiff, Int.reduceLT, Int.reduceLE, Int.reduceEq, Int.reduceBEq, Int.reduceNe, Int.reduceBNe, reduceCtorEq, Nat.reduceBEq])
      | false =>
        rw [hz, if_neg (by simp)] at hl2
        (simp only [e34, wq_of hloop, P.row, hmk, happ, wq_of e0, wq_of hl2, ws, wsl, opX, int, Zv.bool, intBin, reduceIte, ↓reduceIte, Nat.reduceEqDiff, Nat.reduceAdd, Nat.reduceSub, Nat.reduceLeDiff, Int.reduceLT, Int.reduceLE, Int.reduceEq, Int.reduceBEq, Int.reduceNe, Int.reduceBNe, reduceCtorEq, Nat.reduceBEq] <;> repeat' (first | refine wpG_s ?_ ?_ | refine wpC_s ?_ ?_) <;> intro hgo <;> (try simp only [decide_eq_true_eq, decide_eq_false_iff_not, Bool.not_eq_true', Bool.not_eq_false'] at hgo) <;> simp only [hgo, e34, wq_of hloop, P.row, hmk, happ, wq_of e0, wq_of hl2, ws, wsl, opX, int, Zv.bool, intBin, reduceIte, ↓reduceIte, Nat.reduceEqDiff, Nat.reduceAdd, Nat.reduceSub, Nat.reduceLeDiff, Int.reduceLT, Int.reduceLE, Int.reduceEq, Int.reduceBEq, Int.reduceNe, Int.reduceBNe, reduceCtorEq, Nat.reduceBEq])
    · have hcv : cpV (h.next + 1) roots = .own (h.next + 1) 2 roots.length 0 roots.length := by unfold cpV; rw [if_neg hr]
      have hch : cpH ⟨(h.next, .arr 1 ((List.replicate cs.length false).map bV)) :: h.objs, h.next + 1⟩ roots = HB h (List.replicate cs.length false) roots (h.next + 2) := by unfold cpH; rw [if_neg hr]; rfl
      simp only [hcv, hch] at happ
      obtain ⟨o, ho, M', T', p', hM', hor⟩ := bfs_loop P L hab hok.sm (by omega) (roots.length + 25 * S.cells.length + 1) (List.replicate cs.length false) roots 0 (h.next + 2) (by simp) (by rw [hc0, ← hcl]; omega) (Nat.zero_le _) (by rw [hc0]; omega)
      rw [List.drop_zero, hcl] at hor
      rw [hc0] at ho
      simp only [Int.cast_ofNat_Int] at ho
      have PH := fun M T p => P.mono (g' := (HB h M T p).get) (fun n o ho => HB_old h M T p (low_lt L ho))
      rcases hor with ⟨rfl, hb⟩ | ⟨rfl, hb⟩
      · rw [hb]
        simp only [hzip]
        have hl2 := last _ _ hM' (PH M' T' p') (HB_m h M' T' p' hM')
        rw [← hcl] at ho
        cases hz : (cs.zip M').any (fun q => q.1.used && !q.2) with
        | true =>
          rw [hz, if_pos rfl] at hl2
          (simp only [e34, wq_of hloop, P.row, hmk, happ, wq_of ho, wq_of hl2, HB_fin, ws, wsl, opX, int, Zv.bool, intBin, reduceIte, ↓reduceIte, Nat.reduceEqDiff, Nat.reduceAdd, Nat.reduceSub, Nat.reduceLeDiff, Int.reduceLT, Int.reduceLE, Int.reduceEq, Int.reduceBEq, Int.reduceNe, Int.reduceBNe, reduceCtorEq, Nat.reduceBEq] <;> repeat' (first | refine wpG_s ?_ ?_ | refine wpC_s ?_ ?_) <;> intro hgo <;> (try simp only [decide_eq_true_eq, decide_eq_false_iff_not, Bool.not_eq_true', Bool.not_eq_false'] at hgo) <;> simp only [hgo, e34, wq_of hloop, P.row, hmk, happ, wq_of ho, wq_of hl2, HB_fin, ws, wsl, opX, int, Zv.bool, intBin, reduceIte, ↓reduceIte, Nat.reduceEqDiff, Nat.reduceAdd, Nat.reduceSub, Nat.reduceLeDiff, Int.reduceLT, Int.reduceLE, Int.reduceEq, Int.reduceBEq, Int.reduceNe, Int.reduceBNe, reduceCtorEq, Nat.reduceBEq])
        | false =>
          rw [hz, if_neg (by simp)] at hl2
          (simp only [e34, wq_of hloop, P.row, hmk, happ, wq_of ho, wq_of hl2, HB_fin, ws, wsl, opX, int, Zv.bool, intBin, reduceIte, ↓reduceIte, Nat.reduceEqDiff, Nat.reduceAdd, Nat.reduceSub, Nat.reduceLeDiff, Int.reduceLT, Int.reduceLE, Int.reduceEq, Int.reduceBEq, Int.reduceNe, Int.reduceBNe, reduceCtorEq, Nat.reduceBEq] <;> repeat' (first | refine wpG_s ?_ ?_ | refine wpC_s ?_ ?_) <;> intro hgo <;> (try simp only [decide_eq_true_eq, decide_eq_false_iff_not, Bool.not_eq_true', Bool.not_eq_false'] at hgo) <;> simp only [hgo, e34, wq_of hloop, P.row, hmk, happ, wq_of ho, wq_of hl2, HB_fin, ws, wsl, opX, int, Zv.bool, intBin, reduceIte, ↓reduceIte, Nat.reduceEqDiff, Nat.reduceAdd, Nat.reduceSub, Nat.reduceLeDiff, Int.reduceLT, Int.reduceLE, Int.reduceEq, Int.reduceBEq, Int.reduceNe, Int.reduceBNe, reduceCtorEq, Nat.reduceBEq])
      · rw [hb]
        (simp only [e34, wq_of hloop, P.row, hmk, happ, wq_of ho, HB_fin, ws, wsl, opX, int, Zv.bool, intBin, reduceIte, ↓reduceIte, Nat.reduceEqDiff, Nat.reduceAdd, Nat.reduceSub, Nat.reduceLeDiff, Int.reduceLT, Int.reduceLE, Int.reduceEq, Int.reduceBEq, Int.reduceNe, Int.reduceBNe, reduceCtorEq, Nat.reduceBEq] <;> repeat' (first | refine wpG_s ?_ ?_ | refine wpC_s ?_ ?_) <;> intro hgo <;> (try simp only [decide_eq_true_eq, decide_eq_false_iff_not, Bool.not_eq_true', Bool.not_eq_false'] at hgo) <;> simp only [hgo, e34, wq_of hloop, P.row, hmk, happ, wq_of ho, HB_fin, ws, wsl, opX, int, Zv.bool, intBin, reduceIte, ↓reduceIte, Nat.reduceEqDiff, Nat.reduceAdd, Nat.reduceSub, Nat.reduceLeDiff, Int.reduceLT, Int.reduceLE, Int.reduceEq, Int.reduceBEq, Int.reduceNe, Int.reduceBNe, reduceCtorEq, Nat.reduceBEq])
-- ws, wsl, opX, int, Zv.bool, intBin, reduceIte, ↓reduceIte, Nat.reduceEqDiff, Nat.reduceAdd, Nat.reduceSub, Nat.reduceLeDiff, Int.reduceLT, Int.reduceLE, Int.reduceEq, Int.reduceBEq, Int.reduceNe, Int.reduceBNe, reduceCtorEq, Nat.reduceBEq
end Zc55
