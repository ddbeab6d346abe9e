/-
  What the program's Audit does.
-/
import Derived.Test.YtlncinhieeopmaaZc55S3
set_option linter.unusedSimpArgs false
set_option maxHeartbeats 4000000
namespace Zc55
open Go Zv Zs

def wordsA (A : List ACl) (i : Nat) : List Wd := match A[i]? with
  | some c => c.2.2
  | none => []
def visK (A : List ACl) (rec : List Bool → List Wd → Option (List Bool)) : List Bool → List Wd → Option (List Bool)
  | M, [] => some M
  | M, w :: l => if w.1 = 2 then (if usedA A w.2 = false then none else if M.getD w.2.toNat false = true then visK A rec M l else
      match rec (M.set w.2.toNat true) (wordsA A w.2.toNat) with
      | none => none
      | some M' => visK A rec M' l) else visK A rec M l
def visS (A : List ACl) : Nat → List Bool → List Wd → Option (List Bool)
  | 0 => visK A fun _ _ => none
  | k + 1 => visK A (visS A k)
def cnt (M : List Bool) : Nat := M.countP id
theorem cnt_le (M : List Bool) : cnt M ≤ M.length := List.countP_le_length
theorem cnt_set : ∀ (M : List Bool) (k : Nat), M[k]? = some false → cnt (M.set k true) = cnt M + 1
  | [], _, h => by simp at h
  | b :: M, 0, h => by
    simp at h; subst h; simp [cnt]
  | b :: M, k + 1, h => by
    have := cnt_set M k (by simpa using h)
    unfold cnt at this ⊢
    rw [List.set_cons_succ, List.countP_cons, List.countP_cons]; omega
theorem cnt_all {M : List Bool} {k : Nat} (h : M[k]? = some false) : cnt M < M.length := by
  have := cnt_set M k h
  have h2 := cnt_le (M.set k true)
  rw [List.length_set] at h2; omega

abbrev bV (b : Bool) : V := .d (.bool b)
theorem ld_bit {H : Hp} {a : Nat} {M : List Bool} {j L : Nat} {b : Bool} (hr : H.row a L = some (1, M.map bV)) (hb : M[j]? = some b) : ld false 1 H (.ptr a L j 0) = some (bV b) := by
  rw [ld_one, hr]
  simp [hb, V.cells, D.cells]

section
variable (h : Hp) (ns N q : Nat)
abbrev vcl : V := .clo 27 [.ptr h.next 1 0 0, .ptr (q + 1) 1 0 0, .ptr (q + 2) 1 0 0, .ptr (q + 3) 1 0 0]
/-- The heap within Audit. -/
def HA (M : List Bool) (r : Nat) (p : Nat) : Hp :=
  ⟨(q + 3, .arr 1 [vcl h q]) :: (q + 2, .arr 1 [.d (eI r)]) :: (q + 1, .arr 1 [.own q 1 N 0 N]) :: (q, .arr 1 (M.map bV)) :: (h.next, .arr 1 [.ptr ns 1 0 0]) :: h.objs, p⟩
theorem HA_next (M r p) : (HA h ns N q M r p).next = p := rfl
theorem HA_up (M r p) : (⟨(HA h ns N q M r p).objs, p + 1⟩ : Hp) = HA h ns N q M r (p + 1) := rfl
variable (hq : h.next < q)
include hq
theorem HA_old (M r p) {n : Nat} (hn : n < h.next) : (HA h ns N q M r p).get n = h.get n := by
  unfold HA
  rw [get_mk, if_neg (by omega), get_mk, if_neg (by omega), get_mk, if_neg (by omega), get_mk, if_neg (by omega), get_mk, if_neg (by omega)]; rfl
theorem HA_s (M r p) : (HA h ns N q M r p).row h.next 1 = some (1, [.ptr ns 1 0 0]) := by
  unfold HA
  rw [row_lk, get_mk, if_neg (by omega), get_mk, if_neg (by omega), get_mk, if_neg (by omega), get_mk, if_neg (by omega), get_mk, if_pos rfl]; rfl
omit hq in
theorem HA_b (M r p) : (HA h ns N q M r p).row (q + 1) 1 = some (1, [.own q 1 N 0 N]) := by
  unfold HA
  rw [row_lk, get_mk, if_neg (by omega), get_mk, if_neg (by omega), get_mk, if_pos rfl]; rfl
omit hq in
theorem HA_m (M r p) (hM : M.length = N) : (HA h ns N q M r p).row q N = some (1, M.map bV) := by
  unfold HA
  rw [row_lk, get_mk, if_neg (by omega), get_mk, if_neg (by omega), get_mk, if_neg (by omega), get_mk, if_pos rfl, rowOf_arr, if_pos (by simp [hM])]
omit hq in
theorem HA_r (M r p) : (HA h ns N q M r p).row (q + 2) 1 = some (1, [.d (eI r)]) := by
  unfold HA
  rw [row_lk, get_mk, if_neg (by omega), get_mk, if_pos rfl]; rfl
omit hq in
theorem HA_v (M r p) : (HA h ns N q M r p).row (q + 3) 1 = some (1, [vcl h q]) := by
  unfold HA
  rw [row_lk, get_mk, if_pos rfl]; rfl
omit hq in
theorem HA_st (M r p) (hM : M.length = N) {i : Nat} (hi : i < N) : st 1 (HA h ns N q M r p) (.ptr q N i 0) (.d (.bool true)) = some (HA h ns N q (M.set i true) r p) := by
  have he : (M.map bV)[i]? = some (bV (M[i]'(by omega))) := by simp [show i < M.length by omega]
  rw [st_all (sz := 1) (HA_m h ns N q M r p hM) he rfl rfl]
  unfold HA Hp.set
  simp [upd, List.map_set]
omit hq in
theorem HA_inc (M r p) (r' : Nat) : st 1 (HA h ns N q M r p) (.ptr (q + 2) 1 0 0) (.d (.int .i64 (r' : Int))) = some (HA h ns N q M r' p) := by
  rw [st_all (sz := 1) (HA_r h ns N q M r p) (by rfl) rfl rfl]
  unfold HA Hp.set
  simp [upd]
omit hq in
theorem HA_fin (M r p) (x y : D) : finS h (HA h ns N q M r p) [.d x, .d y] = some (.tup [.d x, .d y], h) := finS_suf (h' := HA h ns N q M r p) (suf_app [_, _, _, _, _] h.objs) [x, y]
end

/-- What a visit does. -/
def Vis (h : Hp) (ns N q : Nat) (A : List ACl) (k : Nat) : Prop := ∀ (M : List Bool) (p : Nat) (v : V) (l : List Wd), M.length = N → N ≤ cnt M + k → l.length < 2 ^ 60 → (∀ M r p, SlW (HA h ns N q M r p) v l) → norm v = v →
  ∃ b M' p', callW tab 27 [v, .ptr h.next 1 0 0, .ptr (q + 1) 1 0 0, .ptr (q + 2) 1 0 0, .ptr (q + 3) 1 0 0] (HA h ns N q M (cnt M) p) = some (.d (.bool b), HA h ns N q M' (cnt M') p') ∧ M'.length = N ∧ cnt M ≤ cnt M' ∧
    visS A k M l = if b = true then some M' else none
theorem wV_norm2 (c : PC) : norm (norm (wV c)) = norm (wV c) := by
  unfold wV
  cases c.wh <;> rfl
theorem usedA_true {A : List ACl} {n : Int} (h : usedA A n = true) : ∃ (i : Nat) (c : ACl), n = i ∧ A[i]? = some c := by
  unfold usedA at h
  simp only [Bool.and_eq_true, decide_eq_true_eq] at h
  cases hc : A[n.toNat]? with
  | none => rw [hc] at h; simp at h
  | some c => exact ⟨n.toNat, c, by omega, hc⟩
theorem vis_step {h : Hp} {ns nc q : Nat} {cs : List PC} {first left : Int} {A : List ACl} {k : Nat} {rec : List Bool → List Wd → Option (List Bool)}
    (P : PR h.get ns nc cs first left) (L : Low h) (hq : h.next < q) (hab : cs.map ab = A) (sm : ∀ c, c ∈ A → c.2.2.length ≤ 24) (hN : cs.length < 2 ^ 40)
    (hrec : k ≠ 0 → Vis h ns cs.length q A (k - 1) ∧ rec = visS A (k - 1)) :
    ∀ (M : List Bool) (p : Nat) (v : V) (l : List Wd), M.length = cs.length → cs.length ≤ cnt M + k → l.length < 2 ^ 60 → (∀ M r p, SlW (HA h ns cs.length q M r p) v l) → norm v = v →
    ∃ b M' p', callW tab 27 [v, .ptr h.next 1 0 0, .ptr (q + 1) 1 0 0, .ptr (q + 2) 1 0 0, .ptr (q + 3) 1 0 0] (HA h ns cs.length q M (cnt M) p) = some (.d (.bool b), HA h ns cs.length q M' (cnt M') p') ∧ M'.length = cs.length ∧ cnt M ≤ cnt M' ∧
      visK A rec M l = if b = true then some M' else none := by
  intro M p v l hM hk hl hS hv
  have key : ∃ r, callW tab 27 [v, .ptr h.next 1 0 0, .ptr (q + 1) 1 0 0, .ptr (q + 2) 1 0 0, .ptr (q + 3) 1 0 0] (HA h ns cs.length q M (cnt M) p) = some r ∧
      ∃ b M' p', r = (.d (.bool b), HA h ns cs.length q M' (cnt M') p') ∧ M'.length = cs.length ∧ cnt M ≤ cnt M' ∧ visK A rec M l = if b = true then some M' else none := by
    apply call_wpE (fn := f27) rfl rfl
    have hns := low_lt L P.s
    have hnc := low_lt L P.c
    have P' : ∀ M r p, PR (HA h ns cs.length q M r p).get ns nc cs first left := fun M r p => P.mono (HA_old h ns cs.length q hq M r p hns) (HA_old h ns cs.length q hq M r p hnc) (fun c hc n hw => by
      obtain ⟨j, hj1, hj2⟩ := List.getElem_of_mem hc
      exact HA_old h ns cs.length q hq M r p (low_lt L (P.w j c n (by rw [List.getElem?_eq_getElem hj1, hj2]) hw)))
    have hU : usedS cs = usedA A := by funext n; unfold usedS; rw [hab]
    have hused : ∀ M r p n, callW tab 28 [.ptr ns 1 0 0, .d (eI n)] (HA h ns cs.length q M r p) = some (.d (.bool (usedA A n)), HA h ns cs.length q M r p) := by
      intro M r p n; rw [← hU]; exact used_ok (P' M r p) n
    have hlen := (hS M 0 0).len
    (simp only [e27, hlen, ws, wsl, opX, int, Zv.bool, intBin, reduceIte, ↓reduceIte, Nat.reduceEqDiff, Nat.reduceAdd, Nat.reduceSub, Nat.reduceLeDiff, Int.reduceLT, Int.reduceLE, Int.reduceEq, Int.reduceBEq, Int.reduceNe, Int.reduceBNe, reduceCtorEq, Nat.reduceBEq] <;> repeat' (first | refine wpG_s ?_ ?_ | refine wpC_s ?_ ?_) <;> intro hgo <;> (try simp only [decide_eq_true_eq, decide_eq_false_iff_not, Bool.not_eq_true', Bool.not_eq_false'] at hgo) <;> simp only [hgo, e27, hlen, ws, wsl, opX, int, Zv.bool, intBin, reduceIte, ↓reduceIte, Nat.reduceEqDiff, Nat.reduceAdd, Nat.reduceSub, Nat.reduceLeDiff, Int.reduceLT, Int.reduceLE, Int.reduceEq, Int.reduceBEq, Int.reduceNe, Int.reduceBNe, reduceCtorEq, Nat.reduceBEq])
    refine loop_wp l.length (fun n e h' => ∃ M1 p1, h' = HA h ns cs.length q M1 (cnt M1) p1 ∧ e = [(1, .ptr h.next 1 0 0), (2, .ptr (q + 1) 1 0 0), (3, .ptr (q + 2) 1 0 0), (4, .ptr (q + 3) 1 0 0), (9, v), (10, .d (.int .i64 l.length)), (11, .d (.int .i64 n))] ∧ M1.length = cs.length ∧ cnt M ≤ cnt M1 ∧ visK A rec M l = visK A rec M1 (l.drop n)) _ ?_ ?_ l.length 0 _ _ (by omega) ⟨M, p, rfl, rfl, hM, Nat.le_refl _, rfl⟩
    · rintro n e h' hn ⟨M1, p1, rfl, rfl, hM1, hc1, hv1⟩
      obtain ⟨w, hx⟩ := get_of_lt hn
      obtain ⟨a, ha, hla⟩ := (hS M1 (cnt M1) p1).at_ n w hx
      have hw := wrap_succ (show n < 2 ^ 62 by omega)
      have hdrop : l.drop n = w :: l.drop (n + 1) := by
        obtain ⟨hlt, he⟩ := List.getElem?_eq_some_iff.1 hx
        rw [List.drop_eq_getElem_cons hlt, he]
      rw [hdrop, visK] at hv1
      by_cases h2 : w.1 = 2
      · rw [if_pos h2] at hv1
        cases hu : usedA A w.2 with
        | false =>
          rw [hu, if_pos rfl] at hv1
          (simp only [e27, hn, ha, hla, HA_next, HA_up, h2, ibne, HA_s h ns cs.length q hq, hused, hu, ws, wsl, opX, int, Zv.bool, intBin, reduceIte, ↓reduceIte, Nat.reduceEqDiff, Nat.reduceAdd, Nat.reduceSub, Nat.reduceLeDiff, Int.reduceLT, Int.reduceLE, Int.reduceEq, Int.reduceBEq, Int.reduceNe, Int.reduceBNe, reduceCtorEq, Nat.reduceBEq] <;> repeat' (first | refine wpG_s ?_ ?_ | refine wpC_s ?_ ?_) <;> intro hgo <;> (try simp only [decide_eq_true_eq, decide_eq_false_iff_not, Bool.not_eq_true', Bool.not_eq_false'] at hgo) <;> simp only [hgo, e27, hn, ha, hla, HA_next, HA_up, h2, ibne, HA_s h ns cs.length q hq, hused, hu, ws, wsl, opX, int, Zv.bool, intBin, reduceIte, ↓reduceIte, Nat.reduceEqDiff, Nat.reduceAdd, Nat.reduceSub, Nat.reduceLeDiff, Int.reduceLT, Int.reduceLE, Int.reduceEq, Int.reduceBEq, Int.reduceNe, Int.reduceBNe, reduceCtorEq, Nat.reduceBEq])
          exact ⟨_, rfl, false, M1, _, rfl, hM1, hc1, by rw [hv1]; rfl⟩
        | true =>
          rw [hu, if_neg (by simp)] at hv1
          obtain ⟨i, ac, hi, hac⟩ := usedA_true hu
          have hci : i < cs.length := by have := lt_of_get hac; rw [← hab, List.length_map] at this; exact this
          obtain ⟨w1, w2⟩ := w
          simp only at h2 hi hv1 hu hla
          subst h2
          subst hi
          obtain ⟨c, hc⟩ := get_of_lt hci
          obtain ⟨b, hb⟩ := get_of_lt (l := M1) (n := i) (by omega)
          have hio := ia_own (es := 1) (n := q) (tot := cs.length) .i64 hci
          have hlb := fun r p => ld_bit (HA_m h ns cs.length q M1 r p hM1) hb
          have hgd : M1.getD ((i : Int)).toNat false = b := by rw [Int.toNat_natCast, List.getD_eq_getElem?_getD, hb]; rfl
          rw [hgd] at hv1
          cases b with
          | true =>
            rw [if_pos rfl] at hv1
            (simp only [e27, hn, ha, hla, HA_next, HA_up, ibne, HA_s h ns cs.length q hq, HA_b, hused, hu, hio, hlb, hw, ws, wsl, opX, int, Zv.bool, intBin, reduceIte, ↓reduceIte, Nat.reduceEqDiff, Nat.reduceAdd, Nat.reduceSub, Nat.reduceLeDiff, Int.reduceLT, Int.reduceLE, Int.reduceEq, Int.reduceBEq, Int.reduceNe, Int.reduceBNe, reduceCtorEq, Nat.reduceBEq] <;> repeat' (first | refine wpG_s ?_ ?_ | refine wpC_s ?_ ?_) <;> intro hgo <;> (try simp only [decide_eq_true_eq, decide_eq_false_iff_not, Bool.not_eq_true', Bool.not_eq_false'] at hgo) <;> simp only [hgo, e27, hn, ha, hla, HA_next, HA_up, ibne, HA_s h ns cs.length q hq, HA_b, hused, hu, hio, hlb, hw, ws, wsl, opX, int, Zv.bool, intBin, reduceIte, ↓reduceIte, Nat.reduceEqDiff, Nat.reduceAdd, Nat.reduceSub, Nat.reduceLeDiff, Int.reduceLT, Int.reduceLE, Int.reduceEq, Int.reduceBEq, Int.reduceNe, Int.reduceBNe, reduceCtorEq, Nat.reduceBEq])
            exact ⟨M1, _, rfl, hM1, hc1, hv1⟩
          | false =>
            have hk0 : k ≠ 0 := by
              intro h0
              have := cnt_all hb
              omega
            obtain ⟨V, hr⟩ := hrec hk0
            have hst := fun r p => HA_st h ns cs.length q M1 r p hM1 hci
            have hinc := fun M r p => HA_inc h ns cs.length q M r p (cnt M1 + 1)
            have hce : IntKind.i64.wrap ((cnt M1 : Nat) + 1) = ((cnt M1 + 1 : Nat) : Int) := wrap_succ (by have := cnt_le M1; omega)
            have hcs := cnt_set M1 i hb
            have hac' : ac = ab c := by rw [← hab, List.getElem?_map, hc] at hac; cases hac; rfl
            have hwA : wordsA A ((i : Int)).toNat = c.words := by unfold wordsA; rw [Int.toNat_natCast, hac, hac']; rfl
            have hlw : c.words.length ≤ 24 := by have := sm ac (List.mem_of_getElem? hac); rw [hac'] at this; exact this
            obtain ⟨b2, M2, p2, hcall, hM2, hc2, hv2⟩ := V (M1.set i true) (p1 + 1) (norm (wV c)) c.words (by rw [List.length_set]; exact hM1) (by omega) (by omega) (fun M r p => ((P' M r p).words hc).1) (wV_norm2 c)
            rw [hcs] at hcall
            have hv3 : rec (M1.set i true) c.words = if b2 = true then some M2 else none := by rw [hr]; exact hv2
            rw [if_neg (by simp), hwA, Int.toNat_natCast, hv3] at hv1
            have pc := fun M r p => (P' M r p).cells
            have ps := fun M r p => (P' M r p).row
            have hcl := ia_own (es := 4) (n := nc) (tot := cs.length) .i64 hci
            have hvv := fun M r p => HA_v h ns cs.length q M r p
            simp only [vcl] at hvv
            cases b2 with
            | true =>
              (simp only [e27, hn, ha, hla, HA_next, HA_up, ibne, HA_s h ns cs.length q hq, HA_b, HA_r, hused, hu, hio, hlb, hst, hce, hinc, hvv, ps, pc, hcl, List.getElem?_map, hc, cV_cells, hcall, hw, ws, wsl, opX, int, Zv.bool, intBin, reduceIte, ↓reduceIte, Nat.reduceEqDiff, Nat.reduceAdd, Nat.reduceSub, Nat.reduceLeDiff, Int.reduceLT, Int.reduceLE, Int.reduceEq, Int.reduceBEq, Int.reduceNe, Int.reduceBNe, reduceCtorEq, Nat.reduceBEq] <;> repeat' (first | refine wpG_s ?_ ?_ | refine wpC_s ?_ ?_) <;> intro hgo <;> (try simp only [decide_eq_true_eq, decide_eq_false_iff_not, Bool.not_eq_true', Bool.not_eq_false'] at hgo) <;> simp only [hgo, e27, hn, ha, hla, HA_next, HA_up, ibne, HA_s h ns cs.length q hq, HA_b, HA_r, hused, hu, hio, hlb, hst, hce, hinc, hvv, ps, pc, hcl, List.getElem?_map, hc, cV_cells, hcall, hw, ws, wsl, opX, int, Zv.bool, intBin, reduceIte, ↓reduceIte, Nat.reduceEqDiff, Nat.reduceAdd, Nat.reduceSub, Nat.reduceLeDiff, Int.reduceLT, Int.reduceLE, Int.reduceEq, Int.reduceBEq, Int.reduceNe, Int.reduceBNe, reduceCtorEq, Nat.reduceBEq])
              exact ⟨M2, _, rfl, hM2, by omega, hv1⟩
            | false =>
              (simp only [e27, hn, ha, hla, HA_next, HA_up, ibne, HA_s h ns cs.length q hq, HA_b, HA_r, hused, hu, hio, hlb, hst, hce, hinc, hvv, ps, pc, hcl, List.getElem?_map, hc, cV_cells, hcall, hw, ws, wsl, opX, int, Zv.bool, intBin, reduceIte, ↓reduceIte, Nat.reduceEqDiff, Nat.reduceAdd, Nat.reduceSub, Nat.reduceLeDiff, Int.reduceLT, Int.reduceLE, Int.reduceEq, Int.reduceBEq, Int.reduceNe, Int.reduceBNe, reduceCtorEq, Nat.reduceBEq] <;> repeat' (first | refine wpG_s ?_ ?_ | refine wpC_s ?_ ?_) <;> intro hgo <;> (try simp only [decide_eq_true_eq, decide_eq_false_iff_not, Bool.not_eq_true', Bool.not_eq_false'] at hgo) <;> simp only [hgo, e27, hn, ha, hla, HA_next, HA_up, ibne, HA_s h ns cs.length q hq, HA_b, HA_r, hused, hu, hio, hlb, hst, hce, hinc, hvv, ps, pc, hcl, List.getElem?_map, hc, cV_cells, hcall, hw, ws, wsl, opX, int, Zv.bool, intBin, reduceIte, ↓reduceIte, Nat.reduceEqDiff, Nat.reduceAdd, Nat.reduceSub, Nat.reduceLeDiff, Int.reduceLT, Int.reduceLE, Int.reduceEq, Int.reduceBEq, Int.reduceNe, Int.reduceBNe, reduceCtorEq, Nat.reduceBEq])
              exact ⟨_, rfl, false, M2, _, rfl, hM2, by omega, by rw [hv1]; rfl⟩
      · rw [if_neg h2] at hv1
        (simp only [e27, hn, ha, hla, HA_next, HA_up, h2, ibne, hw, ws, wsl, opX, int, Zv.bool, intBin, reduceIte, ↓reduceIte, Nat.reduceEqDiff, Nat.reduceAdd, Nat.reduceSub, Nat.reduceLeDiff, Int.reduceLT, Int.reduceLE, Int.reduceEq, Int.reduceBEq, Int.reduceNe, Int.reduceBNe, reduceCtorEq, Nat.reduceBEq] <;> repeat' (first | refine wpG_s ?_ ?_ | refine wpC_s ?_ ?_) <;> intro hgo <;> (try simp only [decide_eq_true_eq, decide_eq_false_iff_not, Bool.not_eq_true', Bool.not_eq_false'] at hgo) <;> simp only [hgo, e27, hn, ha, hla, HA_next, HA_up, h2, ibne, hw, ws, wsl, opX, int, Zv.bool, intBin, reduceIte, ↓reduceIte, Nat.reduceEqDiff, Nat.reduceAdd, Nat.reduceSub, Nat.reduceLeDiff, Int.reduceLT, Int.reduceLE, Int.reduceEq, Int.reduceBEq, Int.reduceNe, Int.reduceBNe, reduceCtorEq, Nat.reduceBEq])
        exact ⟨M1, _, rfl, hM1, hc1, hv1⟩
    · rintro e h' ⟨M1, p1, rfl, rfl, hM1, hc1, hv1⟩
      rw [List.drop_length, visK] at hv1
      (simp only [e27, ws, wsl, opX, int, Zv.bool, intBin, reduceIte, ↓reduceIte, Nat.reduceEqDiff, Nat.reduceAdd, Nat.reduceSub, Nat.reduceLeDiff, Int.reduceLT, Int.reduceLE, Int.reduceEq, Int.reduceBEq, Int.reduceNe, Int.reduceBNe, reduceCtorEq, Nat.reduceBEq] <;> repeat' (first | refine wpG_s ?_ ?_ | refine wpC_s ?_ ?_) <;> intro hgo <;> (try simp only [decide_eq_true_eq, decide_eq_false_iff_not, Bool.not_eq_true', Bool.not_eq_false'] at hgo) <;> simp only [hgo, e27, ws, wsl, opX, int, Zv.bool, intBin, reduceIte, ↓reduceIte, Nat.reduceEqDiff, Nat.reduceAdd, Nat.reduceSub, Nat.reduceLeDiff, Int.reduceLT, Int.reduceLE, Int.reduceEq, Int.reduceBEq, Int.reduceNe, Int.reduceBNe, reduceCtorEq, Nat.reduceBEq])
      exact ⟨_, rfl, true, M1, p1, rfl, hM1, hc1, hv1⟩
  obtain ⟨r, h1, b, M', p', rfl, h2⟩ := key
  exact ⟨b, M', p', h1, h2⟩

theorem vis {h : Hp} {ns nc q : Nat} {cs : List PC} {first left : Int} {A : List ACl}
    (P : PR h.get ns nc cs first left) (L : Low h) (hq : h.next < q) (hab : cs.map ab = A) (sm : ∀ c, c ∈ A → c.2.2.length ≤ 24) (hN : cs.length < 2 ^ 40) : ∀ k, Vis h ns cs.length q A k
  | 0 => fun M p v l hM hk hl hS hv => vis_step P L hq hab sm hN (k := 0) (fun h => absurd rfl h) M p v l hM hk hl hS hv
  | k + 1 => fun M p v l hM hk hl hS hv => vis_step P L hq hab sm hN (k := k + 1) (rec := visS A k) (fun _ => ⟨vis P L hq hab sm hN k, rfl⟩) M p v l hM hk hl hS hv

def auditS (S : St) (roots : List Wd) : Int × Int :=
  if roots.any (fun w => !formedS w) = true then (0, 3) else
  match visS S.cells S.cells.length (List.replicate S.cells.length false) roots with
  | none => (0, 9)
  | some M => if cnt M + S.free.length = S.cells.length then ((cnt M : Nat), 0) else (0, 23)
theorem audit_ok {h : Hp} {ns nc : Nat} {O : Nat → Prop} {S : St} (R : SR h ns nc O S) (L : Low h) (hN : S.cells.length ≤ 2 ^ 20) (roots : List Wd) (hl : roots.length < 2 ^ 60) :
    callW tab 12 [.ptr ns 1 0 0, .d (eWs roots)] h = some (.tup [.d (eI (auditS S roots).1), .d (eI (auditS S roots).2)], h) := by
  apply call_wp (fn := f12) rfl rfl
  obtain ⟨⟨cs, first, P, hab, hch, hown⟩, hok, hos⟩ := R
  have hcl : cs.length = S.cells.length := by rw [← hab, List.length_map]
  have hns := low_lt L P.s
  obtain ⟨hloopq, hloopl, hloop⟩ := loop_anyr (T := tab) (a := f12l0) (l := roots) (p := (fun w => !formedS w)) (f := fun n => [(1, .d (eWs roots)), (2, .ptr h.next 1 0 0), (13, .d (eWs roots)), (14, int roots.length), (15, int n)]) (h := ⟨(h.next, .arr 1 [.ptr ns 1 0 0]) :: h.objs, h.next + 1⟩)
      (by intro q n x hx hlt hp; simp only [Bool.not_eq_true', Bool.not_eq_false'] at hp; all_goals ((simp only [hlt, hp, e12, iaW hx, formed_ok, wrap_succ (show n < 2 ^ 62 by omega), ws, wsl, opX, int, Zv.bool, intBin, reduceIte, ↓reduceIte, Nat.reduceEqDiff, Nat.reduceAdd, Nat.reduceSub, Nat.reduceLeDiff, Int.reduceLT, Int.reduceLE, Int.reduceEq, Int.reduceBEq, Int.reduceNe, Int.reduceBNe, reduceCtorEq, Nat.reduceBEq] <;> repeat' (first | refine wpG_s ?_ ?_ | refine wpC_s ?_ ?_) <;> intro hgo <;> (try simp only [decide_eq_true_eq, decide_eq_false_iff_not, Bool.not_eq_true', Bool.not_eq_false'] at hgo) <;> simp only [hgo, hlt, hp, e12, iaW hx, formed_ok, wrap_succ (show n < 2 ^ 62 by omega), ws, wsl, opX, int, Zv.bool, intBin, reduceIte, ↓reduceIte, Nat.reduceEqDiff, Nat.reduceAdd, Nat.reduceSub, Nat.reduceLeDiff, Int.reduceLT, Int.reduceLE, Int.reduceEq, Int.reduceBEq, Int.reduceNe, Int.reduceBNe, reduceCtorEq, Nat.reduceBEq]) <;> (first | exact ⟨_, rfl, by omega⟩ | exact ⟨_, ⟨rfl, rfl⟩, by omega⟩ | exact ⟨_, ⟨rfl, rfl, rfl⟩, by omega⟩)))
      (by intro q n x hx hlt hp; simp only [Bool.not_eq_true', Bool.not_eq_false'] at hp; all_goals ((simp only [hlt, hp, e12, iaW hx, formed_ok, wrap_succ (show n < 2 ^ 62 by omega), ws, wsl, opX, int, Zv.bool, intBin, reduceIte, ↓reduceIte, Nat.reduceEqDiff, Nat.reduceAdd, Nat.reduceSub, Nat.reduceLeDiff, Int.reduceLT, Int.reduceLE, Int.reduceEq, Int.reduceBEq, Int.reduceNe, Int.reduceBNe, reduceCtorEq, Nat.reduceBEq] <;> repeat' (first | refine wpG_s ?_ ?_ | refine wpC_s ?_ ?_) <;> intro hgo <;> (try simp only [decide_eq_true_eq, decide_eq_false_iff_not, Bool.not_eq_true', Bool.not_eq_false'] at hgo) <;> simp only [hgo, hlt, hp, e12, iaW hx, formed_ok, wrap_succ (show n < 2 ^ 62 by omega), ws, wsl, opX, int, Zv.bool, intBin, reduceIte, ↓reduceIte, Nat.reduceEqDiff, Nat.reduceAdd, Nat.reduceSub, Nat.reduceLeDiff, Int.reduceLT, Int.reduceLE, Int.reduceEq, Int.reduceBEq, Int.reduceNe, Int.reduceBNe, reduceCtorEq, Nat.reduceBEq]) <;> (first | exact ⟨_, rfl, by omega⟩ | exact ⟨_, ⟨rfl, rfl⟩, by omega⟩ | exact ⟨_, ⟨rfl, rfl, rfl⟩, by omega⟩)))
      (by intro q; (simp only [e12, ws, wsl, opX, int, Zv.bool, intBin, reduceIte, ↓reduceIte, Nat.reduceEqDiff, Nat.reduceAdd, Nat.reduceSub, Nat.reduceLeDiff, Int.reduceLT, Int.reduceLE, Int.reduceEq, Int.reduceBEq, Int.reduceNe, Int.reduceBNe, reduceCtorEq, Nat.reduceBEq] <;> repeat' (first | refine wpG_s ?_ ?_ | refine wpC_s ?_ ?_) <;> intro hgo <;> (try simp only [decide_eq_true_eq, decide_eq_false_iff_not, Bool.not_eq_true', Bool.not_eq_false'] at hgo) <;> simp only [hgo, e12, ws, wsl, opX, int, Zv.bool, intBin, reduceIte, ↓reduceIte, Nat.reduceEqDiff, Nat.reduceAdd, Nat.reduceSub, Nat.reduceLeDiff, Int.reduceLT, Int.reduceLE, Int.reduceEq, Int.reduceBEq, Int.reduceNe, Int.reduceBNe, reduceCtorEq, Nat.reduceBEq]) <;> (first | exact ⟨_, rfl, by omega⟩ | exact ⟨_, ⟨rfl, rfl⟩, by omega⟩ | exact ⟨_, ⟨rfl, rfl, rfl⟩, by omega⟩))
      (by simp) (by simp)
  simp only [int, Zv.bool, Int.cast_ofNat_Int] at hloop
  unfold auditS
  cases hf : roots.any fun w => !formedS w with
  | true =>
    rw [hf, if_pos rfl] at hloop
    (simp only [e12, wq_of hloop, ws, wsl, opX, int, Zv.bool, intBin, reduceIte, ↓reduceIte, Nat.reduceEqDiff, Nat.reduceAdd, Nat.reduceSub, Nat.reduceLeDiff, Int.reduceLT, Int.reduceLE, Int.reduceEq, Int.reduceBEq, Int.reduceNe, Int.reduceBNe, reduceCtorEq, Nat.reduceBEq] <;> repeat' (first | refine wpG_s ?_ ?_ | refine wpC_s ?_ ?_) <;> intro hgo <;> (try simp only [decide_eq_true_eq, decide_eq_false_iff_not, Bool.not_eq_true', Bool.not_eq_false'] at hgo) <;> simp only [hgo, e12, wq_of hloop, ws, wsl, opX, int, Zv.bool, intBin, reduceIte, ↓reduceIte, Nat.reduceEqDiff, Nat.reduceAdd, Nat.reduceSub, Nat.reduceLeDiff, Int.reduceLT, Int.reduceLE, Int.reduceEq, Int.reduceBEq, Int.reduceNe, Int.reduceBNe, reduceCtorEq, Nat.reduceBEq])
  | false =>
    rw [hf, if_neg (by simp)] at hloop
    have hq : h.next < hloopq := by simp only at hloopl; omega
    have hmk : mkslO (.d (.bool false)) 1 1 ⟨(h.next, .arr 1 [.ptr ns 1 0 0]) :: h.objs, hloopq⟩ (.d (.int .i64 (cs.length : Int))) = some (.own hloopq 1 cs.length 0 cs.length, ⟨(hloopq, .arr 1 ((List.replicate cs.length false).map bV)) :: (h.next, .arr 1 [.ptr ns 1 0 0]) :: h.objs, hloopq + 1⟩) := by
      simp only [mkslO, ixOf_nat, Option.bind_some]
      rw [if_pos (by unfold roomB; omega)]
      simp [Hp.alloc]
    have hH : (⟨(hloopq + 1 + 1 + 1, .arr 1 [.clo 27 [.ptr h.next 1 0 0, .ptr (hloopq + 1) 1 0 0, .ptr (hloopq + 1 + 1) 1 0 0, .ptr (hloopq + 1 + 1 + 1) 1 0 0]]) :: (hloopq + 1 + 1, .arr 1 [.d (.int .i64 0)]) :: (hloopq + 1, .arr 1 [.own hloopq 1 cs.length 0 cs.length]) :: (hloopq, .arr 1 ((List.replicate cs.length false).map bV)) :: (h.next, .arr 1 [.ptr ns 1 0 0]) :: h.objs, hloopq + 1 + 1 + 1 + 1⟩ : Hp) = HA h ns cs.length hloopq (List.replicate cs.length false) 0 (hloopq + 4) := rfl
    have hc0 : cnt (List.replicate cs.length false) = 0 := by unfold cnt; simp
    obtain ⟨b, M, p, hcall, hM, hc1, hv⟩ := vis P L hq hab hok.sm (by omega) cs.length (List.replicate cs.length false) (hloopq + 4) (.d (eWs roots)) roots (by simp) (by omega) hl (fun M r p => SlW.data _ roots) rfl
    rw [hc0] at hcall
    have hs0 : ∀ q, Hp.row ⟨(h.next, .arr 1 [.ptr ns 1 0 0]) :: h.objs, q⟩ ns 1 = some (3, [.agg [.own nc 4 cs.length 0 cs.length, .d (eI first), .d (eI S.free.length)]]) := by
      intro q
      rw [row_lk, get_mk, if_neg (by omega), get_objs, P.s]; rfl
    have hvv := HA_v h ns cs.length hloopq (List.replicate cs.length false) 0 (hloopq + 4)
    simp only [vcl] at hvv
    have hcall' : callW tab 27 [.d (eWs roots), .ptr h.next 1 0 0, .ptr (hloopq + 1) 1 0 0, .ptr (hloopq + 1 + 1) 1 0 0, .ptr (hloopq + 1 + 1 + 1) 1 0 0] (HA h ns cs.length hloopq (List.replicate cs.length false) 0 (hloopq + 4)) = _ := hcall
    have hvv' : (HA h ns cs.length hloopq (List.replicate cs.length false) 0 (hloopq + 4)).row (hloopq + 1 + 1 + 1) 1 = some (1, [.clo 27 [.ptr h.next 1 0 0, .ptr (hloopq + 1) 1 0 0, .ptr (hloopq + 1 + 1) 1 0 0, .ptr (hloopq + 1 + 1 + 1) 1 0 0]]) := hvv
    rw [hcl] at hv
    rw [if_neg (by simp), hv]
    cases b with
    | false =>
      (simp only [e12, wq_of hloop, hs0, hmk, hH, hvv', hcall', HA_fin, ws, wsl, opX, int, Zv.bool, intBin, reduceIte, ↓reduceIte, Nat.reduceEqDiff, Nat.reduceAdd, Nat.reduceSub, Nat.reduceLeDiff, Int.reduceLT, Int.reduceLE, Int.reduceEq, Int.reduceBEq, Int.reduceNe, Int.reduceBNe, reduceCtorEq, Nat.reduceBEq] <;> repeat' (first | refine wpG_s ?_ ?_ | refine wpC_s ?_ ?_) <;> intro hgo <;> (try simp only [decide_eq_true_eq, decide_eq_false_iff_not, Bool.not_eq_true', Bool.not_eq_false'] at hgo) <;> simp only [hgo, e12, wq_of hloop, hs0, hmk, hH, hvv', hcall', HA_fin, ws, wsl, opX, int, Zv.bool, intBin, reduceIte, ↓reduceIte, Nat.reduceEqDiff, Nat.reduceAdd, Nat.reduceSub, Nat.reduceLeDiff, Int.reduceLT, Int.reduceLE, Int.reduceEq, Int.reduceBEq, Int.reduceNe, Int.reduceBNe, reduceCtorEq, Nat.reduceBEq])
    | true =>
      have hpr : (HA h ns cs.length hloopq M (cnt M) p).row ns 1 = some (3, [.agg [.own nc 4 cs.length 0 cs.length, .d (eI first), .d (eI S.free.length)]]) := by
        rw [row_lk, HA_old h ns cs.length hloopq hq M (cnt M) p hns, P.s]; rfl
      have hrr := HA_r h ns cs.length hloopq M (cnt M) p
      have hrr' : (HA h ns cs.length hloopq M (cnt M) p).row (hloopq + 1 + 1) 1 = some (1, [.d (eI (cnt M))]) := hrr
      have hfl := hok.len
      have wl : IntKind.i64.wrap ((cs.length : Int) - (S.free.length : Int)) = (cs.length : Int) - (S.free.length : Int) := wrap_ok (by omega) (by omega)
      have hps := HA_s h ns cs.length hloopq hq M (cnt M) p
      by_cases he : cnt M + S.free.length = S.cells.length
      · have e1 : (cnt M : Int) = (cs.length : Int) - (S.free.length : Int) := by omega
        (simp only [e12, wq_of hloop, hs0, hmk, hH, hvv', hcall', HA_fin, hps, hpr, hrr', wl, ibne, e1, he, eq_self, ws, wsl, opX, int, Zv.bool, intBin, reduceIte, ↓reduceIte, Nat.reduceEqDiff, Nat.reduceAdd, Nat.reduceSub, Nat.reduceLeDiff, Int.reduceLT, Int.reduceLE, Int.reduceEq, Int.reduceBEq, Int.reduceNe, Int.reduceBNe, reduceCtorEq, Nat.reduceBEq] <;> repeat' (first | refine wpG_s ?_ ?_ | refine wpC_s ?_ ?_) <;> intro hgo <;> (try simp only [decide_eq_true_eq, decide_eq_false_iff_not, Bool.not_eq_true', Bool.not_eq_false'] at hgo) <;> simp only [hgo, e12, wq_of hloop, hs0, hmk, hH, hvv', hcall', HA_fin, hps, hpr, hrr', wl, ibne, e1, he, eq_self, ws, wsl, opX, int, Zv.bool, intBin, reduceIte, ↓reduceIte, Nat.reduceEqDiff, Nat.reduceAdd, Nat.reduceSub, Nat.reduceLeDiff, Int.reduceLT, Int.reduceLE, Int.reduceEq, Int.reduceBEq, Int.reduceNe, Int.reduceBNe, reduceCtorEq, Nat.reduceBEq])
      · have e1 : ¬ (cnt M : Int) = (cs.length : Int) - (S.free.length : Int) := by omega
        (simp only [e12, wq_of hloop, hs0, hmk, hH, hvv', hcall', HA_fin, hps, hpr, hrr', wl, ibne, e1, he, ws, wsl, opX, int, Zv.bool, intBin, reduceIte, ↓reduceIte, Nat.reduceEqDiff, Nat.reduceAdd, Nat.reduceSub, Nat.reduceLeDiff, Int.reduceLT, Int.reduceLE, Int.reduceEq, Int.reduceBEq, Int.reduceNe, Int.reduceBNe, reduceCtorEq, Nat.reduceBEq] <;> repeat' (first | refine wpG_s ?_ ?_ | refine wpC_s ?_ ?_) <;> intro hgo <;> (try simp only [decide_eq_true_eq, decide_eq_false_iff_not, Bool.not_eq_true', Bool.not_eq_false'] at hgo) <;> simp only [hgo, e12, wq_of hloop, hs0, hmk, hH, hvv', hcall', HA_fin, hps, hpr, hrr', wl, ibne, e1, he, ws, wsl, opX, int, Zv.bool, intBin, reduceIte, ↓reduceIte, Nat.reduceEqDiff, Nat.reduceAdd, Nat.reduceSub, Nat.reduceLeDiff, Int.reduceLT, Int.reduceLE, Int.reduceEq, Int.reduceBEq, Int.reduceNe, Int.reduceBNe, reduceCtorEq, Nat.reduceBEq])
-- ws, wsl, opX, int, Zv.bool, intBin, reduceIte, ↓reduceIte, Nat.reduceEqDiff, Nat.reduceAdd, Nat.reduceSub, Nat.reduceLeDiff, Int.reduceLT, Int.reduceLE, Int.reduceEq, Int.reduceBEq, Int.reduceNe, Int.reduceBNe, reduceCtorEq, Nat.reduceBEq
end Zc55
