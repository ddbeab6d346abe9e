/-
  Both ways to visit find the same cells.
-/
import Derived.Test.YtlncinhieeopmaaZc55S10
set_option linter.unusedSimpArgs false
set_option maxHeartbeats 4000000
namespace Zc55
open Go Zv Zs

def mk (M : List Bool) (i : Nat) : Prop := M.getD i false = true
theorem mk_set {M : List Bool} {i j : Nat} (hi : i < M.length) : mk (M.set i true) j ↔ (j = i ∨ mk M j) := by
  unfold mk
  rw [List.getD_eq_getElem?_getD, List.getD_eq_getElem?_getD]
  by_cases h : j = i
  · subst h; simp [hi]
  · rw [List.getElem?_set_ne (Ne.symm h)]; simp [h]
inductive Rch (A : List ACl) (l : List Wd) : Nat → Prop
  | root (w : Wd) (i : Nat) (hm : w ∈ l) (h1 : w.1 = 2) (h2 : w.2 = (i : Int)) (hu : usedA A w.2 = true) : Rch A l i
  | step (i : Nat) (w : Wd) (j : Nat) (hr : Rch A l i) (hm : w ∈ wordsA A i) (h1 : w.1 = 2) (h2 : w.2 = (j : Int)) (hu : usedA A w.2 = true) : Rch A l j
def Bad (A : List ACl) (l : List Wd) : Prop := (∃ w, w ∈ l ∧ w.1 = 2 ∧ usedA A w.2 = false) ∨ ∃ i w, Rch A l i ∧ w ∈ wordsA A i ∧ w.1 = 2 ∧ usedA A w.2 = false
def Cls (A : List ACl) (M : List Bool) (i : Nat) : Prop := ∀ w, w ∈ wordsA A i → w.1 = 2 → usedA A w.2 = true ∧ mk M w.2.toNat
theorem Rch.mono {A : List ACl} {l m : List Wd} (h : ∀ w, w ∈ l → w ∈ m) {i : Nat} (r : Rch A l i) : Rch A m i := by
  induction r with
  | root w i hm h1 h2 hu => exact .root w i (h w hm) h1 h2 hu
  | step i w j _ hm h1 h2 hu ih => exact .step i w j ih hm h1 h2 hu
theorem Rch.lift {A : List ACl} {l : List Wd} {i : Nat} (r : Rch A l i) {j : Nat} (s : Rch A (wordsA A i) j) : Rch A l j := by
  induction s with
  | root w j hm h1 h2 hu => exact .step i w j r hm h1 h2 hu
  | step k w j _ hm h1 h2 hu ih => exact .step k w j ih hm h1 h2 hu
theorem Bad.mono {A : List ACl} {l m : List Wd} (h : ∀ w, w ∈ l → w ∈ m) (b : Bad A l) : Bad A m := by
  rcases b with ⟨w, h1, h2⟩ | ⟨i, w, h1, h2⟩
  · exact .inl ⟨w, h w h1, h2⟩
  · exact .inr ⟨i, w, h1.mono h, h2⟩
theorem Bad.lift {A : List ACl} {l : List Wd} {i : Nat} (r : Rch A l i) (b : Bad A (wordsA A i)) : Bad A l := by
  rcases b with ⟨w, h1, h2⟩ | ⟨j, w, h1, h2⟩
  · exact .inr ⟨i, w, r, h1, h2⟩
  · exact .inr ⟨j, w, r.lift h1, h2⟩
theorem Cls.mono {A : List ACl} {M N : List Bool} (h : ∀ i, mk M i → mk N i) {i : Nat} (c : Cls A M i) : Cls A N i := fun w hw h1 => ⟨(c w hw h1).1, h _ (c w hw h1).2⟩

def DS (A : List ACl) (M : List Bool) (l : List Wd) : Option (List Bool) → Prop
  | some M' => M'.length = M.length ∧ cnt M ≤ cnt M' ∧ (∀ i, mk M i → mk M' i) ∧ (∀ w, w ∈ l → w.1 = 2 → usedA A w.2 = true ∧ mk M' w.2.toNat) ∧ (∀ i, mk M' i → mk M i ∨ (Cls A M' i ∧ Rch A l i))
  | none => Bad A l
theorem visK_ok {A : List ACl} {k : Nat} {rec : List Bool → List Wd → Option (List Bool)} (hrec : k ≠ 0 → ∀ M l, M.length = A.length → A.length ≤ cnt M + (k - 1) → DS A M l (rec M l)) :
    ∀ (l : List Wd) (M : List Bool), M.length = A.length → A.length ≤ cnt M + k → DS A M l (visK A rec M l)
  | [], M, _, _ => ⟨rfl, Nat.le_refl _, fun _ h => h, (fun w hw => by cases hw), fun _ h => .inl h⟩
  | w :: l, M, hM, hk => by
    have tail : ∀ w', w' ∈ l → w' ∈ w :: l := fun w' h => List.mem_cons_of_mem w h
    unfold visK
    by_cases h2 : w.1 = 2
    · rw [if_pos h2]
      cases hu : usedA A w.2 with
      | false => rw [if_pos rfl]; exact .inl ⟨w, List.mem_cons_self, h2, hu⟩
      | true =>
        rw [if_neg (by simp)]
        obtain ⟨i, ac, hi, hac⟩ := usedA_true hu
        have hiA := lt_of_get hac
        have hin : w.2.toNat = i := by rw [hi, Int.toNat_natCast]
        by_cases hm : M.getD w.2.toNat false = true
        · rw [if_pos hm]
          have ih := visK_ok hrec l M hM hk
          cases hr : visK A rec M l with
          | none => rw [hr] at ih; exact Bad.mono tail ih
          | some M' =>
            rw [hr] at ih
            obtain ⟨a1, a2, a3, a4, a5⟩ := ih
            refine ⟨a1, a2, a3, fun w' hw' h1 => ?_, fun i hi => ?_⟩
            · rcases List.mem_cons.1 hw' with rfl | hw'
              · exact ⟨hu, a3 _ hm⟩
              · exact a4 w' hw' h1
            · rcases a5 i hi with h | ⟨h, h'⟩
              · exact .inl h
              · exact .inr ⟨h, h'.mono tail⟩
        · rw [if_neg hm, hin]
          have hmf : M[i]? = some false := by
            obtain ⟨b, hb⟩ := get_of_lt (l := M) (n := i) (by omega)
            rw [hin, List.getD_eq_getElem?_getD, hb] at hm
            cases b
            · exact hb
            · exact absurd rfl hm
          have hcs := cnt_set M i hmf
          have hca := cnt_all hmf
          have hi1 := hrec (by omega) (M.set i true) (wordsA A i) (by rw [List.length_set]; exact hM) (by omega)
          have hroot : Rch A (w :: l) i := .root w i List.mem_cons_self h2 hi hu
          cases hr1 : rec (M.set i true) (wordsA A i) with
          | none => rw [hr1] at hi1; exact Bad.lift hroot hi1
          | some M2 =>
            rw [hr1] at hi1
            obtain ⟨b1, b2, b3, b4, b5⟩ := hi1
            rw [List.length_set] at b1
            have ih := visK_ok hrec l M2 (by omega) (by omega)
            show DS A M (w :: l) (visK A rec M2 l)
            cases hr2 : visK A rec M2 l with
            | none => rw [hr2] at ih; exact Bad.mono tail ih
            | some M' =>
              rw [hr2] at ih
              obtain ⟨a1, a2, a3, a4, a5⟩ := ih
              have hset := fun j => mk_set (M := M) (i := i) (j := j) (by omega)
              refine ⟨by omega, by omega, fun j hj => a3 j (b3 j ((hset j).2 (.inr hj))), fun w' hw' h1 => ?_, fun j hj => ?_⟩
              · rcases List.mem_cons.1 hw' with rfl | hw'
                · exact ⟨hu, by rw [hin]; exact a3 i (b3 i ((hset i).2 (.inl rfl)))⟩
                · exact a4 w' hw' h1
              · rcases a5 j hj with h | ⟨h, h'⟩
                · rcases b5 j h with h | ⟨h, h'⟩
                  · rcases (hset j).1 h with rfl | h
                    · exact .inr ⟨fun w' hw' h1 => ⟨(b4 w' hw' h1).1, a3 _ (b4 w' hw' h1).2⟩, hroot⟩
                    · exact .inl h
                  · exact .inr ⟨h.mono a3, hroot.lift h'⟩
                · exact .inr ⟨h, h'.mono tail⟩
    · rw [if_neg h2]
      have ih := visK_ok hrec l M hM hk
      cases hr : visK A rec M l with
      | none => rw [hr] at ih; exact Bad.mono tail ih
      | some M' =>
        rw [hr] at ih
        obtain ⟨a1, a2, a3, a4, a5⟩ := ih
        refine ⟨a1, a2, a3, fun w' hw' h1 => ?_, fun i hi => ?_⟩
        · rcases List.mem_cons.1 hw' with rfl | hw'
          · exact absurd h1 h2
          · exact a4 w' hw' h1
        · rcases a5 i hi with h | ⟨h, h'⟩
          · exact .inl h
          · exact .inr ⟨h, h'.mono tail⟩
theorem visS_ok (A : List ACl) : ∀ (k : Nat) (l : List Wd) (M : List Bool), M.length = A.length → A.length ≤ cnt M + k → DS A M l (visS A k M l)
  | 0, l, M, hM, hk => visK_ok (k := 0) (fun h => absurd rfl h) l M hM hk
  | k + 1, l, M, hM, hk => visK_ok (k := k + 1) (fun _ M l h1 h2 => visS_ok A k l M h1 h2) l M hM hk

def BS (A : List ACl) (N : Nat) (L : List Wd) : Option (List Bool) → Prop
  | some M' => M'.length = N ∧ (∀ i, mk M' i → Rch A L i ∧ Cls A M' i) ∧ ∀ w, w ∈ L → w.1 = 2 → usedA A w.2 = true ∧ mk M' w.2.toNat
  | none => Bad A L
theorem bfs_ok {A : List ACl} (sm : ∀ c, c ∈ A → c.2.2.length ≤ 24) (L : List Wd) : ∀ (k : Nat) (M : List Bool) (l : List Wd), M.length = A.length → l.length + 25 * (A.length - cnt M) < k →
    (∀ i, mk M i → Rch A L i ∧ ∀ w, w ∈ wordsA A i → w.1 = 2 → w ∈ l ∨ (usedA A w.2 = true ∧ mk M w.2.toNat)) →
    (∀ w, w ∈ l → w.1 = 2 → w ∈ L ∨ ∃ i, Rch A L i ∧ w ∈ wordsA A i) →
    (∀ w, w ∈ L → w.1 = 2 → w ∈ l ∨ (usedA A w.2 = true ∧ mk M w.2.toNat)) → BS A A.length L (bfs A k M l)
  | 0, _, _, _, hk, _, _, _ => by omega
  | k + 1, M, [], hM, _, h1, _, h3 => by
    refine ⟨hM, fun i hi => ⟨(h1 i hi).1, fun w hw hw1 => ?_⟩, fun w hw hw1 => ?_⟩
    · rcases (h1 i hi).2 w hw hw1 with h | h
      · cases h
      · exact h
    · rcases h3 w hw hw1 with h | h
      · cases h
      · exact h
  | k + 1, M, w :: l, hM, hk, h1, h2, h3 => by
    unfold bfs
    simp only [List.length_cons] at hk
    by_cases hw : w.1 = 2
    · rw [if_pos hw]
      cases hu : usedA A w.2 with
      | false =>
        rw [if_pos rfl]
        rcases h2 w List.mem_cons_self hw with h | ⟨i, hi, hm⟩
        · exact .inl ⟨w, h, hw, hu⟩
        · exact .inr ⟨i, w, hi, hm, hw, hu⟩
      | true =>
        rw [if_neg (by simp)]
        obtain ⟨i, ac, hi, hac⟩ := usedA_true hu
        have hiA := lt_of_get hac
        have hin : w.2.toNat = i := by rw [hi, Int.toNat_natCast]
        have hreach : Rch A L i := by
          rcases h2 w List.mem_cons_self hw with h | ⟨j, hj, hm⟩
          · exact .root w i h hw hi hu
          · exact .step j w i hj hm hw hi hu
        by_cases hm : M.getD w.2.toNat false = true
        · rw [if_pos hm]
          refine bfs_ok sm L k M l hM (by omega) (fun j hj => ⟨(h1 j hj).1, fun w' hw' h' => ?_⟩) (fun w' hw' h' => h2 w' (List.mem_cons_of_mem _ hw') h') (fun w' hw' h' => ?_)
          · rcases (h1 j hj).2 w' hw' h' with h | h
            · rcases List.mem_cons.1 h with rfl | h
              · exact .inr ⟨hu, hm⟩
              · exact .inl h
            · exact .inr h
          · rcases h3 w' hw' h' with h | h
            · rcases List.mem_cons.1 h with rfl | h
              · exact .inr ⟨hu, hm⟩
              · exact .inl h
            · exact .inr h
        · rw [if_neg hm, hin]
          have hmf : M[i]? = some false := by
            obtain ⟨b, hb⟩ := get_of_lt (l := M) (n := i) (by omega)
            rw [hin, List.getD_eq_getElem?_getD, hb] at hm
            cases b
            · exact hb
            · exact absurd rfl hm
          have hcs := cnt_set M i hmf
          have hca := cnt_all hmf
          have hl24 : (wordsA A i).length ≤ 24 := by
            unfold wordsA; rw [hac]; exact sm ac (List.mem_of_getElem? hac)
          have hset := fun j => mk_set (M := M) (i := i) (j := j) (by omega)
          have hwm : usedA A w.2 = true ∧ mk (M.set i true) w.2.toNat := ⟨hu, by rw [hin]; exact (hset i).2 (.inl rfl)⟩
          refine bfs_ok sm L k (M.set i true) (l ++ wordsA A i) (by rw [List.length_set]; exact hM) (by rw [List.length_append]; omega) (fun j hj => ?_) (fun w' hw' h' => ?_) (fun w' hw' h' => ?_)
          · rcases (hset j).1 hj with rfl | hj
            · exact ⟨hreach, fun w' hw' _ => .inl (List.mem_append_right _ hw')⟩
            · refine ⟨(h1 j hj).1, fun w' hw' h' => ?_⟩
              rcases (h1 j hj).2 w' hw' h' with h | h
              · rcases List.mem_cons.1 h with rfl | h
                · exact .inr hwm
                · exact .inl (List.mem_append_left _ h)
              · exact .inr ⟨h.1, (hset _).2 (.inr h.2)⟩
          · rcases List.mem_append.1 hw' with h | h
            · exact h2 w' (List.mem_cons_of_mem _ h) h'
            · exact .inr ⟨i, hreach, h⟩
          · rcases h3 w' hw' h' with h | h
            · rcases List.mem_cons.1 h with rfl | h
              · exact .inr hwm
              · exact .inl (List.mem_append_left _ h)
            · exact .inr ⟨h.1, (hset _).2 (.inr h.2)⟩
    · rw [if_neg hw]
      refine bfs_ok sm L k M l hM (by omega) (fun j hj => ⟨(h1 j hj).1, fun w' hw' h' => ?_⟩) (fun w' hw' h' => h2 w' (List.mem_cons_of_mem _ hw') h') (fun w' hw' h' => ?_)
      · rcases (h1 j hj).2 w' hw' h' with h | h
        · rcases List.mem_cons.1 h with rfl | h
          · exact absurd h' hw
          · exact .inl h
        · exact .inr h
      · rcases h3 w' hw' h' with h | h
        · rcases List.mem_cons.1 h with rfl | h
          · exact absurd h' hw
          · exact .inl h
        · exact .inr h

theorem not_mk (N i : Nat) : ¬ mk (List.replicate N false) i := by
  unfold mk
  rw [List.getD_eq_getElem?_getD]
  by_cases h : i < N
  · simp [h]
  · rw [List.getElem?_eq_none (by simp; omega)]; simp
theorem used_nat {A : List ACl} {i : Nat} {l : List Wd} (r : Rch A l i) : usedA A i = true := by
  cases r with
  | root w i hm h1 h2 hu => rw [← h2]; exact hu
  | step i w j _ hm h1 h2 hu => rw [← h2]; exact hu
/-- What both find: a list of marks, or that something is wrong. -/
theorem marks_iff {A : List ACl} {N : Nat} {L : List Wd} {M : List Bool} (h : BS A N L (some M)) (i : Nat) : mk M i ↔ Rch A L i := by
  obtain ⟨_, h1, h2⟩ := h
  refine ⟨fun hm => (h1 i hm).1, fun r => ?_⟩
  induction r with
  | root w i hm hw1 hw2 hu => have := (h2 w hm hw1).2; rw [hw2, Int.toNat_natCast] at this; exact this
  | step i w j _ hm hw1 hw2 hu ih => have := ((h1 i ih).2 w hm hw1).2; rw [hw2, Int.toNat_natCast] at this; exact this
theorem not_bad {A : List ACl} {N : Nat} {L : List Wd} {M : List Bool} (h : BS A N L (some M)) : ¬ Bad A L := by
  rintro (⟨w, hw, h1, h2⟩ | ⟨i, w, hr, hw, h1, h2⟩)
  · have := (h.2.2 w hw h1).1; rw [h2] at this; cases this
  · have hm := (marks_iff h i).2 hr
    have := ((h.2.1 i hm).2 w hw h1).1; rw [h2] at this; cases this
theorem mk_ext {M N : List Bool} (hl : M.length = N.length) (h : ∀ i, mk M i ↔ mk N i) : M = N := by
  apply List.ext_getElem?
  intro i
  by_cases hi : i < M.length
  · have hi' : i < N.length := by omega
    have := h i
    unfold mk at this
    rw [List.getD_eq_getElem?_getD, List.getD_eq_getElem?_getD, List.getElem?_eq_getElem hi, List.getElem?_eq_getElem hi'] at this
    rw [List.getElem?_eq_getElem hi, List.getElem?_eq_getElem hi']
    congr 1
    simp only [Option.getD_some] at this
    exact Bool.eq_iff_iff.2 this
  · rw [List.getElem?_eq_none (by omega), List.getElem?_eq_none (by omega)]
theorem ds_bs {A : List ACl} {L : List Wd} {r : Option (List Bool)} (h : DS A (List.replicate A.length false) L r) : BS A A.length L r := by
  cases r with
  | none => exact h
  | some M =>
    obtain ⟨a1, a2, a3, a4, a5⟩ := h
    refine ⟨by simpa using a1, fun i hi => ?_, a4⟩
    rcases a5 i hi with h | ⟨h, h'⟩
    · exact absurd h (not_mk _ _)
    · exact ⟨h', h⟩
theorem vis_bfs {A : List ACl} (sm : ∀ c, c ∈ A → c.2.2.length ≤ 24) (L : List Wd) :
    bfs A (L.length + 25 * A.length + 1) (List.replicate A.length false) L = visS A A.length (List.replicate A.length false) L ∧ BS A A.length L (visS A A.length (List.replicate A.length false) L) := by
  have hc0 : cnt (List.replicate A.length false) = 0 := by unfold cnt; simp
  have h1 := ds_bs (visS_ok A A.length L (List.replicate A.length false) (by simp) (by omega))
  have h2 := bfs_ok sm L (L.length + 25 * A.length + 1) (List.replicate A.length false) L (by simp) (by rw [hc0]; omega) (fun i hi => absurd hi (not_mk _ _)) (fun w hw _ => .inl hw) (fun w hw _ => .inl hw)
  refine ⟨?_, h1⟩
  cases hv : visS A A.length (List.replicate A.length false) L with
  | none =>
    rw [hv] at h1
    cases hb : bfs A (L.length + 25 * A.length + 1) (List.replicate A.length false) L with
    | none => rfl
    | some M => rw [hb] at h2; exact absurd h1 (not_bad h2)
  | some M =>
    rw [hv] at h1
    cases hb : bfs A (L.length + 25 * A.length + 1) (List.replicate A.length false) L with
    | none => rw [hb] at h2; exact absurd h2 (not_bad h1)
    | some M' =>
      rw [hb] at h2
      congr 1
      exact mk_ext (by rw [h1.1, h2.1]) (fun i => by rw [marks_iff h1, marks_iff h2])

theorem cnt_le_of : ∀ (M U : List Bool), M.length = U.length → (∀ i, mk M i → mk U i) → cnt M ≤ cnt U ∧ (cnt M = cnt U → M = U)
  | [], [], _, _ => ⟨Nat.le_refl _, fun _ => rfl⟩
  | [], _ :: _, h, _ => by simp at h
  | _ :: _, [], h, _ => by simp at h
  | a :: M, b :: U, h, hi => by
    obtain ⟨h1, h2⟩ := cnt_le_of M U (by simpa using h) (fun i hm => by have := hi (i + 1); simpa [mk] using this (by simpa [mk] using hm))
    have h0 := hi 0
    simp only [mk, List.getD_cons_zero] at h0
    unfold cnt at h1 h2 ⊢
    rw [List.countP_cons, List.countP_cons]
    cases a <;> cases b
    · exact ⟨by simpa using h1, fun e => by rw [h2 (by simpa using e)]⟩
    · exact ⟨by simp; omega, fun e => by simp at e; omega⟩
    · exact absurd (h0 rfl) (by simp)
    · exact ⟨by simpa using h1, fun e => by rw [h2 (by simpa using e)]⟩
theorem filt_cnt (U : List Bool) : ∀ n, n ≤ U.length → ((List.range n).filter fun i => !U.getD i false).length + cnt (U.take n) = n
  | 0, _ => by simp [cnt]
  | n + 1, h => by
    have ih := filt_cnt U n (by omega)
    have hlt : n < U.length := by omega
    rw [List.range_succ, List.filter_append, List.length_append, List.take_succ_eq_append_getElem hlt]
    have hg : U.getD n false = U[n] := by rw [List.getD_eq_getElem?_getD, List.getElem?_eq_getElem hlt]; rfl
    unfold cnt at ih ⊢
    rw [List.countP_append]
    rw [List.filter_cons, List.filter_nil, hg, List.countP_singleton]
    cases hb : U[n] with
    | true => rw [if_neg (by simp), if_pos (show id true = true from rfl)]; simp only [List.length_nil]; omega
    | false => rw [if_pos (by simp), if_neg (show ¬ id false = true from by simp)]; simp only [List.length_cons, List.length_nil]; omega
theorem St.Ok.count {S : St} (K : S.Ok) : cnt (S.cells.map (·.1)) + S.free.length = S.cells.length := by
  have h1 := filt_cnt (S.cells.map (·.1)) S.cells.length (by simp)
  rw [List.take_of_length_le (by simp)] at h1
  have hmem : ∀ i, i ∈ (List.range S.cells.length).filter (fun i => !(S.cells.map (·.1)).getD i false) ↔ i ∈ S.free := by
    intro i
    rw [K.mem i, List.mem_filter, List.mem_range, List.getD_eq_getElem?_getD, List.getElem?_map]
    constructor
    · rintro ⟨hi, h⟩
      obtain ⟨c, hc⟩ := get_of_lt hi
      rw [hc] at h
      exact ⟨c, hc, by simpa using h⟩
    · rintro ⟨c, hc, h⟩
      refine ⟨lt_of_get hc, ?_⟩
      rw [hc]; simpa using h
  have a := List.Nodup.length_le_of_subset K.nd (fun i hi => (hmem i).2 hi)
  have b := List.Nodup.length_le_of_subset (List.nodup_range.filter _) (fun i hi => (hmem i).1 hi)
  omega
theorem zip_any : ∀ (A : List ACl) (M : List Bool), A.length = M.length → (∀ i, mk M i → mk (A.map (·.1)) i) → ((A.zip M).any (fun q => q.1.1 && !q.2) = false ↔ M = A.map (·.1))
  | [], [], _, _ => by simp
  | [], _ :: _, h, _ => by simp at h
  | _ :: _, [], h, _ => by simp at h
  | a :: A, b :: M, h, hi => by
    have ih := zip_any A M (by simpa using h) (fun i hm => by have := hi (i + 1); simpa [mk] using this (by simpa [mk] using hm))
    have h0 := hi 0
    simp only [mk, List.map_cons, List.getD_cons_zero] at h0
    simp only [List.zip_cons_cons, List.any_cons, List.map_cons, List.cons.injEq, Bool.or_eq_false_iff, ih]
    cases hb : b <;> cases ha : a.1
    · simp
    · simp
    · rw [hb, ha] at h0; exact absurd (h0 rfl) (by simp)
    · simp
theorem audit_eq {S : St} (K : S.Ok) (l : List Wd) : raudS S l = auditS S l := by
  unfold raudS auditS
  obtain ⟨h1, h2⟩ := vis_bfs K.sm l
  split
  · rfl
  · rw [h1]
    cases hv : visS S.cells S.cells.length (List.replicate S.cells.length false) l with
    | none => rfl
    | some M =>
      rw [hv] at h2
      have hlen : S.cells.length = M.length := h2.1.symm
      have hsub : ∀ i, mk M i → mk (S.cells.map (·.1)) i := by
        intro i hi
        have hu := used_nat ((marks_iff h2 i).1 hi)
        unfold usedA at hu
        simp only [Bool.and_eq_true, Int.toNat_natCast] at hu
        unfold mk
        rw [List.getD_eq_getElem?_getD, List.getElem?_map]
        cases hc : S.cells[i]? with
        | none => rw [hc] at hu; simp at hu
        | some c => rw [hc] at hu; simpa using hu.2
      have hz := zip_any S.cells M hlen hsub
      have hcnt := K.count
      obtain ⟨hle, heq⟩ := cnt_le_of M (S.cells.map (·.1)) (by simp [hlen]) hsub
      simp only
      by_cases he : M = S.cells.map (·.1)
      · have e1 := hz.2 he
        rw [e1, if_neg (by simp), if_pos (by rw [he]; exact hcnt)]
      · have e1 : (S.cells.zip M).any (fun q => q.1.1 && !q.2) = true := by
          cases h : (S.cells.zip M).any (fun q => q.1.1 && !q.2) with
          | true => rfl
          | false => exact absurd (hz.1 h) he
        rw [e1, if_pos rfl, if_neg (fun h => he (heq (by omega)))]
-- ws, wsl, opX, int, Zv.bool, intBin, reduceIte, ↓reduceIte, Nat.reduceEqDiff, Nat.reduceAdd, Nat.reduceSub, Nat.reduceLeDiff, Int.reduceLT, Int.reduceLE, Int.reduceEq, Int.reduceBEq, Int.reduceNe, Int.reduceBNe, reduceCtorEq, Nat.reduceBEq
end Zc55
