/-
  The law of the order of cells, in ZvVal's machine.
-/
import Derived.Test.YtlncinhieeopmaaZc55S3
set_option linter.unusedSimpArgs false
set_option maxHeartbeats 4000000
namespace Zc55
open Go Zv Zs

def fV (m : Nat) (l : List Int) : V := if l = [] then .tl [] (some true) else .own m 1 l.length 0 l.length
structure Ord (h : Hp) (ns nc : Nat) (S : St) (m : Nat) (l : List Int) : Prop where
  ex : ∃ O : Nat → Prop, SR h ns nc O S ∧ (∀ n, O n → n < h.next) ∧ (l ≠ [] → h.get m = some (.arr 1 ((l.map eI).map .d)) ∧ ¬ O m)
  low : Low h
  len : S.cells.length = 12
theorem SR.lt {h : Hp} {ns nc : Nat} {O : Nat → Prop} {S : St} (R : SR h ns nc O S) (L : Low h) : ns < h.next ∧ nc < h.next := by
  obtain ⟨⟨cs, first, P, _⟩, _⟩ := R
  exact ⟨low_lt L P.s, low_lt L P.c⟩
theorem Ord.aft {h h' : Hp} {ns nc : Nat} {S S' : St} {m : Nat} {l : List Int} {O : Nat → Prop} (K : Ord h ns nc S m l) (hO : ∀ n, O n → n < h.next) (hm : l ≠ [] → h.get m = some (.arr 1 ((l.map eI).map .d)) ∧ ¬ O m) (A : Aft h ns nc O S' h') (hl : S'.cells.length = 12) : Ord h' ns nc S' m l := by
  refine ⟨⟨_, A.sr, ?_, ?_⟩, A.low, hl⟩
  · rintro n (h1 | h1)
    · exact Nat.lt_of_lt_of_le (hO n h1) A.nx
    · exact h1.2
  · intro h0
    obtain ⟨h1, h2⟩ := hm h0
    have hlt := low_lt K.low h1
    refine ⟨by rw [A.fr m hlt h2]; exact h1, ?_⟩
    rintro (h3 | h3)
    · exact h2 h3
    · omega
theorem Ord.take {h : Hp} {ns nc : Nat} {S : St} {m : Nat} {l : List Int} (K : Ord h ns nc S m l) (tag : Int) (h0 : 0 ≤ tag) :
    ∃ h', callW tab 11 [.ptr ns 1 0 0, .d (eI tag), .d (.lst [])] h = some (.tup [.d (eI (takeS S tag []).1.1), .d (eI (takeS S tag []).1.2)], h') ∧ Ord h' ns nc (takeS S tag []).2 m l := by
  obtain ⟨O, R, hO, hm⟩ := K.ex
  obtain ⟨⟨v, h'⟩, h1, h2, h3⟩ := take_ok R K.low (by rw [K.len]; omega) tag [] (by simp)
  simp only at h2 h3
  subst h2
  refine ⟨h', h1, K.aft hO hm h3 ?_⟩
  have := K.len
  unfold takeS
  split
  · exact this
  · split
    · exact this
    · split
      · exact this
      · split
        · exact this
        · simpa using this
theorem Ord.give {h : Hp} {ns nc : Nat} {S : St} {m : Nat} {l : List Int} (K : Ord h ns nc S m l) (n : Int) :
    ∃ h', callW tab 13 [.ptr ns 1 0 0, .d (eI n)] h = some (.d (eI (giveS S n).1), h') ∧ Ord h' ns nc (giveS S n).2 m l := by
  obtain ⟨O, R, hO, hm⟩ := K.ex
  obtain ⟨⟨v, h'⟩, h1, h2, h3⟩ := give_ok R K.low (by rw [K.len]; omega) n
  simp only at h2 h3
  subst h2
  refine ⟨h', h1, K.aft hO hm h3 ?_⟩
  have := K.len
  unfold giveS
  split
  · exact this
  · simpa using this
theorem take_free {S : St} {i : Nat} {r : List Nat} (hf : S.free = i :: r) (tag : Int) (h0 : 0 ≤ tag) : takeS S tag [] = (((i : Int), 0), ⟨S.cells.set i (true, tag, []), r⟩) := by
  unfold takeS
  rw [if_neg (by omega), if_neg (by simp), if_neg (by simp [wErr]), hf]
theorem take_none {S : St} (hf : S.free = []) (tag : Int) (h0 : 0 ≤ tag) : takeS S tag [] = ((0, 18), S) := by
  unfold takeS
  rw [if_neg (by omega), if_neg (by simp), if_neg (by simp [wErr]), hf]

theorem Ord.push {h : Hp} {ns nc : Nat} {S : St} {m : Nat} {l : List Int} (K : Ord h ns nc S m l) (hl : l.length < 1000) (x : Int) :
    ∃ h' m', app 1 8 h (fV m l) (.tl [.d (eI x)] (some false)) = some (fV m' (l ++ [x]), h') ∧ Ord h' ns nc S m' (l ++ [x]) := by
  have hx : allV 1 [V.d (eI x)] = true := by simp [allV, V.cells, D.cells]
  have hne : l ++ [x] ≠ [] := by simp
  obtain ⟨O, R, hO, hm⟩ := K.ex
  by_cases h0 : l = []
  · subst h0
    refine ⟨⟨(h.next, .arr 1 [.d (eI x)]) :: h.objs, h.next + 1⟩, h.next, ?_, ⟨⟨O, R.frame ?_, ?_, ?_⟩, low_top K.low _, K.len⟩⟩
    · unfold app
      simp only [elems, Option.bind_some, List.map_cons, List.map_nil, norm_d, hx, if_true]
      simp [fV, allV, roomB, Hp.alloc]
    · intro n hn
      have := hO n hn
      rw [get_mk, if_neg (by omega)]; rfl
    · intro n hn; have := hO n hn; show n < h.next + 1; omega
    · intro _
      refine ⟨by rw [get_mk, if_pos rfl]; rfl, fun hc => ?_⟩
      have := hO _ hc; omega
  · obtain ⟨h1, h2⟩ := hm h0
    have hr : h.row m l.length = some (1, (l.map eI).map .d) := by rw [row_lk, h1, rowOf_arr, if_pos (by simp)]
    refine ⟨h.set m (.arr 1 (((l ++ [x]).map eI).map .d)), m, ?_, ⟨⟨O, R.frame ?_, hO, ?_⟩, low_set K.low _ _, K.len⟩⟩
    · unfold app fV
      rw [if_neg h0, if_neg hne]
      simp only [elems, Option.bind_some, List.map_cons, List.map_nil, norm_d, hx, if_true, hr, List.length_map, Nat.zero_add, Nat.le_refl, and_self, List.isEmpty_cons, Bool.false_eq_true, if_false, List.length_cons, List.length_nil, List.length_append]
      rw [if_neg (by omega), if_pos (by unfold roomB; omega), List.take_of_length_le (by simp)]
      simp
    · intro n hn
      rw [get_sets, if_neg (fun e => h2 (by rw [← e]; exact hn))]
    · intro _
      exact ⟨by rw [get_sets, if_pos rfl, h1]; rfl, h2⟩
theorem fV_len (m : Nat) (l : List Int) : lenL (fV m l) = some (.d (.int .i64 l.length)) := by
  unfold fV
  split
  · rename_i h; subst h; rfl
  · rfl
theorem Ord.at {h : Hp} {ns nc : Nat} {S : St} {m : Nat} {l : List Int} (K : Ord h ns nc S m l) {n : Nat} {x : Int} (hx : l[n]? = some x) : ∃ a, ia 1 (fV m l) (.d (.int .i64 (n : Int))) = some a ∧ ld false 1 h a = some (.d (eI x)) := by
  obtain ⟨O, R, hO, hm⟩ := K.ex
  have h0 : l ≠ [] := by rintro rfl; simp at hx
  have hr : h.row m l.length = some (1, (l.map eI).map .d) := by rw [row_lk, (hm h0).1, rowOf_arr, if_pos (by simp)]
  unfold fV
  rw [if_neg h0]
  refine ⟨_, ia_own .i64 (lt_of_get hx), ?_⟩
  rw [ld_one, hr]
  simp [hx, V.cells, D.cells]
theorem fold_or (k : Int) : ∀ (l : List Int) (b : Bool), l.foldl (fun b x => if b = true then true else x == k) b = (b || l.any fun x => x == k)
  | [], b => by simp
  | x :: l, b => by
    rw [List.foldl_cons, fold_or k l, List.any_cons]
    cases b <;> simp
theorem u8s {x : D} (h : ok (EE es) (.one (.i .u8)) x) : ∃ n : Int, x = .int .u8 n ∧ 0 ≤ n ∧ n ≤ 255 := by
  obtain ⟨n, rfl, hn⟩ := ok_i h
  refine ⟨n, rfl, ?_⟩
  simp [Lit.wf, IntKind.min, IntKind.max, IntKind.signed, IntKind.bits] at hn
  omega
theorem okU8s : ∀ {l : List D}, okEs (EE es) (.one (.i .u8)) l → ∃ xs : List Int, l = xs.map (fun n => D.int .u8 n) ∧ ∀ n, n ∈ xs → 0 ≤ n ∧ n ≤ 255
  | [], _ => ⟨[], rfl, fun n h => by cases h⟩
  | x :: l, h => by
    simp only [okEs] at h
    obtain ⟨n, rfl, hn⟩ := u8s h.1
    obtain ⟨xs, rfl, hx⟩ := okU8s h.2
    exact ⟨n :: xs, rfl, fun m hm => by rcases List.mem_cons.1 hm with rfl | hm; exact hn; exact hx m hm⟩

theorem storeOrder : ∀ x0 : D, ok (EE Zc55.es) (.one (.l 0)) x0 → ∃ h', callW Zc55.tab 4 [.d x0] ⟨[], 0⟩ = some (.d (.bool true), h') := by
  intro x0 h0
  obtain ⟨l, rfl, _, h2⟩ := ok_l h0
  obtain ⟨xs, rfl, hxs⟩ := okU8s h2
  refine ⟨⟨[], 0⟩, ?_⟩
  apply call_wp (fn := f4) rfl rfl
  by_cases h12 : (12 : Int) < (xs.length : Int)
  · (simp only [e4, h12, awake, ws, wsl, opX, int, Zv.bool, intBin, reduceIte, ↓reduceIte, Nat.reduceEqDiff, Nat.reduceAdd, Nat.reduceSub, Nat.reduceLeDiff, Int.reduceLT, Int.reduceLE, Int.reduceEq, Int.reduceBEq, Int.reduceNe, Int.reduceBNe, reduceCtorEq, Nat.reduceBEq] <;> repeat' (first | refine wpG_s ?_ ?_ | refine wpC_s ?_ ?_) <;> intro hgo <;> (try simp only [decide_eq_true_eq, decide_eq_false_iff_not, Bool.not_eq_true', Bool.not_eq_false'] at hgo) <;> simp only [hgo, e4, h12, awake, ws, wsl, opX, int, Zv.bool, intBin, reduceIte, ↓reduceIte, Nat.reduceEqDiff, Nat.reduceAdd, Nat.reduceSub, Nat.reduceLeDiff, Int.reduceLT, Int.reduceLE, Int.reduceEq, Int.reduceBEq, Int.reduceNe, Int.reduceBNe, reduceCtorEq, Nat.reduceBEq])
  · have L0 : Low ⟨[], 0⟩ := fun _ _ => rfl
    obtain ⟨⟨v, h1⟩, hnew, hv, hR, hL, hnx, _⟩ := new_ok ⟨[], 0⟩ L0 12 (by omega)
    simp only at hv hR hL hnx
    subst hv
    simp only [Nat.zero_add, Int.cast_ofNat_Int] at hR hnew
    have K0 : Ord h1 1 0 (newS 12) 0 [] := ⟨⟨_, hR, fun n hn => by rw [hnx]; exact hn.2, fun h => absurd rfl h⟩, hL, rfl⟩
    have ie : ∀ (n : Nat) (x : Int), xs[n]? = some x → ia 1 (.d (.lst (xs.map fun n => D.int .u8 n))) (.d (.int .i64 (n : Int))) = some (.fp (.int .u8 x) 0) := fun n x hx => ia_map (f := fun n => D.int .u8 n) .i64 hx rfl
    (simp only [e4, h12, hnew, ws, wsl, opX, int, Zv.bool, intBin, reduceIte, ↓reduceIte, Nat.reduceEqDiff, Nat.reduceAdd, Nat.reduceSub, Nat.reduceLeDiff, Int.reduceLT, Int.reduceLE, Int.reduceEq, Int.reduceBEq, Int.reduceNe, Int.reduceBNe, reduceCtorEq, Nat.reduceBEq] <;> repeat' (first | refine wpG_s ?_ ?_ | refine wpC_s ?_ ?_) <;> intro hgo <;> (try simp only [decide_eq_true_eq, decide_eq_false_iff_not, Bool.not_eq_true', Bool.not_eq_false'] at hgo) <;> simp only [hgo, e4, h12, hnew, ws, wsl, opX, int, Zv.bool, intBin, reduceIte, ↓reduceIte, Nat.reduceEqDiff, Nat.reduceAdd, Nat.reduceSub, Nat.reduceLeDiff, Int.reduceLT, Int.reduceLE, Int.reduceEq, Int.reduceBEq, Int.reduceNe, Int.reduceBNe, reduceCtorEq, Nat.reduceBEq])
    refine loop_wp 12 (fun i e h' => e = [(0, .d (.lst (xs.map fun n => D.int .u8 n))), (3, .ptr 1 1 0 0), (5, .d (.int .i64 i))] ∧ ∃ S, Ord h' 1 0 S 0 [] ∧ S.free = List.range' i (12 - i)) _ ?_ ?_ 12 0 _ _ (by omega) ⟨rfl, newS 12, K0, List.range_eq_range'⟩
    · rintro i e h' hi ⟨rfl, S, K, hf⟩
      have hi' : (i : Int) < 12 := by omega
      rw [show 12 - i = (12 - (i + 1)) + 1 by omega, List.range'_succ] at hf
      obtain ⟨h3, hcall, K'⟩ := K.take (i : Int) (by omega)
      rw [take_free hf (i : Int) (by omega)] at hcall K'
      (simp only [e4, hi', hcall, wrap_succ (show i < 2 ^ 62 by omega), ws, wsl, opX, int, Zv.bool, intBin, reduceIte, ↓reduceIte, Nat.reduceEqDiff, Nat.reduceAdd, Nat.reduceSub, Nat.reduceLeDiff, Int.reduceLT, Int.reduceLE, Int.reduceEq, Int.reduceBEq, Int.reduceNe, Int.reduceBNe, reduceCtorEq, Nat.reduceBEq] <;> repeat' (first | refine wpG_s ?_ ?_ | refine wpC_s ?_ ?_) <;> intro hgo <;> (try simp only [decide_eq_true_eq, decide_eq_false_iff_not, Bool.not_eq_true', Bool.not_eq_false'] at hgo) <;> simp only [hgo, e4, hi', hcall, wrap_succ (show i < 2 ^ 62 by omega), ws, wsl, opX, int, Zv.bool, intBin, reduceIte, ↓reduceIte, Nat.reduceEqDiff, Nat.reduceAdd, Nat.reduceSub, Nat.reduceLeDiff, Int.reduceLT, Int.reduceLE, Int.reduceEq, Int.reduceBEq, Int.reduceNe, Int.reduceBNe, reduceCtorEq, Nat.reduceBEq])
      exact ⟨_, K', rfl⟩
    · rintro e h' ⟨rfl, S, K, hf⟩
      have hf0 : S.free = [] := by rw [hf]; rfl
      clear hf
      (simp only [e4, ws, wsl, opX, int, Zv.bool, intBin, reduceIte, ↓reduceIte, Nat.reduceEqDiff, Nat.reduceAdd, Nat.reduceSub, Nat.reduceLeDiff, Int.reduceLT, Int.reduceLE, Int.reduceEq, Int.reduceBEq, Int.reduceNe, Int.reduceBNe, reduceCtorEq, Nat.reduceBEq] <;> repeat' (first | refine wpG_s ?_ ?_ | refine wpC_s ?_ ?_) <;> intro hgo <;> (try simp only [decide_eq_true_eq, decide_eq_false_iff_not, Bool.not_eq_true', Bool.not_eq_false'] at hgo) <;> simp only [hgo, e4, ws, wsl, opX, int, Zv.bool, intBin, reduceIte, ↓reduceIte, Nat.reduceEqDiff, Nat.reduceAdd, Nat.reduceSub, Nat.reduceLeDiff, Int.reduceLT, Int.reduceLE, Int.reduceEq, Int.reduceBEq, Int.reduceNe, Int.reduceBNe, reduceCtorEq, Nat.reduceBEq])
      -- the cells that are given back
      refine loop_wp xs.length (fun i e h' => ∃ S m fr, e = [(0, .d (.lst (xs.map fun n => D.int .u8 n))), (3, .ptr 1 1 0 0), (8, fV m fr), (9, .d (.int .i64 i))] ∧ Ord h' 1 0 S m fr ∧ fr.length ≤ i ∧ (∀ x, x ∈ fr → 0 ≤ x ∧ x < 12) ∧ S.free = (fr.map Int.toNat).reverse) _ ?_ ?_ xs.length 0 _ _ (by omega) ⟨S, 0, [], rfl, K, Nat.le_refl _, (fun x hx => by cases hx), by rw [hf0]; rfl⟩
      · rintro i e h' hi ⟨S, m, fr, rfl, K, hfl, hfr, hf⟩
        obtain ⟨x, hx⟩ := get_of_lt hi
        have hx0 := hxs x (List.mem_of_getElem? hx)
        have hk : ∃ k : Nat, x.tmod 12 = k ∧ k < 12 := by
          rw [Int.tmod_eq_emod_of_nonneg hx0.1]
          exact ⟨(x % 12).toNat, by omega, by omega⟩
        obtain ⟨k, hk, hk12⟩ := hk
        have z12 : ((12 : Int) = 0) = False := by decide
        have wk : IntKind.i64.wrap (k : Int) = k := wrap_ok (by omega) (by omega)
        have inner := loop_fold (T := tab) (a := f4l1) (l := fr) (fun j b => [(0, .d (.lst (xs.map fun n => D.int .u8 n))), (3, .ptr 1 1 0 0), (8, fV m fr), (9, .d (.int .i64 i)), (10, .d (.int .i64 k)), (11, .d (.bool b)), (12, int j)]) (fun _ _ => h') (fun _ _ => True) (fun b x => if b = true then true else x == (k : Int))
          (fun b => (.exit 4, [(0, .d (.lst (xs.map fun n => D.int .u8 n))), (3, .ptr 1 1 0 0), (8, fV m fr), (9, .d (.int .i64 i)), (10, .d (.int .i64 k)), (11, .d (.bool b)), (12, .d (.int .i64 fr.length)), (65, .d (.bool false))], h'))
          (by
            intro j b y hy hlt _
            refine ⟨?_, trivial⟩
            obtain ⟨a, ha, hla⟩ := K.at hy
            apply wq_ex.1
            cases b <;> (simp only [e4, fV_len, hlt, ha, hla, wrap_succ (show j < 2 ^ 62 by omega), ws, wsl, opX, int, Zv.bool, intBin, reduceIte, ↓reduceIte, Nat.reduceEqDiff, Nat.reduceAdd, Nat.reduceSub, Nat.reduceLeDiff, Int.reduceLT, Int.reduceLE, Int.reduceEq, Int.reduceBEq, Int.reduceNe, Int.reduceBNe, reduceCtorEq, Nat.reduceBEq] <;> repeat' (first | refine wpG_s ?_ ?_ | refine wpC_s ?_ ?_) <;> intro hgo <;> (try simp only [decide_eq_true_eq, decide_eq_false_iff_not, Bool.not_eq_true', Bool.not_eq_false'] at hgo) <;> simp only [hgo, e4, fV_len, hlt, ha, hla, wrap_succ (show j < 2 ^ 62 by omega), ws, wsl, opX, int, Zv.bool, intBin, reduceIte, ↓reduceIte, Nat.reduceEqDiff, Nat.reduceAdd, Nat.reduceSub, Nat.reduceLeDiff, Int.reduceLT, Int.reduceLE, Int.reduceEq, Int.reduceBEq, Int.reduceNe, Int.reduceBNe, reduceCtorEq, Nat.reduceBEq]))
          (by
            intro b _
            apply wq_ex.1
            (simp only [e4, fV_len, ws, wsl, opX, int, Zv.bool, intBin, reduceIte, ↓reduceIte, Nat.reduceEqDiff, Nat.reduceAdd, Nat.reduceSub, Nat.reduceLeDiff, Int.reduceLT, Int.reduceLE, Int.reduceEq, Int.reduceBEq, Int.reduceNe, Int.reduceBNe, reduceCtorEq, Nat.reduceBEq] <;> repeat' (first | refine wpG_s ?_ ?_ | refine wpC_s ?_ ?_) <;> intro hgo <;> (try simp only [decide_eq_true_eq, decide_eq_false_iff_not, Bool.not_eq_true', Bool.not_eq_false'] at hgo) <;> simp only [hgo, e4, fV_len, ws, wsl, opX, int, Zv.bool, intBin, reduceIte, ↓reduceIte, Nat.reduceEqDiff, Nat.reduceAdd, Nat.reduceSub, Nat.reduceLeDiff, Int.reduceLT, Int.reduceLE, Int.reduceEq, Int.reduceBEq, Int.reduceNe, Int.reduceBNe, reduceCtorEq, Nat.reduceBEq]))
          (by intro b; simp) false trivial
        rw [fold_or, Bool.false_or] at inner
        simp only [int, Int.cast_ofNat_Int] at inner
        obtain ⟨h3, hg, K'⟩ := K.give (k : Int)
        have hw := wrap_succ (show i < 2 ^ 62 by omega)
        obtain ⟨O, R, _⟩ := K.ex
        have hmem := R.ok.mem k
        have hany : (fr.any fun x => x == (k : Int)) = decide (k ∈ S.free) := by
          rw [hf]
          have : ∀ l : List Int, (∀ x, x ∈ l → 0 ≤ x ∧ x < 12) → (l.any fun x => x == (k : Int)) = decide (k ∈ (l.map Int.toNat).reverse) := by
            intro l hl
            rw [Bool.eq_iff_iff]
            simp only [List.any_eq_true, beq_iff_eq, decide_eq_true_eq, List.mem_reverse, List.mem_map]
            constructor
            · rintro ⟨x, hx, rfl⟩; exact ⟨k, hx, by simp⟩
            · rintro ⟨x, hx, he⟩; have := hl x hx; exact ⟨x, hx, by omega⟩
          exact this fr hfr
        obtain ⟨c, hc⟩ := get_of_lt (l := S.cells) (n := k) (by rw [K.len]; exact hk12)
        have hse : sErrA S.cells k = if c.1 = true then 0 else 23 := by
          unfold sErrA; rw [if_neg (by omega), Int.toNat_natCast, hc]
        by_cases hin : k ∈ S.free
        · obtain ⟨c', hc', hu⟩ := hmem.1 hin
          rw [hc] at hc'; cases hc'
          have hgs : giveS S k = (23, S) := by unfold giveS; rw [hse, hu]; simp
          rw [hgs] at hg K'
          rw [hany, decide_eq_true hin] at inner
          (simp only [e4, fV_len, hi, ie i x hx, hk, z12, wk, wq_of inner, hg, hw, ibeq, ibne, ws, wsl, opX, int, Zv.bool, intBin, reduceIte, ↓reduceIte, Nat.reduceEqDiff, Nat.reduceAdd, Nat.reduceSub, Nat.reduceLeDiff, Int.reduceLT, Int.reduceLE, Int.reduceEq, Int.reduceBEq, Int.reduceNe, Int.reduceBNe, reduceCtorEq, Nat.reduceBEq] <;> repeat' (first | refine wpG_s ?_ ?_ | refine wpC_s ?_ ?_) <;> intro hgo <;> (try simp only [decide_eq_true_eq, decide_eq_false_iff_not, Bool.not_eq_true', Bool.not_eq_false'] at hgo) <;> simp only [hgo, e4, fV_len, hi, ie i x hx, hk, z12, wk, wq_of inner, hg, hw, ibeq, ibne, ws, wsl, opX, int, Zv.bool, intBin, reduceIte, ↓reduceIte, Nat.reduceEqDiff, Nat.reduceAdd, Nat.reduceSub, Nat.reduceLeDiff, Int.reduceLT, Int.reduceLE, Int.reduceEq, Int.reduceBEq, Int.reduceNe, Int.reduceBNe, reduceCtorEq, Nat.reduceBEq])
          exact ⟨S, m, fr, ⟨rfl, K', by omega, hfr, hf⟩⟩
        · have hu : c.1 = true := by
            cases hcu : c.1 with
            | true => rfl
            | false => exact absurd (hmem.2 ⟨c, hc, hcu⟩) hin
          have hgs : giveS S k = (0, ⟨S.cells.set k (false, 0, []), k :: S.free⟩) := by unfold giveS; rw [hse, hu]; simp
          rw [hgs] at hg K'
          rw [hany, decide_eq_false hin] at inner
          obtain ⟨h4, m', happ, K''⟩ := K'.push (by omega) (k : Int)
          (simp only [e4, fV_len, hi, ie i x hx, hk, z12, wk, wq_of inner, hg, hw, ibeq, ibne, happ, ws, wsl, opX, int, Zv.bool, intBin, reduceIte, ↓reduceIte, Nat.reduceEqDiff, Nat.reduceAdd, Nat.reduceSub, Nat.reduceLeDiff, Int.reduceLT, Int.reduceLE, Int.reduceEq, Int.reduceBEq, Int.reduceNe, Int.reduceBNe, reduceCtorEq, Nat.reduceBEq] <;> repeat' (first | refine wpG_s ?_ ?_ | refine wpC_s ?_ ?_) <;> intro hgo <;> (try simp only [decide_eq_true_eq, decide_eq_false_iff_not, Bool.not_eq_true', Bool.not_eq_false'] at hgo) <;> simp only [hgo, e4, fV_len, hi, ie i x hx, hk, z12, wk, wq_of inner, hg, hw, ibeq, ibne, happ, ws, wsl, opX, int, Zv.bool, intBin, reduceIte, ↓reduceIte, Nat.reduceEqDiff, Nat.reduceAdd, Nat.reduceSub, Nat.reduceLeDiff, Int.reduceLT, Int.reduceLE, Int.reduceEq, Int.reduceBEq, Int.reduceNe, Int.reduceBNe, reduceCtorEq, Nat.reduceBEq])
          refine ⟨_, m', fr ++ [(k : Int)], ⟨rfl, K'', by simp; omega, ?_, ?_⟩⟩
          · intro y hy
            rcases List.mem_append.1 hy with h | h
            · exact hfr y h
            · simp at h; omega
          · rw [List.map_append, List.reverse_append, ← hf]; simp
      · rintro e h' ⟨S, m, fr, rfl, K, hfl, hfr, hf⟩
        have wl : IntKind.i64.wrap ((fr.length : Int) - 1) = (fr.length : Int) - 1 := wrap_ok (by omega) (by omega)
        (simp only [e4, fV_len, wl, ws, wsl, opX, int, Zv.bool, intBin, reduceIte, ↓reduceIte, Nat.reduceEqDiff, Nat.reduceAdd, Nat.reduceSub, Nat.reduceLeDiff, Int.reduceLT, Int.reduceLE, Int.reduceEq, Int.reduceBEq, Int.reduceNe, Int.reduceBNe, reduceCtorEq, Nat.reduceBEq] <;> repeat' (first | refine wpG_s ?_ ?_ | refine wpC_s ?_ ?_) <;> intro hgo <;> (try simp only [decide_eq_true_eq, decide_eq_false_iff_not, Bool.not_eq_true', Bool.not_eq_false'] at hgo) <;> simp only [hgo, e4, fV_len, wl, ws, wsl, opX, int, Zv.bool, intBin, reduceIte, ↓reduceIte, Nat.reduceEqDiff, Nat.reduceAdd, Nat.reduceSub, Nat.reduceLeDiff, Int.reduceLT, Int.reduceLE, Int.reduceEq, Int.reduceBEq, Int.reduceNe, Int.reduceBNe, reduceCtorEq, Nat.reduceBEq])
        refine loop_wp fr.length (fun i e h' => e = [(3, .ptr 1 1 0 0), (8, fV m fr), (14, .d (.int .i64 ((fr.length : Int) - 1 - i)))] ∧ ∃ S, Ord h' 1 0 S m fr ∧ S.free = ((fr.take (fr.length - i)).map Int.toNat).reverse) _ ?_ ?_ fr.length 0 _ _ (by omega) ⟨by simp, S, K, by rw [hf]; simp⟩
        · rintro i e h' hi ⟨rfl, S, K, hf⟩
          obtain ⟨x, hx⟩ := get_of_lt (l := fr) (n := fr.length - 1 - i) (by omega)
          have ei : (fr.length : Int) - 1 - i = ((fr.length - 1 - i : Nat) : Int) := by omega
          have ei2 : (fr.length : Int) - 1 - ((i + 1 : Nat) : Int) = (fr.length : Int) - 1 - i - 1 := by omega
          have hx12 := hfr x (List.mem_of_getElem? hx)
          have hfree : S.free = x.toNat :: ((fr.take (fr.length - (i + 1))).map Int.toNat).reverse := by
            rw [hf, show fr.length - i = (fr.length - 1 - i) + 1 by omega, show fr.length - (i + 1) = fr.length - 1 - i by omega]
            obtain ⟨hlt, he⟩ := List.getElem?_eq_some_iff.1 hx
            rw [List.take_succ_eq_append_getElem hlt, he, List.map_append, List.reverse_append]; rfl
          obtain ⟨h3, hcall, K'⟩ := K.take 0 (by omega)
          rw [take_free hfree 0 (by omega)] at hcall K'
          obtain ⟨a, ha, hla⟩ := K'.at hx
          have wd : IntKind.i64.wrap ((fr.length : Int) - 1 - i - 1) = (fr.length : Int) - 1 - i - 1 := wrap_ok (by omega) (by omega)
          have xe : ((x.toNat : Nat) : Int) = x := by omega
          have ge : (0 : Int) ≤ (fr.length : Int) - 1 - i := by omega
          rw [xe] at hcall
          rw [← ei] at ha
          (simp only [e4, ge, hcall, ha, hla, wd, ei2, ibne, ws, wsl, opX, int, Zv.bool, intBin, reduceIte, ↓reduceIte, Nat.reduceEqDiff, Nat.reduceAdd, Nat.reduceSub, Nat.reduceLeDiff, Int.reduceLT, Int.reduceLE, Int.reduceEq, Int.reduceBEq, Int.reduceNe, Int.reduceBNe, reduceCtorEq, Nat.reduceBEq] <;> repeat' (first | refine wpG_s ?_ ?_ | refine wpC_s ?_ ?_) <;> intro hgo <;> (try simp only [decide_eq_true_eq, decide_eq_false_iff_not, Bool.not_eq_true', Bool.not_eq_false'] at hgo) <;> simp only [hgo, e4, ge, hcall, ha, hla, wd, ei2, ibne, ws, wsl, opX, int, Zv.bool, intBin, reduceIte, ↓reduceIte, Nat.reduceEqDiff, Nat.reduceAdd, Nat.reduceSub, Nat.reduceLeDiff, Int.reduceLT, Int.reduceLE, Int.reduceEq, Int.reduceBEq, Int.reduceNe, Int.reduceBNe, reduceCtorEq, Nat.reduceBEq])
          exact ⟨_, K', rfl⟩
        · rintro e h' ⟨rfl, S, K, hf⟩
          have hf0 : S.free = [] := by rw [hf]; simp
          have ge : ¬ (0 : Int) ≤ (fr.length : Int) - 1 - (fr.length : Int) := by omega
          obtain ⟨h3, hcall, K'⟩ := K.take 0 (by omega)
          rw [take_none hf0 0 (by omega)] at hcall K'
          obtain ⟨O, R, _⟩ := K'.ex
          obtain ⟨⟨cs, first, P, _⟩, _⟩ := R
          have hleft := left_ok P
          rw [hf0] at hleft
          have hfin := finS_suf (h := ⟨[], 0⟩) (h' := h3) (by unfold sufOk; simp [objsBeq]) [.bool true]
          (simp only [e4, ge, hcall, awake_any K'.low, hleft, ibeq, List.length_nil, ws, wsl, opX, int, Zv.bool, intBin, reduceIte, ↓reduceIte, Nat.reduceEqDiff, Nat.reduceAdd, Nat.reduceSub, Nat.reduceLeDiff, Int.reduceLT, Int.reduceLE, Int.reduceEq, Int.reduceBEq, Int.reduceNe, Int.reduceBNe, reduceCtorEq, Nat.reduceBEq] <;> repeat' (first | refine wpG_s ?_ ?_ | refine wpC_s ?_ ?_) <;> intro hgo <;> (try simp only [decide_eq_true_eq, decide_eq_false_iff_not, Bool.not_eq_true', Bool.not_eq_false'] at hgo) <;> simp only [hgo, e4, ge, hcall, awake_any K'.low, hleft, ibeq, List.length_nil, ws, wsl, opX, int, Zv.bool, intBin, reduceIte, ↓reduceIte, Nat.reduceEqDiff, Nat.reduceAdd, Nat.reduceSub, Nat.reduceLeDiff, Int.reduceLT, Int.reduceLE, Int.reduceEq, Int.reduceBEq, Int.reduceNe, Int.reduceBNe, reduceCtorEq, Nat.reduceBEq])
          exact hfin
-- ws, wsl, opX, int, Zv.bool, intBin, reduceIte, ↓reduceIte, Nat.reduceEqDiff, Nat.reduceAdd, Nat.reduceSub, Nat.reduceLeDiff, Int.reduceLT, Int.reduceLE, Int.reduceEq, Int.reduceBEq, Int.reduceNe, Int.reduceBNe, reduceCtorEq, Nat.reduceBEq
end Zc55
