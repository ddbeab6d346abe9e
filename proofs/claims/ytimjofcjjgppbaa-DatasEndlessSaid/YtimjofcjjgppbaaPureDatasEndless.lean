/-
  The law of a type that contains itself, in ZvVal's machine.
-/
import Derived.Test.YtimjofcjjgppbaaZc17R17
set_option linter.unusedSimpArgs false
set_option maxHeartbeats 4000000
namespace Zc17
open Go Zv Zs

theorem app_new (d : List Dt) (os : List (Nat × Ob)) (q : Nat) (nl : Option Bool) (h0 : 0 < d.length) (h1 : d.length ≤ 100) : appn 2 40 ⟨os, q⟩ (.tl [] nl) (.d (eDs d)) = some (.own q 2 d.length 0 d.length, ⟨(q, .arr 2 ((d.map eD).map V.d)) :: os, q + 1⟩) := by
  have hx : allV 2 ((d.map eD).map V.d) = true := by simp [allV, V.cells, D.cells]
  have hn : ((d.map eD).map V.d).map norm = (d.map eD).map V.d := by simp [norm, toD]
  unfold appn app
  simp only [elems, Option.bind_some, hx, if_true, hn]
  have he : ((d.map eD).map V.d).isEmpty = false := by
    cases d with
    | nil => simp at h0
    | cons y ds => rfl
  rw [he]
  simp only [Bool.false_eq_true, if_false, List.length_nil, List.length_map, Nat.zero_add, List.nil_append]
  rw [if_pos ⟨by unfold roomB; omega, by simp [allV]⟩]
  rfl
theorem app_one (d : List Dt) (z : Dt) (os : List (Nat × Ob)) (q p : Nat) (nl : Option Bool) (h1 : d.length ≤ 100) : app 2 40 ⟨(q, .arr 2 ((d.map eD).map V.d)) :: os, p⟩ (.own q 2 d.length 0 d.length) (.tl [.d (eD z)] nl) = some (.own q 2 (d ++ [z]).length 0 (d ++ [z]).length, ⟨(q, .arr 2 (((d ++ [z]).map eD).map V.d)) :: os, p⟩) := by
  have hx : allV 2 [V.d (eD z)] = true := by simp [allV, V.cells, D.cells]
  have hr := row_hd q 2 ((d.map eD).map V.d) os p d.length
  rw [if_pos (by simp)] at hr
  unfold app
  simp only [elems, Option.bind_some, hx, if_true, List.map_cons, List.map_nil, norm_d, hr, List.length_map, Nat.zero_add, Nat.le_refl, and_self, List.isEmpty_cons, Bool.false_eq_true, if_false, List.length_cons, List.length_nil, List.length_append]
  rw [if_neg (by omega), if_pos (by unfold roomB; omega), List.take_of_length_le (by simp), set_hd]
  simp
theorem frz_row (e : List Dt) (os : List (Nat × Ob)) (q p : Nat) : Zv.frz ⟨(q, .arr 2 ((e.map eD).map V.d)) :: os, p⟩ (.own q 2 e.length 0 e.length) = some (.d (eDs e), ⟨os, p⟩) := by
  have hr := row_hd q 2 ((e.map eD).map V.d) os p e.length
  rw [if_pos (by simp)] at hr
  simp only [Zv.frz, hr, Option.bind_some, List.length_map, Nat.zero_add, Nat.le_refl, if_true, List.drop_zero]
  rw [List.take_of_length_le (by simp), toDs_map, kill_hd]
  rfl
theorem frz_st (n nx : Nat) (s : ByteArray) (l : List D) (nl : Option Bool) (os : List (Nat × Ob)) : Zv.frz ⟨(n, .arr 2 [.agg [.d (.str s), .tl (l.map V.d) nl]]) :: os, nx⟩ (.ptr n 1 0 0) = some (.fp (.agg [.str s, .lst l]) 0, ⟨os, nx⟩) := by
  simp only [Zv.frz, row_cons, if_true, List.length_cons, List.length_nil, Option.bind_some, List.getElem?_cons_zero, Option.map_some, toD, toDs, toDs_map, kill_hd]
theorem norm_st (s : ByteArray) (l : List D) (nl : Option Bool) : norm (.agg [.d (.str s), .tl (l.map V.d) nl]) = .d (.agg [.str s, .lst l]) := by
  simp [norm, toD, toDs, toDs_map]

theorem datasEndless : ∀ x0 : D, ok (EE Zc17.es) (.one (.l 0)) x0 → ∃ h', callW Zc17.tab 7 [.d x0] ⟨[], 0⟩ = some (.d (.bool true), h') := by
  intro x0 h0
  obtain ⟨d, rfl⟩ := okDs h0
  refine ⟨⟨[], 0⟩, ?_⟩
  apply call_wp (fn := f7) rfl rfl
  obtain ⟨r, hf, b, rfl, hb⟩ := few_ok' d ⟨[], 0⟩
  cases b with
  | false => (simp only [e7, awake, hf, ws, wsl, opX, int, Zv.bool, intBin, reduceIte, ↓reduceIte, Nat.reduceEqDiff, Nat.reduceAdd, Nat.reduceSub, Nat.reduceLeDiff, Int.reduceLT, Int.reduceLE, Int.reduceEq, Int.reduceBEq, Int.reduceNe, Int.reduceBNe, reduceCtorEq, Nat.reduceBEq] <;> repeat' (first | refine wpG_s ?_ ?_ | refine wpC_s ?_ ?_) <;> intro hgo <;> (try simp only [decide_eq_true_eq, decide_eq_false_iff_not, Bool.not_eq_true', Bool.not_eq_false'] at hgo) <;> simp only [hgo, e7, awake, hf, ws, wsl, opX, int, Zv.bool, intBin, reduceIte, ↓reduceIte, Nat.reduceEqDiff, Nat.reduceAdd, Nat.reduceSub, Nat.reduceLeDiff, Int.reduceLT, Int.reduceLE, Int.reduceEq, Int.reduceBEq, Int.reduceNe, Int.reduceBNe, reduceCtorEq, Nat.reduceBEq])
  | true =>
    have B := (hb rfl).1.2
    have N := (hb rfl).2
    have hc := pcheck_ok B N ⟨[], 0⟩
    by_cases h64 : (64 : Int) ≤ (d.length : Int)
    · (simp only [e7, awake, hf, h64, ws, wsl, opX, int, Zv.bool, intBin, reduceIte, ↓reduceIte, Nat.reduceEqDiff, Nat.reduceAdd, Nat.reduceSub, Nat.reduceLeDiff, Int.reduceLT, Int.reduceLE, Int.reduceEq, Int.reduceBEq, Int.reduceNe, Int.reduceBNe, reduceCtorEq, Nat.reduceBEq] <;> repeat' (first | refine wpG_s ?_ ?_ | refine wpC_s ?_ ?_) <;> intro hgo <;> (try simp only [decide_eq_true_eq, decide_eq_false_iff_not, Bool.not_eq_true', Bool.not_eq_false'] at hgo) <;> simp only [hgo, e7, awake, hf, h64, ws, wsl, opX, int, Zv.bool, intBin, reduceIte, ↓reduceIte, Nat.reduceEqDiff, Nat.reduceAdd, Nat.reduceSub, Nat.reduceLeDiff, Int.reduceLT, Int.reduceLE, Int.reduceEq, Int.reduceBEq, Int.reduceNe, Int.reduceBNe, reduceCtorEq, Nat.reduceBEq])
    · by_cases hv : checkS d = 0
      · have V := check_valid hv
        have hbl := B.len
        have ht := type_ok B sEndless ⟨[], 0⟩
        have hm := con_ok B sMore ⟨[], 0⟩
        have hs := con_ok B sStop ⟨[], 0⟩
        rw [hv] at hc
        cases e1 : (typeS d sEndless).2 with
        | true => (simp only [e7, awake, hf, h64, hc, ht, e1, ws, wsl, opX, int, Zv.bool, intBin, reduceIte, ↓reduceIte, Nat.reduceEqDiff, Nat.reduceAdd, Nat.reduceSub, Nat.reduceLeDiff, Int.reduceLT, Int.reduceLE, Int.reduceEq, Int.reduceBEq, Int.reduceNe, Int.reduceBNe, reduceCtorEq, Nat.reduceBEq] <;> repeat' (first | refine wpG_s ?_ ?_ | refine wpC_s ?_ ?_) <;> intro hgo <;> (try simp only [decide_eq_true_eq, decide_eq_false_iff_not, Bool.not_eq_true', Bool.not_eq_false'] at hgo) <;> simp only [hgo, e7, awake, hf, h64, hc, ht, e1, ws, wsl, opX, int, Zv.bool, intBin, reduceIte, ↓reduceIte, Nat.reduceEqDiff, Nat.reduceAdd, Nat.reduceSub, Nat.reduceLeDiff, Int.reduceLT, Int.reduceLE, Int.reduceEq, Int.reduceBEq, Int.reduceNe, Int.reduceBNe, reduceCtorEq, Nat.reduceBEq])
        | false =>
          cases e2 : (conS d sMore).2.2 with
          | true => (simp only [e7, awake, hf, h64, hc, ht, e1, hm, e2, hs, ws, wsl, opX, int, Zv.bool, intBin, reduceIte, ↓reduceIte, Nat.reduceEqDiff, Nat.reduceAdd, Nat.reduceSub, Nat.reduceLeDiff, Int.reduceLT, Int.reduceLE, Int.reduceEq, Int.reduceBEq, Int.reduceNe, Int.reduceBNe, reduceCtorEq, Nat.reduceBEq] <;> repeat' (first | refine wpG_s ?_ ?_ | refine wpC_s ?_ ?_) <;> intro hgo <;> (try simp only [decide_eq_true_eq, decide_eq_false_iff_not, Bool.not_eq_true', Bool.not_eq_false'] at hgo) <;> simp only [hgo, e7, awake, hf, h64, hc, ht, e1, hm, e2, hs, ws, wsl, opX, int, Zv.bool, intBin, reduceIte, ↓reduceIte, Nat.reduceEqDiff, Nat.reduceAdd, Nat.reduceSub, Nat.reduceLeDiff, Int.reduceLT, Int.reduceLE, Int.reduceEq, Int.reduceBEq, Int.reduceNe, Int.reduceBNe, reduceCtorEq, Nat.reduceBEq])
          | false =>
            cases e3 : (conS d sStop).2.2 with
            | true => (simp only [e7, awake, hf, h64, hc, ht, e1, hm, e2, hs, e3, ws, wsl, opX, int, Zv.bool, intBin, reduceIte, ↓reduceIte, Nat.reduceEqDiff, Nat.reduceAdd, Nat.reduceSub, Nat.reduceLeDiff, Int.reduceLT, Int.reduceLE, Int.reduceEq, Int.reduceBEq, Int.reduceNe, Int.reduceBNe, reduceCtorEq, Nat.reduceBEq] <;> repeat' (first | refine wpG_s ?_ ?_ | refine wpC_s ?_ ?_) <;> intro hgo <;> (try simp only [decide_eq_true_eq, decide_eq_false_iff_not, Bool.not_eq_true', Bool.not_eq_false'] at hgo) <;> simp only [hgo, e7, awake, hf, h64, hc, ht, e1, hm, e2, hs, e3, ws, wsl, opX, int, Zv.bool, intBin, reduceIte, ↓reduceIte, Nat.reduceEqDiff, Nat.reduceAdd, Nat.reduceSub, Nat.reduceLeDiff, Int.reduceLT, Int.reduceLE, Int.reduceEq, Int.reduceBEq, Int.reduceNe, Int.reduceBNe, reduceCtorEq, Nat.reduceBEq])
            | false =>
              have hd0 : 0 < d.length := by
                have := V.formed
                cases d with
                | nil => cases this
                | cons y ds => simp
              have hw := wrap_succ (show d.length < 2 ^ 62 by omega)
              have BX : Bd (d ++ [zX d.length]) := by
                refine ⟨by simp; omega, fun y hy => ?_, fun y hy c hc => ?_⟩
                · rcases List.mem_append.1 hy with h | h
                  · exact B.cons y h
                  · simp at h; subst h; simp [zX]
                · rcases List.mem_append.1 hy with h | h
                  · exact B.flds y h c hc
                  · simp at h; subst h; simp [zX] at hc; subst hc; simp [cM]
              have BY : Bd (d ++ [zY d.length]) := by
                refine ⟨by simp; omega, fun y hy => ?_, fun y hy c hc => ?_⟩
                · rcases List.mem_append.1 hy with h | h
                  · exact B.cons y h
                  · simp at h; subst h; simp [zY]
                · rcases List.mem_append.1 hy with h | h
                  · exact B.flds y h c hc
                  · simp at h; subst h; simp [zY] at hc; rcases hc with rfl | rfl <;> simp [cM, cS]
              have NX : Nm (d ++ [zX d.length]) := by
                intro y hy
                rcases List.mem_append.1 hy with h | h
                · exact N y h
                · simp at h; subst h; exact ⟨(show sEndless.size < 2 ^ 60 by decide), fun c hc => by simp [zX] at hc; subst hc; show sMore.size < 2 ^ 60; decide⟩
              have NY : Nm (d ++ [zY d.length]) := by
                intro y hy
                rcases List.mem_append.1 hy with h | h
                · exact N y h
                · simp at h; subst h; exact ⟨(show sEndless.size < 2 ^ 60 by decide), fun c hc => by simp [zY] at hc; rcases hc with rfl | rfl <;> first | exact (show sMore.size < 2 ^ 60 by decide) | exact (show sStop.size < 2 ^ 60 by decide)⟩
              have cx := fun h => pcheck_ok BX NX h
              have cy := fun h => pcheck_ok BY NY h
              rw [check_x V (by omega) e1 e2] at cx
              rw [check_y V (by omega) e1 e2 e3] at cy
              have f1 := fun n nx os => frz_st n nx sMore [.int .i64 0, .int .i64 ((d.length + 1 : Nat) : Int)] (some false) os
              have n1 := norm_st sEndless [.agg [.str sMore, .lst [.int .i64 0, .int .i64 ((d.length + 1 : Nat) : Int)]]] (some false)
              have n2 := norm_st sEndless [.agg [.str sMore, .lst [.int .i64 0, .int .i64 ((d.length + 1 : Nat) : Int)]], .agg [.str sStop, .lst []]] (some false)
              have n3 := norm_st sStop [] (some true)
              simp only [List.map_cons, List.map_nil] at f1 n1 n2 n3
              have z1 : (D.agg [.str sEndless, .lst [.agg [.str sMore, .lst [.int .i64 0, .int .i64 ((d.length + 1 : Nat) : Int)]]]]) = eD (zX d.length) := rfl
              have z2 : (D.agg [.str sEndless, .lst [.agg [.str sMore, .lst [.int .i64 0, .int .i64 ((d.length + 1 : Nat) : Int)]], .agg [.str sStop, .lst []]]]) = eD (zY d.length) := rfl
              have fx := fun os q p => frz_row (d ++ [zX d.length]) os q p
              have fy := fun os q p => frz_row (d ++ [zY d.length]) os q p
              simp only [List.length_append, List.length_cons, List.length_nil, Nat.zero_add] at fx fy
              have a0 := fun os q nl => app_new d os q nl hd0 (by omega)
              have a1 := fun z os q p nl => app_one d z os q p nl (by omega)
              rw [z1] at n1
              rw [z2] at n2
              (simp only [e7, awake, hf, h64, hc, ht, e1, hm, e2, hs, e3, hw, f1, n1, n2, n3, a0, a1, fx, fy, cx, cy, vcells_agg, ws, wsl, opX, int, Zv.bool, intBin, reduceIte, ↓reduceIte, Nat.reduceEqDiff, Nat.reduceAdd, Nat.reduceSub, Nat.reduceLeDiff, Int.reduceLT, Int.reduceLE, Int.reduceEq, Int.reduceBEq, Int.reduceNe, Int.reduceBNe, reduceCtorEq, Nat.reduceBEq] <;> repeat' (first | refine wpG_s ?_ ?_ | refine wpC_s ?_ ?_) <;> intro hgo <;> (try simp only [decide_eq_true_eq, decide_eq_false_iff_not, Bool.not_eq_true', Bool.not_eq_false'] at hgo) <;> simp only [hgo, e7, awake, hf, h64, hc, ht, e1, hm, e2, hs, e3, hw, f1, n1, n2, n3, a0, a1, fx, fy, cx, cy, vcells_agg, ws, wsl, opX, int, Zv.bool, intBin, reduceIte, ↓reduceIte, Nat.reduceEqDiff, Nat.reduceAdd, Nat.reduceSub, Nat.reduceLeDiff, Int.reduceLT, Int.reduceLE, Int.reduceEq, Int.reduceBEq, Int.reduceNe, Int.reduceBNe, reduceCtorEq, Nat.reduceBEq])
      · have hv' : (checkS d != 0) = true := by simpa using hv
        (simp only [e7, awake, hf, h64, hc, hv', ws, wsl, opX, int, Zv.bool, intBin, reduceIte, ↓reduceIte, Nat.reduceEqDiff, Nat.reduceAdd, Nat.reduceSub, Nat.reduceLeDiff, Int.reduceLT, Int.reduceLE, Int.reduceEq, Int.reduceBEq, Int.reduceNe, Int.reduceBNe, reduceCtorEq, Nat.reduceBEq] <;> repeat' (first | refine wpG_s ?_ ?_ | refine wpC_s ?_ ?_) <;> intro hgo <;> (try simp only [decide_eq_true_eq, decide_eq_false_iff_not, Bool.not_eq_true', Bool.not_eq_false'] at hgo) <;> simp only [hgo, e7, awake, hf, h64, hc, hv', ws, wsl, opX, int, Zv.bool, intBin, reduceIte, ↓reduceIte, Nat.reduceEqDiff, Nat.reduceAdd, Nat.reduceSub, Nat.reduceLeDiff, Int.reduceLT, Int.reduceLE, Int.reduceEq, Int.reduceBEq, Int.reduceNe, Int.reduceBNe, reduceCtorEq, Nat.reduceBEq])
-- ws, wsl, opX, int, Zv.bool, intBin, reduceIte, ↓reduceIte, Nat.reduceEqDiff, Nat.reduceAdd, Nat.reduceSub, Nat.reduceLeDiff, Int.reduceLT, Int.reduceLE, Int.reduceEq, Int.reduceBEq, Int.reduceNe, Int.reduceBNe, reduceCtorEq, Nat.reduceBEq
end Zc17
