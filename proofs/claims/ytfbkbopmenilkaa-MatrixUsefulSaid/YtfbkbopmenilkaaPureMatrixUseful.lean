/-
  Parts of the proof.
-/
import Derived.Test.YtfbkbopmenilkaaZc27U3
section
set_option linter.unusedSimpArgs false
set_option linter.unusedVariables false
set_option linter.unusedSimpArgs false
set_option maxHeartbeats 4000000
namespace Zc27
open Go Zv Zs

def wildP (p : Pt) : Bool := decide (kdP p = 0)
theorem rrest_ok (l : List (List Pt)) (hl : l.length ≤ 1000) (hr : ∀ r, r ∈ l → r ≠ []) (h : Hp) : callW tab 50 [.d (eRs l)] h = some (.d (eRs (restS wildP l)), h) := by
  refine call_wp (fn := f50) rfl rfl ?_
  obtain ⟨m, q, hm, hq, hloop⟩ := loop_acc (T := tab) (a := f50l0) (l := l) (fun _ => restF wildP) ePs 1 24 (fun n r => [(0, .d (eRs l)), (3, r), (4, .d (.int .i64 (n : Int)))]) (h := h) (n0 := h.next) (x1 := .exit 0) (e1 := fun r => [(0, .d (eRs l)), (3, r), (4, .d (.int .i64 (l.length : Int))), (8, .d (.bool false))]) (Nat.le_refl _)
    (fun _ => rfl) (by simp only [roomB]; omega)
    (by
      intro n x s m q hx hlt hs hsl hG
      obtain ⟨p, r, rfl⟩ := List.exists_cons_of_ne_nil (hr x (List.mem_of_getElem? hx))
      simp only [restF] at hG
      have hk : decide (kdP p = 0) = false := by
        cases hk : wildP p with
        | false => exact hk
        | true => rw [if_pos hk] at hG; cases hG
      (simp only [hlt, e50, iaR hx, iaP0, iaP0', pts, ePt_k, ibeq, hk, rowQ_next, rowQ_mk, wrap_succ (show n < 2 ^ 62 by omega), wz, opX, intBin, ↓reduceIte, simprocAttr] <;> repeat' (first | refine wpG_s ?_ ?_ | refine wpC_s ?_ ?_) <;> intro hgo <;> (try simp only [dq] at hgo) <;> simp only [hgo, hlt, e50, iaR hx, iaP0, iaP0', pts, ePt_k, ibeq, hk, rowQ_next, rowQ_mk, wrap_succ (show n < 2 ^ 62 by omega), wz, opX, intBin, ↓reduceIte, simprocAttr])
      exact ⟨_, rfl, by omega⟩)
    (by
      intro n x y s m q hx hlt hs hsl hG happ
      obtain ⟨p, r, rfl⟩ := List.exists_cons_of_ne_nil (hr x (List.mem_of_getElem? hx))
      simp only [restF] at hG
      have hk : decide (kdP p = 0) = true := by
        cases hk : wildP p with
        | true => exact hk
        | false => rw [hk] at hG; cases hG
      rw [if_pos (show wildP p = true from hk)] at hG
      cases hG
      (simp only [hlt, e50, iaR hx, iaP0, iaP0', slcP, slcP', pts, ePt_k, ibeq, hk, happ, rowQ_next, rowQ_mk, wrap_succ (show n < 2 ^ 62 by omega), wz, opX, intBin, ↓reduceIte, simprocAttr] <;> repeat' (first | refine wpG_s ?_ ?_ | refine wpC_s ?_ ?_) <;> intro hgo <;> (try simp only [dq] at hgo) <;> simp only [hgo, hlt, e50, iaR hx, iaP0, iaP0', slcP, slcP', pts, ePt_k, ibeq, hk, happ, rowQ_next, rowQ_mk, wrap_succ (show n < 2 ^ 62 by omega), wz, opX, intBin, ↓reduceIte, simprocAttr])
      exact ⟨_, _, ⟨rfl, rfl⟩, by omega, Nat.le_refl _⟩)
    (by
      intro m q
      (simp only [e50, wz, opX, intBin, ↓reduceIte, simprocAttr] <;> repeat' (first | refine wpG_s ?_ ?_ | refine wpC_s ?_ ?_) <;> intro hgo <;> (try simp only [dq] at hgo) <;> simp only [hgo, e50, wz, opX, intBin, ↓reduceIte, simprocAttr])
      exact ⟨_, rfl, by omega⟩)
    (by simp)
  rw [accL_fm] at hloop hm
  simp only [Int.cast_ofNat_Int] at hloop
  have hfm : l.filterMap (restF wildP) = restS wildP l := rfl
  rw [hfm] at hloop hm
  have hfin := finS_rowQ (h := h) (m := m) (es := 1) (s := (restS wildP l).map ePs) (q := q) (fun e => (hm e).1)
  (simp only [e50, wq_of hloop, hfin, wz, opX, intBin, ↓reduceIte, simprocAttr] <;> repeat' (first | refine wpG_s ?_ ?_ | refine wpC_s ?_ ?_) <;> intro hgo <;> (try simp only [dq] at hgo) <;> simp only [hgo, e50, wq_of hloop, hfin, wz, opX, intBin, ↓reduceIte, simprocAttr])
/-- What a row is for a head. -/
def rspF (a : Pt) (n : Nat) : List Pt → Option (List Pt)
  | [] => none
  | p :: r => if kdP p = 0 then some (List.replicate n wildT ++ r) else if sameP p a = true then some (argsP p ++ r) else none
def rspS (a : Pt) (n : Nat) (l : List (List Pt)) : List (List Pt) := l.filterMap (rspF a n)
theorem ePt_3 (p : Pt) : (ePt p).cells[3]? = some (.lst ((argsP p).map ePt)) := by obtain ⟨k, c, n, qs⟩ := p; rw [ePt_cs]; rfl
theorem mkslOP {n : Nat} (hn : n ≤ 1000) (h : Hp) : mkslO (.d (.agg [.int .i64 0, .int .i64 0, .int .i64 0, .lst []])) 4 48 h (.d (.int .i64 (n : Int))) = some (.own h.next 4 n 0 n, ⟨(h.next, .arr 4 (((List.replicate n wildT).map ePt).map V.d)) :: h.objs, h.next + 1⟩) := by
  unfold mkslO
  rw [ixOf_nat, Option.bind_some, if_pos ⟨by simp only [roomB]; omega, by omega⟩, replT]
  rfl
theorem rspecial_ok (a : Pt) (n0 : Nat) (hn0 : n0 ≤ 1000) (l : List (List Pt)) (hl : l.length ≤ 1000) (hr : ∀ r, r ∈ l → r ≠ [] ∧ r.length ≤ 10000 ∧ ∀ p, p ∈ r → (argsP p).length ≤ 10000) (h : Hp) :
    callW tab 46 [.d (eRs l), .d (ePt a), .d (.int .i64 (n0 : Int))] h = some (.d (eRs (rspS a n0 l)), h) := by
  refine call_wp (fn := f46) rfl rfl ?_
  obtain ⟨m, q, hm, hq, hloop⟩ := loop_acc (T := tab) (a := f46l0) (l := l) (fun _ => rspF a n0) ePs 1 24 (fun n r => [(0, .d (eRs l)), (2, .d (.int .i64 (n0 : Int))), (4, .fp (ePt a) 0), (7, r), (8, .d (.int .i64 (n : Int)))]) (h := ⟨h.objs, h.next + 1⟩) (n0 := h.next) (x1 := .exit 0) (e1 := fun r => [(0, .d (eRs l)), (2, .d (.int .i64 (n0 : Int))), (4, .fp (ePt a) 0), (7, r), (8, .d (.int .i64 (l.length : Int))), (14, .d (.bool false))]) (Nat.le_succ _)
    (fun _ => rfl) (by simp only [roomB]; omega)
    (by
      intro n x s m q hx hlt hs hsl hG
      obtain ⟨hne, hxl, hxa⟩ := hr x (List.mem_of_getElem? hx)
      obtain ⟨p, r, rfl⟩ := List.exists_cons_of_ne_nil hne
      have hsm := fun h => same_ok p a h
      simp only [rspF] at hG
      by_cases k0 : kdP p = 0
      · rw [if_pos k0] at hG; cases hG
      · rw [if_neg k0] at hG
        have k1 : sameP p a = false := by
          cases k1 : sameP p a with
          | false => rfl
          | true => rw [if_pos k1] at hG; cases hG
        (simp only [hlt, e46, iaR hx, iaP0, iaP0', pts, ePt_k, ibeq, k0, k1, hsm, rowQ_next, rowQ_mk, wrap_succ (show n < 2 ^ 62 by omega), wz, opX, intBin, ↓reduceIte, simprocAttr] <;> repeat' (first | refine wpG_s ?_ ?_ | refine wpC_s ?_ ?_) <;> intro hgo <;> (try simp only [dq] at hgo) <;> simp only [hgo, hlt, e46, iaR hx, iaP0, iaP0', pts, ePt_k, ibeq, k0, k1, hsm, rowQ_next, rowQ_mk, wrap_succ (show n < 2 ^ 62 by omega), wz, opX, intBin, ↓reduceIte, simprocAttr])
        exact ⟨_, rfl, by omega⟩)
    (by
      intro n x y s m q hx hlt hs hsl hG happ
      obtain ⟨hne, hxl, hxa⟩ := hr x (List.mem_of_getElem? hx)
      obtain ⟨p, r, rfl⟩ := List.exists_cons_of_ne_nil hne
      have hqa := hxa p (by simp)
      have hrl : r.length ≤ 10000 := by simp at hxl; omega
      have hsm := fun h => same_ok p a h
      simp only [rspF] at hG
      by_cases k0 : kdP p = 0
      · rw [if_pos k0] at hG
        cases hG
        have h1 := fun h => mkslOP hn0 h
        have h2 := fun (m q : Nat) (o : List (Nat × Ob)) => own_app (es := 4) (b := 48) (m := m) (q := q) (o := o) (l := (List.replicate n0 wildT).map ePt) (r := r.map ePt) ptcells (by simp only [List.length_map, List.length_replicate, roomB]; omega)
        simp only [← List.map_append, List.length_map, List.length_append, List.length_replicate] at h2
        have h3 := fun (m q : Nat) (o : List (Nat × Ob)) => own_frz (es := 4) (m := m) (q := q) (o := o) (l := (List.replicate n0 wildT ++ r).map ePt)
        simp only [List.length_map, List.length_append, List.length_replicate] at h3
        (simp only [hlt, e46, iaR hx, iaP0, iaP0', slcP, slcP', pts, ePt_k, ibeq, k0, h1, h2, h3, happ, rowQ_next, rowQ_mk, wrap_succ (show n < 2 ^ 62 by omega), wz, opX, intBin, ↓reduceIte, simprocAttr] <;> repeat' (first | refine wpG_s ?_ ?_ | refine wpC_s ?_ ?_) <;> intro hgo <;> (try simp only [dq] at hgo) <;> simp only [hgo, hlt, e46, iaR hx, iaP0, iaP0', slcP, slcP', pts, ePt_k, ibeq, k0, h1, h2, h3, happ, rowQ_next, rowQ_mk, wrap_succ (show n < 2 ^ 62 by omega), wz, opX, intBin, ↓reduceIte, simprocAttr])
        exact ⟨_, _, ⟨rfl, rfl⟩, by omega, Nat.le_refl _⟩
      · rw [if_neg k0] at hG
        by_cases k1 : sameP p a = true
        · rw [if_pos k1] at hG
          cases hG
          have h1 := fun (h : Hp) => tl_app (nl := some true) (es := 4) (b := 48) (h := h) (r := (argsP p).map ePt) ptcells (by simp only [List.length_map, roomB]; omega)
          have h2 := fun (n : Nat) (o : List (Nat × Ob)) => clo_app (nl := some true) (es := 4) (b := 48) (n := n) (o := o) (l := (argsP p).map ePt) (r := r.map ePt) ptcells ptcells (by simp only [List.length_map, roomB]; omega)
          simp only [← List.map_append] at h2
          have h3 := fun (n : Nat) (o : List (Nat × Ob)) => clo_frz (nl := some true) (es := 4) (n := n) (o := o) (l := (argsP p ++ r).map ePt)
          (simp only [hlt, e46, iaR hx, iaP0, iaP0', slcP, slcP', pts, ePt_k, ePt_3, ibeq, k0, k1, hsm, h1, h2, h3, happ, rowQ_next, rowQ_mk, wrap_succ (show n < 2 ^ 62 by omega), wz, opX, intBin, ↓reduceIte, simprocAttr] <;> repeat' (first | refine wpG_s ?_ ?_ | refine wpC_s ?_ ?_) <;> intro hgo <;> (try simp only [dq] at hgo) <;> simp only [hgo, hlt, e46, iaR hx, iaP0, iaP0', slcP, slcP', pts, ePt_k, ePt_3, ibeq, k0, k1, hsm, h1, h2, h3, happ, rowQ_next, rowQ_mk, wrap_succ (show n < 2 ^ 62 by omega), wz, opX, intBin, ↓reduceIte, simprocAttr])
          exact ⟨_, _, ⟨rfl, rfl⟩, by split <;> omega, Nat.le_refl _⟩
        · rw [if_neg k1] at hG; cases hG)
    (by
      intro m q
      (simp only [e46, wz, opX, intBin, ↓reduceIte, simprocAttr] <;> repeat' (first | refine wpG_s ?_ ?_ | refine wpC_s ?_ ?_) <;> intro hgo <;> (try simp only [dq] at hgo) <;> simp only [hgo, e46, wz, opX, intBin, ↓reduceIte, simprocAttr])
      exact ⟨_, rfl, by omega⟩)
    (by simp)
  rw [accL_fm] at hloop hm
  simp only [Int.cast_ofNat_Int] at hloop
  have hfm : l.filterMap (rspF a n0) = rspS a n0 l := rfl
  rw [hfm] at hloop hm
  have hfin := finS_rowQ (h := h) (m := m) (es := 1) (s := (rspS a n0 l).map ePs) (q := q) (fun e => (hm e).1)
  have e0 : rowQ ⟨h.objs, h.next + 1⟩ m 1 ((rspS a n0 l).map ePs) q = rowQ h m 1 ((rspS a n0 l).map ePs) q := rfl
  (simp only [e46, pts, wq_of hloop, e0, hfin, wz, opX, intBin, ↓reduceIte, simprocAttr] <;> repeat' (first | refine wpG_s ?_ ?_ | refine wpC_s ?_ ?_) <;> intro hgo <;> (try simp only [dq] at hgo) <;> simp only [hgo, e46, pts, wq_of hloop, e0, hfin, wz, opX, intBin, ↓reduceIte, simprocAttr])
-- wz, opX, intBin, ↓reduceIte, simprocAttr
end Zc27
end
section
set_option linter.unusedSimpArgs false
set_option linter.unusedVariables false
set_option linter.unusedSimpArgs false
set_option maxHeartbeats 4000000
namespace Zc27
open Go Zv Zs

/-- A set of numbers as a map's entries. -/
def kvB (s : List Int) : List (D × V) := s.map fun c => (eI c, .d (.bool true))
def addI (s : List Int) (c : Int) : List Int := if c ∈ s then s else s ++ [c]
theorem putK_B (c : Int) : ∀ s : List Int, putK .i (eI c) (.d (.bool true)) (kvB s) = some (kvB (addI s c))
  | [] => rfl
  | x :: s => by
    show (match keyEq .i (eI c) (eI x) with
      | some true => some ((eI c, V.d (.bool true)) :: kvB s)
      | some false => (putK .i (eI c) (.d (.bool true)) (kvB s)).map fun s => (eI x, V.d (.bool true)) :: s
      | none => none) = _
    by_cases h : c = x
    · subst h
      simp [keyEq, addI, kvB]
    · have h1 : (c == x) = false := by simpa using h
      simp only [keyEq, if_true, h1, putK_B c s, Option.map_some]
      unfold addI
      by_cases h2 : c ∈ s
      · rw [if_pos h2, if_pos (List.mem_cons_of_mem x h2)]; rfl
      · rw [if_neg h2, if_neg (by simp [h, h2])]; rfl
theorem findK_B (c : Int) : ∀ s : List Int, findK .i (eI c) (kvB s) = some (if c ∈ s then some (.d (.bool true)) else none)
  | [] => rfl
  | x :: s => by
    show (match keyEq .i (eI c) (eI x) with
      | some true => some (some (V.d (.bool true)))
      | some false => findK .i (eI c) (kvB s)
      | none => none) = _
    by_cases h : c = x
    · subst h
      simp [keyEq]
    · have h1 : (c == x) = false := by simpa using h
      simp only [keyEq, if_true, h1, findK_B c s]
      simp [h]
theorem kvB_len (s : List Int) : (kvB s).length = s.length := by simp [kvB]
def HM2 (o : List (Nat × Ob)) (n : Nat) (A B : List Int) : Hp := ⟨(n + 1, .mp (kvB B)) :: (n, .mp (kvB A)) :: o, n + 2⟩
theorem HM2_muA (o : List (Nat × Ob)) (n : Nat) (A B : List Int) (c : Int) : mu .i (HM2 o n A B) (.map n) (.d (.int .i64 c)) (.d (.bool true)) = some (HM2 o n (addI A c) B) := by
  unfold mu HM2
  have hg : (⟨(n + 1, .mp (kvB B)) :: (n, .mp (kvB A)) :: o, n + 2⟩ : Hp).get n = some (.mp (kvB A)) := by
    unfold Hp.get; simp [Zv.look]
  have hp := putK_B c A
  simp only [hg, stor_d, if_true, norm_d, hp, Option.map_some]
  simp [Hp.set, upd]
theorem HM2_muB (o : List (Nat × Ob)) (n : Nat) (A B : List Int) (c : Int) : mu .i (HM2 o n A B) (.map (n + 1)) (.d (.int .i64 c)) (.d (.bool true)) = some (HM2 o n A (addI B c)) := by
  unfold mu HM2
  have hg : (⟨(n + 1, .mp (kvB B)) :: (n, .mp (kvB A)) :: o, n + 2⟩ : Hp).get (n + 1) = some (.mp (kvB B)) := by
    unfold Hp.get; simp [Zv.look]
  have hp := putK_B c B
  simp only [hg, stor_d, if_true, norm_d, hp, Option.map_some]
  simp [Hp.set, upd]
def cG (A : List Int) : List Pt → List Int
  | [] => A
  | p :: _ => if kdP p = 1 then addI A (cnP p) else A
def nG (B : List Int) : List Pt → List Int
  | [] => B
  | p :: _ => if kdP p = 2 then addI B (nmP p) else B
def consS (l : List (List Pt)) : List Int := l.foldl cG []
def numsS (l : List (List Pt)) : List Int := l.foldl nG []
theorem fold2 : ∀ (l : List (List Pt)) (A B : List Int), l.foldl (fun (s : List Int × List Int) r => (cG s.1 r, nG s.2 r)) (A, B) = (l.foldl cG A, l.foldl nG B)
  | [], A, B => rfl
  | r :: l, A, B => by rw [List.foldl_cons, fold2 l]; rfl
theorem ePt_1 (p : Pt) : (ePt p).cells[1]? = some (.int .i64 (cnP p)) := by obtain ⟨k, c, n, qs⟩ := p; rw [ePt_cs]; rfl
theorem ePt_2 (p : Pt) : (ePt p).cells[2]? = some (.int .i64 (nmP p)) := by obtain ⟨k, c, n, qs⟩ := p; rw [ePt_cs]; rfl
theorem heads_ok (l : List (List Pt)) (hl : l.length ≤ 1000) (hr : ∀ r, r ∈ l → r ≠ []) (h : Hp) :
    callW tab 82 [.d (eRs l)] h = some (.tup [.map h.next, .map (h.next + 1)], HM2 h.objs h.next (consS l) (numsS l)) := by
  refine call_wp (fn := f82) rfl rfl ?_
  have hloop := loop_fold (T := tab) (a := f82l0) (l := l) (fun n (_ : List Int × List Int) => [(4, .map h.next), (5, .map (h.next + 1)), (10, .d (eRs l)), (11, .d (.int .i64 (l.length : Int))), (12, .d (.int .i64 (n : Int)))]) (fun _ s => HM2 h.objs h.next s.1 s.2) (fun _ _ => True) (fun s r => (cG s.1 r, nG s.2 r))
    (fun s => (.exit 0, [(4, .map h.next), (5, .map (h.next + 1)), (10, .d (eRs l)), (11, .d (.int .i64 (l.length : Int))), (12, .d (.int .i64 (l.length : Int))), (13, .d (.bool false))], HM2 h.objs h.next s.1 s.2))
    (by
      intro n s x hx hlt _
      refine ⟨?_, trivial⟩
      obtain ⟨p, r, rfl⟩ := List.exists_cons_of_ne_nil (hr x (List.mem_of_getElem? hx))
      apply wq_ex.1
      simp only [cG, nG]
      by_cases k1 : kdP p = 1
      · have k2 : ¬ kdP p = 2 := by omega
        (simp only [hlt, e82, iaR hx, iaP0, iaP0', pts, ePt_k, ePt_1, ibeq, k1, k2, HM2_muA, wrap_succ (show n < 2 ^ 62 by omega), wz, opX, intBin, ↓reduceIte, simprocAttr] <;> repeat' (first | refine wpG_s ?_ ?_ | refine wpC_s ?_ ?_) <;> intro hgo <;> (try simp only [dq] at hgo) <;> simp only [hgo, hlt, e82, iaR hx, iaP0, iaP0', pts, ePt_k, ePt_1, ibeq, k1, k2, HM2_muA, wrap_succ (show n < 2 ^ 62 by omega), wz, opX, intBin, ↓reduceIte, simprocAttr])
      · by_cases k2 : kdP p = 2
        · (simp only [hlt, e82, iaR hx, iaP0, iaP0', pts, ePt_k, ePt_2, ibeq, k1, k2, HM2_muB, wrap_succ (show n < 2 ^ 62 by omega), wz, opX, intBin, ↓reduceIte, simprocAttr] <;> repeat' (first | refine wpG_s ?_ ?_ | refine wpC_s ?_ ?_) <;> intro hgo <;> (try simp only [dq] at hgo) <;> simp only [hgo, hlt, e82, iaR hx, iaP0, iaP0', pts, ePt_k, ePt_2, ibeq, k1, k2, HM2_muB, wrap_succ (show n < 2 ^ 62 by omega), wz, opX, intBin, ↓reduceIte, simprocAttr])
        · (simp only [hlt, e82, iaR hx, iaP0, iaP0', pts, ePt_k, ibeq, k1, k2, wrap_succ (show n < 2 ^ 62 by omega), wz, opX, intBin, ↓reduceIte, simprocAttr] <;> repeat' (first | refine wpG_s ?_ ?_ | refine wpC_s ?_ ?_) <;> intro hgo <;> (try simp only [dq] at hgo) <;> simp only [hgo, hlt, e82, iaR hx, iaP0, iaP0', pts, ePt_k, ibeq, k1, k2, wrap_succ (show n < 2 ^ 62 by omega), wz, opX, intBin, ↓reduceIte, simprocAttr]))
    (by
      intro s _
      apply wq_ex.1
      (simp only [e82, wz, opX, intBin, ↓reduceIte, simprocAttr] <;> repeat' (first | refine wpG_s ?_ ?_ | refine wpC_s ?_ ?_) <;> intro hgo <;> (try simp only [dq] at hgo) <;> simp only [hgo, e82, wz, opX, intBin, ↓reduceIte, simprocAttr]))
    (by intro s; simp) ([], []) trivial
  rw [fold2] at hloop
  simp only [Int.cast_ofNat_Int] at hloop
  have e0 : HM2 h.objs h.next [] [] = ⟨(h.next + 1, .mp []) :: (h.next, .mp []) :: h.objs, h.next + 1 + 1⟩ := rfl
  rw [e0] at hloop
  (simp only [e82, wq_of hloop, wz, opX, intBin, ↓reduceIte, simprocAttr] <;> repeat' (first | refine wpG_s ?_ ?_ | refine wpC_s ?_ ?_) <;> intro hgo <;> (try simp only [dq] at hgo) <;> simp only [hgo, e82, wq_of hloop, wz, opX, intBin, ↓reduceIte, simprocAttr])
  rfl
-- wz, opX, intBin, ↓reduceIte, simprocAttr
end Zc27
end
section
set_option linter.unusedSimpArgs false
set_option linter.unusedVariables false
set_option linter.unusedSimpArgs false
set_option maxHeartbeats 4000000
namespace Zc27
open Go Zv Zs

/-! ### Weights -/
mutual
def nwP : Pt → Nat
  | .mk k _ _ qs => if k = 0 then 0 else 1 + nwL qs
def nwL : List Pt → Nat
  | [] => 0
  | p :: r => nwP p + nwL r
end
def nwS : List (List Pt) → Nat
  | [] => 0
  | r :: l => nwL r + nwS l
theorem nwL_app : ∀ (a b : List Pt), nwL (a ++ b) = nwL a + nwL b
  | [], b => by simp [nwL]
  | p :: a, b => by rw [List.cons_append, nwL, nwL, nwL_app a b]; omega
theorem nwL_wild : ∀ n : Nat, nwL (List.replicate n wildT) = 0
  | 0 => rfl
  | n + 1 => by rw [List.replicate_succ, nwL, nwL_wild n]; simp [wildT, nwP]
theorem spF_nw {c : Int} {n : Nat} {r r' : List Pt} (h : spF c n r = some r') : nwL r' ≤ nwL r ∧ (∀ p s, r = p :: s → kdP p = 1 → nwL r' + 1 ≤ nwL r) := by
  cases r with
  | nil => cases h
  | cons p s =>
    obtain ⟨k, c', m, qs⟩ := p
    simp only [spF] at h
    by_cases k0 : k = 0
    · rw [if_pos k0] at h
      cases h
      refine ⟨by rw [nwL_app, nwL_wild, nwL]; omega, ?_⟩
      intro p s' e k1
      cases e
      simp only [kdP] at k1
      omega
    · rw [if_neg k0] at h
      split at h
      · cases h
        have e : nwL (qs ++ s) + 1 = nwL (.mk k c' m qs :: s) := by rw [nwL_app, nwL, nwP, if_neg k0]; omega
        exact ⟨by omega, fun _ _ _ _ => by omega⟩
      · cases h
theorem spS_nw (c : Int) (n : Nat) : ∀ l : List (List Pt), nwS (spS c n l) ≤ nwS l
  | [] => Nat.le_refl _
  | r :: l => by
    have ih := spS_nw c n l
    unfold spS at ih ⊢
    rw [List.filterMap_cons, nwS]
    cases h : spF c n r with
    | none => simp only; omega
    | some r' => have := (spF_nw h).1; simp only [nwS]; omega
theorem spS_nw1 (c : Int) (n : Nat) : ∀ l : List (List Pt), (∃ p s, (p :: s) ∈ l ∧ kdP p = 1 ∧ cnP p = c) → nwS (spS c n l) + 1 ≤ nwS l
  | [], ⟨_, _, h, _⟩ => by cases h
  | r :: l, ⟨p, s, hm, k1, c1⟩ => by
    rcases List.mem_cons.1 hm with e | hm
    · subst e
      have ih := spS_nw c n l
      unfold spS at ih ⊢
      rw [List.filterMap_cons, nwS]
      cases h : spF c n (p :: s) with
      | none =>
        obtain ⟨k, c', m, qs⟩ := p
        simp only [kdP] at k1
        simp only [cnP] at c1
        simp only [spF, k1, c1] at h
        simp at h
      | some r' => have := (spF_nw h).2 p s rfl k1; simp only [nwS]; omega
    · have ih := spS_nw1 c n l ⟨p, s, hm, k1, c1⟩
      unfold spS at ih ⊢
      rw [List.filterMap_cons, nwS]
      cases h : spF c n r with
      | none => simp only; omega
      | some r' => have := (spF_nw h).1; simp only [nwS]; omega
theorem restF_nw {keep : Pt → Bool} {r r' : List Pt} (h : restF keep r = some r') : nwL r' ≤ nwL r := by
  cases r with
  | nil => cases h
  | cons p s =>
    simp only [restF] at h
    split at h
    · cases h; rw [nwL]; omega
    · cases h
theorem restS_nw (keep : Pt → Bool) : ∀ l : List (List Pt), nwS (restS keep l) ≤ nwS l
  | [] => Nat.le_refl _
  | r :: l => by
    have ih := restS_nw keep l
    unfold restS at ih ⊢
    rw [List.filterMap_cons, nwS]
    cases h : restF keep r with
    | none => simp only; omega
    | some r' => have := restF_nw h; simp only [nwS]; omega
theorem fm_len {α β : Type} (f : α → Option β) (l : List α) : (l.filterMap f).length ≤ l.length := List.length_filterMap_le f l

/-! ### Rows that fit -/
def fldsOf (d : List Dt) (t : Int) (i : Nat) : List Int := match (consOf d t)[i]? with
  | some z => z.flds
  | none => []
def fitR (d : List Dt) : List Int → List Pt → Bool
  | [], [] => true
  | t :: ts, p :: r => fitsP d t p && fitR d ts r
  | _, _ => false
theorem fitR_len {d : List Dt} : ∀ {ts : List Int} {r : List Pt}, fitR d ts r = true → r.length = ts.length
  | [], [], _ => rfl
  | t :: ts, p :: r, h => by
    simp only [fitR, Bool.and_eq_true] at h
    rw [List.length_cons, List.length_cons, fitR_len h.2]
  | [], _ :: _, h => by cases h
  | _ :: _, [], h => by cases h
theorem fitR_app {d : List Dt} : ∀ {fs ts : List Int} {qs r : List Pt}, fitR d fs qs = true → fitR d ts r = true → fitR d (fs ++ ts) (qs ++ r) = true
  | [], ts, [], r, _, h => h
  | f :: fs, ts, q :: qs, r, h, h' => by
    simp only [fitR, Bool.and_eq_true] at h
    simp only [List.cons_append, fitR, Bool.and_eq_true]
    exact ⟨h.1, fitR_app h.2 h'⟩
  | [], _, _ :: _, _, h, _ => by cases h
  | _ :: _, _, [], _, h, _ => by cases h
theorem fits_wild (d : List Dt) (t : Int) : fitsP d t wildT = true := by
  unfold wildT; rw [fitsP]; rfl
theorem fitR_wild (d : List Dt) : ∀ fs : List Int, fitR d fs (List.replicate fs.length wildT) = true
  | [] => rfl
  | f :: fs => by
    rw [List.length_cons, List.replicate_succ, fitR, fits_wild, fitR_wild d fs]; rfl
theorem fitR_of_L {d : List Dt} : ∀ {fs : List Int} {qs : List Pt}, fs.length = qs.length → fitsL d fs qs = true → fitR d fs qs = true
  | [], [], _, _ => rfl
  | f :: fs, q :: qs, hl, h => by
    simp only [fitsL, Bool.and_eq_true] at h
    simp only [fitR, Bool.and_eq_true]
    exact ⟨h.1, fitR_of_L (by simpa using hl) h.2⟩
  | [], _ :: _, h, _ => by cases h
  | _ :: _, [], h, _ => by cases h
/-- What a pattern that fits is. -/
theorem fits_cases {d : List Dt} {t k c m : Int} {qs : List Pt} (h : fitsP d t (.mk k c m qs) = true) :
    (k = 0 ∧ c = 0 ∧ m = 0 ∧ qs = []) ∨ (k = 2 ∧ t = 0 ∧ c = 0 ∧ qs = []) ∨ (k = 1 ∧ t ≠ 0 ∧ m = 0 ∧ ∃ i : Nat, ∃ z, c = (i : Int) ∧ (consOf d t)[i]? = some z ∧ z.flds.length = qs.length ∧ fitR d z.flds qs = true) := by
  rw [fitsP] at h
  by_cases k0 : k = 0
  · rw [if_pos k0] at h
    simp only [Bool.and_eq_true, decide_eq_true_eq] at h
    exact .inl ⟨k0, h.1.1, h.1.2, List.eq_nil_of_length_eq_zero h.2⟩
  · rw [if_neg k0] at h
    by_cases k2 : k = 2
    · rw [if_pos k2] at h
      simp only [Bool.and_eq_true, decide_eq_true_eq] at h
      exact .inr (.inl ⟨k2, h.1.1, h.1.2, List.eq_nil_of_length_eq_zero h.2⟩)
    · rw [if_neg k2] at h
      by_cases k1 : k = 1
      · rw [if_pos k1] at h
        simp only [Bool.and_eq_true, Bool.not_eq_true', Bool.or_eq_false_iff, decide_eq_false_iff_not, Bool.not_eq_false', decide_eq_true_eq] at h
        obtain ⟨⟨⟨⟨h1, h2⟩, h3⟩, h4⟩, h5⟩ := h
        cases hz : (consOf d t)[c.toNat]? with
        | none => rw [hz] at h5; cases h5
        | some z =>
          rw [hz] at h5
          simp only [Bool.and_eq_true, decide_eq_true_eq] at h5
          exact .inr (.inr ⟨k1, h1, h2, c.toNat, z, by omega, hz, h5.1, fitR_of_L h5.1 h5.2⟩)
      · rw [if_neg k1] at h; cases h
theorem spF_fit {d : List Dt} {t : Int} {ts : List Int} {i : Nat} {r r' : List Pt} (hf : fitR d (t :: ts) r = true) (h : spF (i : Int) (fldsOf d t i).length r = some r') : fitR d (fldsOf d t i ++ ts) r' = true := by
  cases r with
  | nil => cases h
  | cons p s =>
    simp only [fitR, Bool.and_eq_true] at hf
    obtain ⟨k, c', m, qs⟩ := p
    simp only [spF] at h
    split at h
    · cases h; exact fitR_app (fitR_wild d _) hf.2
    · split at h
      · rename_i hk
        cases h
        rcases fits_cases hf.1 with h1 | h1 | ⟨_, _, _, j, z, e, hz, _, hR⟩
        · omega
        · omega
        · have : j = i := by omega
          subst this
          unfold fldsOf
          rw [hz]
          exact fitR_app hR hf.2
      · cases h
theorem restF_fit {d : List Dt} {t : Int} {ts : List Int} {keep : Pt → Bool} {r r' : List Pt} (hf : fitR d (t :: ts) r = true) (h : restF keep r = some r') : fitR d ts r' = true := by
  cases r with
  | nil => cases h
  | cons p s =>
    simp only [fitR, Bool.and_eq_true] at hf
    simp only [restF] at h
    split at h
    · cases h; exact hf.2
    · cases h
def fitM (d : List Dt) (ts : List Int) (l : List (List Pt)) : Prop := ∀ r, r ∈ l → fitR d ts r = true
theorem spS_fit {d : List Dt} {t : Int} {ts : List Int} {l : List (List Pt)} (i : Nat) (h : fitM d (t :: ts) l) : fitM d (fldsOf d t i ++ ts) (spS (i : Int) (fldsOf d t i).length l) := by
  intro r hr
  obtain ⟨q, hq, hs⟩ := List.mem_filterMap.1 hr
  exact spF_fit (h q hq) hs
theorem restS_fit {d : List Dt} {t : Int} {ts : List Int} {l : List (List Pt)} (keep : Pt → Bool) (h : fitM d (t :: ts) l) : fitM d ts (restS keep l) := by
  intro r hr
  obtain ⟨q, hq, hs⟩ := List.mem_filterMap.1 hr
  exact restF_fit (h q hq) hs
/-- Whether a row is useful. -/
def usS (d : List Dt) : Nat → List Int → List (List Pt) → List Pt → Bool
  | 0, _, _, _ => false
  | _ + 1, [], rows, _ => decide (rows.length = 0)
  | k + 1, t :: ts, rows, .mk kd c m qs :: r =>
    if kd = 1 then usS d k (fldsOf d t c.toNat ++ ts) (spS c qs.length rows) (qs ++ r)
    else if kd = 2 then usS d k ts (restS (fun q => wildP q || decide (nmP q = m)) rows) r
    else if t = 0 ∨ (consS rows).length < (consOf d t).length then usS d k ts (restS wildP rows) r
    else (List.range (consOf d t).length).any fun i => usS d k (fldsOf d t i ++ ts) (spS (i : Int) (fldsOf d t i).length rows) (List.replicate (fldsOf d t i).length wildT ++ r)
  | _ + 1, _ :: _, _, [] => false
-- wz, opX, intBin, ↓reduceIte, simprocAttr
end Zc27
end
section
set_option linter.unusedSimpArgs false
set_option linter.unusedVariables false
set_option linter.unusedSimpArgs false
set_option maxHeartbeats 4000000
namespace Zc27
open Go Zv Zs

theorem addI_mem {s : List Int} {c x : Int} : x ∈ addI s c ↔ x ∈ s ∨ x = c := by
  unfold addI
  split
  · rename_i h
    constructor
    · exact .inl
    · rintro (h' | rfl)
      · exact h'
      · exact h
  · simp
theorem addI_nodup {s : List Int} (c : Int) (h : s.Nodup) : (addI s c).Nodup := by
  unfold addI
  split
  · exact h
  · rename_i hc
    rw [List.nodup_append]
    exact ⟨h, by simp, fun a ha b hb => by simp at hb; subst hb; intro e; subst e; exact hc ha⟩
theorem cG_nodup {A : List Int} (r : List Pt) (h : A.Nodup) : (cG A r).Nodup := by
  unfold cG
  split
  · exact h
  · split
    · exact addI_nodup _ h
    · exact h
theorem foldc_nodup : ∀ (l : List (List Pt)) (A : List Int), A.Nodup → (l.foldl cG A).Nodup
  | [], A, h => h
  | r :: l, A, h => foldc_nodup l _ (cG_nodup r h)
theorem consS_nodup (l : List (List Pt)) : (consS l).Nodup := foldc_nodup l [] List.nodup_nil
theorem foldc_mem (c : Int) : ∀ (l : List (List Pt)) (A : List Int), c ∈ l.foldl cG A ↔ c ∈ A ∨ ∃ p s, (p :: s) ∈ l ∧ kdP p = 1 ∧ cnP p = c
  | [], A => by simp
  | r :: l, A => by
    rw [List.foldl_cons, foldc_mem c l]
    cases r with
    | nil =>
      show (c ∈ A ∨ _) ↔ _
      simp
    | cons q s =>
      show (c ∈ (if kdP q = 1 then addI A (cnP q) else A) ∨ _) ↔ _
      by_cases k1 : kdP q = 1
      · rw [if_pos k1, addI_mem]
        constructor
        · rintro ((h | h) | ⟨p, s', h1, h2, h3⟩)
          · exact .inl h
          · exact .inr ⟨q, s, List.mem_cons_self, k1, h.symm⟩
          · exact .inr ⟨p, s', List.mem_cons_of_mem _ h1, h2, h3⟩
        · rintro (h | ⟨p, s', h1, h2, h3⟩)
          · exact .inl (.inl h)
          · rcases List.mem_cons.1 h1 with e | h1
            · cases e; exact .inl (.inr h3.symm)
            · exact .inr ⟨p, s', h1, h2, h3⟩
      · rw [if_neg k1]
        constructor
        · rintro (h | ⟨p, s', h1, h2, h3⟩)
          · exact .inl h
          · exact .inr ⟨p, s', List.mem_cons_of_mem _ h1, h2, h3⟩
        · rintro (h | ⟨p, s', h1, h2, h3⟩)
          · exact .inl h
          · rcases List.mem_cons.1 h1 with e | h1
            · cases e; exact absurd h2 k1
            · exact .inr ⟨p, s', h1, h2, h3⟩
theorem consS_mem (c : Int) (l : List (List Pt)) : c ∈ consS l ↔ ∃ p s, (p :: s) ∈ l ∧ kdP p = 1 ∧ cnP p = c := by
  rw [consS, foldc_mem]; simp
theorem sub_len {α : Type} [DecidableEq α] : ∀ (s t : List α), s.Nodup → (∀ x, x ∈ s → x ∈ t) → s.length ≤ t.length
  | [], _, _, _ => Nat.zero_le _
  | x :: s, t, hn, hs => by
    rw [List.nodup_cons] at hn
    have hx := hs x List.mem_cons_self
    have := sub_len s (t.erase x) hn.2 (fun y hy => (List.mem_erase_of_ne (fun (e : y = x) => hn.1 (e ▸ hy))).2 (hs y (List.mem_cons_of_mem x hy)))
    rw [List.length_erase_of_mem hx] at this
    have := List.length_pos_of_mem hx
    rw [List.length_cons]; omega
/-- As many as there are: all. -/
theorem cons_all {s : List Int} {K : Nat} (hn : s.Nodup) (hr : ∀ c, c ∈ s → ∃ i : Nat, c = (i : Int) ∧ i < K) (hk : K ≤ s.length) {i : Nat} (hi : i < K) : (i : Int) ∈ s := by
  refine Decidable.byContradiction fun hc => ?_
  have := sub_len s (((List.range K).map fun j : Nat => (j : Int)).erase (i : Int)) hn (fun x hx => by
    obtain ⟨j, rfl, hj⟩ := hr x hx
    refine (List.mem_erase_of_ne (fun (e : (j : Int) = (i : Int)) => hc (e ▸ hx))).2 (List.mem_map.2 ⟨j, List.mem_range.2 hj, rfl⟩))
  rw [List.length_erase_of_mem (List.mem_map.2 ⟨i, List.mem_range.2 hi, rfl⟩), List.length_map, List.length_range] at this
  omega
theorem consS_rng {d : List Dt} {t : Int} {ts : List Int} {l : List (List Pt)} (h : fitM d (t :: ts) l) : ∀ c, c ∈ consS l → ∃ i : Nat, c = (i : Int) ∧ i < (consOf d t).length := by
  intro c hc
  obtain ⟨p, s, hm, k1, rfl⟩ := (consS_mem c l).1 hc
  have := h _ hm
  simp only [fitR, Bool.and_eq_true] at this
  obtain ⟨k, c', m, qs⟩ := p
  simp only [kdP] at k1
  rcases fits_cases this.1 with h1 | h1 | ⟨_, _, _, i, z, e, hz, _⟩
  · omega
  · omega
  · exact ⟨i, e, (List.getElem?_eq_some_iff.1 hz).1⟩
theorem consS_le {d : List Dt} {t : Int} {ts : List Int} {l : List (List Pt)} (h : fitM d (t :: ts) l) : (consS l).length ≤ (consOf d t).length := by
  have := sub_len (consS l) ((List.range (consOf d t).length).map fun j : Nat => (j : Int)) (consS_nodup l) (fun x hx => by
    obtain ⟨j, rfl, hj⟩ := consS_rng h x hx
    exact List.mem_map.2 ⟨j, List.mem_range.2 hj, rfl⟩)
  simpa using this
/-- Weights go down where a column is complete. -/
theorem spS_down {d : List Dt} {t : Int} {ts : List Int} {l : List (List Pt)} (h : fitM d (t :: ts) l) (hk : (consOf d t).length ≤ (consS l).length) {i : Nat} (hi : i < (consOf d t).length) (n : Nat) : nwS (spS (i : Int) n l) + 1 ≤ nwS l :=
  spS_nw1 _ _ _ ((consS_mem _ l).1 (cons_all (consS_nodup l) (consS_rng h) hk hi))

/-! ### The heads of the reference -/
theorem kdP_mk (k c n : Int) (qs : List Pt) : kdP (.mk k c n qs) = k := rfl
theorem cnP_mk (k c n : Int) (qs : List Pt) : cnP (.mk k c n qs) = c := rfl
theorem nmP_mk (k c n : Int) (qs : List Pt) : nmP (.mk k c n qs) = n := rfl
theorem cG_mk (A : List Int) (k c n : Int) (qs s : List Pt) : cG A (.mk k c n qs :: s) = if k = 1 then addI A c else A := rfl
theorem hdG_mk (H : List Pt) (k c n : Int) (qs s : List Pt) : hdG H (.mk k c n qs :: s) = if (decide (k = 0) || H.any fun q => sameP q (.mk k c n qs)) = true then none else some (.mk k c n qs) := rfl
theorem sameP_mk (q : Pt) (k c n : Int) (qs : List Pt) : sameP q (.mk k c n qs) = (decide (kdP q = k) && decide (cnP q = c) && decide (nmP q = n)) := rfl
theorem foldh {d : List Dt} {t : Int} (ht : t ≠ 0) : ∀ (l : List (List Pt)) (H : List Pt) (A : List Int), (∀ r, r ∈ l → ∃ p s, r = p :: s ∧ fitsP d t p = true) → (∀ p, p ∈ H → kdP p = 1 ∧ nmP p = 0) → A = H.map cnP →
    (l.foldl cG A) = (l.foldl (accG hdG) H).map cnP ∧ ∀ p, p ∈ l.foldl (accG hdG) H → kdP p = 1 ∧ nmP p = 0
  | [], H, A, _, hH, hA => ⟨hA, hH⟩
  | r :: l, H, A, hl, hH, hA => by
    obtain ⟨p, s, rfl, hf⟩ := hl r List.mem_cons_self
    rw [List.foldl_cons, List.foldl_cons]
    have key : cG A (p :: s) = (accG hdG H (p :: s)).map cnP ∧ ∀ q, q ∈ accG hdG H (p :: s) → kdP q = 1 ∧ nmP q = 0 := by
      obtain ⟨k, c, m, qs⟩ := p
      rcases fits_cases hf with ⟨k0, _⟩ | ⟨_, h0, _⟩ | ⟨k1, _, m0, _⟩
      · subst k0
        rw [cG_mk, accG, hdG_mk, if_neg (by decide), if_pos (by simp)]
        exact ⟨hA, hH⟩
      · exact absurd h0 ht
      · subst k1; subst m0
        have e : (H.any fun q => sameP q (.mk 1 c 0 qs)) = decide (c ∈ A) := by
          rw [hA, Bool.eq_iff_iff, List.any_eq_true, decide_eq_true_eq, List.mem_map]
          constructor
          · rintro ⟨q, hq, hs⟩
            rw [sameP_mk, Bool.and_eq_true, Bool.and_eq_true, decide_eq_true_eq, decide_eq_true_eq, decide_eq_true_eq] at hs
            exact ⟨q, hq, hs.1.2⟩
          · rintro ⟨q, hq, hs⟩
            refine ⟨q, hq, ?_⟩
            rw [sameP_mk, Bool.and_eq_true, Bool.and_eq_true, decide_eq_true_eq, decide_eq_true_eq, decide_eq_true_eq]
            have := hH q hq
            exact ⟨⟨this.1, hs⟩, this.2⟩
        rw [cG_mk, accG, hdG_mk, e, if_pos rfl, addI]
        by_cases hc : c ∈ A
        · rw [if_pos hc, decide_eq_true hc, if_pos (by simp)]
          exact ⟨hA, hH⟩
        · rw [if_neg hc, decide_eq_false hc, if_neg (by simp)]
          refine ⟨by simp [hA, cnP_mk], ?_⟩
          intro q hq
          rcases List.mem_append.1 hq with hq | hq
          · exact hH q hq
          · rw [List.mem_singleton.1 hq]; exact ⟨rfl, rfl⟩
    exact foldh ht l _ _ (fun r hr => hl r (List.mem_cons_of_mem _ hr)) key.2 key.1
theorem heads_len {d : List Dt} {t : Int} {ts : List Int} {l : List (List Pt)} (ht : t ≠ 0) (h : fitM d (t :: ts) l) : (headsS l).length = (consS l).length := by
  have := (foldh (d := d) ht l [] [] (fun r hr => by
    have := h r hr
    cases r with
    | nil => cases this
    | cons p s => simp only [fitR, Bool.and_eq_true] at this; exact ⟨p, s, rfl, this.1⟩) (by simp) rfl).1
  unfold headsS accL consS
  rw [this, List.length_map]
-- wz, opX, intBin, ↓reduceIte, simprocAttr
end Zc27
end
section
set_option linter.unusedSimpArgs false
set_option linter.unusedVariables false
set_option linter.unusedSimpArgs false
set_option maxHeartbeats 4000000
namespace Zc27
open Go Zv Zs

theorem wild_ok (p : Pt) (h : Hp) : callW tab 81 [.d (ePt p)] h = some (.d (.bool (wildP p)), h) := by
  refine call_wp (fn := f81) rfl rfl ?_
  (simp only [e81, pts, ePt_k, ibeq, wildP, wz, opX, intBin, ↓reduceIte, simprocAttr] <;> repeat' (first | refine wpG_s ?_ ?_ | refine wpC_s ?_ ?_) <;> intro hgo <;> (try simp only [dq] at hgo) <;> simp only [hgo, e81, pts, ePt_k, ibeq, wildP, wz, opX, intBin, ↓reduceIte, simprocAttr])
def numP (a : Pt) (q : Pt) : Bool := wildP q || decide (nmP q = nmP a)
theorem num_ok (a p : Pt) (h : Hp) : callW tab 80 [.d (ePt p), .fp (ePt a) 0] h = some (.d (.bool (numP a p)), h) := by
  refine call_wp (fn := f80) rfl rfl ?_
  have hw := fun h => wild_ok p h
  unfold numP
  cases hk : wildP p <;> (simp only [e80, pts, ePt_2, ibeq, hw, hk, Bool.true_or, Bool.false_or, wz, opX, intBin, ↓reduceIte, simprocAttr] <;> repeat' (first | refine wpG_s ?_ ?_ | refine wpC_s ?_ ?_) <;> intro hgo <;> (try simp only [dq] at hgo) <;> simp only [hgo, e80, pts, ePt_2, ibeq, hw, hk, Bool.true_or, Bool.false_or, wz, opX, intBin, ↓reduceIte, simprocAttr])
theorem matrices_ok (a b c : D) (ha : a.cells.length = 1) (hb : b.cells.length = 1) (hc : c.cells.length = 1) (h : Hp) : callW tab 83 [.d a, .d b, .d c] h = some (.clo 98 [.fp a 0, .fp b 0, .fp c 0], ⟨h.objs, h.next + 3⟩) := by
  refine call_wp (fn := f83) rfl rfl ?_
  (simp only [e83, ha, hb, hc, wz, opX, intBin, ↓reduceIte, simprocAttr] <;> repeat' (first | refine wpG_s ?_ ?_ | refine wpC_s ?_ ?_) <;> intro hgo <;> (try simp only [dq] at hgo) <;> simp only [hgo, e83, ha, hb, hc, wz, opX, intBin, ↓reduceIte, simprocAttr])

/-! ### A round over the constructors -/
section
variable (o : List (Nat × Ob)) (H : Nat) (A B : List Int) (e0 : List (Nat × V))
/-- The heap within the range: its record, the maps of the heads, the variable for the answer. -/
def HU (b : Bool) (s : Option Ex) (q : Nat) : Hp := ⟨(H + 10, .lp 704 e0 s) :: (H + 6, .mp (kvB B)) :: (H + 5, .mp (kvB A)) :: (H + 3, .arr 1 [.d (.bool b)]) :: o, q⟩
theorem HU_get (b s q) : (HU o H A B e0 b s q).get (H + 10) = some (.lp 704 e0 s) := by
  unfold HU Hp.get; simp [Zv.look]
theorem HU_set (b s s' q) : (HU o H A B e0 b s q).set (H + 10) (.lp 704 e0 s') = HU o H A B e0 b s' q := by
  unfold HU Hp.set; simp [upd]
theorem HU_row (b s q) : (HU o H A B e0 b s q).row (H + 3) 1 = some (1, [.d (.bool b)]) := by
  unfold HU Hp.row Hp.get; simp [Zv.look]
theorem HU_st (b c s q) : st 1 (HU o H A B e0 b s q) (.ptr (H + 3) 1 0 0) (.d (.bool c)) = some (HU o H A B e0 c s q) := by
  unfold st
  simp only [HU_row, Option.bind_some]
  simp [HU, Hp.set, upd, V.cells, stor, D.cells]
end
theorem round_ok {d : List Dt} {n i : Nat} {y : Dt} {z : Cn} (hy : d[n]? = some y) (hz : y.cons[i]? = some z) (hd : d.length < 2 ^ 60) (hf : z.flds.length ≤ 8) {ts : List Int} (hl : ts.length ≤ 10000) {p : Pt} {r : List Pt} (hr : r.length ≤ 10000) {m : List (List Pt)} {u : Bool}
    (hu : ∀ h, callW tab 44 [.d (eDs d), .d (eIs (z.flds ++ ts)), .d (eRs m), .d (ePs (List.replicate z.flds.length wildT ++ r))] h = some (.d (.bool u), h)) (o : List (Nat × Ob)) (H : Nat) (A B : List Int) (cl : V) (q : Nat) :
    let e0 : List (Nat × V) := [(4, .fp (eDs d) 0), (5, .fp (eIs (((n : Int) + 1) :: ts)) 0), (7, .fp (ePs (p :: r)) 0), (8, .ptr (H + 3) 1 0 0), (92, cl)]
    cW tab (.yld (H + 10)) [.d (eI (i : Int)), .d (eRs m)] (HU o H A B e0 false none q) = some (.d (.bool (!u)), HU o H A B e0 u (if u = true then some .ret else none) q) := by
  intro e0
  have hn := (List.getElem?_eq_some_iff.1 hy).1
  have hw := wrap_sub1 (n := n) (by omega)
  have hun : ∀ h, callW tab 76 [.d (eDs d), .d (.lst (eI ((n : Int) + 1) :: ts.map eI)), .d (eI (i : Int))] h = some (.d (eIs (z.flds ++ ts)), h) := fun h => under_ok hy hz hd ts hf hl h
  have hia : ia 1 (.d (.lst (eI ((n : Int) + 1) :: ts.map eI))) (.d (.int .i64 0)) = some (.fp (eI ((n : Int) + 1)) 0) := iaI0 _ _
  have h1 := mkslP (n := z.flds.length) (by omega)
  have h2 := appd_tl (es := 4) (b := 48) (l := (List.replicate z.flds.length wildT).map ePt) (r := r.map ePt) (nl := some false) ptcells ptcells (by simp only [List.length_map, List.length_replicate, roomB]; omega)
  rw [← List.map_append] at h2
  have hbody : ex tab d44q0 [(4, .fp (eDs d) 0), (5, .fp (eIs (((n : Int) + 1) :: ts)) 0), (7, .fp (ePs (p :: r)) 0), (8, .ptr (H + 3) 1 0 0), (12, .d (eI (i : Int))), (13, .d (eRs m))] (HU o H A B e0 false (some .norm) q) =
      some (if u = true then .ret else .norm, if u = true then [(8, .ptr (H + 3) 1 0 0)] else [(8, .ptr (H + 3) 1 0 0), (118, .d (.bool false))], HU o H A B e0 u (some .norm) q) := by
    unfold d44q0
    apply wq_ex.1
    have hst := HU_st o H A B e0 false true (some .norm) q
    cases u <;> (simp only [e44, hw, iaI0, hia, slcP', slcP, hun, h1, h2, iaD hy, iaC hz, hu, hst, wz, opX, intBin, ↓reduceIte, simprocAttr] <;> repeat' (first | refine wpG_s ?_ ?_ | refine wpC_s ?_ ?_) <;> intro hgo <;> (try simp only [dq] at hgo) <;> simp only [hgo, e44, hw, iaI0, hia, slcP', slcP, hun, h1, h2, iaD hy, iaC hz, hu, hst, wz, opX, intBin, ↓reduceIte, simprocAttr])
  have := cW_yld (T := tab) (n := H + 10) (b := 704) (e := e0) (vs := [.d (eI (i : Int)), .d (eRs m)]) (h := HU o H A B e0 false none q) (fn := f1000704) (asg := a44q0) (bdy := d44q0) (e1 := [(4, .fp (eDs d) 0), (5, .fp (eIs (((n : Int) + 1) :: ts)) 0), (7, .fp (ePs (p :: r)) 0), (8, .ptr (H + 3) 1 0 0), (12, .d (eI (i : Int))), (13, .d (eRs m))]) (h1 := HU o H A B e0 false none q) (b' := 704) (e' := e0)
    (HU_get ..) rfl rfl rfl (by unfold a44q0; apply wq_ex.1; (simp only [e44, binds, f1000704, wz, opX, intBin, ↓reduceIte, simprocAttr] <;> repeat' (first | refine wpG_s ?_ ?_ | refine wpC_s ?_ ?_) <;> intro hgo <;> (try simp only [dq] at hgo) <;> simp only [hgo, e44, binds, f1000704, wz, opX, intBin, ↓reduceIte, simprocAttr]); rfl) (HU_get ..) (by rw [HU_set]; exact hbody)
  rw [this]
  unfold rndEnd
  simp only [HU_get]
  cases u <;> simp [HU_set] <;> rfl
theorem HU_mk (o : List (Nat × Ob)) (H : Nat) (A B : List Int) (e0 : List (Nat × V)) (b : Bool) (s : Option Ex) (q q' : Nat) : (⟨(HU o H A B e0 b s q).objs, q'⟩ : Hp) = HU o H A B e0 b s q' := rfl
theorem HU_next (o : List (Nat × Ob)) (H : Nat) (A B : List Int) (e0 : List (Nat × V)) (b : Bool) (s : Option Ex) (q : Nat) : (HU o H A B e0 b s q).next = q := rfl
/-- The range over the constructors. -/
theorem range_ok {d : List Dt} {n : Nat} {y : Dt} (hy : d[n]? = some y) (hd : d.length < 2 ^ 60) (hK : y.cons.length ≤ 8) (hf : ∀ z, z ∈ y.cons → z.flds.length ≤ 8) {ts : List Int} (hts : ts.length ≤ 10000) {p : Pt} {r : List Pt} (hr : r.length ≤ 10000)
    (l : List (List Pt)) (hl : l.length ≤ 1000) (hlr : ∀ r, r ∈ l → r ≠ [] ∧ r.length ≤ 10000 ∧ ∀ p, p ∈ r → (argsP p).length ≤ 10000) {u : Nat → Bool}
    (hu : ∀ (i : Nat) (z : Cn), y.cons[i]? = some z → ∀ h, callW tab 44 [.d (eDs d), .d (eIs (z.flds ++ ts)), .d (eRs (spS (i : Int) z.flds.length l)), .d (ePs (List.replicate z.flds.length wildT ++ r))] h = some (.d (.bool (u i)), h)) (o : List (Nat × Ob)) (H : Nat) (A B : List Int) :
    let cl : V := .clo 98 [.fp (eDs d) 0, .fp (eIs (((n : Int) + 1) :: ts)) 0, .fp (eRs l) 0]
    let e0 : List (Nat × V) := [(4, .fp (eDs d) 0), (5, .fp (eIs (((n : Int) + 1) :: ts)) 0), (7, .fp (ePs (p :: r)) 0), (8, .ptr (H + 3) 1 0 0), (92, cl)]
    ∃ q, callW tab 98 [.yld (H + 10), .fp (eDs d) 0, .fp (eIs (((n : Int) + 1) :: ts)) 0, .fp (eRs l) 0] (HU o H A B e0 false none (H + 11)) = some (.tup [], HU o H A B e0 ((List.range y.cons.length).any u) (if (List.range y.cons.length).any u = true then some .ret else none) q) := by
  intro cl e0
  have hn := (List.getElem?_eq_some_iff.1 hy).1
  have hw := wrap_sub1 (n := n) (by omega)
  have hia : ia 1 (.d (.lst (eI ((n : Int) + 1) :: ts.map eI))) (.d (.int .i64 0)) = some (.fp (eI ((n : Int) + 1)) 0) := iaI0 _ _
  obtain ⟨e, q', hq, hloop⟩ := loop_anyO (T := tab) (a := f98l0) (K := y.cons.length) (p := u) (f := fun i => [(0, .yld (H + 10)), (3, .fp (eRs l) 0), (14, .d (.lst (y.cons.map eC))), (15, .d (.int .i64 (y.cons.length : Int))), (16, .d (.int .i64 (i : Int)))]) (O := (HU o H A B e0 false none 0).objs) (O2 := (HU o H A B e0 true (some .ret) 0).objs) (x1 := .ret) (x2 := .exit 0) (e2 := [(0, .yld (H + 10)), (3, .fp (eRs l) 0), (14, .d (.lst (y.cons.map eC))), (15, .d (.int .i64 (y.cons.length : Int))), (16, .d (.int .i64 (y.cons.length : Int))), (17, .d (.bool false))]) (q0 := H + 11)
    (by
      intro q i hi hp
      obtain ⟨z, hz⟩ := get_of_lt (l := y.cons) (n := i) hi
      have hzf := hf z (List.mem_of_getElem? hz)
      have hround : ∀ q, cW tab (.yld (H + 10)) [.d (eI (i : Int)), .d (eRs (spS (i : Int) z.flds.length l))] (HU o H A B e0 false none q) = some (.d (.bool (!u i)), HU o H A B e0 (u i) (if u i = true then some .ret else none) q) := fun q => round_ok (p := p) hy hz hd hzf hts hr (hu i z hz) o H A B cl q
      have hsp := fun h => special_ok (i : Int) z.flds.length (by omega) l hl hlr h
      simp only [hp] at hround
      (simp only [hi, e98, iaC hz, hsp, hround, HU_mk, HU_next, wrap_succ (show i < 2 ^ 62 by omega), wz, opX, intBin, ↓reduceIte, simprocAttr] <;> repeat' (first | refine wpG_s ?_ ?_ | refine wpC_s ?_ ?_) <;> intro hgo <;> (try simp only [dq] at hgo) <;> simp only [hgo, hi, e98, iaC hz, hsp, hround, HU_mk, HU_next, wrap_succ (show i < 2 ^ 62 by omega), wz, opX, intBin, ↓reduceIte, simprocAttr])
      exact ⟨_, rfl, by omega⟩)
    (by
      intro q i hi hp
      obtain ⟨z, hz⟩ := get_of_lt (l := y.cons) (n := i) hi
      have hzf := hf z (List.mem_of_getElem? hz)
      have hround : ∀ q, cW tab (.yld (H + 10)) [.d (eI (i : Int)), .d (eRs (spS (i : Int) z.flds.length l))] (HU o H A B e0 false none q) = some (.d (.bool (!u i)), HU o H A B e0 (u i) (if u i = true then some .ret else none) q) := fun q => round_ok (p := p) hy hz hd hzf hts hr (hu i z hz) o H A B cl q
      have hsp := fun h => special_ok (i : Int) z.flds.length (by omega) l hl hlr h
      simp only [hp] at hround
      (simp only [hi, e98, iaC hz, hsp, hround, HU_mk, HU_next, wrap_succ (show i < 2 ^ 62 by omega), wz, opX, intBin, ↓reduceIte, simprocAttr] <;> repeat' (first | refine wpG_s ?_ ?_ | refine wpC_s ?_ ?_) <;> intro hgo <;> (try simp only [dq] at hgo) <;> simp only [hgo, hi, e98, iaC hz, hsp, hround, HU_mk, HU_next, wrap_succ (show i < 2 ^ 62 by omega), wz, opX, intBin, ↓reduceIte, simprocAttr])
      exact ⟨_, _, ⟨rfl, rfl⟩, by omega⟩)
    (by
      intro q
      (simp only [e98, HU_mk, wz, opX, intBin, ↓reduceIte, simprocAttr] <;> repeat' (first | refine wpG_s ?_ ?_ | refine wpC_s ?_ ?_) <;> intro hgo <;> (try simp only [dq] at hgo) <;> simp only [hgo, e98, HU_mk, wz, opX, intBin, ↓reduceIte, simprocAttr])
      exact ⟨_, rfl, by omega⟩)
    (by simp) (by simp)
  refine ⟨q', call_wp (fn := f98) rfl rfl ?_⟩
  simp only [HU_mk, Int.cast_ofNat_Int] at hloop
  cases hany : (List.range y.cons.length).any u with
  | false =>
    rw [hany] at hloop
    simp only [Bool.false_eq_true, if_false] at hloop
    (simp only [e98, hw, iaI0, hia, iaD hy, HU_mk, wq_of hloop, wz, opX, intBin, ↓reduceIte, simprocAttr] <;> repeat' (first | refine wpG_s ?_ ?_ | refine wpC_s ?_ ?_) <;> intro hgo <;> (try simp only [dq] at hgo) <;> simp only [hgo, e98, hw, iaI0, hia, iaD hy, HU_mk, wq_of hloop, wz, opX, intBin, ↓reduceIte, simprocAttr])
  | true =>
    rw [hany] at hloop
    simp only [if_true] at hloop
    (simp only [e98, hw, iaI0, hia, iaD hy, HU_mk, wq_of hloop, wz, opX, intBin, ↓reduceIte, simprocAttr] <;> repeat' (first | refine wpG_s ?_ ?_ | refine wpC_s ?_ ?_) <;> intro hgo <;> (try simp only [dq] at hgo) <;> simp only [hgo, e98, hw, iaI0, hia, iaD hy, HU_mk, wq_of hloop, wz, opX, intBin, ↓reduceIte, simprocAttr])
-- wz, opX, intBin, ↓reduceIte, simprocAttr
end Zc27
end
section
set_option linter.unusedSimpArgs false
set_option linter.unusedVariables false
set_option linter.unusedSimpArgs false
set_option maxHeartbeats 4000000
namespace Zc27
open Go Zv Zs

section
variable (o : List (Nat × Ob)) (H : Nat) (A B : List Int)
/-- The heap behind the heads. -/
def HV (b : Bool) (q : Nat) : Hp := ⟨(H + 6, .mp (kvB B)) :: (H + 5, .mp (kvB A)) :: (H + 3, .arr 1 [.d (.bool b)]) :: o, q⟩
theorem HV_mk (b q q') : (⟨(HV o H A B b q).objs, q'⟩ : Hp) = HV o H A B b q' := rfl
theorem HV_next (b q) : (HV o H A B b q).next = q := rfl
theorem HV_of (b) : HM2 ((H + 3, .arr 1 [.d (.bool b)]) :: o) (H + 5) A B = HV o H A B b (H + 7) := rfl
theorem HV_len (b q) : lenM (HV o H A B b q) (.map (H + 5)) = some (.d (.int .i64 (A.length : Int))) := by
  unfold lenM entries HV Hp.get
  simp [Zv.look, kvB, int]
theorem HV_row (b q) : (HV o H A B b q).row (H + 3) 1 = some (1, [.d (.bool b)]) := by
  unfold HV Hp.row Hp.get; simp [Zv.look]
theorem HV_st (b c q) : st 1 (HV o H A B b q) (.ptr (H + 3) 1 0 0) (.d (.bool c)) = some (HV o H A B c q) := by
  unfold st
  simp only [HV_row, Option.bind_some]
  simp [HV, Hp.set, upd, V.cells, stor, D.cells]
theorem HV_ld (b q) : ld false 1 (HV o H A B b q) (.ptr (H + 3) 1 0 0) = some (.d (.bool b)) := by
  unfold ld
  simp only [HV_row, Option.bind_some]
  rfl
theorem HU_kill (e0 : List (Nat × V)) (b s q) : (HU o H A B e0 b s q).kill (H + 10) = HV o H A B b q := by
  unfold HU HV Hp.kill; simp [del]
end
theorem HV_fin (h : Hp) (A B : List Int) (b : Bool) (q : Nat) (x : D) : finS h (HV h.objs h.next A B b q) [.d x] = some (.d x, h) := by
  refine finS_suf (vs := [x]) ?_
  exact suf_app [_, _, _] h.objs
theorem frz_4 (n es nx : Nat) (o1 o2 o3 : Ob) (x : D) (l : List (Nat × Ob)) : Zv.frz ⟨(n + 1 + 1 + 1, o3) :: (n + 1 + 1, o2) :: (n + 1, o1) :: (n, .arr es [.d x]) :: l, nx⟩ (.ptr n 1 0 0) = some (.fp x 0, ⟨(n + 1 + 1 + 1, o3) :: (n + 1 + 1, o2) :: (n + 1, o1) :: l, nx⟩) := by
  have hr : Hp.row ⟨(n + 1 + 1 + 1, o3) :: (n + 1 + 1, o2) :: (n + 1, o1) :: (n, .arr es [.d x]) :: l, nx⟩ n 1 = some (es, [.d x]) := by
    unfold Hp.row Hp.get; simp [Zv.look, Nat.add_assoc]
  simp only [Zv.frz, hr, Option.bind_some, List.getElem?_cons_zero, Option.map_some, toD]
  simp [Hp.kill, del, Nat.add_assoc]
theorem frz_3 (n es nx : Nat) (o1 o2 : Ob) (x : D) (l : List (Nat × Ob)) : Zv.frz ⟨(n + 1 + 1, o2) :: (n + 1, o1) :: (n, .arr es [.d x]) :: l, nx⟩ (.ptr n 1 0 0) = some (.fp x 0, ⟨(n + 1 + 1, o2) :: (n + 1, o1) :: l, nx⟩) := by
  have hr : Hp.row ⟨(n + 1 + 1, o2) :: (n + 1, o1) :: (n, .arr es [.d x]) :: l, nx⟩ n 1 = some (es, [.d x]) := by
    unfold Hp.row Hp.get; simp [Zv.look, Nat.add_assoc]
  simp only [Zv.frz, hr, Option.bind_some, List.getElem?_cons_zero, Option.map_some, toD]
  simp [Hp.kill, del, Nat.add_assoc]
theorem use_r0 (a b c x : D) (ha : a.cells.length = 1) (hb : b.cells.length = 1) (hx : x.cells.length = 1) (h : Hp) :
    ex tab f44r0 (args 0 [.d a, .d b, .d c, .d x]) h = some (.norm, [(2, .d c), (4, .fp a 0), (5, .fp b 0), (7, .fp x 0), (8, .ptr (h.next + 3) 1 0 0)], ⟨(h.next + 3, .arr 1 [.d (.bool false)]) :: h.objs, h.next + 4⟩) := by
  apply wq_ex.1
  (simp only [e44, ha, hb, hx, frz_4, frz_3, wz, opX, intBin, ↓reduceIte, simprocAttr] <;> repeat' (first | refine wpG_s ?_ ?_ | refine wpC_s ?_ ?_) <;> intro hgo <;> (try simp only [dq] at hgo) <;> simp only [hgo, e44, ha, hb, hx, frz_4, frz_3, wz, opX, intBin, ↓reduceIte, simprocAttr])
theorem iaI0' (t : Int) (ts : List Int) : ia 1 (.d (.lst (eI t :: ts.map eI))) (.d (.int .i64 0)) = some (.fp (eI t) 0) := iaI0 t ts
theorem cons_sm {d : List Dt} (S : Sml d) (t : Int) : (consOf d t).length ≤ 8 ∧ ∀ z, z ∈ consOf d t → z.flds.length ≤ 8 := by
  rcases tcase d t with h0 | h0 | ⟨n, y, rfl, hy⟩
  · rw [consOf_lo h0]; exact ⟨by simp, fun z hz => by cases hz⟩
  · rw [consOf_hi h0]; exact ⟨by simp, fun z hz => by cases hz⟩
  · rw [consOf_at hy]
    have := S.ds y (List.mem_of_getElem? hy)
    exact ⟨this.2.1, fun z hz => (this.2.2 z hz).2⟩
theorem fit_args {d : List Dt} (S : Sml d) {t : Int} {p : Pt} (h : fitsP d t p = true) : (argsP p).length ≤ 8 := by
  obtain ⟨k, c, m, qs⟩ := p
  rw [argsP_mk]
  rcases fits_cases h with ⟨_, _, _, rfl⟩ | ⟨_, _, _, rfl⟩ | ⟨_, _, _, i, z, _, hz, hl, _⟩
  · simp
  · simp
  · have := (cons_sm S t).2 z (List.mem_of_getElem? hz); omega
theorem fitR_args {d : List Dt} (S : Sml d) : ∀ {ts : List Int} {r : List Pt}, fitR d ts r = true → ∀ p, p ∈ r → (argsP p).length ≤ 10000
  | _, [], _, p, hp => by cases hp
  | [], _ :: _, h, _, _ => by cases h
  | t :: ts, q :: r, h, p, hp => by
    simp only [fitR, Bool.and_eq_true] at h
    rcases List.mem_cons.1 hp with rfl | hp
    · have := fit_args S h.1; omega
    · exact fitR_args S h.2 p hp
theorem fitM_rows {d : List Dt} (S : Sml d) {t : Int} {ts : List Int} {l : List (List Pt)} (hts : ts.length ≤ 9000) (h : fitM d (t :: ts) l) : ∀ r, r ∈ l → r ≠ [] ∧ r.length ≤ 10000 ∧ ∀ p, p ∈ r → (argsP p).length ≤ 10000 := by
  intro r hr
  have hf := h r hr
  have hl := fitR_len hf
  rw [List.length_cons] at hl
  exact ⟨fun e => (by subst e; simp at hl), by omega, fitR_args S hf⟩
theorem fldsOf_at {d : List Dt} {n i : Nat} {y : Dt} {z : Cn} (hy : d[n]? = some y) (hz : y.cons[i]? = some z) : fldsOf d ((n : Int) + 1) i = z.flds := by
  unfold fldsOf; rw [consOf_at hy, hz]
theorem flds_isT {d : List Dt} (T : typedS d = true) {t : Int} {z : Cn} (hz : z ∈ consOf d t) {ts : List Int} (ht : ∀ f, f ∈ ts → isT d f = true) : ∀ f, f ∈ z.flds ++ ts → isT d f = true := by
  intro f hf
  rcases List.mem_append.1 hf with hf | hf
  · exact fld_isT27 T hz hf
  · exact ht f hf
theorem useful_ok {d : List Dt} (S : Sml d) (T : typedS d = true) : ∀ (k : Nat) (ts : List Int) (rows : List (List Pt)) (row : List Pt), 9 * (nwS rows + nwL row) + ts.length < k → 9 * (nwS rows + nwL row) + ts.length ≤ 5000 → rows.length ≤ 1000 →
    (∀ t, t ∈ ts → isT d t = true) → fitM d ts rows → fitR d ts row = true → ∀ h, callW tab 44 [.d (eDs d), .d (eIs ts), .d (eRs rows), .d (ePs row)] h = some (.d (.bool (usS d k ts rows row)), h)
  | 0, _, _, _, h, _, _, _, _, _, _ => by omega
  | k + 1, [], rows, row, _, _, hl, _, _, hR, h => by
    refine call_wp (fn := f44) rfl rfl ?_
    show wp tab (.seq f44r0 _) _ _ _
    rw [wq_seq, wq_of (use_r0 (eDs d) (eIs []) (eRs rows) (ePs row) rfl rfl rfl h)]
    have e0 : ((rows.length : Int) == 0) = decide (rows.length = 0) := by simp [ibeq]
    simp only [usS]
    (simp only [e44, ibeq, e0, wz, opX, intBin, ↓reduceIte, simprocAttr] <;> repeat' (first | refine wpG_s ?_ ?_ | refine wpC_s ?_ ?_) <;> intro hgo <;> (try simp only [dq] at hgo) <;> simp only [hgo, e44, ibeq, e0, wz, opX, intBin, ↓reduceIte, simprocAttr])
  | k + 1, t :: ts, rows, [], _, _, _, _, _, hR, _ => by cases hR
  | k + 1, t :: ts, rows, .mk kd c m qs :: r, hW, hB, hl, hT, hM, hR, h => by
    simp only [fitR, Bool.and_eq_true] at hR
    obtain ⟨hp, hR⟩ := hR
    have hts : ts.length ≤ 5000 := by rw [List.length_cons] at hB; omega
    have hrl := fitR_len hR
    have hrows := fitM_rows S (by omega) hM
    have hTt : ∀ f, f ∈ ts → isT d f = true := fun f hf => hT f (List.mem_cons_of_mem _ hf)
    rw [nwL, nwP] at hW hB
    rw [List.length_cons] at hW hB
    refine call_wp (fn := f44) rfl rfl ?_
    show wp tab (.seq f44r0 _) _ _ _
    rw [wq_seq, wq_of (use_r0 (eDs d) (eIs (t :: ts)) (eRs rows) (ePs (.mk kd c m qs :: r)) rfl rfl rfl h)]
    have hne : (((ts.length + 1 : Nat) : Int) == 0) = false := by rw [ibeq]; exact decide_eq_false (by omega)
    rcases fits_cases hp with ⟨k0, _, _, _⟩ | ⟨k2, t0, _, _⟩ | ⟨k1, t0, _, i, z, rfl, hz, hzl, hzR⟩
    · subst k0
      have hh := fun h => heads_ok rows hl (fun r hr => (hrows r hr).1) h
      have hrest := fun h => rests_ok (.clo 81 []) wildP rfl rows hl (fun r hr => (hrows r hr).1) (fun p _ _ h => by rw [cW_clo]; exact wild_ok p h) h
      have hnw := restS_nw wildP rows
      have hlen := fm_len (restF wildP) rows
      rw [if_pos rfl] at hW hB
      have hIH := useful_ok S T k ts (restS wildP rows) r (by omega) (by omega) (Nat.le_trans hlen hl) hTt (restS_fit _ hM) hR
      by_cases ht : t = 0
      · have e : usS d (k + 1) (t :: ts) rows (.mk 0 c m qs :: r) = usS d k ts (restS wildP rows) r := by
          simp [usS, ht]
        rw [e]
        (simp only [e44, hne, ht, iaI0, iaI0', iaP0, iaP0', pts, ePt_k, kdP_mk, slcT, slcT', slcP, slcP', hh, HV_of, HV_mk, HV_next, HV_len, HV_st, HV_row, HV_fin, hrest, hIH, wz, opX, intBin, ↓reduceIte, simprocAttr] <;> repeat' (first | refine wpG_s ?_ ?_ | refine wpC_s ?_ ?_) <;> intro hgo <;> (try simp only [dq] at hgo) <;> simp only [hgo, e44, hne, ht, iaI0, iaI0', iaP0, iaP0', pts, ePt_k, kdP_mk, slcT, slcT', slcP, slcP', hh, HV_of, HV_mk, HV_next, HV_len, HV_st, HV_row, HV_fin, hrest, hIH, wz, opX, intBin, ↓reduceIte, simprocAttr])
      · rcases tcase d t with h0 | h0 | ⟨n, y, rfl, hy⟩
        · exfalso; have := hT t List.mem_cons_self; simp only [isT, Bool.and_eq_true, decide_eq_true_eq] at this; omega
        · exfalso; have := hT t List.mem_cons_self; simp only [isT, Bool.and_eq_true, decide_eq_true_eq] at this; omega
        have hn := (List.getElem?_eq_some_iff.1 hy).1
        have hsl := S.len
        have hw := wrap_sub1 (n := n) (by omega)
        have hcs := cons_sm S ((n : Int) + 1)
        rw [consOf_at hy] at hcs
        by_cases hlt : (consS rows).length < y.cons.length
        · have e : usS d (k + 1) (((n : Int) + 1) :: ts) rows (.mk 0 c m qs :: r) = usS d k ts (restS wildP rows) r := by
            simp [usS, consOf_at hy, hlt]
          rw [e]
          (simp only [e44, hne, ht, ibeq, hw, hlt, iaI0, iaI0', iaD hy, iaP0, iaP0', pts, ePt_k, kdP_mk, slcT, slcT', slcP, slcP', hh, HV_of, HV_mk, HV_next, HV_len, HV_st, HV_row, HV_fin, hrest, hIH, wz, opX, intBin, ↓reduceIte, simprocAttr] <;> repeat' (first | refine wpG_s ?_ ?_ | refine wpC_s ?_ ?_) <;> intro hgo <;> (try simp only [dq] at hgo) <;> simp only [hgo, e44, hne, ht, ibeq, hw, hlt, iaI0, iaI0', iaD hy, iaP0, iaP0', pts, ePt_k, kdP_mk, slcT, slcT', slcP, slcP', hh, HV_of, HV_mk, HV_next, HV_len, HV_st, HV_row, HV_fin, hrest, hIH, wz, opX, intBin, ↓reduceIte, simprocAttr])
        · have hdown := fun i (hi : i < y.cons.length) (n' : Nat) => spS_down hM (by rw [consOf_at hy]; omega) (i := i) (by rw [consOf_at hy]; exact hi) n'
          have hu : ∀ (i : Nat) (z : Cn), y.cons[i]? = some z → ∀ h, callW tab 44 [.d (eDs d), .d (eIs (z.flds ++ ts)), .d (eRs (spS (i : Int) z.flds.length rows)), .d (ePs (List.replicate z.flds.length wildT ++ r))] h = some (.d (.bool (usS d k (fldsOf d ((n : Int) + 1) i ++ ts) (spS (i : Int) (fldsOf d ((n : Int) + 1) i).length rows) (List.replicate (fldsOf d ((n : Int) + 1) i).length wildT ++ r))), h) := by
            intro i z hz
            have hi := (List.getElem?_eq_some_iff.1 hz).1
            have hfz := fldsOf_at hy hz
            have hzm := List.mem_of_getElem? hz
            have hz8 := hcs.2 z hzm
            have hd := hdown i hi z.flds.length
            have hM' := spS_fit i hM
            rw [hfz] at hM' ⊢
            exact useful_ok S T k (z.flds ++ ts) (spS (i : Int) z.flds.length rows) (List.replicate z.flds.length wildT ++ r) (by rw [nwL_app, nwL_wild, List.length_append]; omega) (by rw [nwL_app, nwL_wild, List.length_append]; omega) (Nat.le_trans (fm_len _ _) hl)
              (flds_isT T (by rw [consOf_at hy]; exact hzm) hTt) hM' (fitR_app (fitR_wild d _) hR)
          obtain ⟨q, hq⟩ := range_ok hy (by omega) hcs.1 hcs.2 (ts := ts) (by omega) (p := .mk 0 c m qs) (r := r) (by omega) rows hl hrows hu h.objs h.next (consS rows) (numsS rows)
          have e : usS d (k + 1) (((n : Int) + 1) :: ts) rows (.mk 0 c m qs :: r) = (List.range y.cons.length).any fun i => usS d k (fldsOf d ((n : Int) + 1) i ++ ts) (spS (i : Int) (fldsOf d ((n : Int) + 1) i).length rows) (List.replicate (fldsOf d ((n : Int) + 1) i).length wildT ++ r) := by
            simp [usS, consOf_at hy, hlt, ht]
          rw [e]
          generalize ((List.range y.cons.length).any fun i => usS d k (fldsOf d ((n : Int) + 1) i ++ ts) (spS (i : Int) (fldsOf d ((n : Int) + 1) i).length rows) (List.replicate (fldsOf d ((n : Int) + 1) i).length wildT ++ r)) = u at hq
          have hmat : ∀ h, callW tab 83 [.d (eDs d), .d (.lst (eI ((n : Int) + 1) :: ts.map eI)), .d (eRs rows)] h = some (.clo 98 [.fp (eDs d) 0, .fp (eIs (((n : Int) + 1) :: ts)) 0, .fp (eRs rows) 0], ⟨h.objs, h.next + 3⟩) := fun h => matrices_ok _ _ _ rfl rfl rfl h
          have hrng : ex tab (.rng (.t 92) 704) [(4, .fp (eDs d) 0), (5, .fp (eIs (((n : Int) + 1) :: ts)) 0), (7, .fp (ePs (.mk 0 c m qs :: r)) 0), (8, .ptr (h.next + 3) 1 0 0), (92, .clo 98 [.fp (eDs d) 0, .fp (eIs (((n : Int) + 1) :: ts)) 0, .fp (eRs rows) 0])] (HV h.objs h.next (consS rows) (numsS rows) false (h.next + 10)) =
              some (if u = true then .ret else .norm, [(4, .fp (eDs d) 0), (5, .fp (eIs (((n : Int) + 1) :: ts)) 0), (7, .fp (ePs (.mk 0 c m qs :: r)) 0), (8, .ptr (h.next + 3) 1 0 0), (92, .clo 98 [.fp (eDs d) 0, .fp (eIs (((n : Int) + 1) :: ts)) 0, .fp (eRs rows) 0])], HV h.objs h.next (consS rows) (numsS rows) u q) := by
            refine ex_rng (f := 98) rfl hq ?_
            unfold rngEnd
            rw [HV_next]
            simp only [HU_get]
            cases u <;> simp [HU_kill]
          cases u <;> (simp only [if_true, if_false, Bool.false_eq_true] at hrng; (simp only [e44, hne, ht, ibeq, hw, hlt, iaI0, iaI0', iaD hy, iaP0, iaP0', pts, ePt_k, kdP_mk, hh, HV_of, HV_mk, HV_next, HV_len, HV_st, HV_row, HV_fin, hmat, wq_of hrng, wz, opX, intBin, ↓reduceIte, simprocAttr] <;> repeat' (first | refine wpG_s ?_ ?_ | refine wpC_s ?_ ?_) <;> intro hgo <;> (try simp only [dq] at hgo) <;> simp only [hgo, e44, hne, ht, ibeq, hw, hlt, iaI0, iaI0', iaD hy, iaP0, iaP0', pts, ePt_k, kdP_mk, hh, HV_of, HV_mk, HV_next, HV_len, HV_st, HV_row, HV_fin, hmat, wq_of hrng, wz, opX, intBin, ↓reduceIte, simprocAttr]))
    · subst k2
      have hrest := fun h => rests_ok (.clo 80 [.fp (ePt (.mk 2 c m qs)) 0]) (numP (.mk 2 c m qs)) rfl rows hl (fun r hr => (hrows r hr).1) (fun p _ _ h => by rw [cW_clo]; exact num_ok _ p h) h
      have hnw := restS_nw (numP (.mk 2 c m qs)) rows
      have hlen := fm_len (restF (numP (.mk 2 c m qs))) rows
      have hIH := useful_ok S T k ts (restS (numP (.mk 2 c m qs)) rows) r (by omega) (by omega) (Nat.le_trans hlen hl) hTt (restS_fit _ hM) hR
      have e : usS d (k + 1) (t :: ts) rows (.mk 2 c m qs :: r) = usS d k ts (restS (numP (.mk 2 c m qs)) rows) r := by
        simp only [usS]; rfl
      rw [e]
      (simp only [e44, hne, iaP0, iaP0', pts, ePt_k, kdP_mk, slcT, slcT', slcP, slcP', hrest, hIH, wz, opX, intBin, ↓reduceIte, simprocAttr] <;> repeat' (first | refine wpG_s ?_ ?_ | refine wpC_s ?_ ?_) <;> intro hgo <;> (try simp only [dq] at hgo) <;> simp only [hgo, e44, hne, iaP0, iaP0', pts, ePt_k, kdP_mk, slcT, slcT', slcP, slcP', hrest, hIH, wz, opX, intBin, ↓reduceIte, simprocAttr])
    · subst k1
      rcases tcase d t with h0 | h0 | ⟨n, y, rfl, hy⟩
      · rw [consOf_lo h0] at hz; cases hz
      · rw [consOf_hi h0] at hz; cases hz
      have hz' := hz
      rw [consOf_at hy] at hz'
      have hn := (List.getElem?_eq_some_iff.1 hy).1
      have hsl := S.len
      have hzm := List.mem_of_getElem? hz
      have hzf := (cons_sm S _).2 z hzm
      have hun : ∀ h, callW tab 76 [.d (eDs d), .d (.lst (eI ((n : Int) + 1) :: ts.map eI)), .d (eI (i : Int))] h = some (.d (eIs (z.flds ++ ts)), h) := fun h => under_ok hy hz' (by omega) ts hzf (by omega) h
      have hsp := fun h => special_ok (i : Int) qs.length (by omega) rows hl hrows h
      have h1 := fun h => cloneP_ok qs (by omega) h
      have h2 := fun (n : Nat) (o : List (Nat × Ob)) => clo_app (nl := none) (es := 4) (b := 48) (n := n) (o := o) (l := qs.map ePt) (r := r.map ePt) ptcells ptcells (by simp only [List.length_map, roomB]; omega)
      rw [← List.map_append] at h2
      have h3 := fun (n : Nat) (o : List (Nat × Ob)) => clo_frz (nl := none) (es := 4) (n := n) (o := o) (l := (qs ++ r).map ePt)
      have hnw := spS_nw (i : Int) qs.length rows
      have hlen := fm_len (spF (i : Int) qs.length) rows
      have hfz := fldsOf_at hy hz'
      have hM' := spS_fit i hM
      rw [hfz, hzl] at hM'
      rw [if_neg (by decide)] at hW hB
      have hIH := useful_ok S T k (z.flds ++ ts) (spS (i : Int) qs.length rows) (qs ++ r) (by rw [nwL_app, List.length_append]; omega) (by rw [nwL_app, List.length_append]; omega) (Nat.le_trans hlen hl) (flds_isT T hzm hTt) hM' (fitR_app hzR hR)
      have e : usS d (k + 1) (((n : Int) + 1) :: ts) rows (.mk 1 (i : Int) m qs :: r) = usS d k (z.flds ++ ts) (spS (i : Int) qs.length rows) (qs ++ r) := by
        simp only [usS, if_true, Int.toNat_natCast, hfz]
      rw [e]
      (simp only [e44, hne, iaP0, iaP0', pts, ePt_k, ePt_1, ePt_3, kdP_mk, cnP_mk, argsP_mk, slcT, slcT', slcP, slcP', hun, hsp, h1, h2, h3, hIH, wz, opX, intBin, ↓reduceIte, simprocAttr] <;> repeat' (first | refine wpG_s ?_ ?_ | refine wpC_s ?_ ?_) <;> intro hgo <;> (try simp only [dq] at hgo) <;> simp only [hgo, e44, hne, iaP0, iaP0', pts, ePt_k, ePt_1, ePt_3, kdP_mk, cnP_mk, argsP_mk, slcT, slcT', slcP, slcP', hun, hsp, h1, h2, h3, hIH, wz, opX, intBin, ↓reduceIte, simprocAttr])
-- wz, opX, intBin, ↓reduceIte, simprocAttr
end Zc27
end
section
set_option linter.unusedSimpArgs false
set_option linter.unusedVariables false
set_option linter.unusedSimpArgs false
set_option maxHeartbeats 4000000
namespace Zc27
open Go Zv Zs

theorem runder_ok {d : List Dt} {n i : Nat} {y : Dt} {z : Cn} (hy : d[n]? = some y) (hz : y.cons[i]? = some z) (hd : d.length < 2 ^ 60) (ts : List Int) (hf : z.flds.length ≤ 8) (hl : ts.length ≤ 10000) (h : Hp) :
    callW tab 47 [.d (eDs d), .d (eIs (((n : Int) + 1) :: ts)), .d (eI (i : Int))] h = some (.d (eIs (z.flds ++ ts)), h) := by
  refine call_wp (fn := f47) rfl rfl ?_
  have hn := (List.getElem?_eq_some_iff.1 hy).1
  have hw := wrap_sub1 (n := n) (by omega)
  have h1 := tl_app (nl := some false) (es := 1) (b := 8) (h := h) (r := z.flds.map eI) tcells (by simp only [roomB, List.length_map]; omega)
  have h2 := clo_app (nl := some false) (es := 1) (b := 8) (n := h.next) (o := h.objs) (l := z.flds.map eI) (r := ts.map eI) tcells tcells (by simp only [roomB, List.length_map]; omega)
  have hfin := finS_clo (h := h) (nl := some false) (es := 1) (n := h.next) (l := z.flds.map eI ++ ts.map eI) (Nat.le_refl _)
  (simp only [e47, hw, iaI0, slcT', iaD hy, iaC hz, h1, h2, hfin, wz, opX, intBin, ↓reduceIte, simprocAttr] <;> repeat' (first | refine wpG_s ?_ ?_ | refine wpC_s ?_ ?_) <;> intro hgo <;> (try simp only [dq] at hgo) <;> simp only [hgo, e47, hw, iaI0, slcT', iaD hy, iaC hz, h1, h2, hfin, wz, opX, intBin, ↓reduceIte, simprocAttr])
  rw [List.map_append]
theorem rall_ok {d : List Dt} (hd : d.length < 2 ^ 60) {t : Int} (hT : isT d t = true) (hs : List Pt) (h : Hp) :
    callW tab 49 [.d (eDs d), .d (eI t), .d (ePs hs)] h = some (.d (.bool (decide (t ≠ 0) && decide (hs.length = (consOf d t).length))), h) := by
  refine call_wp (fn := f49) rfl rfl ?_
  by_cases ht : t = 0
  · subst ht
    (simp only [e49, ibne, wz, opX, intBin, ↓reduceIte, simprocAttr] <;> repeat' (first | refine wpG_s ?_ ?_ | refine wpC_s ?_ ?_) <;> intro hgo <;> (try simp only [dq] at hgo) <;> simp only [hgo, e49, ibne, wz, opX, intBin, ↓reduceIte, simprocAttr])
  · rcases tcase d t with h0 | h0 | ⟨n, y, rfl, hy⟩
    · exfalso; simp only [isT, Bool.and_eq_true, decide_eq_true_eq] at hT; omega
    · exfalso; simp only [isT, Bool.and_eq_true, decide_eq_true_eq] at hT; omega
    have hn := (List.getElem?_eq_some_iff.1 hy).1
    have hw := wrap_sub1 (n := n) (by omega)
    have e : ((hs.length : Int) == (y.cons.length : Int)) = decide (hs.length = y.cons.length) := by rw [ibeq]; exact decide_eq_decide.2 (by omega)
    rw [consOf_at hy, decide_eq_true (show ((n : Int) + 1) ≠ 0 from ht), Bool.true_and]
    (simp only [e49, ibne, ht, hw, iaD hy, e, wz, opX, intBin, ↓reduceIte, simprocAttr] <;> repeat' (first | refine wpG_s ?_ ?_ | refine wpC_s ?_ ?_) <;> intro hgo <;> (try simp only [dq] at hgo) <;> simp only [hgo, e49, ibne, ht, hw, iaD hy, e, wz, opX, intBin, ↓reduceIte, simprocAttr])
theorem fm_congr {α β : Type} {f g : α → Option β} : ∀ {l : List α}, (∀ x, x ∈ l → f x = g x) → l.filterMap f = l.filterMap g
  | [], _ => rfl
  | x :: l, h => by rw [List.filterMap_cons, List.filterMap_cons, h x List.mem_cons_self, fm_congr fun y hy => h y (List.mem_cons_of_mem x hy)]
theorem rsp_made {d : List Dt} {t : Int} {ts : List Int} {l : List (List Pt)} (h : fitM d (t :: ts) l) (c : Int) (qs : List Pt) (n : Nat) : rspS (.mk 1 c 0 qs) n l = spS c n l := by
  unfold rspS spS
  refine fm_congr fun r hr => ?_
  have hf := h r hr
  cases r with
  | nil => rfl
  | cons p s =>
    simp only [fitR, Bool.and_eq_true] at hf
    obtain ⟨k, c', m, qs'⟩ := p
    rcases fits_cases hf.1 with ⟨k0, _⟩ | ⟨k2, _⟩ | ⟨k1, _, m0, _⟩
    · subst k0; simp [rspF, spF, kdP_mk]
    · subst k2; simp [rspF, spF, kdP_mk, sameP_mk]
    · subst k1; subst m0
      simp only [rspF, spF, kdP_mk, cnP_mk, nmP_mk, sameP_mk, argsP_mk]
      by_cases hc : c' = c <;> simp [hc]
theorem rsp_num {d : List Dt} {ts : List Int} {l : List (List Pt)} (h : fitM d (0 :: ts) l) (m : Int) (qs : List Pt) : rspS (.mk 2 0 m qs) 0 l = restS (numP (.mk 2 0 m qs)) l := by
  unfold rspS restS
  refine fm_congr fun r hr => ?_
  have hf := h r hr
  cases r with
  | nil => rfl
  | cons p s =>
    simp only [fitR, Bool.and_eq_true] at hf
    obtain ⟨k, c', m', qs'⟩ := p
    rcases fits_cases hf.1 with ⟨k0, _⟩ | ⟨k2, _, c0, a0⟩ | ⟨k1, t0, _⟩
    · subst k0; simp [rspF, restF, kdP_mk, numP, wildP]
    · subst k2; subst c0; subst a0
      simp only [rspF, restF, kdP_mk, cnP_mk, nmP_mk, sameP_mk, argsP_mk, numP, wildP]
      by_cases hc : m' = m <;> simp [hc]
    · exact absurd rfl t0
theorem rsp_one_made (c : Int) (qs qs' r : List Pt) (n : Nat) : rspS (.mk 1 c 0 qs') n [.mk 1 c 0 qs :: r] = [qs ++ r] := by
  simp [rspS, rspF, kdP_mk, cnP_mk, nmP_mk, sameP_mk, argsP_mk]
theorem rsp_one_wild (a : Pt) (r : List Pt) (n : Nat) : rspS a n [.mk 0 0 0 [] :: r] = [List.replicate n wildT ++ r] := by
  simp [rspS, rspF, kdP_mk]
theorem iaR0 (w : List Pt) : ia 1 (.d (.lst [ePs w])) (.d (.int .i64 0)) = some (.fp (ePs w) 0) := iaR (l := [w]) (n := 0) rfl
theorem mk_pat (a b c : D) : mkAgg [.d a, .d b, .d c, .tl [] (some true)] = .agg [.d a, .d b, .d c, .tl [] (some true)] := rfl
theorem frz_pat (a b c : D) (q nx : Nat) (o : List (Nat × Ob)) : Zv.frz ⟨(q, .arr 4 [.agg [.d a, .d b, .d c, .tl [] (some true)]]) :: o, nx⟩ (.ptr q 1 0 0) = some (.fp (.agg [a, b, c, .lst []]) 0, ⟨o, nx⟩) := by
  have hr : Hp.row ⟨(q, .arr 4 [.agg [.d a, .d b, .d c, .tl [] (some true)]]) :: o, nx⟩ q 1 = some (4, [.agg [.d a, .d b, .d c, .tl [] (some true)]]) := by rw [row_cons]; simp
  simp only [Zv.frz, hr, Option.bind_some, List.getElem?_cons_zero, Option.map_some, toD, toDs]
  simp [Hp.kill, del]
theorem norm_one (x : D) (nl : Option Bool) : norm (.tl [.d x] nl) = .d (.lst [x]) := rfl
theorem not_all {d : List Dt} {t : Int} {ts : List Int} {l : List (List Pt)} (h : fitM d (t :: ts) l) : (decide (t ≠ 0) && decide ((headsS l).length = (consOf d t).length)) = !decide (t = 0 ∨ (consS l).length < (consOf d t).length) := by
  by_cases ht : t = 0
  · simp [ht]
  · have h1 := heads_len ht h
    have h2 := consS_le h
    rw [h1]
    by_cases hlt : (consS l).length < (consOf d t).length
    · have : ¬ (consS l).length = (consOf d t).length := by omega
      simp [ht, hlt, this]
    · have : (consS l).length = (consOf d t).length := by omega
      simp [ht, this]
theorem ruseful_ok {d : List Dt} (S : Sml d) (T : typedS d = true) : ∀ (k : Nat) (ts : List Int) (rows : List (List Pt)) (row : List Pt), 9 * (nwS rows + nwL row) + ts.length < k → 9 * (nwS rows + nwL row) + ts.length ≤ 5000 → rows.length ≤ 1000 →
    (∀ t, t ∈ ts → isT d t = true) → fitM d ts rows → fitR d ts row = true → ∀ h, callW tab 18 [.d (eDs d), .d (eIs ts), .d (eRs rows), .d (ePs row)] h = some (.d (.bool (usS d k ts rows row)), h)
  | 0, _, _, _, h, _, _, _, _, _, _ => by omega
  | k + 1, [], rows, row, _, _, hl, _, _, hR, h => by
    refine call_wp (fn := f18) rfl rfl ?_
    have e0 : ((rows.length : Int) == 0) = decide (rows.length = 0) := by simp [ibeq]
    simp only [usS]
    (simp only [e18, ibeq, e0, wz, opX, intBin, ↓reduceIte, simprocAttr] <;> repeat' (first | refine wpG_s ?_ ?_ | refine wpC_s ?_ ?_) <;> intro hgo <;> (try simp only [dq] at hgo) <;> simp only [hgo, e18, ibeq, e0, wz, opX, intBin, ↓reduceIte, simprocAttr])
  | k + 1, t :: ts, rows, [], _, _, _, _, _, hR, _ => by cases hR
  | k + 1, t :: ts, rows, .mk kd c m qs :: r, hW, hB, hl, hT, hM, hR, h => by
    simp only [fitR, Bool.and_eq_true] at hR
    obtain ⟨hp, hR⟩ := hR
    have hts : ts.length ≤ 5000 := by rw [List.length_cons] at hB; omega
    have hrl := fitR_len hR
    have hrows := fitM_rows S (by omega) hM
    have hTt : ∀ f, f ∈ ts → isT d f = true := fun f hf => hT f (List.mem_cons_of_mem _ hf)
    have hargs := fit_args S hp
    rw [argsP_mk] at hargs
    rw [nwL, nwP] at hW hB
    rw [List.length_cons] at hW hB
    refine call_wp (fn := f18) rfl rfl ?_
    have hne : (((ts.length + 1 : Nat) : Int) == 0) = false := by rw [ibeq]; exact decide_eq_false (by omega)
    have hone : ∀ x, x ∈ [Pt.mk kd c m qs :: r] → x ≠ [] ∧ x.length ≤ 10000 ∧ ∀ p, p ∈ x → (argsP p).length ≤ 10000 := by
      intro x hx
      rw [List.mem_singleton.1 hx]
      refine ⟨by simp, by simp; omega, fun p hp' => ?_⟩
      rcases List.mem_cons.1 hp' with rfl | hp'
      · rw [argsP_mk]; omega
      · exact fitR_args S hR p hp'
    rcases fits_cases hp with ⟨k0, c0, m0, q0⟩ | ⟨k2, t0, c0, q0⟩ | ⟨k1, t0, m0, i, z, rfl, hz, hzl, hzR⟩
    · subst k0; subst c0; subst m0; subst q0
      have hh := fun h => rheads_ok rows hl (fun r hr => (hrows r hr).1) h
      have hal := fun h => rall_ok (d := d) (by have := S.len; omega) (hT t List.mem_cons_self) (headsS rows) h
      rw [not_all hM] at hal
      rw [if_pos rfl] at hW hB
      by_cases hcond : t = 0 ∨ (consS rows).length < (consOf d t).length
      · have hrest := fun h => rrest_ok rows hl (fun r hr => (hrows r hr).1) h
        have hnw := restS_nw wildP rows
        have hIH := ruseful_ok S T k ts (restS wildP rows) r (by omega) (by omega) (Nat.le_trans (fm_len _ _) hl) hTt (restS_fit _ hM) hR
        have e : usS d (k + 1) (t :: ts) rows (.mk 0 0 0 [] :: r) = usS d k ts (restS wildP rows) r := by
          simp only [usS]
          rw [if_neg (by decide), if_neg (by decide), if_pos hcond]
        rw [e]
        rw [decide_eq_true hcond] at hal
        (simp only [e18, hne, iaI0, iaI0', iaP0, iaP0', pts, ePt_k, kdP_mk, slcT, slcT', slcP, slcP', hh, hal, hrest, hIH, wz, opX, intBin, ↓reduceIte, simprocAttr] <;> repeat' (first | refine wpG_s ?_ ?_ | refine wpC_s ?_ ?_) <;> intro hgo <;> (try simp only [dq] at hgo) <;> simp only [hgo, e18, hne, iaI0, iaI0', iaP0, iaP0', pts, ePt_k, kdP_mk, slcT, slcT', slcP, slcP', hh, hal, hrest, hIH, wz, opX, intBin, ↓reduceIte, simprocAttr])
      · have ht : t ≠ 0 := fun e => hcond (.inl e)
        rcases tcase d t with h0 | h0 | ⟨n, y, rfl, hy⟩
        · exfalso; have := hT t List.mem_cons_self; simp only [isT, Bool.and_eq_true, decide_eq_true_eq] at this; omega
        · exfalso; have := hT t List.mem_cons_self; simp only [isT, Bool.and_eq_true, decide_eq_true_eq] at this; omega
        have hn := (List.getElem?_eq_some_iff.1 hy).1
        have hsl := S.len
        have hw := wrap_sub1 (n := n) (by omega)
        have hcs := cons_sm S ((n : Int) + 1)
        have hk : (consOf d ((n : Int) + 1)).length ≤ (consS rows).length := by
          have : ¬ (consS rows).length < (consOf d ((n : Int) + 1)).length := fun e => hcond (.inr e)
          omega
        have hdown := fun i (hi : i < y.cons.length) (n' : Nat) => spS_down hM hk (i := i) (by rw [consOf_at hy]; exact hi) n'
        rw [consOf_at hy] at hcs
        obtain ⟨u, hu⟩ : ∃ u : Nat → Bool, ∀ i, u i = usS d k (fldsOf d ((n : Int) + 1) i ++ ts) (spS (i : Int) (fldsOf d ((n : Int) + 1) i).length rows) (List.replicate (fldsOf d ((n : Int) + 1) i).length wildT ++ r) := ⟨_, fun _ => rfl⟩
        have e : usS d (k + 1) (((n : Int) + 1) :: ts) rows (.mk 0 0 0 [] :: r) = (List.range y.cons.length).any u := by
          simp only [usS]
          rw [if_neg (by decide), if_neg (by decide), if_neg hcond, consOf_at hy, show u = _ from funext hu]
        rw [e]
        have hround : ∀ (i : Nat) (z : Cn), y.cons[i]? = some z →
            (∀ h, callW tab 47 [.d (eDs d), .d (eIs (((n : Int) + 1) :: ts)), .d (.int .i64 (i : Int))] h = some (.d (eIs (z.flds ++ ts)), h)) ∧
            (∀ h, callW tab 46 [.d (eRs rows), .d (.agg [.int .i64 1, .int .i64 (i : Int), .int .i64 0, .lst []]), .d (.int .i64 (z.flds.length : Int))] h = some (.d (eRs (spS (i : Int) z.flds.length rows)), h)) ∧
            (∀ h, callW tab 46 [.d (.lst [ePs (.mk 0 0 0 [] :: r)]), .d (.agg [.int .i64 1, .int .i64 (i : Int), .int .i64 0, .lst []]), .d (.int .i64 (z.flds.length : Int))] h = some (.d (.lst [ePs (List.replicate z.flds.length wildT ++ r)]), h)) ∧
            (∀ h, callW tab 18 [.d (eDs d), .d (eIs (z.flds ++ ts)), .d (eRs (spS (i : Int) z.flds.length rows)), .d (ePs (List.replicate z.flds.length wildT ++ r))] h = some (.d (.bool (u i)), h)) := by
          intro i z hz
          rw [hu]
          have hi := (List.getElem?_eq_some_iff.1 hz).1
          have hfz := fldsOf_at hy hz
          have hzm := List.mem_of_getElem? hz
          have hz8 := hcs.2 z hzm
          have hd := hdown i hi z.flds.length
          have hM' := spS_fit i hM
          rw [hfz] at hM' ⊢
          refine ⟨fun h => runder_ok hy hz (by omega) ts hz8 (by omega) h, fun h => ?_, fun h => ?_, ?_⟩
          · have := rspecial_ok (.mk 1 (i : Int) 0 []) z.flds.length (by omega) rows hl hrows h
            rw [rsp_made hM, ePt_mk] at this
            exact this
          · have := rspecial_ok (.mk 1 (i : Int) 0 []) z.flds.length (by omega) [.mk 0 0 0 [] :: r] (by simp) hone h
            rw [rsp_one_wild, ePt_mk] at this
            exact this
          · exact ruseful_ok S T k (z.flds ++ ts) (spS (i : Int) z.flds.length rows) (List.replicate z.flds.length wildT ++ r) (by rw [nwL_app, nwL_wild, List.length_append]; omega) (by rw [nwL_app, nwL_wild, List.length_append]; omega) (Nat.le_trans (fm_len _ _) hl)
              (flds_isT T (by rw [consOf_at hy]; exact hzm) hTt) hM' (fitR_app (fitR_wild d _) hR)
        clear hu
        obtain ⟨q', hq', hloop⟩ := loop_anyr (T := tab) (a := f18l0) (l := List.range y.cons.length) (p := u) (f := fun i => [(0, .d (eDs d)), (1, .d (eIs (((n : Int) + 1) :: ts))), (2, .d (eRs rows)), (9, .d (eI ((n : Int) + 1))), (10, .tl [.d (ePs (.mk 0 0 0 [] :: r))] (some false)), (14, .d (.int .i64 (i : Int)))]) (h := ⟨h.objs, h.next + 1⟩) (x1 := .ret) (x2 := .exit 1) (e1 := [(8, .d (.bool true))])
          (e2 := [(0, .d (eDs d)), (1, .d (eIs (((n : Int) + 1) :: ts))), (2, .d (eRs rows)), (9, .d (eI ((n : Int) + 1))), (10, .tl [.d (ePs (.mk 0 0 0 [] :: r))] (some false)), (14, .d (.int .i64 (y.cons.length : Int))), (98, .d (.bool false))])
          (by
            intro q j x hx hlt hp
            rw [List.getElem?_eq_some_iff] at hx
            obtain ⟨hj, hx⟩ := hx
            rw [List.getElem_range] at hx
            subst hx
            rw [List.length_range] at hlt
            obtain ⟨z, hz⟩ := get_of_lt (l := y.cons) (n := j) hlt
            obtain ⟨r1, r2, r3, r4⟩ := hround j z hz
            rw [hp] at r4
            (simp only [hlt, e18, hw, iaD hy, iaC hz, iaR0, norm_one, mk_pat, frz_pat, r1, r2, r3, r4, wrap_succ (show j < 2 ^ 62 by omega), wz, opX, intBin, ↓reduceIte, simprocAttr] <;> repeat' (first | refine wpG_s ?_ ?_ | refine wpC_s ?_ ?_) <;> intro hgo <;> (try simp only [dq] at hgo) <;> simp only [hgo, hlt, e18, hw, iaD hy, iaC hz, iaR0, norm_one, mk_pat, frz_pat, r1, r2, r3, r4, wrap_succ (show j < 2 ^ 62 by omega), wz, opX, intBin, ↓reduceIte, simprocAttr])
            exact ⟨_, rfl, by omega⟩)
          (by
            intro q j x hx hlt hp
            rw [List.getElem?_eq_some_iff] at hx
            obtain ⟨hj, hx⟩ := hx
            rw [List.getElem_range] at hx
            subst hx
            rw [List.length_range] at hlt
            obtain ⟨z, hz⟩ := get_of_lt (l := y.cons) (n := j) hlt
            obtain ⟨r1, r2, r3, r4⟩ := hround j z hz
            rw [hp] at r4
            (simp only [hlt, e18, hw, iaD hy, iaC hz, iaR0, norm_one, mk_pat, frz_pat, r1, r2, r3, r4, wrap_succ (show j < 2 ^ 62 by omega), wz, opX, intBin, ↓reduceIte, simprocAttr] <;> repeat' (first | refine wpG_s ?_ ?_ | refine wpC_s ?_ ?_) <;> intro hgo <;> (try simp only [dq] at hgo) <;> simp only [hgo, hlt, e18, hw, iaD hy, iaC hz, iaR0, norm_one, mk_pat, frz_pat, r1, r2, r3, r4, wrap_succ (show j < 2 ^ 62 by omega), wz, opX, intBin, ↓reduceIte, simprocAttr])
            exact ⟨_, rfl, by omega⟩)
          (by
            intro q
            rw [List.length_range]
            (simp only [e18, hw, iaD hy, wz, opX, intBin, ↓reduceIte, simprocAttr] <;> repeat' (first | refine wpG_s ?_ ?_ | refine wpC_s ?_ ?_) <;> intro hgo <;> (try simp only [dq] at hgo) <;> simp only [hgo, e18, hw, iaD hy, wz, opX, intBin, ↓reduceIte, simprocAttr])
            exact ⟨_, rfl, by omega⟩)
          (by simp) (by simp)
        simp only [Int.cast_ofNat_Int] at hloop
        rw [decide_eq_false hcond] at hal
        cases hany : (List.range y.cons.length).any u with
        | false =>
          rw [hany] at hloop
          simp only [Bool.false_eq_true, if_false] at hloop
          (simp only [e18, hne, iaI0, iaI0', iaP0, iaP0', pts, ePt_k, kdP_mk, hh, hal, wq_of hloop, wz, opX, intBin, ↓reduceIte, simprocAttr] <;> repeat' (first | refine wpG_s ?_ ?_ | refine wpC_s ?_ ?_) <;> intro hgo <;> (try simp only [dq] at hgo) <;> simp only [hgo, e18, hne, iaI0, iaI0', iaP0, iaP0', pts, ePt_k, kdP_mk, hh, hal, wq_of hloop, wz, opX, intBin, ↓reduceIte, simprocAttr])
        | true =>
          rw [hany] at hloop
          simp only [if_true] at hloop
          (simp only [e18, hne, iaI0, iaI0', iaP0, iaP0', pts, ePt_k, kdP_mk, hh, hal, wq_of hloop, wz, opX, intBin, ↓reduceIte, simprocAttr] <;> repeat' (first | refine wpG_s ?_ ?_ | refine wpC_s ?_ ?_) <;> intro hgo <;> (try simp only [dq] at hgo) <;> simp only [hgo, e18, hne, iaI0, iaI0', iaP0, iaP0', pts, ePt_k, kdP_mk, hh, hal, wq_of hloop, wz, opX, intBin, ↓reduceIte, simprocAttr])
    · subst k2; subst t0; subst c0; subst q0
      have hsp : ∀ h, callW tab 46 [.d (eRs rows), .d (ePt (.mk 2 0 m [])), .d (.int .i64 0)] h = some (.d (eRs (restS (numP (.mk 2 0 m [])) rows)), h) := by
        intro h
        have := rspecial_ok (.mk 2 0 m []) 0 (by omega) rows hl hrows h
        rw [rsp_num hM] at this
        exact this
      have hnw := restS_nw (numP (.mk 2 0 m [])) rows
      have hIH := ruseful_ok S T k ts (restS (numP (.mk 2 0 m [])) rows) r (by omega) (by omega) (Nat.le_trans (fm_len _ _) hl) hTt (restS_fit _ hM) hR
      have e : usS d (k + 1) (0 :: ts) rows (.mk 2 0 m [] :: r) = usS d k ts (restS (numP (.mk 2 0 m [])) rows) r := by
        simp only [usS]; rfl
      rw [e]
      (simp only [e18, hne, iaI0, iaI0', iaP0, iaP0', pts, ePt_k, kdP_mk, slcT, slcT', slcP, slcP', hsp, hIH, wz, opX, intBin, ↓reduceIte, simprocAttr] <;> repeat' (first | refine wpG_s ?_ ?_ | refine wpC_s ?_ ?_) <;> intro hgo <;> (try simp only [dq] at hgo) <;> simp only [hgo, e18, hne, iaI0, iaI0', iaP0, iaP0', pts, ePt_k, kdP_mk, slcT, slcT', slcP, slcP', hsp, hIH, wz, opX, intBin, ↓reduceIte, simprocAttr])
    · subst k1; subst m0
      rcases tcase d t with h0 | h0 | ⟨n, y, rfl, hy⟩
      · rw [consOf_lo h0] at hz; cases hz
      · rw [consOf_hi h0] at hz; cases hz
      have hz' := hz
      rw [consOf_at hy] at hz'
      have hn := (List.getElem?_eq_some_iff.1 hy).1
      have hsl := S.len
      have hw := wrap_sub1 (n := n) (by omega)
      have hzm := List.mem_of_getElem? hz
      have hzf := (cons_sm S _).2 z hzm
      have hun := fun h => runder_ok hy hz' (by omega) ts hzf (by omega) h
      have hsp := fun h => rspecial_ok (.mk 1 (i : Int) 0 qs) z.flds.length (by omega) rows hl hrows h
      rw [rsp_made hM] at hsp
      have hsp1 : ∀ h, callW tab 46 [.d (.lst [ePs (.mk 1 (i : Int) 0 qs :: r)]), .d (ePt (.mk 1 (i : Int) 0 qs)), .d (.int .i64 (z.flds.length : Int))] h = some (.d (.lst [ePs (qs ++ r)]), h) := by
        intro h
        have := rspecial_ok (.mk 1 (i : Int) 0 qs) z.flds.length (by omega) [.mk 1 (i : Int) 0 qs :: r] (by simp) hone h
        rw [rsp_one_made] at this
        exact this
      have hnw := spS_nw (i : Int) z.flds.length rows
      have hfz := fldsOf_at hy hz'
      have hM' := spS_fit i hM
      rw [hfz] at hM'
      rw [if_neg (by decide)] at hW hB
      have hIH := ruseful_ok S T k (z.flds ++ ts) (spS (i : Int) z.flds.length rows) (qs ++ r) (by rw [nwL_app, List.length_append]; omega) (by rw [nwL_app, List.length_append]; omega) (Nat.le_trans (fm_len _ _) hl) (flds_isT T hzm hTt) hM' (fitR_app hzR hR)
      have e : usS d (k + 1) (((n : Int) + 1) :: ts) rows (.mk 1 (i : Int) 0 qs :: r) = usS d k (z.flds ++ ts) (spS (i : Int) z.flds.length rows) (qs ++ r) := by
        simp only [usS, if_true, Int.toNat_natCast, hfz, ← hzl]
      rw [e]
      (simp only [e18, hne, hw, iaI0, iaI0', iaD hy, iaC hz', iaP0, iaP0', iaR0, norm_one, pts, ePt_k, ePt_1, kdP_mk, cnP_mk, slcT, slcT', slcP, slcP', hun, hsp, hsp1, hIH, wz, opX, intBin, ↓reduceIte, simprocAttr] <;> repeat' (first | refine wpG_s ?_ ?_ | refine wpC_s ?_ ?_) <;> intro hgo <;> (try simp only [dq] at hgo) <;> simp only [hgo, e18, hne, hw, iaI0, iaI0', iaD hy, iaC hz', iaP0, iaP0', iaR0, norm_one, pts, ePt_k, ePt_1, kdP_mk, cnP_mk, slcT, slcT', slcP, slcP', hun, hsp, hsp1, hIH, wz, opX, intBin, ↓reduceIte, simprocAttr])
-- wz, opX, intBin, ↓reduceIte, simprocAttr
end Zc27
end
section
set_option linter.unusedSimpArgs false
set_option linter.unusedVariables false
set_option linter.unusedSimpArgs false
set_option maxHeartbeats 4000000
namespace Zc27
open Go Zv Zs

/-- A matrix that passed its check. -/
structure Gd (d : List Dt) (ts : List Int) (l : List (List Pt)) : Prop where
  sml : Sml d
  typ : typedS d = true
  tys : ∀ t, t ∈ ts → isT d t = true
  fit : fitM d ts l
  w : 9 * nwS l + ts.length ≤ 5000
  len : l.length ≤ 1000
theorem nwS_take : ∀ {l : List (List Pt)} {n : Nat} {x : List Pt}, l[n]? = some x → nwS (l.take n) + nwL x ≤ nwS l
  | [], n, x, h => by simp at h
  | r :: l, 0, x, h => by
    simp at h; subst h
    simp only [List.take_zero, nwS]; omega
  | r :: l, n + 1, x, h => by
    rw [List.getElem?_cons_succ] at h
    have := nwS_take h
    rw [List.take_succ_cons, nwS, nwS]; omega
theorem slc_take (l : List (List Pt)) {n : Nat} (hn : n ≤ l.length) : slc 1 (.d (eRs l)) none (some (.d (.int .i64 (n : Int)))) = some (.d (eRs (l.take n))) := by
  have h : Zv.allD 1 (l.map ePs) = true := by
    unfold Zv.allD
    refine List.all_eq_true.2 fun y hy => ?_
    obtain ⟨p, _, rfl⟩ := List.mem_map.1 hy
    rfl
  simp only [slc, bnd, Option.bind_some, ixOf_nat, h]
  simp [hn, List.map_take]
def deadF (d : List Dt) (ts : List Int) (l : List (List Pt)) (x : List Pt × Nat) : Option Int := if usS d 5001 ts (l.take x.2) x.1 = true then none else some (x.2 : Int)
def deadS (d : List Dt) (ts : List Int) (l : List (List Pt)) : List Int := l.zipIdx.filterMap (deadF d ts l)
theorem zip_ix {l : List (List Pt)} {n : Nat} {x : List Pt × Nat} (h : l.zipIdx[n]? = some x) : l[n]? = some x.1 ∧ x.2 = n := by
  rw [List.getElem?_zipIdx] at h
  simp only [Option.map_eq_some_iff] at h
  obtain ⟨a, ha, rfl⟩ := h
  exact ⟨ha, by simp⟩
section
variable {d : List Dt} {ts : List Int} {l : List (List Pt)} (G : Gd d ts l)
include G
theorem Gd.use {n : Nat} {x : List Pt} (hx : l[n]? = some x) (h : Hp) : callW tab 44 [.d (eDs d), .d (eIs ts), .d (eRs (l.take n)), .d (ePs x)] h = some (.d (.bool (usS d 5001 ts (l.take n) x)), h) := by
  have hw := nwS_take hx
  have hg := G.w
  have := G.len
  exact useful_ok G.sml G.typ 5001 ts (l.take n) x (by omega) (by omega) (by rw [List.length_take]; omega) G.tys (fun r hr => G.fit r (List.mem_of_mem_take hr)) (G.fit x (List.mem_of_getElem? hx)) h
theorem Gd.ruse {n : Nat} {x : List Pt} (hx : l[n]? = some x) (h : Hp) : callW tab 18 [.d (eDs d), .d (eIs ts), .d (eRs (l.take n)), .d (ePs x)] h = some (.d (.bool (usS d 5001 ts (l.take n) x)), h) := by
  have hw := nwS_take hx
  have hg := G.w
  have := G.len
  exact ruseful_ok G.sml G.typ 5001 ts (l.take n) x (by omega) (by omega) (by rw [List.length_take]; omega) G.tys (fun r hr => G.fit r (List.mem_of_mem_take hr)) (G.fit x (List.mem_of_getElem? hx)) h
theorem rdead_ok (h : Hp) : callW tab 17 [.d (eDs d), .d (eIs ts), .d (eRs l)] h = some (.d (eIs (deadS d ts l)), h) := by
  refine call_wp (fn := f17) rfl rfl ?_
  have hlen := G.len
  have hzl : l.zipIdx.length = l.length := by simp
  obtain ⟨m, q, hm, hq, hloop⟩ := loop_acc (T := tab) (a := f17l0) (l := l.zipIdx) (fun _ => deadF d ts l) eI 1 8 (fun n r => [(0, .d (eDs d)), (1, .d (eIs ts)), (2, .d (eRs l)), (7, r), (8, .d (.int .i64 (n : Int)))]) (h := h) (n0 := h.next) (x1 := .exit 0) (e1 := fun r => [(0, .d (eDs d)), (1, .d (eIs ts)), (2, .d (eRs l)), (7, r), (8, .d (.int .i64 (l.length : Int))), (12, .d (.bool false))]) (Nat.le_refl _)
    (fun _ => rfl) (by rw [hzl]; simp only [roomB]; omega)
    (by
      intro n x s m q hx hlt hs hsl hG
      obtain ⟨hx, hxn⟩ := zip_ix hx
      rw [hzl] at hlt
      have hu := fun h => G.ruse hx h
      simp only [deadF, hxn] at hG
      have hk : usS d 5001 ts (l.take n) x.1 = true := by
        cases hk : usS d 5001 ts (l.take n) x.1 with
        | true => rfl
        | false => rw [if_neg (by rw [hk]; simp)] at hG; cases hG
      rw [hk] at hu
      (simp only [hlt, e17, slc_take l (Nat.le_of_lt hlt), iaR hx, hu, rowQ_next, rowQ_mk, wrap_succ (show n < 2 ^ 62 by omega), wz, opX, intBin, ↓reduceIte, simprocAttr] <;> repeat' (first | refine wpG_s ?_ ?_ | refine wpC_s ?_ ?_) <;> intro hgo <;> (try simp only [dq] at hgo) <;> simp only [hgo, hlt, e17, slc_take l (Nat.le_of_lt hlt), iaR hx, hu, rowQ_next, rowQ_mk, wrap_succ (show n < 2 ^ 62 by omega), wz, opX, intBin, ↓reduceIte, simprocAttr])
      exact ⟨_, rfl, by omega⟩)
    (by
      intro n x y s m q hx hlt hs hsl hG happ
      obtain ⟨hx, hxn⟩ := zip_ix hx
      rw [hzl] at hlt
      have hu := fun h => G.ruse hx h
      simp only [deadF, hxn] at hG
      have hk : usS d 5001 ts (l.take n) x.1 = false := by
        cases hk : usS d 5001 ts (l.take n) x.1 with
        | false => rfl
        | true => rw [if_pos hk] at hG; cases hG
      rw [if_neg (by rw [hk]; simp)] at hG
      cases hG
      rw [hk] at hu
      (simp only [hlt, e17, slc_take l (Nat.le_of_lt hlt), iaR hx, hu, happ, rowQ_next, rowQ_mk, wrap_succ (show n < 2 ^ 62 by omega), wz, opX, intBin, ↓reduceIte, simprocAttr] <;> repeat' (first | refine wpG_s ?_ ?_ | refine wpC_s ?_ ?_) <;> intro hgo <;> (try simp only [dq] at hgo) <;> simp only [hgo, hlt, e17, slc_take l (Nat.le_of_lt hlt), iaR hx, hu, happ, rowQ_next, rowQ_mk, wrap_succ (show n < 2 ^ 62 by omega), wz, opX, intBin, ↓reduceIte, simprocAttr])
      exact ⟨_, _, ⟨rfl, rfl⟩, by omega, Nat.le_refl _⟩)
    (by
      intro m q
      rw [hzl]
      (simp only [e17, wz, opX, intBin, ↓reduceIte, simprocAttr] <;> repeat' (first | refine wpG_s ?_ ?_ | refine wpC_s ?_ ?_) <;> intro hgo <;> (try simp only [dq] at hgo) <;> simp only [hgo, e17, wz, opX, intBin, ↓reduceIte, simprocAttr])
      exact ⟨_, rfl, by omega⟩)
    (by simp)
  rw [accL_fm] at hloop hm
  simp only [Int.cast_ofNat_Int] at hloop
  have hfm : l.zipIdx.filterMap (deadF d ts l) = deadS d ts l := rfl
  rw [hfm] at hloop hm
  have hfin := finS_rowQ (h := h) (m := m) (es := 1) (s := (deadS d ts l).map eI) (q := q) (fun e => (hm e).1)
  (simp only [e17, wq_of hloop, hfin, wz, opX, intBin, ↓reduceIte, simprocAttr] <;> repeat' (first | refine wpG_s ?_ ?_ | refine wpC_s ?_ ?_) <;> intro hgo <;> (try simp only [dq] at hgo) <;> simp only [hgo, e17, wq_of hloop, hfin, wz, opX, intBin, ↓reduceIte, simprocAttr])
theorem dead_ok (F : Rng d ts l) (hc : chk27 d ts l = 0) (h : Hp) : callW tab 16 [.d (eDs d), .d (eIs ts), .d (eRs l)] h = some (.tup [.d (eIs (deadS d ts l)), .d (eI 0)], h) := by
  refine call_wp (fn := f16) rfl rfl ?_
  have hlen := G.len
  have hzl : l.zipIdx.length = l.length := by simp
  have hck := fun h => chk_ok F h
  rw [hc] at hck
  obtain ⟨m, q, hm, hq, hloop⟩ := loop_acc (T := tab) (a := f16l0) (l := l.zipIdx) (fun _ => deadF d ts l) eI 1 8 (fun n r => [(0, .d (eDs d)), (1, .d (eIs ts)), (2, .d (eRs l)), (9, r), (19, .d (eRs l)), (20, .d (.int .i64 (l.length : Int))), (21, .d (.int .i64 (n : Int)))]) (h := h) (n0 := h.next) (x1 := .exit 0) (e1 := fun r => [(0, .d (eDs d)), (1, .d (eIs ts)), (2, .d (eRs l)), (9, r), (19, .d (eRs l)), (20, .d (.int .i64 (l.length : Int))), (21, .d (.int .i64 (l.length : Int))), (22, .d (.bool false))]) (Nat.le_refl _)
    (fun _ => rfl) (by rw [hzl]; simp only [roomB]; omega)
    (by
      intro n x s m q hx hlt hs hsl hG
      obtain ⟨hx, hxn⟩ := zip_ix hx
      rw [hzl] at hlt
      have hu := fun h => G.use hx h
      simp only [deadF, hxn] at hG
      have hk : usS d 5001 ts (l.take n) x.1 = true := by
        cases hk : usS d 5001 ts (l.take n) x.1 with
        | true => rfl
        | false => rw [if_neg (by rw [hk]; simp)] at hG; cases hG
      rw [hk] at hu
      (simp only [hlt, e16, slc_take l (Nat.le_of_lt hlt), iaR hx, hu, rowQ_next, rowQ_mk, wrap_succ (show n < 2 ^ 62 by omega), wz, opX, intBin, ↓reduceIte, simprocAttr] <;> repeat' (first | refine wpG_s ?_ ?_ | refine wpC_s ?_ ?_) <;> intro hgo <;> (try simp only [dq] at hgo) <;> simp only [hgo, hlt, e16, slc_take l (Nat.le_of_lt hlt), iaR hx, hu, rowQ_next, rowQ_mk, wrap_succ (show n < 2 ^ 62 by omega), wz, opX, intBin, ↓reduceIte, simprocAttr])
      exact ⟨_, rfl, by omega⟩)
    (by
      intro n x y s m q hx hlt hs hsl hG happ
      obtain ⟨hx, hxn⟩ := zip_ix hx
      rw [hzl] at hlt
      have hu := fun h => G.use hx h
      simp only [deadF, hxn] at hG
      have hk : usS d 5001 ts (l.take n) x.1 = false := by
        cases hk : usS d 5001 ts (l.take n) x.1 with
        | false => rfl
        | true => rw [if_pos hk] at hG; cases hG
      rw [if_neg (by rw [hk]; simp)] at hG
      cases hG
      rw [hk] at hu
      (simp only [hlt, e16, slc_take l (Nat.le_of_lt hlt), iaR hx, hu, happ, rowQ_next, rowQ_mk, wrap_succ (show n < 2 ^ 62 by omega), wz, opX, intBin, ↓reduceIte, simprocAttr] <;> repeat' (first | refine wpG_s ?_ ?_ | refine wpC_s ?_ ?_) <;> intro hgo <;> (try simp only [dq] at hgo) <;> simp only [hgo, hlt, e16, slc_take l (Nat.le_of_lt hlt), iaR hx, hu, happ, rowQ_next, rowQ_mk, wrap_succ (show n < 2 ^ 62 by omega), wz, opX, intBin, ↓reduceIte, simprocAttr])
      exact ⟨_, _, ⟨rfl, rfl⟩, by omega, Nat.le_refl _⟩)
    (by
      intro m q
      rw [hzl]
      (simp only [e16, wz, opX, intBin, ↓reduceIte, simprocAttr] <;> repeat' (first | refine wpG_s ?_ ?_ | refine wpC_s ?_ ?_) <;> intro hgo <;> (try simp only [dq] at hgo) <;> simp only [hgo, e16, wz, opX, intBin, ↓reduceIte, simprocAttr])
      exact ⟨_, rfl, by omega⟩)
    (by simp)
  rw [accL_fm] at hloop hm
  simp only [Int.cast_ofNat_Int] at hloop
  have hfm : l.zipIdx.filterMap (deadF d ts l) = deadS d ts l := rfl
  rw [hfm] at hloop hm
  have hfin : finS h (rowQ h m 1 ((deadS d ts l).map eI) q) [rowN m 1 ((deadS d ts l).map eI), .d (.int .i64 0)] = some (.tup [.d (eIs (deadS d ts l)), .d (eI 0)], h) := by
    rw [finS, if_pos (rowQ_suf h m 1 _ q)]
    simp only [List.mapM_cons, List.mapM_nil, back1, rowQ_deep h _ q (fun e => (hm e).1)]
    rfl
  (simp only [e16, hck, ibne, wq_of hloop, hfin, wz, opX, intBin, ↓reduceIte, simprocAttr] <;> repeat' (first | refine wpG_s ?_ ?_ | refine wpC_s ?_ ?_) <;> intro hgo <;> (try simp only [dq] at hgo) <;> simp only [hgo, e16, hck, ibne, wq_of hloop, hfin, wz, opX, intBin, ↓reduceIte, simprocAttr])
end
theorem dead_bad {d : List Dt} {ts : List Int} {l : List (List Pt)} (F : Rng d ts l) (hc : chk27 d ts l ≠ 0) (h : Hp) : callW tab 16 [.d (eDs d), .d (eIs ts), .d (eRs l)] h = some (.tup [.d (eIs []), .d (eI (chk27 d ts l))], h) := by
  refine call_wp (fn := f16) rfl rfl ?_
  have hck := fun h => chk_ok F h
  (simp only [e16, hck, ibne, hc, wz, opX, intBin, ↓reduceIte, simprocAttr] <;> repeat' (first | refine wpG_s ?_ ?_ | refine wpC_s ?_ ?_) <;> intro hgo <;> (try simp only [dq] at hgo) <;> simp only [hgo, e16, hck, ibne, hc, wz, opX, intBin, ↓reduceIte, simprocAttr])
  rw [finS, if_pos (suf_refl _)]
  rfl
mutual
theorem nw_cntP : ∀ p : Pt, nwP p ≤ cntP p
  | .mk k c m qs => by
    rw [nwP, cntP]
    have := nw_cntL qs
    split <;> omega
theorem nw_cntL : ∀ l : List Pt, nwL l ≤ cntL l
  | [] => Nat.le_refl _
  | p :: r => by
    rw [nwL, cntL]
    have := nw_cntP p
    have := nw_cntL r
    omega
end
theorem nw_sum : ∀ l : List (List Pt), nwS l ≤ sumC l
  | [] => Nat.le_refl _
  | r :: l => by
    rw [nwS, sumC]
    have := nw_cntL r
    have := nw_sum l
    omega
theorem gd_of {d : List Dt} {ts : List Int} {l : List (List Pt)} (S : Sml d) (ht : ts.length ≤ 10) (hl : l.length ≤ 9) (hs : sumC l ≤ 60) (hc : chk27 d ts l = 0) : Gd d ts l := by
  have hw := nw_sum l
  unfold chk27 at hc
  by_cases h1 : checkS d ≠ 0
  · rw [if_pos h1] at hc; cases hc
  rw [if_neg h1] at hc
  by_cases h2 : 8 < ts.length ∨ 64 < l.length
  · rw [if_pos h2] at hc; cases hc
  rw [if_neg h2] at hc
  by_cases h3 : ts.any (badT d) = true
  · rw [if_pos h3] at hc; cases hc
  rw [if_neg h3] at hc
  by_cases h4 : l.any deepR = true
  · rw [if_pos h4] at hc; cases hc
  rw [if_neg h4] at hc
  by_cases h5 : l.any (badR d ts) = true
  · rw [if_pos h5] at hc; cases hc
  refine ⟨S, check_typed (Decidable.not_not.1 h1), fun t hm => ?_, fun r hr => ?_, by omega, by omega⟩
  · cases hb : isT d t with
    | true => rfl
    | false => exact absurd (List.any_eq_true.2 ⟨t, hm, by rw [badT, hb]; rfl⟩) h3
  · cases hb : badR d ts r with
    | true => exact absurd (List.any_eq_true.2 ⟨r, hr, hb⟩) h5
    | false =>
      unfold badR at hb
      rw [← fitsL_any] at hb
      simp only [Bool.not_eq_false', Bool.and_eq_true, decide_eq_true_eq] at hb
      exact fitR_of_L hb.1.symm hb.2
-- wz, opX, intBin, ↓reduceIte, simprocAttr
end Zc27
end
section
set_option linter.unusedSimpArgs false
set_option linter.unusedVariables false
set_option linter.unusedSimpArgs false
set_option maxHeartbeats 4000000
namespace Zc27
open Go Zv Zs

theorem app_tl_d (es b : Nat) (h : Hp) (s : V) (x : D) (nl : Option Bool) : app es b h s (.tl [.d x] nl) = app es b h s (.d (.lst [x])) := by
  unfold app; rfl
theorem rcells {l : List (List Pt)} : ∀ y, y ∈ l.map ePs → y.cells.length = 1 := by
  intro y hy
  obtain ⟨p, _, rfl⟩ := List.mem_map.1 hy
  rfl
theorem cloneR_ok (l : List (List Pt)) (hl : l.length ≤ 1000000) (h : Hp) : callW tab 43 [.d (eRs l)] h = some (cloV none h.next 1 (l.map ePs), cloO h.objs h.next 1 (l.map ePs)) := by
  refine call_wp (fn := f43) rfl rfl ?_
  have hb : wp tab b43 (args 0 [.d (eRs l)]) h (· = (.ret, [(2, cloV none h.next 1 (l.map ePs))], cloO h.objs h.next 1 (l.map ePs))) := by
    cases l with
    | nil =>
      have hn0 : nilBin NK.s BinOp.eql (.d (eRs [])) = some .ub := rfl
      have happ : app 1 24 h (.tl [] (some false)) (.d (.lst [])) = some (.tl [] (some false), h) := rfl
      (simp only [e43, wz, opX, intBin, ↓reduceIte, simprocAttr] <;> repeat' (first | refine wpG_s ?_ ?_ | refine wpC_s ?_ ?_) <;> intro hgo <;> (try simp only [dq] at hgo) <;> simp only [hgo, e43, wz, opX, intBin, ↓reduceIte, simprocAttr])
      refine wq_ex.2 (ex_ambU (e1 := [(0, .d (.lst [])), (4, .ub)]) (h1 := h) (o := (.ret, [(2, .tl [] (some true))], h)) (q := (.ret, [(2, .tl [] (some false))], h)) ?_ rfl ?_ ?_ ?_)
      · apply wq_ex.1; (simp only [e43, hn0, wz, opX, intBin, ↓reduceIte, simprocAttr] <;> repeat' (first | refine wpG_s ?_ ?_ | refine wpC_s ?_ ?_) <;> intro hgo <;> (try simp only [dq] at hgo) <;> simp only [hgo, e43, hn0, wz, opX, intBin, ↓reduceIte, simprocAttr])
        rfl
      · apply wq_ex.1; (simp only [e43, wz, opX, intBin, ↓reduceIte, simprocAttr] <;> repeat' (first | refine wpG_s ?_ ?_ | refine wpC_s ?_ ?_) <;> intro hgo <;> (try simp only [dq] at hgo) <;> simp only [hgo, e43, wz, opX, intBin, ↓reduceIte, simprocAttr])
      · apply wq_ex.1; (simp only [e43, happ, wz, opX, intBin, ↓reduceIte, simprocAttr] <;> repeat' (first | refine wpG_s ?_ ?_ | refine wpC_s ?_ ?_) <;> intro hgo <;> (try simp only [dq] at hgo) <;> simp only [hgo, e43, happ, wz, opX, intBin, ↓reduceIte, simprocAttr])
      · unfold outJoin
        rw [if_pos ⟨rfl, objsBeq_refl _, rfl⟩]
        rfl
    | cons p r =>
      have happ := tl_app (nl := some false) (es := 1) (b := 24) (h := h) (r := (p :: r).map ePs) rcells (by simp only [roomB, List.length_map]; omega)
      rw [List.map_cons] at happ
      have hn0 : nilBin NK.s BinOp.eql (.d (eRs (p :: r))) = some (.d (.bool false)) := rfl
      (simp only [e43, wz, opX, intBin, ↓reduceIte, simprocAttr] <;> repeat' (first | refine wpG_s ?_ ?_ | refine wpC_s ?_ ?_) <;> intro hgo <;> (try simp only [dq] at hgo) <;> simp only [hgo, e43, wz, opX, intBin, ↓reduceIte, simprocAttr])
      refine wq_ex.2 (ex_ambD (e1 := [(0, .d (.lst ((p :: r).map ePs))), (4, .d (.bool false))]) (h1 := h) false ?_ rfl ?_)
      · apply wq_ex.1; (simp only [e43, hn0, wz, opX, intBin, ↓reduceIte, simprocAttr] <;> repeat' (first | refine wpG_s ?_ ?_ | refine wpC_s ?_ ?_) <;> intro hgo <;> (try simp only [dq] at hgo) <;> simp only [hgo, e43, hn0, wz, opX, intBin, ↓reduceIte, simprocAttr])
        rfl
      · apply wq_ex.1; (simp only [e43, happ, wz, opX, intBin, ↓reduceIte, simprocAttr] <;> repeat' (first | refine wpG_s ?_ ?_ | refine wpC_s ?_ ?_) <;> intro hgo <;> (try simp only [dq] at hgo) <;> simp only [hgo, e43, happ, wz, opX, intBin, ↓reduceIte, simprocAttr])
        rfl
  obtain ⟨o, h1, rfl⟩ := hb
  exact ⟨_, h1, rfl⟩
theorem Useful_ok {d : List Dt} {ts : List Int} {l : List (List Pt)} {p : List Pt} (hl : l.length ≤ 1000) (F : Rng d ts (l ++ [p])) (G : chk27 d ts (l ++ [p]) = 0 → Gd d ts (l ++ [p])) (h : Hp) :
    callW tab 14 [.d (eDs d), .d (eIs ts), .d (eRs l), .d (ePs p)] h = some (.tup [.d (.bool (decide (chk27 d ts (l ++ [p]) = 0) && usS d 5001 ts l p)), .d (eI (chk27 d ts (l ++ [p])))], h) := by
  refine call_wp (fn := f14) rfl rfl ?_
  have hcl := fun h => cloneR_ok l (by omega) h
  have happ := fun (n : Nat) (o : List (Nat × Ob)) => clo_app (nl := none) (es := 1) (b := 24) (n := n) (o := o) (l := l.map ePs) (r := [ePs p]) rcells (rcells (l := [p])) (by simp only [roomB, List.length_map, List.length_cons, List.length_nil]; omega)
  have e0 : l.map ePs ++ [ePs p] = (l ++ [p]).map ePs := by simp
  simp only [e0] at happ
  have hfz := fun (n : Nat) (o : List (Nat × Ob)) => clo_frz (nl := none) (es := 1) (n := n) (o := o) (l := (l ++ [p]).map ePs)
  have hck := fun h => chk_ok F h
  by_cases hc : chk27 d ts (l ++ [p]) = 0
  · have g := G hc
    have hx : (l ++ [p])[l.length]? = some p := by simp
    have hu := fun h => g.use hx h
    rw [List.take_left] at hu
    rw [hc] at hck ⊢
    rw [show (decide ((0 : Int) = 0) && usS d 5001 ts l p) = usS d 5001 ts l p from Bool.true_and _]
    (simp only [e14, hcl, app_tl_d, happ, hfz, hck, hu, ibne, wz, opX, intBin, ↓reduceIte, simprocAttr] <;> repeat' (first | refine wpG_s ?_ ?_ | refine wpC_s ?_ ?_) <;> intro hgo <;> (try simp only [dq] at hgo) <;> simp only [hgo, e14, hcl, app_tl_d, happ, hfz, hck, hu, ibne, wz, opX, intBin, ↓reduceIte, simprocAttr])
  · rw [decide_eq_false hc, Bool.false_and]
    (simp only [e14, hcl, app_tl_d, happ, hfz, hck, ibne, hc, wz, opX, intBin, ↓reduceIte, simprocAttr] <;> repeat' (first | refine wpG_s ?_ ?_ | refine wpC_s ?_ ?_) <;> intro hgo <;> (try simp only [dq] at hgo) <;> simp only [hgo, e14, hcl, app_tl_d, happ, hfz, hck, ibne, hc, wz, opX, intBin, ↓reduceIte, simprocAttr])
-- wz, opX, intBin, ↓reduceIte, simprocAttr
end Zc27
end
section
set_option linter.unusedSimpArgs false
set_option linter.unusedVariables false
set_option linter.unusedSimpArgs false
set_option maxHeartbeats 4000000
namespace Zc27
open Go Zv Zs

theorem low_nil {q : Nat} : Low ⟨[], q⟩ := fun _ _ => rfl
theorem sumC_app : ∀ (l : List (List Pt)) (p : List Pt), sumC (l ++ [p]) = sumC l + cntL p
  | [], p => by simp [sumC]
  | r :: l, p => by rw [List.cons_append, sumC, sumC, sumC_app l p]; omega
theorem chk_sub {d : List Dt} {ts : List Int} {l : List (List Pt)} {p : List Pt} (h : chk27 d ts (l ++ [p]) = 0) : chk27 d ts l = 0 := by
  unfold chk27 at h ⊢
  rw [List.length_append, List.any_append, List.any_append] at h
  by_cases h1 : checkS d ≠ 0
  · rw [if_pos h1] at h; cases h
  rw [if_neg h1] at h ⊢
  by_cases h2 : 8 < ts.length ∨ 64 < l.length + [p].length
  · rw [if_pos h2] at h; cases h
  rw [if_neg h2] at h
  rw [if_neg (fun e => h2 (e.imp id fun e => by omega))]
  by_cases h3 : ts.any (badT d) = true
  · rw [if_pos h3] at h; cases h
  rw [if_neg h3] at h ⊢
  by_cases h4 : l.any deepR = true
  · rw [h4, Bool.true_or, if_pos rfl] at h; cases h
  rw [if_neg h4]
  by_cases h5 : l.any (badR d ts) = true
  · rw [h5, Bool.true_or] at h
    split at h
    · cases h
    · rw [if_pos rfl] at h; cases h
  rw [if_neg h5]
theorem useful_law {d : List Dt} {ts : List Int} {l : List (List Pt)} {p : List Pt} (hl : (l.length + 1) * 24 ≤ roomB) :
    callW tab 4 [.d (.agg [eDs d, eIs ts, eRs l, ePs p])] ⟨[], 0⟩ = some (.d (.bool true), ⟨[], 0⟩) := by
  refine call_wp (fn := f4) rfl rfl ?_
  have aw : ∀ q, callW tab 10 [] ⟨[], q⟩ = some (.d (.bool true), ⟨[], q⟩) := fun q => awake_any low_nil
  have e0 : l.map ePs ++ [ePs p] = (l ++ [p]).map ePs := by simp
  have h1 := fun (h : Hp) => tl_app (nl := some false) (es := 1) (b := 24) (h := h) (r := l.map ePs) rcells (by rw [List.length_map]; omega)
  have happ := fun (n : Nat) (o : List (Nat × Ob)) => clo_app (nl := some false) (es := 1) (b := 24) (n := n) (o := o) (l := l.map ePs) (r := [ePs p]) rcells (rcells (l := [p])) (by simp only [List.length_map, List.length_cons, List.length_nil]; omega)
  simp only [e0] at happ
  have hfz : ∀ (n : Nat) (o : List (Nat × Ob)), frz (cloO o n 1 ((l ++ [p]).map ePs)) (cloV (some false) n 1 ((l ++ [p]).map ePs)) = some (.d (eRs (l ++ [p])), ⟨o, n + 1⟩) := by
    intro n o
    rw [clo_frz, if_neg (by simp)]
  obtain ⟨b, hf, hb⟩ := few_ok d ts (l ++ [p]) ⟨[], 2⟩
  cases b with
  | false => (simp only [e4, aw, h1, app_tl_d, happ, hfz, hf, wz, opX, intBin, ↓reduceIte, simprocAttr] <;> repeat' (first | refine wpG_s ?_ ?_ | refine wpC_s ?_ ?_) <;> intro hgo <;> (try simp only [dq] at hgo) <;> simp only [hgo, e4, aw, h1, app_tl_d, happ, hfz, hf, wz, opX, intBin, ↓reduceIte, simprocAttr])
  | true =>
    have F := hb rfl
    have hcnt := F.cnt
    have hrw := F.rows
    rw [sumC_app] at hcnt
    rw [List.length_append, List.length_cons, List.length_nil] at hrw
    have Fl : Few d ts l := ⟨F.sml, F.ts, by omega, by omega⟩
    have r1 := fun h => rows_ok l (by omega) (fun r hr => by have := sumC_mem hr; omega) h
    have r2 := fun h => row_ok 1000 p (by omega) (Nat.le_refl _) h
    have r3 := fun h => Useful_ok (d := d) (ts := ts) (l := l) (p := p) (by omega) F.rng (fun hc => gd_of F.sml F.ts (by rw [List.length_append, List.length_cons, List.length_nil]; omega) F.cnt hc) h
    have c1 := fun h => rchk_ok Fl.rng h
    have c2 := fun h => rchk_ok F.rng h
    by_cases hc : chk27 d ts l = 0
    · have gl := gd_of F.sml F.ts (by omega) (by omega) hc
      have d1 := fun h => dead_ok gl Fl.rng hc h
      have d2 := fun h => rdead_ok gl h
      have hdl : (deadS d ts l).length ≤ 1000 := by
        have := fm_len (deadF d ts l) l.zipIdx
        rw [List.length_zipIdx] at this
        unfold deadS
        omega
      obtain ⟨u, hu⟩ : ∃ u : Bool, u = (decide (chk27 d ts (l ++ [p]) = 0) && usS d 5001 ts l p) := ⟨_, rfl⟩
      rw [← hu] at r3
      have hloop := loop_all (T := tab) (a := f4l0) (l := (deadS d ts l)) (f := fun n => [(3, .d (eDs d)), (4, .d (eIs ts)), (5, .d (eRs l)), (6, .d (ePs p)), (7, .d (eRs (l ++ [p]))), (8, .d (.bool u)), (9, .d (eI (chk27 d ts (l ++ [p])))), (10, .d (eIs (deadS d ts l))), (13, .d (eIs (deadS d ts l))), (14, int n)]) (h := ⟨[], 2⟩)
          (by intro n x hx hlt; all_goals (apply wq_ex.1; (simp only [hlt, e4, iaI hx, ibne, wrap_succ (show n < 2 ^ 62 by omega), wz, opX, intBin, ↓reduceIte, simprocAttr] <;> repeat' (first | refine wpG_s ?_ ?_ | refine wpC_s ?_ ?_) <;> intro hgo <;> (try simp only [dq] at hgo) <;> simp only [hgo, hlt, e4, iaI hx, ibne, wrap_succ (show n < 2 ^ 62 by omega), wz, opX, intBin, ↓reduceIte, simprocAttr])))
          (by apply wq_ex.1; (simp only [e4, wz, opX, intBin, ↓reduceIte, simprocAttr] <;> repeat' (first | refine wpG_s ?_ ?_ | refine wpC_s ?_ ?_) <;> intro hgo <;> (try simp only [dq] at hgo) <;> simp only [hgo, e4, wz, opX, intBin, ↓reduceIte, simprocAttr]) <;> rfl)
          (by simp)
      simp only [int, Zv.bool, Int.cast_ofNat_Int] at hloop
      by_cases hcw : chk27 d ts (l ++ [p]) = 0
      · have g := gd_of F.sml F.ts (by rw [List.length_append, List.length_cons, List.length_nil]; omega) F.cnt hcw
        have hx : (l ++ [p])[l.length]? = some p := by simp
        have ru := fun h => g.ruse hx h
        rw [List.take_left] at ru
        rw [hcw, show (decide ((0 : Int) = 0) && usS d 5001 ts l p) = usS d 5001 ts l p from Bool.true_and _] at hu
        rw [← hu] at ru
        rw [hcw] at r3 c2 hloop
        rw [hc] at c1
        (simp only [e4, aw, h1, app_tl_d, happ, hfz, hf, r1, r2, r3, c1, c2, d1, d2, ru, ibne, ibeq, wq_of hloop, wz, opX, intBin, ↓reduceIte, simprocAttr] <;> repeat' (first | refine wpG_s ?_ ?_ | refine wpC_s ?_ ?_) <;> intro hgo <;> (try simp only [dq] at hgo) <;> simp only [hgo, e4, aw, h1, app_tl_d, happ, hfz, hf, r1, r2, r3, c1, c2, d1, d2, ru, ibne, ibeq, wq_of hloop, wz, opX, intBin, ↓reduceIte, simprocAttr])
      · rw [decide_eq_false hcw, Bool.false_and] at hu
        subst hu
        rw [hc] at c1
        (simp only [e4, aw, h1, app_tl_d, happ, hfz, hf, r1, r2, r3, c1, c2, d1, d2, ibne, ibeq, hcw, wq_of hloop, wz, opX, intBin, ↓reduceIte, simprocAttr] <;> repeat' (first | refine wpG_s ?_ ?_ | refine wpC_s ?_ ?_) <;> intro hgo <;> (try simp only [dq] at hgo) <;> simp only [hgo, e4, aw, h1, app_tl_d, happ, hfz, hf, r1, r2, r3, c1, c2, d1, d2, ibne, ibeq, hcw, wq_of hloop, wz, opX, intBin, ↓reduceIte, simprocAttr])
    · have hcw : chk27 d ts (l ++ [p]) ≠ 0 := fun e => hc (chk_sub e)
      have hd := fun h => dead_bad Fl.rng hc h
      simp only [decide_eq_false hcw, Bool.false_and] at r3
      (simp only [e4, aw, h1, app_tl_d, happ, hfz, hf, r1, r2, r3, c1, hd, ibne, ibeq, hc, wz, opX, intBin, ↓reduceIte, simprocAttr] <;> repeat' (first | refine wpG_s ?_ ?_ | refine wpC_s ?_ ?_) <;> intro hgo <;> (try simp only [dq] at hgo) <;> simp only [hgo, e4, aw, h1, app_tl_d, happ, hfz, hf, r1, r2, r3, c1, hd, ibne, ibeq, hc, wz, opX, intBin, ↓reduceIte, simprocAttr])
-- wz, opX, intBin, ↓reduceIte, simprocAttr
end Zc27
end
section
set_option linter.unusedSimpArgs false
set_option linter.unusedVariables false
set_option linter.unusedSimpArgs false
namespace Zc27
open Go Zv Zs
theorem matrixUseful : ∀ x0 : D, ok (EE Zc27.es) (.st [.l 0, .l 2, .l 3, .l 4]) x0 → wt Zc27.bys (.st [.l 0, .l 2, .l 3, .l 4]) x0 → ∃ h', callW Zc27.tab 4 [.d x0] ⟨[], 0⟩ = some (.d (.bool true), h') := by
  intro x0 h0 w0
  obtain ⟨ys, rfl, h0⟩ := ok_st h0
  obtain ⟨y0, r0, rfl, a0, h0⟩ := okCs_cons h0
  obtain ⟨y1, r1, rfl, a1, h0⟩ := okCs_cons h0
  obtain ⟨y2, r2, rfl, a2, h0⟩ := okCs_cons h0
  obtain ⟨y3, r3, rfl, a3, h0⟩ := okCs_cons h0
  cases okCs_nil h0
  obtain ⟨d, rfl, hd⟩ := okDs' a0
  obtain ⟨ts, rfl, ht⟩ := okIs a1
  obtain ⟨l, rfl, hl⟩ := okRs a2
  obtain ⟨p, rfl, hp⟩ := okPs a3
  have hw := w0 2 3 (l.map ePs) 24 rfl rfl rfl
  refine ⟨_, useful_law ?_⟩
  rw [List.length_map] at hw
  have h1 : reachBytes = 140737488351232 := rfl
  have h2 : roomB = 140737488355328 := rfl
  omega
-- wz, opX, intBin, ↓reduceIte, simprocAttr
end Zc27
end
