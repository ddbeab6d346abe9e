/-
  Parts of the proof.
-/
import Derived.Test.YthhjecfimfookaaZxFun
import Derived.ChangeArms
import Derived.WideShapes
import Derived.RowKit
import Derived.ChangeMaps5
import Derived.OpenShut
import Derived.ChangeOld
import Derived.Below
import Derived.Test.YthhjecfimfookaaZxOpG
import Derived.Test.YthhjecfimfookaaZxComm
import Derived.Test.YthhjecfimfookaaTab
import Derived.Test.YthhjecfimfookaaChecked
import Derived.SizedLaws
import Derived.KernelRfl
section
set_option linter.unusedSimpArgs false
set_option linter.unusedVariables false
set_option linter.unusedSimpArgs false
namespace Zv
open Go

/-- Types of cells, and of elements. -/
inductive CT where
  | b
  | i (k : IntKind)
  | s
  | l (e : Nat)
  deriving Inhabited
inductive ET where
  | one (c : CT)
  | st (cs : List CT)
  deriving Inhabited

mutual
def ok (E : Nat → ET) : ET → D → Prop
  | .one .b, .bool _ => True
  | .one (.i k), .int k' n => k' = k ∧ (Lit.int k n).wf = true
  | .one .s, .str s => s.size ≤ maxLen
  | .one (.l e), .lst xs => xs.length ≤ maxLen ∧ okEs E (E e) xs
  | .st cs, .agg ys => okCs E cs ys
  | _, _ => False
def okEs (E : Nat → ET) (t : ET) : List D → Prop
  | [] => True
  | x :: r => ok E t x ∧ okEs E t r
def okCs (E : Nat → ET) : List CT → List D → Prop
  | [], [] => True
  | c :: cs, y :: ys => ok E (.one c) y ∧ okCs E cs ys
  | _, _ => False
end

theorem okEs_app {E : Nat → ET} {t : ET} : ∀ {l r : List D}, okEs E t l → okEs E t r → okEs E t (l ++ r)
  | [], _, _, h => h
  | x :: l, r, h, k => by simp only [okEs] at h; exact (show ok E t x ∧ okEs E t (l ++ r) from ⟨h.1, okEs_app h.2 k⟩)

theorem ok_i {E : Nat → ET} {k : IntKind} {x : D} (h : ok E (.one (.i k)) x) : ∃ n, x = .int k n ∧ (Lit.int k n).wf = true := by
  cases x <;> simp [ok] at h
  obtain ⟨rfl, h⟩ := h
  exact ⟨_, rfl, h⟩
theorem ok_s {E : Nat → ET} {x : D} (h : ok E (.one .s) x) : ∃ s, x = .str s ∧ s.size ≤ maxLen := by
  cases x <;> simp [ok] at h
  exact ⟨_, rfl, h⟩
theorem ok_l {E : Nat → ET} {e : Nat} {x : D} (h : ok E (.one (.l e)) x) : ∃ l, x = .lst l ∧ l.length ≤ maxLen ∧ okEs E (E e) l := by
  cases x <;> simp [ok] at h
  exact ⟨_, rfl, h⟩
theorem ok_st {E : Nat → ET} {cs : List CT} {x : D} (h : ok E (.st cs) x) : ∃ l, x = .agg l ∧ okCs E cs l := by
  cases x <;> simp [ok] at h
  exact ⟨_, rfl, h⟩
theorem okCs_nil {E : Nat → ET} {l : List D} (h : okCs E [] l) : l = [] := by
  cases l <;> simp [okCs] at h
  rfl
theorem okCs_cons {E : Nat → ET} {c : CT} {cs : List CT} {l : List D} (h : okCs E (c :: cs) l) : ∃ y r, l = y :: r ∧ ok E (.one c) y ∧ okCs E cs r := by
  cases l <;> simp [okCs] at h
  exact ⟨_, _, rfl, h⟩

def flatF (P : Program) (g : TypeId → Option (List TypeId)) : List Field → Nat → Option (List TypeId)
  | [], _ => some []
  | f :: r, off => if f.offset = off then (match g f.type with
    | some a => if a.length = P.cellsOf f.type then (flatF P g r (off + a.length)).map fun q => a ++ q else none
    | none => none) else none
def flat (P : Program) : Nat → TypeId → Option (List TypeId)
  | 0, _ => none
  | n + 1, t => match P.underlying t with
    | some (.struct fs) => match flatF P (flat P n) fs.toList 0 with
      | some tl => if tl.length = P.cellsOf t then some tl else none
      | none => none
    | some .bool | some (.int _) | some .string | some (.slice _) => some [t]
    | _ => none

def mtCT (P : Program) (tys : List TypeId) (t : TypeId) : CT → Bool
  | .b => match P.underlying t with
    | some .bool => true
    | _ => false
  | .i k => match P.underlying t with
    | some (.int k') => decide (k' = k)
    | _ => false
  | .s => match P.underlying t with
    | some .string => true
    | _ => false
  | .l j => match P.underlying t with
    | some (.slice e) => decide (tys[j]? = some e)
    | _ => false
def mtCTs (P : Program) (tys : List TypeId) : List TypeId → List CT → Bool
  | [], [] => true
  | t :: ts, c :: cs => mtCT P tys t c && mtCTs P tys ts cs
  | _, _ => false
def mtET (P : Program) (tys : List TypeId) (t : TypeId) : ET → Bool
  | .one c => mtCT P tys t c
  | .st cs => (match P.underlying t with
    | some (.struct _) => true
    | _ => false) && (match flat P 12 t with
    | some tl => mtCTs P tys tl cs
    | none => false)
def mtEs (P : Program) (tys : List TypeId) : List TypeId → List ET → Bool
  | [], [] => true
  | t :: ts, e :: es => mtET P tys t e && !(P.cellsOf t == 0) && mtEs P tys ts es
  | _, _ => false

section
variable {H : Type} {enc : TypeId × Value → H} {P : Program} {w : World} {base : Nat} {sp : Nat → Bool} {held : Bool}

theorem trod_leaf {t : TypeId} {n : Nat} {cs : List Value} {x : DataW H × List MemPlace} (ht : P.underlying t = some .bool ∨ (∃ k, P.underlying t = some (.int k)) ∨ P.underlying t = some .string ∨ ∃ e, P.underlying t = some (.slice e))
    (h : DataW.trod enc P w base sp held n t cs = some x) : ∃ v, cs = [v] := by
  rcases ht with ht | ⟨k, ht⟩ | ht | ⟨e, ht⟩
  · obtain ⟨b, h1, _⟩ := DataW.trod_bool ht h; exact ⟨_, h1⟩
  · obtain ⟨b, h1, _⟩ := DataW.trod_int ht h; exact ⟨_, h1⟩
  · obtain ⟨b, h1, _⟩ := DataW.trod_string ht h; exact ⟨_, h1⟩
  · rcases DataW.trod_slice ht h with ⟨h1, _⟩ | ⟨a, len, cap, elems, rest, n, _, h1, _⟩
    · exact ⟨_, h1⟩
    · exact ⟨_, h1⟩

theorem flat_ok : ∀ (n : Nat) {t : TypeId} {tl : List TypeId}, flat P n t = some tl → ∀ (m : Nat) (cs : List Value) (x : DataW H × List MemPlace), DataW.trod enc P w base sp held m t cs = some x →
    cs.length = tl.length ∧ ∀ (i : Nat) (ty : TypeId) (v : Value), tl[i]? = some ty → cs[i]? = some v → ∃ m' x', m' ≤ m ∧ DataW.trod enc P w base sp held m' ty [v] = some x'
  | 0, _, _, h => by cases h
  | n + 1, t, tl, hf => by
    have leafCase : (P.underlying t = some .bool ∨ (∃ k, P.underlying t = some (.int k)) ∨ P.underlying t = some .string ∨ ∃ e, P.underlying t = some (.slice e)) → tl = [t] →
        ∀ (m : Nat) (cs : List Value) (x : DataW H × List MemPlace), DataW.trod enc P w base sp held m t cs = some x →
        cs.length = tl.length ∧ ∀ (i : Nat) (ty : TypeId) (v : Value), tl[i]? = some ty → cs[i]? = some v → ∃ m' x', m' ≤ m ∧ DataW.trod enc P w base sp held m' ty [v] = some x' := by
      rintro hl rfl m cs x h
      obtain ⟨v, rfl⟩ := trod_leaf hl h
      refine ⟨rfl, fun i ty u h1 h2 => ?_⟩
      cases i with
      | zero => simp at h1 h2; subst h1; subst h2; exact ⟨m, x, Nat.le_refl _, h⟩
      | succ i => simp at h1
    unfold flat at hf
    split at hf
    · rename_i fs ht
      split at hf
      · rename_i tl' hff
        split at hf
        · rename_i hlen
          cases hf
          intro m cs x h
          obtain ⟨xs, m', hm, _, hcl, hxl, hx⟩ := DataW.trod_struct ht h
          refine ⟨by rw [hcl, hlen], ?_⟩
          -- the fields from one on
          have go : ∀ (r : List Field) (k off : Nat) (q : List TypeId), fs.toList.drop k = r → flatF P (flat P n) r off = some q → ∀ (i : Nat) (ty : TypeId) (v : Value), q[i]? = some ty → cs[off + i]? = some v → ∃ m' x', m' ≤ m ∧ DataW.trod enc P w base sp held m' ty [v] = some x' := by
            intro r
            induction r with
            | nil => intro k off q _ hq i ty v h1; cases hq; simp at h1
            | cons f r ih =>
              intro k off q hk hq i ty v h1 h2
              have hfk : fs[k]? = some f := by
                have : (fs.toList.drop k)[0]? = some f := by rw [hk]; rfl
                rw [List.getElem?_drop, Nat.add_zero] at this
                rw [← Array.getElem?_toList]; exact this
              have hklt : k < fs.size := (Array.getElem?_eq_some_iff.1 hfk).1
              simp only [flatF] at hq
              split at hq
              · rename_i hoff
                split at hq
                · rename_i a ha
                  split at hq
                  · rename_i hal
                    simp only [Option.map_eq_some_iff] at hq
                    obtain ⟨q', hq', rfl⟩ := hq
                    have hxk := hx k f hfk
                    have hsome : xs[k]? = some (xs[k]'(by omega)) := by simp [show k < xs.length by omega]
                    rw [hsome] at hxk
                    obtain ⟨hl1, hl2⟩ := flat_ok n ha _ _ _ hxk
                    by_cases hia : i < a.length
                    · rw [List.getElem?_append_left hia] at h1
                      obtain ⟨m2, x2, hm2, hx2⟩ := hl2 i ty v h1 (by
                        rw [List.getElem?_take_of_lt (by omega), List.getElem?_drop, hoff]; exact h2)
                      exact ⟨m2, x2, by omega, hx2⟩
                    · rw [List.getElem?_append_right (by omega)] at h1
                      exact ih (k + 1) (off + a.length) q' (by rw [← List.drop_drop, hk]; rfl) hq' (i - a.length) ty v h1 (by rw [show off + a.length + (i - a.length) = off + i by omega]; exact h2)
                  · cases hq
                · cases hq
              · cases hq
          exact fun i ty v h1 h2 => go fs.toList 0 0 tl (by simp) hff i ty v h1 (by rw [Nat.zero_add]; exact h2)
        · cases hf
      · cases hf
    · rename_i ht; cases hf; exact leafCase (.inl ht) rfl
    · rename_i k ht; cases hf; exact leafCase (.inr (.inl ⟨k, ht⟩)) rfl
    · rename_i ht; cases hf; exact leafCase (.inr (.inr (.inl ht))) rfl
    · rename_i e ht; cases hf; exact leafCase (.inr (.inr (.inr ⟨e, ht⟩))) rfl
    · cases hf

theorem cells?_spec {a : Addr} : ∀ {n : Nat} {cs : List Value}, w.cells? base a n = some cs → cs.length = n ∧ ∀ i, i < n → ∃ v, cs[i]? = some v ∧ w.cell? (a.add i) = some v := by
  intro n cs h
  unfold World.cells? at h
  split at h
  · have hl : cs.length = n := by have := mapM_length h; simpa using this
    refine ⟨hl, fun i hi => ?_⟩
    have hget : ∀ (l : List Nat) (r : List Value), l.mapM (fun i => w.cell? (a.add i)) = some r → ∀ (i j : Nat), l[i]? = some j → ∃ v, r[i]? = some v ∧ w.cell? (a.add j) = some v := by
      intro l
      induction l with
      | nil => intro r _ i j hj; simp at hj
      | cons x l ih =>
        intro r hr i j hj
        obtain ⟨b, s, h1, h2, rfl⟩ := mapM_cons hr
        cases i with
        | zero => simp at hj; subst hj; exact ⟨b, rfl, h1⟩
        | succ i => exact ih s h2 i j (by simpa using hj)
    exact hget _ _ h i i (by simp [hi])
  · cases h

theorem mtEs_at {tys : List TypeId} : ∀ {ts : List TypeId} {es : List ET} {j : Nat} {e : TypeId}, mtEs P tys ts es = true → ts[j]? = some e → ∃ et, es[j]? = some et ∧ mtET P tys e et = true ∧ P.cellsOf e ≠ 0
  | [], _, _, _, _, h => by simp at h
  | t :: ts, [], _, _, hm, _ => by cases hm
  | t :: ts, x :: es, j, e, hm, h => by
    simp only [mtEs, Bool.and_eq_true] at hm
    cases j with
    | zero => simp at h; subst h; exact ⟨x, rfl, hm.1.1, by simpa using hm.1.2⟩
    | succ j =>
      obtain ⟨et, h1, h2⟩ := mtEs_at hm.2 (by simpa using h)
      exact ⟨et, by simpa using h1, h2⟩

theorem mtCTs_at {tys : List TypeId} : ∀ {tl : List TypeId} {cs : List CT}, mtCTs P tys tl cs = true → cs.length = tl.length ∧ ∀ (i : Nat) (c : CT), cs[i]? = some c → ∃ ty, tl[i]? = some ty ∧ mtCT P tys ty c = true
  | [], [], _ => ⟨rfl, fun i c h => by simp at h⟩
  | t :: ts, x :: cs, hm => by
    simp only [mtCTs, Bool.and_eq_true] at hm
    obtain ⟨h1, h2⟩ := mtCTs_at hm.2
    refine ⟨by simp [h1], fun i c hc => ?_⟩
    cases i with
    | zero => simp at hc; subst hc; exact ⟨t, rfl, hm.1⟩
    | succ i => obtain ⟨ty, k1, k2⟩ := h2 i c (by simpa using hc); exact ⟨ty, by simpa using k1, k2⟩
  | [], _ :: _, h => by cases h
  | _ :: _, [], h => by cases h

def EE (es : List ET) (j : Nat) : ET := es.getD j (.one .b)

/-- What is read of a cell, and of an element, is pure data. -/
theorem trod_rep {tys : List TypeId} {es : List ET} (hE : mtEs P tys tys es = true) : ∀ (n : Nat),
    (∀ (t : TypeId) (c : CT) (v : Value) (x : DataW H × List MemPlace), mtCT P tys t c = true → DataW.trod enc P w base sp held n t [v] = some x → ∃ d, ok (EE es) (.one c) d ∧ RepD (fun b => w.heap[b]?) d v ∧ leaf v ∧ d.cells = [d]) ∧
    (∀ (t : TypeId) (et : ET) (cs : List Value) (x : DataW H × List MemPlace), mtET P tys t et = true → DataW.trod enc P w base sp held n t cs = some x → ∃ d, ok (EE es) et d ∧ RepDs (fun b => w.heap[b]?) d.cells cs ∧ d.cells.length = cs.length ∧ (∀ c, et = .one c → ∃ v, cs = [v] ∧ RepD (fun b => w.heap[b]?) d v ∧ leaf v)) := by
  intro n
  induction n using Nat.strongRecOn with
  | _ n ih =>
    have hC : ∀ (t : TypeId) (c : CT) (v : Value) (x : DataW H × List MemPlace), mtCT P tys t c = true → DataW.trod enc P w base sp held n t [v] = some x → ∃ d, ok (EE es) (.one c) d ∧ RepD (fun b => w.heap[b]?) d v ∧ leaf v ∧ d.cells = [d] := by
      intro t c v x hm h
      cases c with
      | b =>
        simp only [mtCT] at hm
        split at hm
        · rename_i ht
          obtain ⟨b, h1, _⟩ := DataW.trod_bool ht h
          cases h1
          exact ⟨.bool b, by simp [ok], .bool b, trivial, rfl⟩
        · cases hm
      | i k =>
        simp only [mtCT] at hm
        split at hm
        · rename_i k' ht
          have := of_decide_eq_true hm
          subst this
          obtain ⟨q, h1, _, h2⟩ := DataW.trod_int ht h
          cases h1
          exact ⟨.int k' q, by simp [ok, h2], .int k' q, trivial, rfl⟩
        · cases hm
      | s =>
        simp only [mtCT] at hm
        split at hm
        · rename_i ht
          obtain ⟨s, h1, _, h2⟩ := DataW.trod_string ht h
          cases h1
          exact ⟨.str s, by simpa [ok] using h2, .str s, trivial, rfl⟩
        · cases hm
      | l j =>
        simp only [mtCT] at hm
        split at hm
        · rename_i e ht
          have hj := of_decide_eq_true hm
          obtain ⟨et, he1, he2, he3⟩ := mtEs_at hE hj
          rcases DataW.trod_slice ht h with ⟨h1, _⟩ | ⟨a, len, cap, elems, rest, m, hnm, h1, _, hb, hlc, hcm, hel, hat, _⟩
          · cases h1
            exact ⟨.lst [], by simp [ok, okEs], .lst [] 0 0 none [] (fun x hx => by cases hx) (Nat.le_refl _) .nil (.inl rfl), trivial, rfl⟩
          · cases h1
            -- the first k elements
            have build : ∀ k, k ≤ len → ∃ (xs : List D) (vs : List Value), xs.length = k ∧ vs.length = k * P.cellsOf e ∧ okEs (EE es) et xs ∧ (∀ x, x ∈ xs → x.cells.length = P.cellsOf e) ∧ RepDs (fun b => w.heap[b]?) (xs.flatMap D.cells) vs ∧
                ∀ j v, vs[j]? = some v → w.cell? ⟨a.block, a.off + j, none⟩ = some v ∧ a.spot = none := by
              intro k
              induction k with
              | zero => intro _; exact ⟨[], [], rfl, by simp, by simp [okEs], (fun x hx => by cases hx), .nil, fun j v hj => by simp at hj⟩
              | succ k ihk =>
                intro hk
                obtain ⟨xs, vs, b1, b2, b3, b4, b5, b6⟩ := ihk (by omega)
                have hak := hat k (by omega)
                have hsome : elems[k]? = some (elems[k]'(by omega)) := by simp [show k < elems.length by omega]
                rw [hsome, Option.bind_eq_some_iff] at hak
                obtain ⟨cs, hcs, htr⟩ := hak
                obtain ⟨hcl, hcat⟩ := cells?_spec hcs
                obtain ⟨d, d1, d2, d3, _⟩ := (ih m (by omega)).2 e et cs _ he2 htr
                refine ⟨xs ++ [d], vs ++ cs, by simp [b1], by rw [List.length_append, b2, hcl, Nat.add_mul, Nat.one_mul], okEs_app b3 (by simp [okEs, d1]), fun x hx => ?_, ?_, fun j v hj => ?_⟩
                · rcases List.mem_append.1 hx with hx | hx
                  · exact b4 x hx
                  · simp at hx; subst hx; rw [d3, hcl]
                · rw [List.flatMap_append]
                  refine b5.app ?_
                  simpa using d2
                · by_cases hjl : j < vs.length
                  · rw [List.getElem?_append_left hjl] at hj; exact b6 j v hj
                  · rw [List.getElem?_append_right (by omega)] at hj
                    have hlt : j - vs.length < P.cellsOf e := by have := (List.getElem?_eq_some_iff.1 hj).1; omega
                    obtain ⟨u, u1, u2⟩ := hcat (j - vs.length) hlt
                    rw [hj] at u1; cases u1
                    have hspot : ∀ b : Addr, w.cell? b = some v → b.spot = none := by
                      intro b hb'
                      unfold World.cell? at hb'
                      split at hb'
                      · split at hb'
                        · cases hb'
                        · rename_i hs; cases hq : b.spot with
                          | none => rfl
                          | some q => rw [hq] at hs; simp at hs
                      · cases hb'
                    -- the address
                    have haddr : (a.add (k * P.cellsOf e)).add (j - vs.length) = ⟨a.block, a.off + j, none⟩ := by
                      have hs := hspot _ u2
                      have hkj : k * P.cellsOf e + (j - vs.length) = j := by omega
                      obtain ⟨ab, ao, asp⟩ := a
                      unfold Addr.add at hs ⊢
                      by_cases hk0 : k * P.cellsOf e = 0
                      · simp only [hk0, if_true] at hs ⊢
                        by_cases hj0 : j - vs.length = 0
                        · simp only [hj0, if_true] at hs ⊢
                          subst hs
                          simp only [Addr.mk.injEq, true_and, and_true]; omega
                        · simp only [hj0, if_false]
                          simp only [Addr.mk.injEq, true_and, and_true]; omega
                      · simp only [hk0, if_false] at hs ⊢
                        by_cases hj0 : j - vs.length = 0
                        · simp only [hj0, if_true] at hs ⊢
                          simp only [Addr.mk.injEq, true_and, and_true]; omega
                        · simp only [hj0, if_false]
                          simp only [Addr.mk.injEq, true_and, and_true]; omega
                    rw [haddr] at u2
                    refine ⟨u2, ?_⟩
                    by_cases hk0 : k = 0
                    · subst hk0
                      -- the first cell of all
                      obtain ⟨u', _, u2'⟩ := hcat 0 (by omega)
                      have : (a.add (0 * P.cellsOf e)).add 0 = a := by simp [Addr.add]
                      rw [this] at u2'
                      unfold World.cell? at u2'
                      split at u2'
                      · split at u2'
                        · cases u2'
                        · rename_i hs; cases hq : a.spot with
                          | none => rfl
                          | some q => rw [hq] at hs; simp at hs
                      · cases u2'
                    · have hvl : 0 < vs.length := by rw [b2]; exact Nat.mul_pos (by omega) (by omega)
                      obtain ⟨_, hs⟩ := b6 0 vs[0] (by simp [hvl])
                      exact hs
            obtain ⟨xs, vs, b1, b2, b3, b4, b5, b6⟩ := build len (Nat.le_refl _)
            refine ⟨.lst xs, ?_, ?_, trivial, rfl⟩
            · simp only [ok]
              refine ⟨by omega, ?_⟩
              rw [show EE es j = et from by simp [EE, he1]]
              exact b3
            · subst b1
              refine .lst xs (P.cellsOf e) cap (some a) vs b4 hlc b5 ?_
              by_cases hx : xs = []
              · exact .inl hx
              · right
                have hxl : 0 < xs.length := List.length_pos_iff.2 hx
                have hvl : 0 < vs.length := by rw [b2]; exact Nat.mul_pos hxl (by omega)
                obtain ⟨_, hs⟩ := b6 0 vs[0] (by simp [hvl])
                refine ⟨a.block, a.off, by rw [← hs], fun j v hj => ?_⟩
                obtain ⟨hc, _⟩ := b6 j v hj
                unfold World.cell? at hc
                unfold cellφ
                simp only at hc ⊢
                split at hc
                · rename_i hh; rw [hh]; simpa using hc
                · cases hc
        · cases hm
    refine ⟨hC, fun t et cs x hm h => ?_⟩
    cases et with
    | one c =>
      simp only [mtET] at hm
      have hleaf : P.underlying t = some .bool ∨ (∃ k, P.underlying t = some (.int k)) ∨ P.underlying t = some .string ∨ ∃ e, P.underlying t = some (.slice e) := by
        cases c <;> simp only [mtCT] at hm <;> split at hm <;> first | cases hm | skip
        · exact .inl (by assumption)
        · exact .inr (.inl ⟨_, by assumption⟩)
        · exact .inr (.inr (.inl (by assumption)))
        · exact .inr (.inr (.inr ⟨_, by assumption⟩))
      obtain ⟨v, rfl⟩ := trod_leaf hleaf h
      obtain ⟨d, d1, d2, d3, d4⟩ := hC t c v x hm h
      exact ⟨d, d1, by rw [d4]; exact .cons _ _ _ _ d2 .nil d3, by rw [d4]; rfl, fun c' hc' => ⟨v, rfl, d2, d3⟩⟩
    | st ct =>
      simp only [mtET, Bool.and_eq_true] at hm
      obtain ⟨_, hm⟩ := hm
      split at hm
      · rename_i tl htl
        obtain ⟨hl, hfl⟩ := flat_ok 12 htl _ _ _ h
        obtain ⟨hl2, hct⟩ := mtCTs_at hm
        -- cell by cell
        have each : ∀ (i : Nat) (c : CT) (v : Value), ct[i]? = some c → cs[i]? = some v → ∃ d, ok (EE es) (.one c) d ∧ RepD (fun b => w.heap[b]?) d v ∧ leaf v := by
          intro i c v hc hv
          obtain ⟨ty, k1, k2⟩ := hct i c hc
          obtain ⟨m, x', hm', hx'⟩ := hfl i ty v k1 hv
          rcases Nat.lt_or_ge m n with hlt | hge
          · obtain ⟨d, d1, d2, d3, _⟩ := (ih m hlt).1 ty c v x' k2 hx'
            exact ⟨d, d1, d2, d3⟩
          · have : m = n := by omega
            subst this
            obtain ⟨d, d1, d2, d3, _⟩ := hC ty c v x' k2 hx'
            exact ⟨d, d1, d2, d3⟩
        have all : ∀ (ct : List CT) (cs : List Value), ct.length = cs.length → (∀ (i : Nat) (c : CT) (v : Value), ct[i]? = some c → cs[i]? = some v → ∃ d, ok (EE es) (.one c) d ∧ RepD (fun b => w.heap[b]?) d v ∧ leaf v) →
            ∃ ys, okCs (EE es) ct ys ∧ RepDs (fun b => w.heap[b]?) ys cs ∧ ys.length = cs.length := by
          intro ct
          induction ct with
          | nil => intro cs hl _; cases cs with
            | nil => exact ⟨[], by simp [okCs], .nil, rfl⟩
            | cons _ _ => simp at hl
          | cons c ct ihc =>
            intro cs hl he
            cases cs with
            | nil => simp at hl
            | cons v cs =>
              obtain ⟨d, d1, d2, d3⟩ := he 0 c v rfl rfl
              obtain ⟨ys, y1, y2, y3⟩ := ihc cs (by simpa using hl) (fun i c' v' h1 h2 => he (i + 1) c' v' (by simpa using h1) (by simpa using h2))
              exact ⟨d :: ys, by simp only [okCs]; exact ⟨d1, y1⟩, .cons _ _ _ _ d2 y2 d3, by simp [y3]⟩
        obtain ⟨ys, y1, y2, y3⟩ := all ct cs (by omega) each
        exact ⟨.agg ys, by simp only [ok]; exact y1, y2, y3, fun c hc => by cases hc⟩
      · cases hm

/-- An argument is pure data. -/
theorem arg_rep {tys : List TypeId} {es : List ET} (hE : mtEs P tys tys es = true) {t : TypeId} {et : ET} {v : Value} {d : DataW H} {ps : List MemPlace} {r : Reach} {b0 : Nat} (hm : mtET P tys t et = true) (hv : Value.okWide P w r b0 t v)
    (h : DataW.Trod enc P w base sp held t v d ps) : ∃ x, ok (EE es) et x ∧ RepD (fun b => w.heap[b]?) x v := by
  obtain ⟨n, hn⟩ := h
  obtain ⟨x, x1, x2, x3, x4⟩ := (trod_rep hE n).2 t et _ _ hm hn
  cases et with
  | one c =>
    obtain ⟨u, hu, hr, hl⟩ := x4 c rfl
    refine ⟨x, x1, ?_⟩
    have : v = u := by
      simp only [mtET] at hm
      cases c <;> simp only [mtCT] at hm <;> split at hm <;> first | cases hm | skip
      · rename_i ht; obtain ⟨b, rfl⟩ := WideShapes.okWide_bool ht hv; simpa [Value.cells] using hu
      · rename_i k' ht; obtain ⟨b, rfl⟩ := WideShapes.okWide_int ht hv; simpa [Value.cells] using hu
      · rename_i ht; obtain ⟨b, rfl⟩ := WideShapes.okWide_string ht hv; simpa [Value.cells] using hu
      · rename_i e ht; obtain ⟨a, l, c, rfl⟩ := WideShapes.okWide_slice ht hv; simpa [Value.cells] using hu
    rw [this]; exact hr
  | st ct =>
    simp only [mtET, Bool.and_eq_true] at hm
    have hagg : ∃ cs, v = .agg cs := by
      have h1 := hm.1
      split at h1
      · rename_i fs ht
        simp only [Value.okWide, ht] at hv
        obtain ⟨cs, rfl, _⟩ := hv
        exact ⟨cs, rfl⟩
      · cases h1
    obtain ⟨cs, rfl⟩ := hagg
    cases x with
    | agg ys =>
      refine ⟨.agg ys, x1, ?_⟩
      have := RepD.agg (φ := fun b => w.heap[b]?) ys cs.toList x2
      simpa using this
    | _ => simp [ok] at x1
end

/-! ### A whole call -/

def G.start (W : World) (C : CTy) : G := { φ := fun b => W.heap[b]?, μ := fun _ _ => default, N := 0, B := fun _ => 0, F := fun _ => none, C := C }
theorem Rel.start (W : World) (C : CTy) : Rel (G.start W C) ⟨[], 0⟩ W where
  nx := rfl
  fr := fun _ _ h => h
  nd := List.nodup_nil
  ob := fun _ _ h => (by cases h)
  sep := fun _ _ _ _ h => (by cases h)
  out := fun _ _ h => (by cases h)
  kp := fun _ _ h => (by cases h)
  kpo := fun _ _ h => (by cases h)

theorem run_true {P : Program} {T : Tab} (HT : TabOk P T) {f : Nat} {xs : List D} {vals : List Value} {W : World} {h' : Hp} (H : callW T f (xs.map .d) ⟨[], 0⟩ = some (.d (.bool true), h')) (hr : RepDs (fun b => W.heap[b]?) xs vals ∨ ∀ C, Reps (G.start W C) (xs.map .d) vals) (hy : f ≠ YF := by decide) :
    Calls P f vals.toArray W fun e W' => e = .returned (.bool true) ∧ RowKit.Below W.heap.size W W' := by
  have hr' : Reps (G.start W (LpC P T)) (xs.map .d) vals := by
    rcases hr with h | h
    · exact Reps.of_map_d h
    · exact h _
  refine (callW_ok HT hy H rfl (Rel.start W _) rfl hr').mono ?_
  rintro e W' ⟨v, g', rfl, l1, l2, l3, l4⟩
  have hv : v = .bool true := by
    cases l3 with | d _ _ h => cases h; rfl
  subst hv
  refine ⟨rfl, l4.os, l4.tape, l4.output, l4.size, fun k hk => ?_⟩
  have h1 : W.heap[k]? = some W.heap[k] := by simp [hk]
  rw [h1]
  exact l2.fr k _ (l1.φ k _ h1)

end Zv
end
section
set_option linter.unusedSimpArgs false
set_option linter.unusedVariables false
set_option linter.unusedSimpArgs false
namespace Zv
open Go

mutual
def sh (s : Nat) : V → V
  | .d x => .d x
  | .tl l nl => .tl (shs s l) nl
  | .own n es tot off len => .own (n + s) es tot off len
  | .ptr n tot i off => .ptr (n + s) tot i off
  | .fp x off => .fp x off
  | .clo f caps => .clo f (shs s caps)
  | .agg l => .agg (shs s l)
  | .tup l => .tup (shs s l)
  | .map n => .map (n + s)
  | .yld n => .yld (n + s)
  | .ub => .ub
  | .undef => .undef
  | .ifc t x => .ifc t x
  | .nif => .nif
  | .pan t x => .pan t x
def shs (s : Nat) : List V → List V
  | [] => []
  | v :: r => sh s v :: shs s r
end
theorem shs_map (s : Nat) : ∀ l : List V, shs s l = l.map (sh s)
  | [] => rfl
  | v :: r => by simp [shs, shs_map s r]

def shO (s : Nat) : Ob → Ob
  | .arr es els => .arr es (els.map (sh s))
  | .mp kvs => .mp (kvs.map fun p => (p.1, sh s p.2))
  | .lp b e st => .lp b (e.map fun p => (p.1, sh s p.2)) st
def shK (s : Nat) (p : Nat × Ob) : Nat × Ob := (p.1 + s, shO s p.2)
def shH (b h : Hp) : Hp := ⟨h.objs.map (shK b.next) ++ b.objs, h.next + b.next⟩
def shE (s : Nat) (e : Env) : Env := e.map fun p => (p.1, sh s p.2)

/-- Every name is below the next one. -/
def Low (b : Hp) : Prop := ∀ m, b.next ≤ m → look b.objs m = none

section
variable {s : Nat}

mutual
theorem toD_sh : ∀ v : V, toD (sh s v) = toD v
  | .d _ | .own .. | .ptr .. | .fp .. | .clo .. | .tup _ | .map _ | .yld _ | .ub | .undef | .ifc .. | .nif | .pan .. => by simp [sh, toD]
  | .tl l nl => by simp only [sh, toD, toDs_sh l]
  | .agg l => by simp only [sh, toD, toDs_sh l]
theorem toDs_sh : ∀ l : List V, toDs (shs s l) = toDs l
  | [] => rfl
  | v :: r => by simp only [shs, toDs, toD_sh v, toDs_sh r]
end
theorem toDs_shm (l : List V) : toDs (l.map (sh s)) = toDs l := by rw [← shs_map, toDs_sh]
theorem norm_sh (v : V) : norm (sh s v) = sh s (norm v) := by
  unfold norm
  rw [toD_sh]
  split <;> rfl
theorem stor_sh (v : V) : stor (sh s v) = stor v := by cases v <;> rfl
theorem map_d_sh (l : List D) : (l.map V.d).map (sh s) = l.map V.d := by rw [List.map_map]; rfl
theorem cells_sh (v : V) : (sh s v).cells = v.cells.map (sh s) := by
  cases v with
  | d x => exact (map_d_sh _).symm
  | agg l => exact shs_map s l
  | _ => rfl
theorem asD_sh : ∀ l : List V, asD (l.map (sh s)) = asD l
  | [] => rfl
  | .d x :: r => by simp only [List.map_cons, sh, asD, asD_sh r]
  | .tl .. :: r | .own .. :: r | .ptr .. :: r | .fp .. :: r | .clo .. :: r | .agg _ :: r | .tup _ :: r | .map _ :: r | .yld _ :: r | .ub :: r | .undef :: r | .ifc .. :: r | .nif :: r | .pan .. :: r => by simp only [List.map_cons, sh, asD]
theorem mkAgg_sh (l : List V) : mkAgg (l.map (sh s)) = sh s (mkAgg l) := by
  unfold mkAgg
  rw [asD_sh]
  split
  · rfl
  · simp [sh, shs_map]
theorem get_sh : ∀ (e : Env) (t : Nat), Env.get (shE s e) t = sh s (e.get t)
  | [], _ => rfl
  | (u, v) :: r, t => by
    show (if t = u then sh s v else Env.get (shE s r) t) = sh s (if t = u then v else Env.get r t)
    rw [get_sh r t]
    split <;> rfl
theorem putO_sh (e : Env) (t : Option Nat) (v : V) : (shE s e).putO t (sh s v) = shE s (e.putO t v) := by cases t <;> rfl
theorem keep_sh (e : Env) : ∀ l : List Nat, Env.keep (shE s e) l = shE s (Env.keep e l)
  | [] => rfl
  | t :: l => by
    show (t, Env.get (shE s e) t) :: Env.keep (shE s e) l = (t, sh s (e.get t)) :: shE s (Env.keep e l)
    rw [get_sh, keep_sh e l]
theorem keepE_sh (e : Env) (k : Option (List Nat)) : keepE k (shE s e) = shE s (keepE k e) := by
  cases k with
  | none => rfl
  | some l => exact keep_sh e l
theorem args_sh : ∀ (i : Nat) (l : List V), args i (l.map (sh s)) = shE s (args i l)
  | _, [] => rfl
  | i, v :: r => by simp only [List.map_cons, args, args_sh (i + 1) r]; rfl
theorem normArgs_sh : ∀ (b : List Bool) (l : List V), normArgs b (l.map (sh s)) = (normArgs b l).map (sh s)
  | [], _ => by simp [normArgs]
  | _ :: _, [] => rfl
  | b :: bs, v :: r => by
    simp only [List.map_cons, normArgs, normArgs_sh bs r, norm_sh]
    split <;> rfl

/-! Operations on values -/
theorem isNil_sh (k : NK) (v : V) : isNil k (sh s v) = isNil k v := by
  cases v with
  | tl l nl => cases l <;> cases k <;> rfl
  | d x => rfl
  | _ => cases k <;> rfl
theorem ubOf_sh {k : NK} {v r : V} (H : ubOf k v = some r) : ubOf k (sh s v) = some (sh s r) := by
  unfold ubOf at H
  split at H <;> cases H <;> rfl
theorem nilBin_sh {k : NK} {op : BinOp} {v r : V} (H : nilBin k op v = some r) : nilBin k op (sh s v) = some (sh s r) := by
  unfold nilBin at H ⊢
  rw [isNil_sh]
  split at H
  · rename_i b hb; cases H; simp [sh]
  · rename_i b hb; cases H; simp [sh]
  · exact ubOf_sh H
  · exact ubOf_sh H
  · cases H
theorem intBin_d {op : BinOp} {k : IntKind} {a b : Int} {r : V} (H : intBin op k a b = some r) : sh s r = r := by
  unfold intBin at H
  split at H <;> (try split at H) <;> cases H <;> rfl
theorem strBin_d {op : BinOp} {a b : ByteArray} {r : V} (H : strBin op a b = some r) : sh s r = r := by
  unfold strBin at H
  split at H <;> (try split at H) <;> cases H <;> rfl
theorem bin_sh {op : BinOp} {a b r : V} (H : bin op a b = some r) : bin op (sh s a) (sh s b) = some (sh s r) := by
  unfold bin at H
  split at H
  · split at H
    · rename_i h; subst h; rw [intBin_d H]; simpa [bin, sh] using H
    · cases H
  · rw [strBin_d H]; exact H
  · cases H
theorem binB_sh {op : BinOp} {a b r : V} (H : binB op a b = some r) : binB op (sh s a) (sh s b) = some (sh s r) := by
  unfold binB at H
  split at H
  · split at H <;> cases H <;> rfl
  · cases H
theorem aggBin_sh {ks : List KK} {op : BinOp} {a b r : V} (H : aggBin ks op a b = some r) : aggBin ks op (sh s a) (sh s b) = some (sh s r) := by
  unfold aggBin at H
  split at H
  · rename_i x y
    split at H
    · rename_i h1; cases H; simp only [aggBin, sh, h1]
    · rename_i h1; cases H; simp only [aggBin, sh, h1]
    · cases H
  · cases H
theorem un_sh {op : UnOp} {a r : V} (H : un op a = some r) : un op (sh s a) = some (sh s r) := by
  unfold un at H
  split at H
  · split at H <;> cases H <;> rfl
  · split at H <;> cases H <;> rfl
  · cases H
theorem pick_sh {c a b r : V} (H : pick c a b = some r) : pick (sh s c) (sh s a) (sh s b) = some (sh s r) := by
  unfold pick at H
  split at H
  · cases H; simp only [pick, sh]; split <;> rfl
  · cases H
theorem conv_sh {k : IntKind} {a r : V} (H : conv k a = some r) : conv k (sh s a) = some (sh s r) := by
  unfold conv at H
  split at H
  · cases H; rfl
  · cases H
theorem nilck_sh {a r : V} (H : nilck a = some r) : nilck (sh s a) = some (sh s r) := by
  unfold nilck at H
  split at H <;> cases H <;> rfl
theorem lenS_sh {a r : V} (H : lenS a = some r) : lenS (sh s a) = some (sh s r) := by
  unfold lenS at H
  split at H <;> cases H; rfl
theorem lenL_sh {a r : V} (H : lenL a = some r) : lenL (sh s a) = some (sh s r) := by
  unfold lenL at H
  split at H <;> cases H
  · rfl
  · simp [lenL, sh, shs_map, int]
  · rfl
theorem ixOf_sh (v : V) : ixOf (sh s v) = ixOf v := by cases v <;> rfl
theorem ia_sh {es : Nat} {x i r : V} (H : ia es x i = some r) : ia es (sh s x) (sh s i) = some (sh s r) := by
  unfold ia at H ⊢
  rw [ixOf_sh]
  split at H
  · simp only [sh, Option.bind_eq_some_iff] at H ⊢
    obtain ⟨j, h1, y, h2, h3⟩ := H
    refine ⟨j, h1, y, h2, ?_⟩
    split at h3 <;> cases h3
    rename_i hc; rw [if_pos hc]; rfl
  · simp only [sh, Option.bind_eq_some_iff] at H ⊢
    obtain ⟨j, h1, y, h2, x, h3, h4⟩ := H
    refine ⟨j, h1, sh s y, by rw [shs_map]; simp [h2], x, by rw [toD_sh]; exact h3, ?_⟩
    split at h4 <;> cases h4
    rename_i hc; rw [if_pos hc]; rfl
  · simp only [sh, Option.bind_eq_some_iff] at H ⊢
    obtain ⟨j, h1, h2⟩ := H
    refine ⟨j, h1, ?_⟩
    split at h2 <;> cases h2
    rename_i hc; rw [if_pos hc]; rfl
  · cases H
theorem ixS_sh {x i r : V} (H : ixS x i = some r) : ixS (sh s x) (sh s i) = some (sh s r) := by
  unfold ixS at H
  split at H
  · rename_i b
    simp only [sh, ixS, ixOf_sh, Option.bind_eq_some_iff] at H ⊢
    obtain ⟨j, h1, h2⟩ := H
    refine ⟨j, h1, ?_⟩
    split at h2 <;> cases h2
    rename_i hc; rw [dif_pos hc]; rfl
  · cases H
theorem fa_sh {off : Nat} {x r : V} (H : fa off x = some r) : fa off (sh s x) = some (sh s r) := by
  unfold fa at H
  split at H <;> cases H <;> rfl
theorem partV_sh {ag : Bool} {off sz : Nat} {l : List V} {r : V} (H : partV ag off sz l = some r) : partV ag off sz (l.map (sh s)) = some (sh s r) := by
  unfold partV at H ⊢
  split at H
  · rename_i hag
    rw [if_pos hag]
    split at H <;> cases H
    rename_i hc
    rw [if_pos (by rw [List.length_map]; exact hc), ← List.map_drop, ← List.map_take, mkAgg_sh]
  · rename_i hag
    rw [if_neg hag, List.getElem?_map, H]; rfl
theorem fld_sh {ag : Bool} {off sz : Nat} {x r : V} (H : fld ag off sz x = some r) : fld ag off sz (sh s x) = some (sh s r) := by
  unfold fld at H
  split at H
  · simp only [Option.map_eq_some_iff] at H
    obtain ⟨y, h1, h2⟩ := H
    subst h2
    simp [fld, sh, h1]
  · have := partV_sh (s := s) H
    simpa [fld, sh, shs_map] using this
  · cases H
theorem bnd_sh (n : Nat) (x : Option V) : bnd n (x.map (sh s)) = bnd n x := by cases x <;> simp [bnd, ixOf_sh]
theorem allV_sh (es : Nat) (l : List V) : allV es (l.map (sh s)) = allV es l := by
  unfold allV
  rw [List.all_map]
  congr 1
  funext x
  simp [cells_sh]
theorem slcS_sh {x r : V} {lo hi : Option V} (H : slcS x lo hi = some r) : slcS (sh s x) (lo.map (sh s)) (hi.map (sh s)) = some (sh s r) := by
  unfold slcS at H
  split at H
  · simp only [slcS, sh, bnd_sh]
    rw [H]
    simp only [Option.bind_eq_some_iff] at H
    obtain ⟨a, _, b, _, h⟩ := H
    split at h <;> cases h
    rfl
  · cases H
theorem slc_sh {es : Nat} {x r : V} {lo hi : Option V} (H : slc es x lo hi = some r) : slc es (sh s x) (lo.map (sh s)) (hi.map (sh s)) = some (sh s r) := by
  unfold slc at H
  split at H
  · simp only [slc, sh, bnd_sh]
    rw [H]
    simp only [Option.bind_eq_some_iff] at H
    obtain ⟨a, _, b, _, h⟩ := H
    split at h <;> cases h
    rfl
  · simp only [slc, sh, bnd_sh, shs_map, List.length_map, allV_sh, Option.bind_eq_some_iff] at H ⊢
    obtain ⟨a, h1, b, h2, h⟩ := H
    refine ⟨a, h1, b, h2, ?_⟩
    split at h <;> cases h
    rename_i hc; rw [if_pos hc]
    simp [sh, shs_map, List.map_drop]
  · simp only [slc, sh, bnd_sh, Option.bind_eq_some_iff] at H ⊢
    obtain ⟨a, h1, b, h2, h⟩ := H
    refine ⟨a, h1, b, h2, ?_⟩
    split at h <;> cases h
    rename_i hc; rw [if_pos hc]; rfl
  · cases H
theorem slc3_sh {es : Nat} {x r : V} {lo hi mx : Option V} (H : slc3 es x lo hi mx = some r) : slc3 es (sh s x) (lo.map (sh s)) (hi.map (sh s)) (mx.map (sh s)) = some (sh s r) := by
  unfold slc3 at H
  split at H
  · simp only [slc3, sh, bnd_sh, Option.bind_eq_some_iff] at H ⊢
    obtain ⟨a, h1, b, h2, c, h3, h⟩ := H
    refine ⟨a, h1, b, h2, c, h3, ?_⟩
    split at h <;> cases h
    rename_i hc; rw [if_pos hc]
    simp only [sh, shs_map, List.map_map]; rfl
  · simp only [slc3, sh, bnd_sh, shs_map, List.length_map, allV_sh, Option.bind_eq_some_iff] at H ⊢
    obtain ⟨a, h1, b, h2, c, h3, h⟩ := H
    refine ⟨a, h1, b, h2, c, h3, ?_⟩
    split at h <;> cases h
    rename_i hc; rw [if_pos hc]
    simp [sh, shs_map, List.map_drop, List.map_take]
  · cases H
theorem ext_sh {i : Nat} {x r : V} (H : ext i x = some r) : ext i (sh s x) = some (sh s r) := by
  unfold ext at H
  split at H
  · simp [ext, sh, shs_map, H]
  · cases H
theorem lay_sh : ∀ (ps : List (Nat × Nat × V)) (cs r : List V), lay cs ps = some r → lay (cs.map (sh s)) (ps.map fun p => (p.1, p.2.1, sh s p.2.2)) = some (r.map (sh s))
  | [], cs, r, H => by cases H; rfl
  | (off, sz, v) :: ps, cs, r, H => by
    simp only [lay] at H
    split at H
    · rename_i hc
      simp only [List.map_cons, lay]
      rw [if_pos (by rw [stor_sh, cells_sh, List.length_map, List.length_map]; exact hc)]
      have := lay_sh ps _ r H
      rw [cells_sh, ← List.map_take, ← List.map_drop, ← List.map_append, ← List.map_append]
      exact this
    · cases H
end

section
variable {b : Hp} {h : Hp}

theorem look_map : ∀ (l : List (Nat × Ob)) (base : List (Nat × Ob)) (n s : Nat), look (l.map (shK s) ++ base) (n + s) = match look l n with
    | some o => some (shO s o)
    | none => look base (n + s)
  | [], base, n, s => rfl
  | (m, o) :: l, base, n, s => by
    show (if n + s = m + s then some (shO s o) else look (l.map (shK s) ++ base) (n + s)) = match (if n = m then some o else look l n) with
      | some o => some (shO s o)
      | none => look base (n + s)
    by_cases hn : n = m
    · subst hn; simp
    · rw [if_neg (by omega), if_neg hn]; exact look_map l base n s
theorem get_shH (L : Low b) (n : Nat) : (shH b h).get (n + b.next) = (h.get n).map (shO b.next) := by
  unfold Hp.get shH
  rw [look_map]
  split
  · rename_i o ho; rw [ho]; rfl
  · rename_i ho; rw [ho]; exact L _ (by omega)
theorem row_shH (L : Low b) (n tot : Nat) : (shH b h).row (n + b.next) tot = (h.row n tot).map fun r => (r.1, r.2.map (sh b.next)) := by
  unfold Hp.row
  rw [get_shH L]
  cases h.get n with
  | none => rfl
  | some o =>
    cases o with
    | arr es els =>
      simp only [Option.map_some, shO, List.length_map]
      split <;> rfl
    | mp kvs => rfl
    | lp _ _ _ => rfl
theorem upd_map : ∀ (l : List (Nat × Ob)) (base : List (Nat × Ob)) (n s : Nat) (o q : Ob), look l n = some q → upd (l.map (shK s) ++ base) (n + s) (shO s o) = (upd l n o).map (shK s) ++ base
  | [], _, _, _, _, _, hq => by cases hq
  | (m, x) :: l, base, n, s, o, q, hq => by
    show (if n + s = m + s then (m + s, shO s o) :: (l.map (shK s) ++ base) else (m + s, shO s x) :: upd (l.map (shK s) ++ base) (n + s) (shO s o)) = _
    unfold look at hq
    by_cases hn : n = m
    · subst hn; simp [upd, shK]
    · rw [if_neg hn] at hq
      rw [if_neg (by omega), upd_map l base n s o q hq]
      simp [upd, hn, shK]
theorem set_shH {n : Nat} {o q : Ob} (hq : h.get n = some q) : (shH b h).set (n + b.next) (shO b.next o) = shH b (h.set n o) := by
  unfold Hp.set shH
  simp only [Hp.mk.injEq, and_true]
  exact upd_map _ _ _ _ _ q hq
theorem alloc_shH (o : Ob) : (shH b h).alloc (shO b.next o) = shH b (h.alloc o) := by
  unfold Hp.alloc shH
  simp [shK]
  omega
theorem del_low : ∀ {l : List (Nat × Ob)} {n : Nat}, look l n = none → del l n = l
  | [], _, _ => rfl
  | (m, o) :: l, n, hl => by
    unfold look at hl
    split at hl
    · cases hl
    · rename_i hn; unfold del; rw [if_neg hn, del_low hl]
theorem del_map : ∀ (l : List (Nat × Ob)) (base : List (Nat × Ob)) (n s : Nat), look base (n + s) = none → del (l.map (shK s) ++ base) (n + s) = (del l n).map (shK s) ++ base
  | [], base, n, s, hb => by simpa [del] using del_low hb
  | (m, x) :: l, base, n, s, hb => by
    show (if n + s = m + s then (l.map (shK s) ++ base) else (m + s, shO s x) :: del (l.map (shK s) ++ base) (n + s)) = _
    by_cases hn : n = m
    · subst hn; simp [del]
    · rw [if_neg (by omega), del_map l base n s hb]
      simp [del, hn, shK]
theorem kill_shH (L : Low b) (n : Nat) : (shH b h).kill (n + b.next) = shH b (h.kill n) := by
  unfold Hp.kill shH
  simp only [Hp.mk.injEq, and_true]
  exact del_map _ _ _ _ (L _ (by omega))
theorem next_shH : (shH b h).next = h.next + b.next := rfl

theorem ld_sh (L : Low b) {ag : Bool} {sz : Nat} {a r : V} (H : ld ag sz h a = some r) : ld ag sz (shH b h) (sh b.next a) = some (sh b.next r) := by
  unfold ld at H
  split at H
  · simp only [Option.map_eq_some_iff] at H
    obtain ⟨y, h1, h2⟩ := H
    subst h2
    simp [ld, sh, h1]
  · simp only [ld, sh, row_shH L, Option.bind_eq_some_iff, Option.map_eq_some_iff] at H ⊢
    obtain ⟨⟨es, els⟩, h1, e, h2, h3⟩ := H
    refine ⟨_, ⟨_, h1, rfl⟩, sh b.next e, by simp [h2], ?_⟩
    split at h3
    · rename_i hc
      rw [if_pos hc]
      split at h3
      · cases h3; rfl
      · cases h3; rfl
      · rename_i hn1 hn2
        have key : ∀ off, partV ag off sz e.cells = some r → partV ag off sz (sh b.next e).cells = some (sh b.next r) := fun off h => by rw [cells_sh]; exact partV_sh h
        have key2 := key _ h3
        cases e with
        | d x => cases x with
          | agg l => exact absurd rfl (hn1 l)
          | _ => exact key2
        | agg l => exact absurd rfl (hn2 l)
        | _ => exact key2
    · rename_i hc
      rw [if_neg hc, cells_sh]
      exact partV_sh h3
  · cases H
theorem ldk_sh (L : Low b) {ag : Bool} {sz : Nat} {k a r : V} (H : ldk ag sz h k a = some r) : ldk ag sz (shH b h) (sh b.next k) (sh b.next a) = some (sh b.next r) := by
  cases k <;> try cases H
  cases a <;> try cases H
  rename_i n t1 i1 o1 m t2 i2 o2
  simp only [ldk] at H
  split at H
  · rename_i e
    subst e
    have := ld_sh L H
    simp only [sh] at this ⊢
    simp only [ldk, if_true, this]
  · cases H
theorem sameAt_sh (L : Low b) {h h' : Hp} {k : V} (H : sameAt h h' k = true) : sameAt (shH b h) (shH b h') (sh b.next k) = true := by
  cases k <;> first | rfl | skip
  rename_i n tot i off
  simp only [sameAt] at H
  simp only [sh, sameAt, get_shH L]
  split at H
  · rename_i x y h1 h2
    simp only [h1, h2, Option.map_some]
    rw [Ob.beq_eq H]
    exact Ob.beq_refl _
  · cases H
theorem ldf_sh (L : Low b) {ag : Bool} {sz : Nat} {a r : V} (H : ldf ag sz h a = some r) : ldf ag sz (shH b h) (sh b.next a) = some (sh b.next r) := by
  unfold ldf at H
  split at H
  · exact ld_sh L H
  · cases H
theorem arr_sh (s es : Nat) (l : List V) : Ob.arr es (l.map (sh s)) = shO s (.arr es l) := rfl
theorem row_get' {n tot : Nat} {r : Nat × List V} (H : h.row n tot = some r) : ∃ q, h.get n = some q := by
  unfold Hp.row at H
  cases hg : h.get n with
  | none => rw [hg] at H; cases H
  | some q => exact ⟨q, rfl⟩
theorem st_sh (L : Low b) {sz : Nat} {a x : V} {h' : Hp} (H : st sz h a x = some h') : st sz (shH b h) (sh b.next a) (sh b.next x) = some (shH b h') := by
  unfold st at H
  split at H
  · simp only [st, sh, row_shH L, Option.bind_eq_some_iff, Option.map_eq_some_iff] at H ⊢
    obtain ⟨⟨es, els⟩, h1, e, h2, h3⟩ := H
    obtain ⟨q, hq⟩ := row_get' h1
    refine ⟨_, ⟨_, h1, rfl⟩, sh b.next e, by simp [h2], ?_⟩
    simp only [stor_sh, cells_sh, List.length_map] at h3 ⊢
    split at h3
    · rename_i hc
      rw [if_pos hc]
      split at h3
      · rename_i hc2
        cases h3
        rw [if_pos hc2, ← List.map_set, arr_sh, set_shH hq]
      · rename_i hc2
        rw [if_neg hc2]
        split at h3
        · rename_i hc3
          cases h3
          rw [if_pos hc3, ← List.map_take, ← List.map_drop, ← List.map_append, ← List.map_append, mkAgg_sh, ← List.map_set, arr_sh, set_shH hq]
        · cases h3
    · cases h3
  · cases H
theorem elems_sh (L : Low b) {x : V} {l : List V} (H : elems h x = some l) : elems (shH b h) (sh b.next x) = some (l.map (sh b.next)) := by
  unfold elems at H
  split at H
  · cases H; simp only [elems, sh, map_d_sh]
  · cases H; simp only [elems, sh, shs_map]
  · simp only [elems, sh, row_shH L, Option.bind_eq_some_iff, Option.map_eq_some_iff] at H ⊢
    obtain ⟨⟨es, els⟩, h1, h2⟩ := H
    refine ⟨_, ⟨_, h1, rfl⟩, ?_⟩
    simp only [List.length_map]
    split at h2
    · rename_i hc
      cases h2
      rw [if_pos hc, ← List.map_drop, ← List.map_take]
    · cases h2
  · cases H
theorem norms_sh (s : Nat) (l : List V) : (l.map (sh s)).map norm = (l.map norm).map (sh s) := by
  rw [List.map_map, List.map_map]
  exact List.map_congr_left fun x _ => norm_sh x

theorem app_sh (L : Low b) {es by_ : Nat} {x y : V} {r : V × Hp} (H : app es by_ h x y = some r) : app es by_ (shH b h) (sh b.next x) (sh b.next y) = some (sh b.next r.1, shH b r.2) := by
  unfold app at H ⊢
  simp only [Option.bind_eq_some_iff] at H ⊢
  obtain ⟨xs, h1, h2⟩ := H
  refine ⟨_, elems_sh L h1, ?_⟩
  simp only [norms_sh, allV_sh] at h2 ⊢
  split at h2
  case isFalse => cases h2
  rename_i hc
  rw [if_pos hc]
  clear hc h1
  generalize xs.map norm = ns at h2 ⊢
  cases x with
  | tl l nl =>
    simp only [sh, shs_map, allV_sh, List.length_map, List.isEmpty_map] at h2 ⊢
    split at h2
    · rename_i hc2; cases h2; rw [if_pos hc2]; simp [sh, shs_map]
    · rename_i hc2
      rw [if_neg hc2]
      split at h2
      · rename_i hc3
        cases h2
        rw [if_pos hc3, ← List.map_append, arr_sh, alloc_shH]
        simp [sh, next_shH]
      · cases h2
  | own n e tot off len =>
    simp only [sh, row_shH L, Option.bind_eq_some_iff, Option.map_eq_some_iff] at h2 ⊢
    obtain ⟨⟨es', els⟩, h3, h4⟩ := h2
    obtain ⟨q, hq⟩ := row_get' h3
    refine ⟨_, ⟨_, h3, rfl⟩, ?_⟩
    simp only [List.length_map, List.isEmpty_map] at h4 ⊢
    split at h4
    case isFalse => cases h4
    rename_i hc2
    rw [if_pos hc2]
    split at h4
    · rename_i hc3; cases h4; rw [if_pos hc3]; rfl
    · rename_i hc3
      rw [if_neg hc3]
      split at h4
      · rename_i hc4
        cases h4
        rw [if_pos hc4, ← List.map_take, ← List.map_drop, ← List.map_append, ← List.map_append, arr_sh, set_shH hq]
        rfl
      · rename_i hc4
        rw [if_neg hc4]
        split at h4
        · rename_i hc5
          rw [if_pos hc5]
          split at h4
          · rename_i hc6
            cases h4
            rw [if_pos hc6, ← List.map_take, ← List.map_append, arr_sh, set_shH hq]
            rfl
          · rename_i hc6
            cases h4
            rw [if_neg hc6, ← List.map_drop, ← List.map_take, ← List.map_append, arr_sh, kill_shH L, alloc_shH]
            simp [sh, next_shH]
        · cases h4
  | d x =>
    cases x with
    | lst l =>
      simp only [sh, List.isEmpty_map] at h2 ⊢
      split at h2
      · rename_i hc2; cases h2; rw [if_pos hc2]; rfl
      · cases h2
    | _ => cases h2
  | _ => cases h2
theorem appn_sh (L : Low b) {es by_ : Nat} {x y : V} {r : V × Hp} (H : appn es by_ h x y = some r) : appn es by_ (shH b h) (sh b.next x) (sh b.next y) = some (sh b.next r.1, shH b r.2) := by
  unfold appn at H
  split at H
  · exact app_sh L H
  · cases H
theorem elems0_sh {n : Nat} {x : V} {l : List V} (H : elems0 x = some l) : elems0 (sh n x) = some (l.map (sh n)) := by
  unfold elems0 at H
  split at H
  · cases H; simp only [elems0, sh, map_d_sh]
  · cases H; simp only [elems0, sh, shs_map]
  · cases H
theorem appd_sh {b : Hp} {es by_ : Nat} {x y v : V} (H : appd es by_ x y = some v) : appd es by_ (sh b.next x) (sh b.next y) = some (sh b.next v) := by
  unfold appd at H
  split at H
  · rename_i l nl
    simp only [Option.bind_eq_some_iff] at H
    obtain ⟨xs, h1, h2⟩ := H
    have e0 : toD (V.tl (l.map (sh b.next)) nl) = toD (.tl l nl) := by
      have := toD_sh (s := b.next) (.tl l nl)
      simp only [sh, shs_map] at this
      exact this
    simp only [appd, sh, shs_map, elems0_sh h1, Option.bind_some]
    simp only [e0, allV_sh, List.length_map, norms_sh, List.isEmpty_map] at h2 ⊢
    split at h2
    case isFalse => cases h2
    rename_i hc
    rw [if_pos hc]
    split at h2
    · rename_i hc2
      rw [if_pos hc2]
      simp only [Option.map_eq_some_iff] at h2 ⊢
      obtain ⟨q, hq, rfl⟩ := h2
      exact ⟨q, hq, by simp [sh]⟩
    · rename_i hc2
      rw [if_neg hc2]
      split at h2
      · rename_i hc3
        rw [if_pos hc3]
        simp only [Option.map_eq_some_iff] at h2 ⊢
        obtain ⟨q, hq, rfl⟩ := h2
        exact ⟨q, by rw [← List.map_append, toDs_shm]; exact hq, by simp [sh]⟩
      · cases h2
  · cases H
theorem cpy_sh (L : Low b) {es : Nat} {x y : V} {r : V × Hp} (H : cpy es h x y = some r) : cpy es (shH b h) (sh b.next x) (sh b.next y) = some (sh b.next r.1, shH b r.2) := by
  unfold cpy at H ⊢
  simp only [Option.bind_eq_some_iff] at H ⊢
  obtain ⟨xs, h1, h2⟩ := H
  refine ⟨_, elems_sh L h1, ?_⟩
  simp only [allV_sh, List.length_map] at h2 ⊢
  split at h2
  case isFalse => cases h2
  rename_i hc
  rw [if_pos hc]
  cases x with
  | own n e tot off len =>
    simp only [sh, row_shH L, Option.bind_eq_some_iff, Option.map_eq_some_iff] at h2 ⊢
    obtain ⟨⟨es', els⟩, h3, h4⟩ := h2
    obtain ⟨q, hq⟩ := row_get' h3
    refine ⟨_, ⟨_, h3, rfl⟩, ?_⟩
    simp only [List.length_map] at h4 ⊢
    split at h4
    · rename_i hc2
      cases h4
      rw [if_pos hc2, ← List.map_take, ← List.map_take, ← List.map_drop, ← List.map_append, ← List.map_append, arr_sh, set_shH hq]
      rfl
    · cases h4
  | tl l nl =>
    cases l with
    | nil => cases h2; rfl
    | cons _ _ => cases h2
  | _ => cases h2
theorem mkslO_sh {z : V} (hz : sh b.next z = z) {es by_ : Nat} {n : V} {r : V × Hp} (H : mkslO z es by_ h n = some r) : mkslO z es by_ (shH b h) (sh b.next n) = some (sh b.next r.1, shH b r.2) := by
  unfold mkslO at H ⊢
  rw [ixOf_sh]
  simp only [Option.bind_eq_some_iff] at H ⊢
  obtain ⟨k, h1, h2⟩ := H
  refine ⟨k, h1, ?_⟩
  split at h2
  · rename_i hc
    cases h2
    rw [if_pos hc, ← alloc_shH]
    simp [sh, next_shH, shO, hz]
  · cases h2
theorem capT_sh {s : Nat} {a r : V} (H : capT a = some r) : capT (sh s a) = some (sh s r) := by
  unfold capT at H
  split at H
  · cases H; simp [capT, sh, shs_map, int]
  · cases H
theorem appz_sh {z : V} (hz : sh b.next z = z) {es by_ : Nat} {v n : V} {r : V × Hp} (H : appz z es by_ h v n = some r) : appz z es by_ (shH b h) (sh b.next v) (sh b.next n) = some (sh b.next r.1, shH b r.2) := by
  unfold appz at H
  split at H
  · rename_i nl
    simp only [Option.bind_eq_some_iff] at H
    obtain ⟨k, hk, H⟩ := H
    split at H
    · rename_i hc
      split at H
      · rename_i h0
        cases H
        simp only [appz, sh, shs, ixOf_sh, hk, Option.bind_some, if_pos hc, if_pos h0]
      · rename_i h0
        have hm : mkslO z es by_ h n = some r := by
          unfold mkslO
          rw [hk, Option.bind_some, if_pos hc]; exact H
        have := mkslO_sh hz hm
        unfold mkslO at this
        rw [ixOf_sh, hk, Option.bind_some, if_pos hc] at this
        simp only [appz, sh, shs, ixOf_sh, hk, Option.bind_some, if_pos hc, if_neg h0]
        exact this
    · cases H
  · cases H
theorem mkslT_sh {s : Nat} {z : V} (hz : sh s z = z) {by_ : Nat} {n r : V} (H : mkslT z by_ n = some r) : mkslT z by_ (sh s n) = some (sh s r) := by
  unfold mkslT at H ⊢
  rw [ixOf_sh]
  simp only [Option.bind_eq_some_iff] at H ⊢
  obtain ⟨k, h1, h2⟩ := H
  refine ⟨k, h1, ?_⟩
  split at h2
  · rename_i hc
    cases h2
    rw [if_pos hc]
    simp [sh, shs_map, hz]
  · cases h2
theorem entries_sh (L : Low b) {m : V} {l : List (D × V)} (H : entries h m = some l) : entries (shH b h) (sh b.next m) = some (l.map fun p => (p.1, sh b.next p.2)) := by
  unfold entries at H
  split at H
  · rename_i n
    simp only [entries, sh, get_shH L]
    split at H
    · rename_i kvs hg
      cases H
      rw [hg]; rfl
    · cases H
  · cases H; rfl
  · cases H
theorem findK_sh (s : Nat) (kk : KK) (k : D) : ∀ (l : List (D × V)) (r : Option V), findK kk k l = some r → findK kk k (l.map fun p => (p.1, sh s p.2)) = some (r.map (sh s))
  | [], r, H => by cases H; rfl
  | (q, v) :: l, r, H => by
    simp only [findK, List.map_cons] at H ⊢
    split at H
    · cases H; rfl
    · exact findK_sh s kk k l r H
    · cases H
theorem putK_sh (s : Nat) (kk : KK) (k : D) (x : V) : ∀ (l r : List (D × V)), putK kk k x l = some r → putK kk k (sh s x) (l.map fun p => (p.1, sh s p.2)) = some (r.map fun p => (p.1, sh s p.2))
  | [], r, H => by cases H; rfl
  | (q, v) :: l, r, H => by
    simp only [putK, List.map_cons] at H ⊢
    split at H
    · cases H; rfl
    · simp only [Option.map_eq_some_iff] at H ⊢
      obtain ⟨t, h2, h3⟩ := H
      subst h3
      exact ⟨_, putK_sh s kk k x l t h2, rfl⟩
    · cases H
theorem lk_sh (L : Low b) {kk : KK} {z : V} (hz : sh b.next z = z) {ok : Bool} {m k r : V} (H : lk kk z ok h m k = some r) : lk kk z ok (shH b h) (sh b.next m) (sh b.next k) = some (sh b.next r) := by
  unfold lk at H
  split at H
  · simp only [lk, sh, Option.bind_eq_some_iff, Option.map_eq_some_iff] at H ⊢
    obtain ⟨kvs, h1, o, h2, h3⟩ := H
    refine ⟨_, entries_sh L h1, _, findK_sh _ _ _ _ _ h2, ?_⟩
    subst h3
    have hg : (o.map (sh b.next)).getD z = sh b.next (o.getD z) := by cases o <;> simp [hz]
    split
    · simp [sh, shs, hg]
    · exact hg
  · cases H
theorem mu_sh (L : Low b) {kk : KK} {m k x : V} {h' : Hp} (H : mu kk h m k x = some h') : mu kk (shH b h) (sh b.next m) (sh b.next k) (sh b.next x) = some (shH b h') := by
  unfold mu at H
  split at H
  · simp only [mu, sh, get_shH L]
    split at H
    · rename_i n k kvs hg
      rw [hg]
      simp only [Option.map_some, shO, stor_sh, norm_sh]
      split at H
      · rename_i hc
        rw [if_pos hc]
        simp only [Option.map_eq_some_iff] at H ⊢
        obtain ⟨t, h2, h3⟩ := H
        subst h3
        refine ⟨_, putK_sh _ _ _ _ _ _ h2, ?_⟩
        exact set_shH (o := .mp t) hg
      · cases H
    · cases H
  · cases H
theorem lenM_sh (L : Low b) {x r : V} (H : lenM h x = some r) : lenM (shH b h) (sh b.next x) = some (sh b.next r) := by
  unfold lenM at H ⊢
  simp only [Option.map_eq_some_iff] at H ⊢
  obtain ⟨l, h1, h2⟩ := H
  subst h2
  exact ⟨_, entries_sh L h1, by simp [int, sh]⟩
theorem frz_sh (L : Low b) {v : V} {r : V × Hp} (H : frz h v = some r) : frz (shH b h) (sh b.next v) = some (sh b.next r.1, shH b r.2) := by
  unfold frz at H
  split at H
  · simp only [frz, sh, row_shH L, Option.bind_eq_some_iff, Option.map_eq_some_iff] at H ⊢
    obtain ⟨⟨es, els⟩, h1, h2⟩ := H
    refine ⟨_, ⟨_, h1, rfl⟩, ?_⟩
    simp only [List.length_map] at h2 ⊢
    split at h2
    · rename_i hc
      rw [if_pos hc, ← List.map_drop, ← List.map_take, toDs_shm]
      simp only [Option.map_eq_some_iff] at h2 ⊢
      obtain ⟨l, h3, h4⟩ := h2
      subst h4
      exact ⟨l, h3, by rw [kill_shH L]; rfl⟩
    · cases h2
  · simp only [frz, sh, row_shH L, Option.bind_eq_some_iff, Option.map_eq_some_iff] at H ⊢
    obtain ⟨⟨es, els⟩, h1, e, h2, h3⟩ := H
    refine ⟨_, ⟨_, h1, rfl⟩, sh b.next e, by simp [h2], ?_⟩
    rw [toD_sh]
    split at h3
    · rename_i x hx; subst h3; rw [kill_shH L]; rfl
    · subst h3; rfl
  · rename_i hn1 hn2
    simp only [Option.map_eq_some_iff] at H
    obtain ⟨x, h1, h2⟩ := H
    subst h2
    have hfin : ∀ u : V, (∀ n es tot off len, u ≠ .own n es tot off len) → (∀ n tot i off, u ≠ .ptr n tot i off) → toD u = some x → frz (shH b h) u = some (.d x, shH b h) := by
      intro u k1 k2 k3
      cases u with
      | own n es tot off len => exact absurd rfl (k1 _ _ _ _ _)
      | ptr n tot i off => exact absurd rfl (k2 _ _ _ _)
      | _ => simp only [frz, k3, Option.map_some]
    refine hfin _ (fun n es tot off len he => ?_) (fun n tot i off he => ?_) (by rw [toD_sh]; exact h1)
    · cases v <;> simp [sh] at he
      exact hn1 _ _ _ _ _ rfl
    · cases v <;> simp [sh] at he
      exact hn2 _ _ _ _ rfl
end


/-! ### Code without names -/
mutual
def clV : V → Bool
  | .d _ | .fp _ _ | .ub | .undef | .ifc .. | .nif | .pan .. => true
  | .tl l _ | .clo _ l | .agg l | .tup l => clVs l
  | .own .. | .ptr .. | .map _ | .yld _ => false
def clVs : List V → Bool
  | [] => true
  | v :: r => clV v && clVs r
end
mutual
theorem frzs_sh {b : Hp} (L : Low b) : ∀ {l : List V} {h : Hp} {r : List D × Hp}, frzs l h = some r → frzs (l.map (sh b.next)) (shH b h) = some (r.1, shH b r.2)
  | [], h, r, H => by cases H; rfl
  | v :: l, h, r, H => by
    simp only [frzs, List.map_cons, Option.bind_eq_some_iff] at H ⊢
    obtain ⟨⟨y, h1⟩, hf, H⟩ := H
    refine ⟨_, frz_sh L hf, ?_⟩
    split at H
    · rename_i x hy
      simp only at hy
      subst hy
      simp only [Option.map_eq_some_iff] at H
      obtain ⟨s, hr, heq⟩ := H
      subst heq
      show Option.map _ (frzs (l.map (sh b.next)) (shH b h1)) = _
      rw [frzs_sh L hr]
      rfl
    · cases H
theorem fzd_sh {b h : Hp} (L : Low b) {v : V} {r : V × Hp} (H : fzd h v = some r) : fzd (shH b h) (sh b.next v) = some (sh b.next r.1, shH b r.2) := by
  unfold fzd at H
  split at H
  · simp only [fzd, sh, row_shH L, Option.bind_eq_some_iff] at H ⊢
    obtain ⟨⟨es, els⟩, h1, e, h2, h3⟩ := H
    simp only [Option.map_eq_some_iff]
    refine ⟨(es, els.map (sh b.next)), ⟨_, h1, rfl⟩, sh b.next e, by simp [h2], ?_⟩
    split at h3
    · rename_i x
      cases h3
      simp only [sh]
      rw [kill_shH L]
    · rename_i l
      simp only [Option.bind_eq_some_iff] at h3
      obtain ⟨s, h4, h5⟩ := h3
      split at h5
      · rename_i hsm
        cases h5
        have h6 := frzs_sh L h4
        have h7 := sameAt_sh L hsm
        simp only [sh] at h7 ⊢
        simp only [shs_map, h6, Option.bind_some, h7, if_true]
        rw [kill_shH L]
      · cases h5
    · cases h3
  · cases H
theorem clV_sh {s : Nat} : ∀ {v : V}, clV v = true → sh s v = v
  | .d _, _ | .fp _ _, _ | .ub, _ | .undef, _ | .ifc .., _ | .nif, _ | .pan .., _ => rfl
  | .tl l _, h | .clo _ l, h | .agg l, h | .tup l, h => by simp only [clV] at h; simp only [sh, clVs_sh h]
  | .own .., h | .ptr .., h | .map _, h | .yld _, h => by simp [clV] at h
theorem clVs_sh {s : Nat} : ∀ {l : List V}, clVs l = true → shs s l = l
  | [], _ => rfl
  | v :: r, h => by simp only [clVs, Bool.and_eq_true] at h; simp only [shs, clV_sh h.1, clVs_sh h.2]
end
def clO : Opd → Bool
  | .t _ => true
  | .c v => clV v
def clOo : Option Opd → Bool
  | none => true
  | some x => clO x
def clOp : AOp → Bool
  | .mv x | .box _ x | .ld _ _ x | .nilck x | .nilBin _ _ x | .un _ x | .conv _ x | .fa _ x | .fld _ _ _ x
  | .lenS x | .lenL x | .lenM x | .capT x | .ext _ x | .ldf _ _ x | .mkif _ x | .tas _ x | .pnc x => clO x
  | .mksl z _ _ x | .mkslT z _ x => clV z && clO x
  | .appz z _ _ x y => clV z && clO x && clO y
  | .pick c a b => clO c && clO a && clO b
  | .alloc _ z => clV z
  | .mkmap | .stuck => true
  | .build z ps => clVs z && ps.all fun p => clO p.2.2
  | .bsl _ xs | .bslO _ xs | .mkf _ xs => xs.all clO
  | .st _ x y | .bin _ x y | .binB _ x y | .aggBin _ _ x y | .ia _ x y | .ixS x y | .app _ _ x y | .appn _ _ x y | .appf _ _ x y | .appd _ _ x y | .cpy _ x y => clO x && clO y
  | .lk _ z _ x y => clV z && clO x && clO y
  | .slcS x lo hi | .slc _ x lo hi => clO x && clOo lo && clOo hi
  | .slc3 _ x lo hi mx => clO x && clOo lo && clOo hi && clOo mx
  | .mu _ m k x => clO m && clO k && clO x
  | .ldk k _ _ x => clO k && clO x
  | .callk k f _ xs | .callz k f _ xs => clO k && (clO f && xs.all clO)
  | .stk k _ a x => clO k && (clO a && clO x)
  | .call f _ xs | .calln f _ xs | .callf f _ xs => clO f && xs.all clO
def clI : It → Bool
  | .o _ op _ => clOp op
  | _ => true
def clC : AC → Bool
  | .reg its _ => its.all clI
  | .seq a b => clC a && clC b
  | .cond c a b => clO c && clC a && clC b
  | .blk _ a | .loop a => clC a
  | .rng g _ => clO g
  | .amb p c a b r => clC p && clO c && clC a && clC b && clC r
  | .dfr its _ f xs r => its.all clI && (clO f && xs.all clO) && clC r
  | .rcv _ _ _ r => clC r
  | _ => true

section
variable {b : Hp} {h : Hp} {e : Env} {cf : Cf}

theorem ev_sh {s : Nat} {x : Opd} (hc : clO x = true) : (shE s e).ev x = sh s (e.ev x) := by
  cases x with
  | t n => exact get_sh e n
  | c v => exact (clV_sh hc).symm
theorem evO_sh {s : Nat} {x : Option Opd} (hc : clOo x = true) : x.map (shE s e).ev = (x.map e.ev).map (sh s) := by
  cases x with
  | none => rfl
  | some y => exact congrArg some (ev_sh hc)
theorem evL_sh {s : Nat} {l : List Opd} (hc : l.all clO = true) : l.map (shE s e).ev = (l.map e.ev).map (sh s) := by
  rw [List.map_map]
  exact List.map_congr_left fun x hx => ev_sh (List.all_eq_true.1 hc x hx)

/-- What a call does in a greater heap. -/
def CfSh (b : Hp) (cf : Cf) : Prop := ∀ v vs h r, cf v vs h = some r → cf (sh b.next v) (vs.map (sh b.next)) (shH b h) = some (sh b.next r.1, shH b r.2)

theorem pure_sh {f : Option V} {g : Option V} {r : V × Hp} (hf : ∀ v, f = some v → g = some (sh b.next v)) (H : pureV h f = some r) : pureV (shH b h) g = some (sh b.next r.1, shH b r.2) := by
  cases f with
  | none => cases H
  | some v => cases H; rw [hf v rfl]; rfl

theorem isPan_sh {s : Nat} (v : V) : isPan (sh s v) = isPan v := by cases v <;> rfl
theorem np_sh {b : Hp} {x y : Option (V × Hp)} {r : V × Hp} (H : np x = some r) (h : ∀ r, x = some r → y = some (sh b.next r.1, shH b r.2)) : np y = some (sh b.next r.1, shH b r.2) := by
  obtain ⟨h1, h2⟩ := np_some H
  rw [h r h1]
  exact np_of (by rw [isPan_sh]; exact h2)
theorem opX_sh (L : Low b) (HC : CfSh b cf) {op : AOp} (hc : clOp op = true) {r : V × Hp} (H : opX cf e h op = some r) : opX cf (shE b.next e) (shH b h) op = some (sh b.next r.1, shH b r.2) := by
  cases op with
  | mv x => cases H; simp only [opX]; rw [ev_sh hc]
  | pick c x y =>
    simp only [clOp, Bool.and_eq_true] at hc
    simp only [opX] at H ⊢
    rw [ev_sh hc.1.1, ev_sh hc.1.2, ev_sh hc.2]
    exact pure_sh (fun v hv => pick_sh hv) H
  | alloc es z =>
    cases H
    simp only [opX, sh, next_shH]
    have hz := clV_sh (s := b.next) hc
    have := alloc_shH (b := b) (h := h) (.arr es [z])
    simp only [shO, List.map_cons, List.map_nil, hz] at this
    rw [this]
  | box es x =>
    simp only [opX] at H ⊢
    rw [ev_sh hc, stor_sh, cells_sh, List.length_map]
    split at H
    · rename_i h1
      cases H
      rw [if_pos h1]
      have := alloc_shH (b := b) (h := h) (.arr es [e.ev x])
      simp only [shO, List.map_cons, List.map_nil] at this
      rw [this]; rfl
    · cases H
  | build z ps =>
    simp only [clOp, Bool.and_eq_true] at hc
    simp only [opX] at H ⊢
    refine pure_sh (fun v hv => ?_) H
    simp only [Option.map_eq_some_iff] at hv ⊢
    obtain ⟨l, h1, h2⟩ := hv
    subst h2
    have h3 := lay_sh (s := b.next) _ _ _ h1
    rw [← shs_map, clVs_sh hc.1, List.map_map] at h3
    refine ⟨_, ?_, mkAgg_sh l⟩
    rw [← h3]
    congr 1
    exact List.map_congr_left fun p hp => by
      show (p.1, p.2.1, (shE b.next e).ev p.2.2) = _
      rw [ev_sh (List.all_eq_true.1 hc.2 p hp)]; rfl
  | bsl es xs =>
    simp only [opX] at H ⊢
    have hl := evL_sh (e := e) (s := b.next) hc
    rw [hl]
    have hall : ((xs.map e.ev).map (sh b.next)).all (fun v => stor v && v.cells.length == es) = (xs.map e.ev).all (fun v => stor v && v.cells.length == es) := by
      rw [List.all_map]; congr 1; funext x; simp [stor_sh, cells_sh]
    rw [hall]
    split at H
    · rename_i h1
      cases H
      rw [if_pos h1]
      simp only [sh, shs_map, List.map_map, Option.some.injEq, Prod.mk.injEq, V.tl.injEq, and_true]
      exact List.map_congr_left fun x hx => by simp only [Function.comp]; rw [ev_sh (List.all_eq_true.1 hc x hx), norm_sh]
    · cases H
  | bslO es xs =>
    simp only [opX] at H ⊢
    have hl := evL_sh (e := e) (s := b.next) hc
    rw [hl]
    have hall : ((xs.map e.ev).map (sh b.next)).all (fun v => stor v && v.cells.length == es) = (xs.map e.ev).all (fun v => stor v && v.cells.length == es) := by
      rw [List.all_map]; congr 1; funext x; simp [stor_sh, cells_sh]
    rw [hall]
    split at H
    · rename_i h1
      cases H
      rw [if_pos h1, ← alloc_shH]
      simp only [sh, next_shH, shO, List.map_map, Option.some.injEq, Prod.mk.injEq, true_and]
      congr 2
      exact List.map_congr_left fun x hx => by simp only [Function.comp]; rw [ev_sh (List.all_eq_true.1 hc x hx), norm_sh]
    · cases H
  | ld ag sz a => simp only [opX] at H ⊢; rw [ev_sh hc]; exact pure_sh (fun v hv => ld_sh L hv) H
  | st sz a x =>
    simp only [clOp, Bool.and_eq_true] at hc
    simp only [opX, Option.map_eq_some_iff] at H ⊢
    obtain ⟨h', h1, h2⟩ := H
    subst h2
    rw [ev_sh hc.1, ev_sh hc.2]
    exact ⟨_, st_sh L h1, rfl⟩
  | stk k sz a x =>
    simp only [clOp, Bool.and_eq_true] at hc
    simp only [opX, Option.bind_eq_some_iff] at H ⊢
    obtain ⟨h', h1, h2⟩ := H
    rw [ev_sh hc.1, ev_sh hc.2.1, ev_sh hc.2.2]
    refine ⟨_, st_sh L h1, ?_⟩
    split at h2
    · rename_i hs
      cases h2
      rw [if_pos (sameAt_sh L hs)]
      rfl
    · cases h2
  | nilck x => simp only [opX] at H ⊢; rw [ev_sh hc]; exact pure_sh (fun v hv => nilck_sh hv) H
  | bin op x y => simp only [clOp, Bool.and_eq_true] at hc; simp only [opX] at H ⊢; rw [ev_sh hc.1, ev_sh hc.2]; exact pure_sh (fun v hv => bin_sh hv) H
  | binB op x y => simp only [clOp, Bool.and_eq_true] at hc; simp only [opX] at H ⊢; rw [ev_sh hc.1, ev_sh hc.2]; exact pure_sh (fun v hv => binB_sh hv) H
  | nilBin k op x => simp only [opX] at H ⊢; rw [ev_sh hc]; exact pure_sh (fun v hv => nilBin_sh hv) H
  | aggBin ks op x y => simp only [clOp, Bool.and_eq_true] at hc; simp only [opX] at H ⊢; rw [ev_sh hc.1, ev_sh hc.2]; exact pure_sh (fun v hv => aggBin_sh hv) H
  | un op x => simp only [opX] at H ⊢; rw [ev_sh hc]; exact pure_sh (fun v hv => un_sh hv) H
  | conv k x => simp only [opX] at H ⊢; rw [ev_sh hc]; exact pure_sh (fun v hv => conv_sh hv) H
  | mkf f xs => cases H; simp only [opX, sh, shs_map]; rw [evL_sh hc]
  | mkmap =>
    cases H
    simp only [opX, sh, next_shH]
    have := alloc_shH (b := b) (h := h) (.mp [])
    simp only [shO, List.map_nil] at this
    rw [this]
  | mksl z es by_ n =>
    simp only [clOp, Bool.and_eq_true] at hc
    simp only [opX] at H ⊢
    rw [ev_sh hc.2]
    exact mkslO_sh (clV_sh hc.1) H
  | mkslT z by_ n =>
    simp only [clOp, Bool.and_eq_true] at hc
    simp only [opX] at H ⊢
    rw [ev_sh hc.2]
    exact pure_sh (fun v hv => mkslT_sh (clV_sh hc.1) hv) H
  | slcS x lo hi => simp only [clOp, Bool.and_eq_true] at hc; simp only [opX] at H ⊢; rw [ev_sh hc.1.1, evO_sh hc.1.2, evO_sh hc.2]; exact pure_sh (fun v hv => slcS_sh hv) H
  | slc es x lo hi => simp only [clOp, Bool.and_eq_true] at hc; simp only [opX] at H ⊢; rw [ev_sh hc.1.1, evO_sh hc.1.2, evO_sh hc.2]; exact pure_sh (fun v hv => slc_sh hv) H
  | slc3 es x lo hi mx => simp only [clOp, Bool.and_eq_true] at hc; simp only [opX] at H ⊢; rw [ev_sh hc.1.1.1, evO_sh hc.1.1.2, evO_sh hc.1.2, evO_sh hc.2]; exact pure_sh (fun v hv => slc3_sh hv) H
  | fa off x => simp only [opX] at H ⊢; rw [ev_sh hc]; exact pure_sh (fun v hv => fa_sh hv) H
  | fld ag off sz x => simp only [opX] at H ⊢; rw [ev_sh hc]; exact pure_sh (fun v hv => fld_sh hv) H
  | ia es x y => simp only [clOp, Bool.and_eq_true] at hc; simp only [opX] at H ⊢; rw [ev_sh hc.1, ev_sh hc.2]; exact pure_sh (fun v hv => ia_sh hv) H
  | ixS x y => simp only [clOp, Bool.and_eq_true] at hc; simp only [opX] at H ⊢; rw [ev_sh hc.1, ev_sh hc.2]; exact pure_sh (fun v hv => ixS_sh hv) H
  | lk kk z ok m k => simp only [clOp, Bool.and_eq_true] at hc; simp only [opX] at H ⊢; rw [ev_sh hc.1.2, ev_sh hc.2]; exact pure_sh (fun v hv => lk_sh L (clV_sh hc.1.1) hv) H
  | mu kk m k x =>
    simp only [clOp, Bool.and_eq_true] at hc
    simp only [opX, Option.map_eq_some_iff] at H ⊢
    obtain ⟨h', h1, h2⟩ := H
    subst h2
    rw [ev_sh hc.1.1, ev_sh hc.1.2, ev_sh hc.2]
    exact ⟨_, mu_sh L h1, rfl⟩
  | lenS x => simp only [opX] at H ⊢; rw [ev_sh hc]; exact pure_sh (fun v hv => lenS_sh hv) H
  | stuck => simp only [opX] at H; cases H
  | ldk k ag sz a => simp only [clOp, Bool.and_eq_true] at hc; simp only [opX] at H ⊢; rw [ev_sh hc.1, ev_sh hc.2]; exact pure_sh (fun v hv => ldk_sh L hv) H
  | callk k f nm xs =>
    simp only [clOp, Bool.and_eq_true] at hc
    simp only [opX, Option.bind_eq_some_iff] at H ⊢
    obtain ⟨q, h1, h2⟩ := H
    rw [ev_sh hc.1, ev_sh hc.2.1, evL_sh hc.2.2, normArgs_sh]
    refine ⟨_, HC _ _ _ _ h1, ?_⟩
    split at h2
    · rename_i hs
      cases h2
      rw [if_pos (sameAt_sh L hs)]
    · cases h2
  | callz k f nm xs =>
    simp only [clOp, Bool.and_eq_true] at hc
    simp only [opX, Option.bind_eq_some_iff] at H ⊢
    obtain ⟨q, h1, q2, h3, h2⟩ := H
    rw [ev_sh hc.1, ev_sh hc.2.1, evL_sh hc.2.2, normArgs_sh]
    refine ⟨_, HC _ _ _ _ h1, _, frz_sh L h3, ?_⟩
    split at h2
    · rename_i hs
      cases h2
      rw [if_pos (sameAt_sh L hs)]
    · cases h2
  | capT x => simp only [opX] at H ⊢; rw [ev_sh hc]; exact pure_sh (fun v hv => capT_sh hv) H
  | appz z es by_ x y =>
    simp only [clOp, Bool.and_eq_true] at hc
    simp only [opX] at H ⊢
    rw [ev_sh hc.1.2, ev_sh hc.2]
    exact appz_sh (clV_sh hc.1.1) H
  | lenL x => simp only [opX] at H ⊢; rw [ev_sh hc]; exact pure_sh (fun v hv => lenL_sh hv) H
  | lenM x => simp only [opX] at H ⊢; rw [ev_sh hc]; exact pure_sh (fun v hv => lenM_sh L hv) H
  | app es by_ x y => simp only [clOp, Bool.and_eq_true] at hc; simp only [opX] at H ⊢; rw [ev_sh hc.1, ev_sh hc.2]; exact app_sh L H
  | appn es by_ x y => simp only [clOp, Bool.and_eq_true] at hc; simp only [opX] at H ⊢; rw [ev_sh hc.1, ev_sh hc.2]; exact appn_sh L H
  | appd es by_ x y => simp only [clOp, Bool.and_eq_true] at hc; simp only [opX] at H ⊢; rw [ev_sh hc.1, ev_sh hc.2]; exact pure_sh (fun v hv => appd_sh hv) H
  | appf es by_ x y =>
    simp only [clOp, Bool.and_eq_true] at hc
    simp only [opX] at H ⊢
    rw [ev_sh hc.1, ev_sh hc.2]
    simp only [Option.bind_eq_some_iff] at H ⊢
    obtain ⟨q, h1, h2⟩ := H
    exact ⟨_, app_sh L h1, frz_sh L h2⟩
  | cpy es x y => simp only [clOp, Bool.and_eq_true] at hc; simp only [opX] at H ⊢; rw [ev_sh hc.1, ev_sh hc.2]; exact cpy_sh L H
  | ext i x => simp only [opX] at H ⊢; rw [ev_sh hc]; exact pure_sh (fun v hv => ext_sh hv) H
  | mkif t x =>
    simp only [opX] at H ⊢; rw [ev_sh hc]
    refine pure_sh (fun v hv => ?_) H
    simp only [mkif, toD_sh, Option.map_eq_some_iff] at hv ⊢
    obtain ⟨y, hy, rfl⟩ := hv
    exact ⟨y, hy, rfl⟩
  | tas t x =>
    simp only [opX] at H ⊢; rw [ev_sh hc]
    refine pure_sh (fun v hv => ?_) H
    unfold tas at hv
    split at hv
    · rename_i u y hx
      split at hv
      · rename_i hu
        cases hv
        rw [hx]
        simp only [sh, tas, if_pos hu, shs]
      · cases hv
    · cases hv
  | pnc x =>
    simp only [opX] at H ⊢; rw [ev_sh hc]
    refine pure_sh (fun v hv => ?_) H
    unfold pnc at hv
    split at hv
    · rename_i u y hx
      cases hv
      rw [hx]
      rfl
    · cases hv
  | ldf ag sz a => simp only [opX] at H ⊢; rw [ev_sh hc]; exact pure_sh (fun v hv => ldf_sh L hv) H
  | call f nm xs =>
    simp only [clOp, Bool.and_eq_true] at hc
    simp only [opX] at H ⊢
    rw [ev_sh hc.1, evL_sh hc.2, normArgs_sh]
    exact HC _ _ _ _ H
  | callf f nm xs =>
    simp only [clOp, Bool.and_eq_true] at hc
    simp only [opX, Option.bind_eq_some_iff] at H ⊢
    obtain ⟨q, h1, h2⟩ := H
    rw [ev_sh hc.1, evL_sh hc.2, normArgs_sh]
    exact ⟨_, HC _ _ _ _ h1, frz_sh L h2⟩
  | calln f nm xs =>
    simp only [clOp, Bool.and_eq_true] at hc
    simp only [opX, Option.bind_eq_some_iff] at H ⊢
    obtain ⟨q, h1, h2⟩ := H
    rw [ev_sh hc.1, evL_sh hc.2, normArgs_sh]
    refine ⟨_, np_sh h1 (fun r hr => HC _ _ _ _ hr), ?_⟩
    obtain ⟨h3, h4⟩ := quiet_eq h2
    subst h3
    rw [h4]
    unfold quiet
    rw [if_pos ⟨objsBeq_refl _, rfl⟩]

theorem want_sh {s : Nat} (g : Option (Nat × Bool)) : want (shE s e) g = want e g := by
  cases g with
  | none => rfl
  | some p =>
    simp only [want, get_sh]
    cases e.get p.1 with
    | tup l => cases l <;> rfl
    | _ => rfl
theorem itX_sh (L : Low b) (HC : CfSh b cf) {i : It} (hc : clI i = true) {r : Env × Hp} (H : itX cf e h i = some r) : itX cf (shE b.next e) (shH b h) i = some (shE b.next r.1, shH b r.2) := by
  cases i with
  | o dst op g =>
    simp only [itX, want_sh, Option.bind_eq_some_iff] at H ⊢
    obtain ⟨w, hw, H⟩ := H
    refine ⟨w, hw, ?_⟩
    split at H
    · rename_i h1
      rw [if_pos h1]
      simp only [Option.map_eq_some_iff] at H ⊢
      obtain ⟨q, h2, h3⟩ := H
      subst h3
      exact ⟨_, np_sh h2 (fun r hr => opX_sh L HC hc hr), by rw [putO_sh]⟩
    · rename_i h1
      rw [if_neg h1]
      cases H
      exact congrArg (fun q => some (q, shH b h)) (putO_sh (s := b.next) e dst (.tup []))
  | frz t =>
    simp only [itX, get_sh, Option.map_eq_some_iff] at H ⊢
    obtain ⟨q, h2, h3⟩ := H
    subst h3
    exact ⟨_, frz_sh L h2, rfl⟩
  | fzd t =>
    simp only [itX, get_sh, Option.map_eq_some_iff] at H ⊢
    obtain ⟨q, h2, h3⟩ := H
    subst h3
    exact ⟨_, fzd_sh L h2, rfl⟩
  | kill t =>
    simp only [itX, get_sh] at H ⊢
    split at H
    · rename_i hx
      cases H
      rw [hx]
      simp only [sh]
      rw [kill_shH L]; rfl
    · rename_i hx
      cases H
      rw [hx]
      simp only [sh]
      rw [kill_shH L]; rfl
    · rename_i k1 k2
      cases H
      split
      · rename_i hx
        exfalso
        cases hq : e.get t <;> rw [hq] at hx <;> simp [sh] at hx
        exact k1 _ _ _ _ hq
      · rename_i hx
        exfalso
        cases hq : e.get t <;> rw [hq] at hx <;> simp [sh] at hx
        exact k2 _ _ _ _ _ hq
      · rfl
end

theorem panF_sh {s : Nat} (op : AOp) (v : V) : panF op (sh s v) = panF op v := by unfold panF; rw [isPan_sh]
theorem itP_sh {b : Hp} {cf : Cf} {e : Env} {h : Hp} (L : Low b) (HC : CfSh b cf) {i : It} (hc : clI i = true) {r : Pn × Env × Hp} (H : itP cf e h i = some r) : itP cf (shE b.next e) (shH b h) i = some (r.1, shE b.next r.2.1, shH b r.2.2) := by
  cases i with
  | o dst op g =>
    simp only [itP, want_sh, Option.bind_eq_some_iff] at H ⊢
    obtain ⟨w, hw, H⟩ := H
    refine ⟨w, hw, ?_⟩
    split at H
    · rename_i h1
      rw [if_pos h1]
      simp only [Option.bind_eq_some_iff, Option.map_eq_some_iff] at H ⊢
      obtain ⟨q, h2, p, h3, h4⟩ := H
      subst h4
      exact ⟨_, opX_sh L HC hc h2, p, by rw [panF_sh]; exact h3, by rw [putO_sh]⟩
    · rename_i h1
      rw [if_neg h1]
      cases H
      exact congrArg (fun q => some (none, q, shH b h)) (putO_sh (s := b.next) e dst (.tup []))
  | frz t =>
    simp only [itP, Option.map_eq_some_iff] at H ⊢
    obtain ⟨q, h2, h3⟩ := H
    subst h3
    exact ⟨_, itX_sh L HC hc h2, rfl⟩
  | fzd t =>
    simp only [itP, Option.map_eq_some_iff] at H ⊢
    obtain ⟨q, h2, h3⟩ := H
    subst h3
    exact ⟨_, itX_sh L HC hc h2, rfl⟩
  | kill t =>
    simp only [itP, Option.map_eq_some_iff] at H ⊢
    obtain ⟨q, h2, h3⟩ := H
    subst h3
    exact ⟨_, itX_sh L HC hc h2, rfl⟩
theorem itsP_sh {b : Hp} {cf : Cf} (L : Low b) (HC : CfSh b cf) : ∀ {l : List It} {e : Env} {h : Hp} {r : Pn × Env × Hp}, l.all clI = true → itsP cf l e h = some r → itsP cf l (shE b.next e) (shH b h) = some (r.1, shE b.next r.2.1, shH b r.2.2)
  | [], _, _, _, _, H => by cases H; rfl
  | i :: l, e, h, r, hc, H => by
    simp only [List.all_cons, Bool.and_eq_true] at hc
    simp only [itsP, Option.bind_eq_some_iff] at H ⊢
    obtain ⟨⟨p, e1, h1⟩, h2, h3⟩ := H
    refine ⟨_, itP_sh L HC hc.1 h2, ?_⟩
    cases p with
    | some p => cases h3; rfl
    | none => exact itsP_sh L HC hc.2 h3
theorem keepP_sh {s : Nat} (its : List It) (kp : Option (List Nat)) (e : Env) : keepP its kp (shE s e) = shE s (keepP its kp e) := by
  cases kp with
  | none => rfl
  | some l => exact keep_sh e _

def OutSh (b : Hp) (o : Out) : Out := (o.1, shE b.next o.2.1, shH b o.2.2)
def BfSh (b : Hp) (f : Bf) : Prop := ∀ e h r, f e h = some r → f (shE b.next e) (shH b h) = some (OutSh b r)

theorem regE_sh {b : Hp} (its : List It) (kp : Option (List Nat)) (e : Env) (r : Pn × Env × Hp) : regE its kp (shE b.next e) (r.1, shE b.next r.2.1, shH b r.2.2) = OutSh b (regE its kp e r) := by
  obtain ⟨p, e1, h1⟩ := r
  cases p with
  | none => unfold regE OutSh; simp only; rw [keepE_sh]
  | some p => unfold regE OutSh; simp only; rw [keepP_sh]; rfl
theorem loopN_sh {b : Hp} {f : Bf} (hf : BfSh b f) : ∀ n, BfSh b (loopN f n)
  | 0 => fun e h r H => by cases H
  | n + 1 => fun e h r H => by
    simp only [loopN, Option.bind_eq_some_iff] at H ⊢
    obtain ⟨⟨x, e1, h1⟩, h2, h3⟩ := H
    refine ⟨_, hf _ _ _ h2, ?_⟩
    cases x with
    | norm => exact loopN_sh hf n _ _ _ h3
    | exit i => cases h3; rfl
    | ret => cases h3; rfl
    | pan => cases h3; rfl

theorem rngEnd_sh {b : Hp} (L : Low b) {e : Env} {h : Hp} {n : Nat} {r : Out} (H : rngEnd e h n = some r) : rngEnd (shE b.next e) (shH b h) (n + b.next) = some (OutSh b r) := by
  unfold rngEnd at H ⊢
  rw [get_shH L]
  split at H <;> first | (cases H; done) | skip
  all_goals
    rename_i hg
    cases H
    rw [hg]
    simp only [Option.map_some, shO, kill_shH L]
    rfl
theorem joinV_sh {s : Nat} {a b c : V} (h : joinV a b = some c) : joinV (sh s a) (sh s b) = some (sh s c) := by
  unfold joinV at h ⊢
  split at h
  · rename_i hb; cases h
    have := V.beq_eq hb
    subst this
    rw [if_pos (V.beq_refl _)]
  · rename_i hb
    split at h
    · rename_i p q
      cases h
      rw [if_neg (by simpa [sh, shs] using hb)]
      rfl
    · cases h
theorem joinE_sh {s : Nat} : ∀ {e f j : List (Nat × V)}, joinE e f = some j → joinE (shE s e) (shE s f) = some (shE s j)
  | [], [], _, h => by cases h; rfl
  | (u, x) :: r, (u', y) :: l, j, h => by
    unfold joinE at h
    split at h
    case isFalse => cases h
    rename_i hu
    subst hu
    simp only [Option.bind_eq_some_iff, Option.map_eq_some_iff] at h
    obtain ⟨v, h1, k, h2, rfl⟩ := h
    show (if u = u then (joinV (sh s x) (sh s y)).bind fun v => (joinE (shE s r) (shE s l)).map ((u, v) :: ·) else none) = _
    rw [if_pos rfl, joinV_sh h1]
    simp only [Option.bind_some]
    rw [joinE_sh h2]
    rfl
  | [], _ :: _, _, h => by cases h
  | _ :: _, [], _, h => by cases h
theorem outJoin_sh {b : Hp} {o q r : Out} (h : outJoin o q = some r) : outJoin (OutSh b o) (OutSh b q) = some (OutSh b r) := by
  unfold outJoin at h ⊢
  split at h
  · rename_i hc
    obtain ⟨h1, hnp, h2, h3⟩ := hc
    simp only [Option.map_eq_some_iff] at h
    obtain ⟨e, he, rfl⟩ := h
    have hq : (OutSh b o).2.2 = (OutSh b q).2.2 := by
      obtain ⟨x, e1, ob, nx⟩ := o
      obtain ⟨x', e2, ob', nx'⟩ := q
      cases objsBeq_eq h2; cases h3; rfl
    rw [if_pos ⟨h1, hnp, by rw [hq]; exact objsBeq_refl _, by rw [hq]⟩]
    show (joinE (shE b.next o.2.1) (shE b.next q.2.1)).map _ = _
    rw [joinE_sh he]
    rfl
  · cases h
theorem exec_sh {b : Hp} {cf : Cf} (L : Low b) (HC : CfSh b cf) (k : Nat) : ∀ c : AC, clC c = true → BfSh b (exec (fun f => loopN f k) cf c) := by
  intro c
  induction c with
  | skip => intro _ e h r H; cases H; rfl
  | reg its kp =>
    intro hc e h r H
    simp only [exec, Option.map_eq_some_iff] at H ⊢
    obtain ⟨q, h1, h2⟩ := H
    subst h2
    exact ⟨_, itsP_sh L HC hc h1, regE_sh ..⟩
  | seq x y ihx ihy =>
    intro hc e h r H
    simp only [clC, Bool.and_eq_true] at hc
    simp only [exec, Option.bind_eq_some_iff] at H ⊢
    obtain ⟨⟨o, e1, h1⟩, h2, h3⟩ := H
    refine ⟨_, ihx hc.1 _ _ _ h2, ?_⟩
    cases o with
    | norm => exact ihy hc.2 _ _ _ h3
    | exit i => cases h3; rfl
    | ret => cases h3; rfl
    | pan => cases h3; rfl
  | cond x p q ihp ihq =>
    intro hc e h r H
    simp only [clC, Bool.and_eq_true] at hc
    simp only [exec, Option.bind_eq_some_iff] at H ⊢
    obtain ⟨t, h1, h2⟩ := H
    refine ⟨t, ?_, ?_⟩
    · rw [ev_sh hc.1.1]
      unfold condB at h1
      split at h1
      · rename_i hx; cases h1; rw [hx]; rfl
      · cases h1
    · split at h2
      · rename_i ht; rw [if_pos ht]; exact ihp hc.1.2 _ _ _ h2
      · rename_i ht; rw [if_neg ht]; exact ihq hc.2 _ _ _ h2
  | blk id x ih =>
    intro hc e h r H
    simp only [exec, Option.map_eq_some_iff] at H ⊢
    obtain ⟨o, h1, h2⟩ := H
    subst h2
    exact ⟨_, ih hc _ _ _ h1, rfl⟩
  | loop x ih =>
    intro hc e h r H
    simp only [exec] at H ⊢
    exact loopN_sh (ih hc) k _ _ _ H
  | exit id => intro _ e h r H; cases H; rfl
  | ret => intro _ e h r H; cases H; rfl
  | amb z x p q r' ihz ihp ihq ihr =>
    intro hc e h r H
    simp only [clC, Bool.and_eq_true] at hc
    simp only [exec] at H ⊢
    rw [Option.bind_eq_some_iff] at H ⊢
    obtain ⟨⟨y0, e0, h0⟩, hz, H⟩ := H
    refine ⟨_, ihz hc.1.1.1.1 _ _ _ hz, ?_⟩
    cases y0 with
    | exit i => cases H; rfl
    | ret => cases H; rfl
    | pan => cases H; rfl
    | norm =>
    show ambB x (exec (fun f => loopN f k) cf p) (exec (fun f => loopN f k) cf q) (exec (fun f => loopN f k) cf r') (shE b.next e0) (shH b h0) = some (OutSh b r)
    have H : ambB x (exec (fun f => loopN f k) cf p) (exec (fun f => loopN f k) cf q) (exec (fun f => loopN f k) cf r') e0 h0 = some r := H
    have sq : ∀ (p : AC), BfSh b (exec (fun f => loopN f k) cf p) → ∀ o, (exec (fun f => loopN f k) cf p e0 h0).bind (nxt (exec (fun f => loopN f k) cf r')) = some o → (exec (fun f => loopN f k) cf p (shE b.next e0) (shH b h0)).bind (nxt (exec (fun f => loopN f k) cf r')) = some (OutSh b o) := by
      intro p ih o ho
      simp only [Option.bind_eq_some_iff] at ho ⊢
      obtain ⟨⟨y, e1, h1⟩, h2, h3⟩ := ho
      refine ⟨_, ih _ _ _ h2, ?_⟩
      cases y with
      | norm => exact ihr hc.2 _ _ _ h3
      | exit i => cases h3; rfl
      | ret => cases h3; rfl
      | pan => cases h3; rfl
    unfold ambB at H ⊢
    rw [ev_sh hc.1.1.1.2]
    split at H
    · rename_i hu
      rw [hu]
      simp only [sh]
      rw [Option.bind_eq_some_iff] at H
      obtain ⟨o1, h1, H⟩ := H
      rw [Option.bind_eq_some_iff] at H
      obtain ⟨o2, h2, h3⟩ := H
      rw [sq p (ihp hc.1.1.2) _ h1]
      simp only [Option.bind_some]
      rw [sq q (ihq hc.1.2) _ h2]
      simp only [Option.bind_some]
      exact outJoin_sh h3
    · rename_i v hv
      have hne : sh b.next (e0.ev x) = .ub → False := by
        intro hx
        generalize e0.ev x = y at hx hv
        cases y <;> first | exact hv rfl | cases hx
      split
      · rename_i hx; exact (hne hx).elim
      rw [Option.bind_eq_some_iff] at H
      obtain ⟨t, h1, h2⟩ := H
      have hcb : condB (sh b.next (e0.ev x)) = some t := by
        unfold condB at h1
        split at h1
        · rename_i hx; cases h1; rw [hx]; rfl
        · cases h1
      rw [hcb]
      simp only [Option.bind_some]
      split at h2
      · rename_i ht; rw [if_pos ht]; exact sq p (ihp hc.1.1.2) _ h2
      · rename_i ht; rw [if_neg ht]; exact sq q (ihq hc.1.2) _ h2
  | rng g n =>
    intro hc e h r H
    simp only [exec] at H ⊢
    split at H
    case isFalse => cases H
    rename_i hcl
    simp only [Option.bind_eq_some_iff] at H
    obtain ⟨q, h1, h2⟩ := H
    have hclo : isClo ((shE b.next e).ev g) = true := by
      rw [ev_sh hc]
      generalize e.ev g = v at hcl
      cases v <;> first | rfl | cases hcl
    rw [if_pos hclo, ev_sh hc]
    have hal : (shH b h).alloc (.lp n (shE b.next e) none) = shH b (h.alloc (.lp n e none)) := alloc_shH (.lp n e none)
    rw [hal]
    have hk := np_sh h1 (fun r hr => HC _ _ _ _ hr)
    have hk' : np (cf (sh b.next (e.ev g)) [.yld (shH b h).next] (shH b (h.alloc (.lp n e none)))) = some (sh b.next q.1, shH b q.2) := hk
    rw [hk']
    exact rngEnd_sh L h2
  | dfr its kp f xs r' ih => intro hc e h r H; cases H
  | rcv d d2 kp r' ih => intro hc e h r H; cases H

theorem deep_sh {b h : Hp} (L : Low b) (n0 : Nat) : ∀ (k : Nat) (v : V) (x : D), deep h n0 k v = some x → deep (shH b h) (n0 + b.next) k (sh b.next v) = some x
  | 0, v, x, H => by cases H
  | k + 1, v, x, H => by
    have hm : ∀ (l : List V) (r : List D), l.mapM (deep h n0 k) = some r → (l.map (sh b.next)).mapM (deep (shH b h) (n0 + b.next) k) = some r := by
      intro l
      induction l with
      | nil => intro r hr; cases hr; rfl
      | cons y l ih =>
        intro r hr
        rw [List.mapM_cons] at hr
        cases hy : deep h n0 k y with
        | none => rw [hy] at hr; cases hr
        | some d =>
          rw [hy] at hr
          cases hl : l.mapM (deep h n0 k) with
          | none => rw [hl] at hr; cases hr
          | some ds =>
            rw [hl] at hr
            cases hr
            rw [List.map_cons, List.mapM_cons, deep_sh L n0 k y d hy, ih ds hl]; rfl
    cases v with
    | d y => exact H
    | tl l nl =>
      simp only [deep, sh, shs_map, Option.map_eq_some_iff] at H ⊢
      obtain ⟨r, h1, h2⟩ := H
      exact ⟨r, hm l r h1, h2⟩
    | agg l =>
      simp only [deep, sh, shs_map, Option.map_eq_some_iff] at H ⊢
      obtain ⟨r, h1, h2⟩ := H
      exact ⟨r, hm l r h1, h2⟩
    | own n es tot off len =>
      simp only [deep, sh] at H ⊢
      split at H
      · rename_i hn
        rw [if_pos (by omega)]
        simp only [row_shH L, Option.bind_eq_some_iff, Option.map_eq_some_iff] at H ⊢
        obtain ⟨⟨es', els⟩, h1, h2⟩ := H
        refine ⟨_, ⟨_, h1, rfl⟩, ?_⟩
        simp only [List.length_map] at h2 ⊢
        split at h2
        · rename_i hc
          rw [if_pos hc, ← List.map_drop, ← List.map_take]
          simp only [Option.map_eq_some_iff] at h2 ⊢
          obtain ⟨r, h3, h4⟩ := h2
          exact ⟨r, hm _ r h3, h4⟩
        · cases h2
      · cases H
    | _ => cases H

theorem old_sh {s n0 : Nat} {v : V} (H : old n0 v = true) : old (n0 + s) (sh s v) = true := by
  cases v <;> simp only [old, Bool.false_eq_true] at H <;> simp only [old, sh, decide_eq_true_eq] at H ⊢ <;> omega
theorem back1_sh {b h : Hp} (L : Low b) {n0 : Nat} {v r : V} (H : back1 h n0 v = some r) : back1 (shH b h) (n0 + b.next) (sh b.next v) = some (sh b.next r) := by
  unfold back1 at H ⊢
  split at H
  · rename_i x hx
    cases H
    rw [deep_sh L n0 8 v x hx]; rfl
  · split at H
    · rename_i ho
      cases H
      have hn : deep (shH b h) (n0 + b.next) 8 (sh b.next v) = none := by
        cases v with
        | own n es tot off len =>
          have ho' : decide (n < n0) = true := ho
          simp only [decide_eq_true_eq] at ho'
          simp only [sh, deep]
          rw [if_neg (by omega)]
        | ptr n tot i off => rfl
        | map n => rfl
        | yld n => rfl
        | _ => cases ho
      rw [hn]
      simp only
      rw [if_pos (old_sh ho)]
    · cases H
theorem sufOk_sh {b h0 h : Hp} (H : sufOk h0.objs h.objs = true) : sufOk (shH b h0).objs (shH b h).objs = true := by
  unfold sufOk at H ⊢
  have h1 := objsBeq_eq H
  have hle : h0.objs.length ≤ h.objs.length := by
    have := congrArg List.length h1
    rw [List.length_drop] at this
    omega
  have : h.objs = h.objs.take (h.objs.length - h0.objs.length) ++ h0.objs := by
    conv => lhs; rw [← List.take_append_drop (h.objs.length - h0.objs.length) h.objs]
    rw [← h1]
  have h2 : (shH b h).objs = (h.objs.take (h.objs.length - h0.objs.length)).map (shK b.next) ++ (shH b h0).objs := by
    show h.objs.map (shK b.next) ++ b.objs = _ ++ (h0.objs.map (shK b.next) ++ b.objs)
    rw [← List.append_assoc, ← List.map_append, ← this]
  rw [h2, List.length_append, Nat.add_sub_cancel, List.drop_left]
  exact objsBeq_refl _
theorem finish_sh {b h0 h : Hp} (L : Low b) {fn : AF} {e : Env} {r : V × Hp} (H : finish fn h0 e h = some r) : finish fn (shH b h0) (shE b.next e) (shH b h) = some (sh b.next r.1, shH b r.2) := by
  have hres : ∀ (l : List (Nat × Option (Bool × Nat))) (vs : List V), resL e h l = some vs → resL (shE b.next e) (shH b h) l = some (vs.map (sh b.next)) := by
    intro l
    induction l with
    | nil => intro vs hv; cases hv; rfl
    | cons p l ih =>
      intro vs hv
      obtain ⟨t, o⟩ := p
      cases o with
      | none =>
        simp only [resL, Option.map_eq_some_iff] at hv ⊢
        obtain ⟨ws, h1, rfl⟩ := hv
        exact ⟨_, ih ws h1, by rw [List.map_cons, get_sh]⟩
      | some q =>
        obtain ⟨ag, sz⟩ := q
        simp only [resL, Option.bind_eq_some_iff, Option.map_eq_some_iff] at hv ⊢
        obtain ⟨v, h1, ws, h2, rfl⟩ := hv
        exact ⟨sh b.next v, by rw [get_sh]; exact ld_sh L h1, _, ih ws h2, rfl⟩
  have hrv : ∀ l : List V, resV (l.map (sh b.next)) = sh b.next (resV l) := by
    intro l
    match l with
    | [] => rfl
    | [x] => rfl
    | x :: y :: l => simp [resV, sh, shs_map]
  unfold finish at H ⊢
  simp only [Option.bind_eq_some_iff] at H
  obtain ⟨vs0, hv0, H⟩ := H
  rw [hres _ _ hv0]
  simp only [Option.bind_some]
  split at H
  · rename_i hs
    rw [if_pos hs]
    split at H
    · rename_i h1
      rw [if_pos (sufOk_sh h1)]
      simp only [Option.map_eq_some_iff] at H ⊢
      obtain ⟨l, h2, h3⟩ := H
      subst h3
      have hm : ∀ (l r : List V), l.mapM (back1 h h0.next) = some r → (l.map (sh b.next)).mapM (back1 (shH b h) (shH b h0).next) = some (r.map (sh b.next)) := by
        intro l
        induction l with
        | nil => intro r hr; cases hr; rfl
        | cons y l ih =>
          intro r hr
          rw [List.mapM_cons] at hr
          cases hy : back1 h h0.next y with
          | none => rw [hy] at hr; cases hr
          | some d =>
            rw [hy] at hr
            cases hl : l.mapM (back1 h h0.next) with
            | none => rw [hl] at hr; cases hr
            | some ds =>
              rw [hl] at hr
              cases hr
              rw [List.map_cons, List.mapM_cons, show (shH b h0).next = h0.next + b.next from rfl, back1_sh L hy]
              have := ih ds hl
              rw [show (shH b h0).next = h0.next + b.next from rfl] at this
              rw [this]; rfl
      exact ⟨_, hm _ _ h2, by rw [hrv]⟩
    · cases H
  · rename_i hs
    rw [if_neg hs, hrv]
    cases H
    rfl

theorem deep_low {h : Hp} {n0 n1 : Nat} (hn : n1 ≤ n0) : ∀ (k : Nat) (v : V) (x : D), deep h n0 k v = some x → deep h n1 k v = some x
  | 0, v, x, H => by cases H
  | k + 1, v, x, H => by
    have hm : ∀ (l : List V) (r : List D), l.mapM (deep h n0 k) = some r → l.mapM (deep h n1 k) = some r := by
      intro l
      induction l with
      | nil => intro r hr; exact hr
      | cons y l ih =>
        intro r hr
        rw [List.mapM_cons] at hr ⊢
        cases hy : deep h n0 k y with
        | none => rw [hy] at hr; cases hr
        | some d =>
          rw [hy] at hr
          cases hl : l.mapM (deep h n0 k) with
          | none => rw [hl] at hr; cases hr
          | some ds => rw [hl] at hr; rw [deep_low hn k y d hy, ih ds hl]; exact hr
    cases v with
    | d z => exact H
    | tl l nl =>
      simp only [deep, Option.map_eq_some_iff] at H ⊢
      obtain ⟨r, h1, h2⟩ := H
      exact ⟨r, hm _ _ h1, h2⟩
    | agg l =>
      simp only [deep, Option.map_eq_some_iff] at H ⊢
      obtain ⟨r, h1, h2⟩ := H
      exact ⟨r, hm _ _ h1, h2⟩
    | own n es tot off len =>
      simp only [deep] at H ⊢
      split at H
      case isFalse => cases H
      rename_i h0
      rw [if_pos (Nat.le_trans hn h0)]
      simp only [Option.bind_eq_some_iff] at H ⊢
      obtain ⟨r, h1, h2⟩ := H
      refine ⟨r, h1, ?_⟩
      split at h2
      case isFalse => cases h2
      rename_i h3
      rw [if_pos h3]
      simp only [Option.map_eq_some_iff] at h2 ⊢
      obtain ⟨s, h4, h5⟩ := h2
      exact ⟨s, hm _ _ h4, h5⟩
    | _ => cases H
theorem primC_sh {b h : Hp} (L : Low b) {k : Nat} {vs : List V} {r : V × Hp} (H : primC k vs h = some r) : primC k (vs.map (sh b.next)) (shH b h) = some (sh b.next r.1, shH b r.2) := by
  unfold primC at H ⊢
  simp only [Option.bind_eq_some_iff, Option.map_eq_some_iff] at H ⊢
  obtain ⟨ds, h1, y, h2, rfl⟩ := H
  refine ⟨ds, ?_, y, h2, rfl⟩
  clear h2
  induction vs generalizing ds with
  | nil => cases h1; rfl
  | cons v vs ih =>
    rw [List.mapM_cons] at h1
    cases hv : deep h 0 8 v with
    | none => rw [hv] at h1; cases h1
    | some d =>
      rw [hv] at h1
      cases hl : vs.mapM (deep h 0 8) with
      | none => rw [hl] at h1; cases h1
      | some ds' =>
        rw [hl] at h1
        cases h1
        rw [List.map_cons, List.mapM_cons, deep_low (Nat.zero_le _) 8 _ _ (deep_sh L 0 8 v d hv), ih ds' hl]
        rfl

/-- A table whose code names no object. -/
def TabCl (T : Tab) : Prop := ∀ f fn, T f = some fn → clC fn.body = true

theorem binds_sh {s : Nat} : ∀ (ps : List Nat) (vs : List V) (e : Env), binds ps (vs.map (sh s)) (shE s e) = shE s (binds ps vs e)
  | [], vs, e => by cases vs <;> rfl
  | p :: ps, [], e => rfl
  | p :: ps, v :: vs, e => by
    simp only [List.map_cons, binds]
    exact binds_sh ps vs ((p, v) :: e)
theorem rndEnd_sh {b : Hp} (L : Low b) {n : Nat} {o : Out} {r : V × Hp} (H : rndEnd n o = some r) : rndEnd (n + b.next) (OutSh b o) = some (sh b.next r.1, shH b r.2) := by
  unfold rndEnd at H ⊢
  split at H
  case h_2 => cases H
  rename_i b1 e1 hg
  split at H
  case isTrue => cases H
  rename_i hnp
  cases H
  have hg' : (OutSh b o).2.2.get (n + b.next) = some (.lp b1 (e1.map fun p => (p.1, sh b.next p.2)) (some .norm)) := by
    show (shH b o.2.2).get (n + b.next) = _
    rw [get_shH L, hg]; rfl
  rw [hg']
  simp only
  have := set_shH (b := b) (o := .lp b1 e1 (if o.1 = .norm then none else some o.1)) hg
  simp only [shO] at this
  rw [if_neg (show ¬ (OutSh b o).1 = .pan from hnp)]
  show some (bool (decide (o.1 = .norm)), (shH b o.2.2).set (n + b.next) (.lp b1 (e1.map fun p => (p.1, sh b.next p.2)) (if o.1 = .norm then none else some o.1))) = _
  rw [this]
  rfl
theorem rnd_sh {T : Tab} (HT : TabCl T) {b : Hp} {cf : Cf} (L : Low b) (HC : CfSh b cf) (k : Nat) {n : Nat} {vs : List V} {h : Hp} {r : V × Hp} (H : rnd T (fun f => loopN f k) cf n vs h = some r) : rnd T (fun f => loopN f k) cf (n + b.next) (vs.map (sh b.next)) (shH b h) = some (sh b.next r.1, shH b r.2) := by
  unfold rnd at H ⊢
  rw [get_shH L]
  split at H
  case h_2 => cases H
  rename_i q e hg
  rw [hg]
  simp only [Option.map_some, shO]
  cases hT : T (RB + q) with
  | none => rw [hT] at H; cases H
  | some fn =>
    rw [hT] at H
    simp only [Option.bind_some] at H ⊢
    split at H
    case h_2 => cases H
    rename_i asg bdy hb
    have hcl := HT _ _ hT
    rw [hb] at hcl
    simp only [clC, Bool.and_eq_true] at hcl
    simp only [List.length_map]
    split at H
    case isFalse => cases H
    rename_i hn
    rw [if_pos hn]
    simp only [Option.bind_eq_some_iff] at H ⊢
    obtain ⟨o, h1, h2⟩ := H
    refine ⟨OutSh b o, ?_, ?_⟩
    · have := exec_sh L HC k asg hcl.1 _ _ _ h1
      rw [← binds_sh] at this
      exact this
    · obtain ⟨x, e1, h3⟩ := o
      simp only [OutSh] at h2 ⊢
      cases x with
      | exit i => cases h2
      | ret => cases h2
      | pan => cases h2
      | norm =>
        rw [get_shH L]
        split at h2
        case h_2 => cases h2
        rename_i b' e' _ hg2
        rw [hg2]
        simp only [Option.map_some, shO]
        simp only [Option.bind_eq_some_iff] at h2 ⊢
        obtain ⟨o2, h4, h5⟩ := h2
        refine ⟨OutSh b o2, ?_, rndEnd_sh L h5⟩
        have := exec_sh L HC k bdy hcl.2 _ _ _ h4
        have hs := set_shH (b := b) (o := .lp b' e' (some .norm)) hg2
        simp only [shO] at hs
        rw [hs]
        exact this
theorem ifcOf_sh {s : Nat} (p : Pn) : sh s (ifcOf p) = ifcOf p := by cases p <;> rfl
theorem dEnd_sh {b h0 : Hp} (L : Low b) {fn : AF} {p : Pn} {o : Out} {r : Pn × Hp} (H : dEnd fn h0 p o = some r) : dEnd fn (shH b h0) p (OutSh b o) = some (r.1, shH b r.2) := by
  obtain ⟨x, e, h⟩ := o
  unfold dEnd at H ⊢
  cases x with
  | norm =>
    simp only [OutSh, Option.map_eq_some_iff] at H ⊢
    obtain ⟨q, hq, rfl⟩ := H
    exact ⟨_, finish_sh L hq, rfl⟩
  | ret =>
    simp only [OutSh, Option.map_eq_some_iff] at H ⊢
    obtain ⟨q, hq, rfl⟩ := H
    exact ⟨_, finish_sh L hq, rfl⟩
  | exit i => cases H
  | pan => cases H
def CdSh (b : Hp) (cd : Cd) : Prop := ∀ v vs p h r, cd v vs p h = some r → cd (sh b.next v) (vs.map (sh b.next)) p (shH b h) = some (r.1, shH b r.2)
theorem dcall_sh {T : Tab} (HT : TabCl T) {b : Hp} {cf : Cf} (L : Low b) (HC : CfSh b cf) (k : Nat) : CdSh b (dcall T (fun f => loopN f k) cf) := by
  intro v vs p h r H
  unfold dcall at H
  cases v with
  | clo fid caps =>
    simp only at H
    split at H
    case isFalse => cases H
    rename_i hrb
    simp only [Option.bind_eq_some_iff] at H
    obtain ⟨fn, hT, H⟩ := H
    split at H
    case isFalse => cases H
    rename_i hn
    have hcl := HT _ _ hT
    have hap : vs.map (sh b.next) ++ shs b.next caps = (vs ++ caps).map (sh b.next) := by rw [shs_map, List.map_append]
    simp only [dcall, sh]
    rw [if_pos hrb, hT]
    simp only [Option.bind_some]
    rw [if_pos (by rw [hap, List.length_map]; exact hn)]
    split at H
    · rename_i d d2 kp rest hb
      split at H
      case isFalse => cases H
      rename_i hq
      simp only [Option.bind_eq_some_iff] at H
      obtain ⟨o, h1, h2⟩ := H
      rw [hb] at hcl
      rw [if_pos hq, hap, args_sh]
      have he : keepE kp ((d2, ifcOf p) :: (d, ifcOf p) :: shE b.next (args 0 (vs ++ caps))) = shE b.next (keepE kp ((d2, ifcOf p) :: (d, ifcOf p) :: args 0 (vs ++ caps))) := by
        rw [← keepE_sh]
        simp only [shE, List.map_cons, ifcOf_sh]
      rw [he, exec_sh L HC k rest hcl _ _ _ h1]
      exact dEnd_sh L h2
    · rename_i hb
      split at H
      case isFalse => cases H
      rename_i hq
      simp only [Option.bind_eq_some_iff] at H
      obtain ⟨o, h1, h2⟩ := H
      have key := exec_sh L HC k fn.body hcl _ _ _ h1
      rw [← args_sh, ← hap] at key
      cases hbd : fn.body with
      | rcv a b c d => exact absurd hbd (hb _ _ _ _)
      | _ => rw [hbd] at key hq; rw [if_pos hq, key]; exact dEnd_sh L h2
  | _ => cases H
theorem dfrEnd_sh {b : Hp} {cd : Cd} (HD : CdSh b cd) {f : V} {vs : List V} {o r : Out} (H : dfrEnd cd f vs o = some r) : dfrEnd cd (sh b.next f) (vs.map (sh b.next)) (OutSh b o) = some (OutSh b r) := by
  obtain ⟨x, e, h⟩ := o
  have one : ∀ {q : Option Out}, q = (cd f vs none h).bind (fun r => match r.1 with
      | none => some (.ret, e, r.2)
      | some _ => none) → q = some r → (cd (sh b.next f) (vs.map (sh b.next)) none (shH b h)).bind (fun r => match r.1 with
      | none => some (Ex.ret, shE b.next e, r.2)
      | some _ => none) = some (OutSh b r) := by
    intro q h1 h2
    rw [h2] at h1
    have h1 := h1.symm
    simp only [Option.bind_eq_some_iff] at h1
    obtain ⟨⟨p, h3⟩, h4, h5⟩ := h1
    rw [HD _ _ _ _ _ h4]
    cases p with
    | none => cases h5; rfl
    | some p => cases h5
  cases x with
  | norm => exact one rfl H
  | ret => exact one rfl H
  | exit i => cases H
  | pan =>
    cases e with
    | nil => cases H
    | cons z e =>
      obtain ⟨a, z⟩ := z
      cases z <;> first | (cases H; done) | skip
      rename_i t y
      simp only [dfrEnd, Option.map_eq_some_iff] at H
      obtain ⟨⟨p, h3⟩, h4, rfl⟩ := H
      show Option.map _ (cd (sh b.next f) (vs.map (sh b.next)) (some (t, y)) (shH b h)) = _
      rw [HD _ _ _ _ _ h4]
      cases p <;> rfl
theorem bodyX_sh {b : Hp} {cf : Cf} {cd : Cd} (L : Low b) (HC : CfSh b cf) (HD : CdSh b cd) (k : Nat) : ∀ c : AC, clC c = true → BfSh b (bodyX (fun f => loopN f k) cf cd c) := by
  intro c
  induction c with
  | seq x y ihx ihy =>
    intro hc e h r H
    simp only [clC, Bool.and_eq_true] at hc
    simp only [bodyX, Option.bind_eq_some_iff] at H ⊢
    obtain ⟨⟨o, e1, h1⟩, h2, h3⟩ := H
    refine ⟨_, exec_sh L HC k x hc.1 _ _ _ h2, ?_⟩
    cases o with
    | norm => exact ihy hc.2 _ _ _ h3
    | exit i => cases h3; rfl
    | ret => cases h3; rfl
    | pan => cases h3; rfl
  | dfr its kp f xs r' ih =>
    intro hc e h r H
    simp only [clC, Bool.and_eq_true] at hc
    simp only [bodyX, Option.bind_eq_some_iff] at H ⊢
    obtain ⟨⟨p, e1, h1⟩, h2, h3⟩ := H
    refine ⟨_, itsP_sh L HC hc.1.1 h2, ?_⟩
    cases p with
    | some p => cases h3
    | none =>
      simp only [Option.bind_eq_some_iff] at h3 ⊢
      obtain ⟨o, h4, h5⟩ := h3
      refine ⟨OutSh b o, ?_, ?_⟩
      · rw [keepE_sh]; exact ih hc.2 _ _ _ h4
      · rw [ev_sh hc.1.2.1, evL_sh hc.1.2.2]; exact dfrEnd_sh HD h5
  | _ => intro hc e h r H; unfold bodyX at H ⊢; exact exec_sh L HC k _ hc _ _ _ H
theorem bEnd_sh {b h0 : Hp} (L : Low b) {fn : AF} {o : Out} {r : V × Hp} (H : bEnd fn h0 o = some r) : bEnd fn (shH b h0) (OutSh b o) = some (sh b.next r.1, shH b r.2) := by
  obtain ⟨x, e, h⟩ := o
  cases x with
  | exit i => cases H
  | norm => exact finish_sh L H
  | ret => exact finish_sh L H
  | pan =>
    cases e with
    | nil => cases H
    | cons z e =>
      obtain ⟨a, z⟩ := z
      cases z <;> first | (cases H; done) | skip
      rename_i t y
      have H : (if fn.scp = true then (if sufOk h0.objs h.objs = true then some (V.pan t y, h0) else none) else some (.pan t y, h)) = some r := H
      show (if fn.scp = true then (if sufOk (shH b h0).objs (shH b h).objs = true then some (V.pan t y, shH b h0) else none) else some (.pan t y, shH b h)) = _
      split at H
      · rename_i hs
        rw [if_pos hs]
        split at H
        · rename_i hq
          cases H
          rw [if_pos (sufOk_sh hq)]; rfl
        · cases H
      · rename_i hs
        cases H
        rw [if_neg hs]; rfl
theorem callK_sh {T : Tab} (HT : TabCl T) {b : Hp} (L : Low b) : ∀ (k f : Nat) (vs : List V) (h : Hp) (r : V × Hp), callK T k f vs h = some r → callK T k f (vs.map (sh b.next)) (shH b h) = some (sh b.next r.1, shH b r.2)
  | 0, _, _, _, _, H => by cases H
  | k + 1, f, vs, h, r, H => by
    have HC : CfSh b (callee (callK T k)) := by
      intro v vs h r H
      cases v with
      | clo g caps =>
        simp only [callee, sh, shs_map] at H ⊢
        split at H
        · cases H
        rename_i hg
        rw [if_neg hg, ← List.map_append]
        exact callK_sh HT L k g (vs ++ caps) h r H
      | yld n =>
        have := callK_sh HT L k YF (.yld n :: vs) h r H
        exact this
      | _ => cases H
    unfold callK body at H ⊢
    split at H
    · rename_i hy
      rw [if_pos hy]
      split at H
      case h_2 => cases H
      exact rnd_sh HT L HC k H
    rename_i hy
    rw [if_neg hy]
    split at H
    case isFalse => cases H
    rename_i hrb
    rw [if_pos hrb]
    simp only [Option.bind_eq_some_iff] at H ⊢
    obtain ⟨fn, hT, H⟩ := H
    refine ⟨fn, hT, ?_⟩
    rw [List.length_map]
    split at H
    · rename_i hn
      rw [if_pos hn]
      cases hp : isPr fn.body with
      | some q => rw [hp] at H; exact primC_sh L H
      | none =>
      rw [hp] at H
      simp only [Option.bind_eq_some_iff] at H ⊢
      obtain ⟨o, h1, h2⟩ := H
      rw [args_sh]
      exact ⟨_, bodyX_sh L HC (dcall_sh HT L HC k) k fn.body (HT f fn hT) _ _ _ h1, bEnd_sh L h2⟩
    · cases H

theorem callW_sh {T : Tab} (HT : TabCl T) {b : Hp} (L : Low b) {f : Nat} {vs : List V} {h : Hp} {r : V × Hp} (H : callW T f vs h = some r) : callW T f (vs.map (sh b.next)) (shH b h) = some (sh b.next r.1, shH b r.2) := by
  obtain ⟨k, hk⟩ := callW_some.1 H
  exact callW_some.2 ⟨k, callK_sh HT L k f vs h r hk⟩

/-- What is shown in the empty heap holds in every heap. -/
theorem callW_any {T : Tab} (HT : TabCl T) {f : Nat} {xs : List D} {y : D} (H : callW T f (xs.map .d) ⟨[], 0⟩ = some (.d y, ⟨[], 0⟩)) {b : Hp} (L : Low b) : callW T f (xs.map .d) b = some (.d y, b) := by
  have := callW_sh HT L H
  rw [map_d_sh] at this
  have hb : shH b ⟨[], 0⟩ = b := by cases b; simp [shH]
  rw [hb] at this
  exact this
end Zv
end
section
set_option linter.unusedSimpArgs false
set_option linter.unusedVariables false
set_option linter.unusedSimpArgs false
namespace Zs
open Go Zv

theorem ex_reg (T : Tab) (its : List It) (kp : Option (List Nat)) (e : Env) (h : Hp) : ex T (.reg its kp) e h = (itsP (cW T) its e h).map (regE its kp e) := rfl
theorem ex_seq (T : Tab) (a b : AC) (e : Env) (h : Hp) : ex T (.seq a b) e h = (ex T a e h).bind (nxt (ex T b)) := rfl
theorem ex_cond (T : Tab) (c : Opd) (a b : AC) (e : Env) (h : Hp) : ex T (.cond c a b) e h = (condB (e.ev c)).bind fun t => if t = true then ex T a e h else ex T b e h := rfl
theorem ex_blk (T : Tab) (id : Nat) (a : AC) (e : Env) (h : Hp) : ex T (.blk id a) e h = (ex T a e h).map fun o => (if o.1 = .exit id then .norm else o.1, o.2) := rfl
theorem ex_loop (T : Tab) (a : AC) (e : Env) (h : Hp) : ex T (.loop a) e h = (ex T a e h).bind (nxt (ex T (.loop a))) := loopW_eq _ e h

/-- The code of a function that has defer statements. -/
noncomputable def exB (T : Tab) (c : AC) : Bf := bodyX loopW (cW T) (dcall T loopW (cW T)) c
noncomputable def exD (T : Tab) : Cd := dcall T loopW (cW T)
theorem exB_ex {T : Tab} {c : AC} (hd : noDfr c = true := by rfl) (e : Env) (h : Hp) : exB T c e h = ex T c e h := bodyX_exec c hd e h
theorem callW_fnB {T : Tab} {f : Nat} {fn : AF} (hT : T f = some fn) {vs : List V} (hn : vs.length = fn.np) (h : Hp) (hp : isPr fn.body = none) (hf : f < RB := by decide) : callW T f vs h = (exB T fn.body (args 0 vs) h).bind (bEnd fn h) := by
  rw [callW_eq]
  unfold body
  rw [if_neg (by unfold YF; unfold RB at hf; omega), if_pos hf, hT]
  simp only [Option.bind_some]
  rw [if_pos hn, hp]
  rfl
theorem callW_fn {T : Tab} {f : Nat} {fn : AF} (hT : T f = some fn) {vs : List V} (hn : vs.length = fn.np) (h : Hp) (hp : isPr fn.body = none) (hd : noDfr fn.body = true) (hf : f < RB := by decide) : callW T f vs h = (ex T fn.body (args 0 vs) h).bind (bEnd fn h) := by
  rw [callW_fnB hT hn h hp hf, exB_ex hd]
theorem cW_clo (T : Tab) (f : Nat) (caps vs : List V) (h : Hp) : cW T (.clo f caps) vs h = if (f == 1000000000) = true then none else callW T f (vs ++ caps) h := by
  show (if f = YF then none else callW T f (vs ++ caps) h) = _
  unfold YF
  by_cases hf : f = 1000000000
  · rw [if_pos hf, if_pos (by simpa using hf)]
  · rw [if_neg hf, if_neg (by simpa using hf)]
theorem np_some {v : V} (hv : isPan v = none) (h : Hp) : np (some (v, h)) = some (v, h) := by
  cases v <;> first | rfl | cases hv
theorem its_nil (cf : Cf) (e : Env) (h : Hp) : itsX cf [] e h = some (e, h) := rfl
theorem its_cons (cf : Cf) (i : It) (r : List It) (e : Env) (h : Hp) : itsX cf (i :: r) e h = (itX cf e h i).bind fun s => itsX cf r s.1 s.2 := rfl
theorem it_o (cf : Cf) (e : Env) (h : Hp) (dst : Option Nat) (op : AOp) : itX cf e h (.o dst op none) = (np (opX cf e h op)).map fun r => (e.putO dst r.1, r.2) := rfl
theorem it_g (cf : Cf) (e : Env) (h : Hp) (dst : Option Nat) (op : AOp) (p : Nat × Bool) : itX cf e h (.o dst op (some p)) = (want e (some p)).bind fun w =>
      if w = true then (np (opX cf e h op)).map fun r => (e.putO dst r.1, r.2) else some (e.putO dst (.tup []), h) := rfl

theorem get_nil (n : Nat) : Env.get [] n = .undef := rfl
theorem get_cons (t : Nat) (v : V) (r : Env) (n : Nat) : Env.get ((t, v) :: r) n = if n = t then v else Env.get r n := rfl
theorem ev_t (e : Env) (n : Nat) : e.ev (.t n) = e.get n := rfl
theorem ev_c (e : Env) (v : V) : e.ev (.c v) = v := rfl
theorem keep_nil (e : Env) : Env.keep e [] = [] := rfl
theorem keep_cons (e : Env) (t : Nat) (l : List Nat) : Env.keep e (t :: l) = (t, e.get t) :: Env.keep e l := rfl
theorem args_nil (i : Nat) : args i [] = [] := rfl
theorem args_cons (i : Nat) (v : V) (r : List V) : args i (v :: r) = (i, v) :: args (i + 1) r := rfl
theorem nxt_n (k : Bf) (e : Env) (h : Hp) : nxt k (.norm, e, h) = k e h := rfl
theorem pv_some (h : Hp) (v : V) : pureV h (some v) = some (v, h) := rfl
theorem condB_b (b : Bool) : condB (.d (.bool b)) = some b := rfl
theorem bin_i (op : BinOp) (k : IntKind) (a b : Int) : bin op (.d (.int k a)) (.d (.int k b)) = intBin op k a b := if_pos rfl

/-! ### The heap's end -/
theorem suf_refl (l : List (Nat × Ob)) : sufOk l l = true := by
  unfold sufOk; rw [Nat.sub_self]; exact objsBeq_refl l
theorem suf_app (n l : List (Nat × Ob)) : sufOk l (n ++ l) = true := by
  unfold sufOk
  rw [List.length_append, Nat.add_sub_cancel, List.drop_left]; exact objsBeq_refl l
theorem suf_one (x : Nat × Ob) (l : List (Nat × Ob)) : sufOk l (x :: l) = true := suf_app [x] l
theorem suf_two (x y : Nat × Ob) (l : List (Nat × Ob)) : sufOk l (x :: y :: l) = true := suf_app [x, y] l
theorem back_d (h : Hp) (n : Nat) (x : D) : back1 h n (.d x) = some (.d x) := rfl

theorem quiet_refl (h : Hp) (v : V) : quiet h (v, h) = some (v, h) := by
  unfold quiet; rw [if_pos ⟨objsBeq_refl _, rfl⟩]

/-! ### A row that is built up: nil first, then an object of its own -/

def rowV (h : Hp) (es : Nat) (l : List D) : V := if l = [] then .tl [] (some true) else .own h.next es l.length 0 l.length
theorem norm_d (x : D) : norm (.d x) = .d x := rfl

/-! ### Values that are known -/
theorem ixOf_nat (k : IntKind) (n : Nat) : ixOf (.d (.int k (n : Int))) = some n := by simp [ixOf]
theorem ia_at {es : Nat} {l : List D} {n : Nat} {x : D} (k : IntKind) (h : l[n]? = some x) (hc : x.cells.length = es) : ia es (.d (.lst l)) (.d (.int k (n : Int))) = some (.fp x 0) := by
  simp [ia, ixOf_nat, h, hc]
theorem fa_fp (off : Nat) (x : D) (o : Nat) : fa off (.fp x o) = some (.fp x (o + off)) := rfl
theorem ld_fp (ag : Bool) (sz : Nat) (h : Hp) (x : D) (o : Nat) : ld ag sz h (.fp x o) = (partD ag o sz x.cells).map .d := rfl
theorem ldf_fp (ag : Bool) (sz : Nat) (h : Hp) (x : D) (o : Nat) : ldf ag sz h (.fp x o) = (partD ag o sz x.cells).map .d := rfl
theorem cells_agg (l : List D) : (D.agg l).cells = l := rfl
theorem partD_one (o sz : Nat) (l : List D) : partD false o sz l = l[o]? := rfl
theorem lenL_lst (l : List D) : lenL (.d (.lst l)) = some (.d (.int .i64 l.length)) := rfl
theorem wrap_ok {n : Int} (h1 : -(2 ^ 63) ≤ n) (h2 : n < 2 ^ 63) : IntKind.i64.wrap n = n := by
  simp [IntKind.wrap, IntKind.signed, IntKind.bits, IntKind.min, IntKind.max]
  omega
theorem wrap_succ {n : Nat} (h : n < 2 ^ 62) : IntKind.i64.wrap ((n : Int) + 1) = ((n + 1 : Nat) : Int) := by
  rw [wrap_ok (by omega) (by omega)]; rfl

theorem stor_d (x : D) : stor (.d x) = true := rfl
theorem stor_own (n es tot off len : Nat) : stor (.own n es tot off len) = true := rfl
theorem stor_ptr (n tot i off : Nat) : stor (.ptr n tot i off) = true := rfl
theorem stor_tl (l : List V) (nl : Option Bool) : stor (.tl l nl) = true := rfl
theorem stor_agg (l : List V) : stor (.agg l) = true := rfl
theorem stor_clo (f : Nat) (l : List V) : stor (.clo f l) = true := rfl
theorem stor_map (n : Nat) : stor (.map n) = true := rfl
theorem vcells_d (x : D) : V.cells (.d x) = x.cells.map .d := rfl
theorem vcells_agg (l : List V) : V.cells (.agg l) = l := rfl
theorem vcells_own (n es tot off len : Nat) : V.cells (.own n es tot off len) = [.own n es tot off len] := rfl
theorem vcells_ptr (n tot i off : Nat) : V.cells (.ptr n tot i off) = [.ptr n tot i off] := rfl
theorem vcells_tl (l : List V) (nl : Option Bool) : V.cells (.tl l nl) = [.tl l nl] := rfl
theorem vcells_clo (f : Nat) (l : List V) : V.cells (.clo f l) = [.clo f l] := rfl
theorem vcells_map (n : Nat) : V.cells (.map n) = [.map n] := rfl
theorem cells_int (k : IntKind) (n : Int) : (D.int k n).cells = [.int k n] := rfl
theorem cells_bool (b : Bool) : (D.bool b).cells = [.bool b] := rfl
theorem cells_str (s : ByteArray) : (D.str s).cells = [.str s] := rfl
theorem cells_lst (l : List D) : (D.lst l).cells = [.lst l] := rfl
theorem mkAgg1 (a : D) : mkAgg [.d a] = .d (.agg [a]) := rfl
theorem mkAgg2 (a b : D) : mkAgg [.d a, .d b] = .d (.agg [a, b]) := rfl
theorem mkAgg3 (a b c : D) : mkAgg [.d a, .d b, .d c] = .d (.agg [a, b, c]) := rfl
theorem mkAgg4 (a b c d : D) : mkAgg [.d a, .d b, .d c, .d d] = .d (.agg [a, b, c, d]) := rfl
theorem lay_nil (cs : List V) : lay cs [] = some cs := rfl
theorem lay_cons (cs : List V) (off sz : Nat) (v : V) (r : List (Nat × Nat × V)) : lay cs ((off, sz, v) :: r) = if stor v = true ∧ v.cells.length = sz ∧ off + sz ≤ cs.length then lay (cs.take off ++ v.cells ++ cs.drop (off + sz)) r else none := rfl

/-! ### The heap, object by object -/
theorem row_cons (m es : Nat) (els : List V) (r : List (Nat × Ob)) (nx n tot : Nat) : Hp.row ⟨(m, .arr es els) :: r, nx⟩ n tot = if n = m then (if els.length = tot then some (es, els) else none) else Hp.row ⟨r, nx⟩ n tot := by
  unfold Hp.row Hp.get
  show (match (if n = m then some (Ob.arr es els) else look r n) with
    | some (.arr es els) => if els.length = tot then some (es, els) else none
    | _ => none) = _
  by_cases h : n = m
  · rw [if_pos h, if_pos h]
  · rw [if_neg h, if_neg h]; rfl
theorem set_cons (m : Nat) (o : Ob) (r : List (Nat × Ob)) (nx n : Nat) (x : Ob) : Hp.set ⟨(m, o) :: r, nx⟩ n x = if n = m then ⟨(m, x) :: r, nx⟩ else ⟨(m, o) :: (Hp.set ⟨r, nx⟩ n x).objs, nx⟩ := by
  unfold Hp.set
  by_cases h : n = m
  · simp [upd, h]
  · simp [upd, h]
theorem alloc_mk (l : List (Nat × Ob)) (nx : Nat) (o : Ob) : Hp.alloc ⟨l, nx⟩ o = ⟨(nx, o) :: l, nx + 1⟩ := rfl
theorem nilck_ptr (n tot i off : Nat) : nilck (.ptr n tot i off) = some (.ptr n tot i off) := rfl
theorem nilck_fp (x : D) (off : Nat) : nilck (.fp x off) = some (.fp x off) := rfl
theorem fa_ptr (off n tot i o : Nat) : fa off (.ptr n tot i o) = some (.ptr n tot i (o + off)) := rfl
theorem partV_one (o sz : Nat) (l : List V) : partV false o sz l = l[o]? := rfl
theorem lenL_own (n es tot off len : Nat) : lenL (.own n es tot off len) = some (.d (.int .i64 len)) := rfl
theorem lenL_tl (l : List V) (nl : Option Bool) : lenL (.tl l nl) = some (.d (.int .i64 l.length)) := rfl
theorem low_cons {l : List (Nat × Ob)} {m nx : Nat} {o : Ob} (L : Low ⟨l, nx⟩) (hm : m < nx) : Low ⟨(m, o) :: l, nx⟩ := by
  intro q hq
  have hq' : nx ≤ q := hq
  show (if q = m then some o else look l q) = none
  rw [if_neg (by omega)]
  exact L q hq
theorem mkAgg5 (a b c d e : D) : mkAgg [.d a, .d b, .d c, .d d, .d e] = .d (.agg [a, b, c, d, e]) := rfl
theorem mkAgg6 (a b c d e f : D) : mkAgg [.d a, .d b, .d c, .d d, .d e, .d f] = .d (.agg [a, b, c, d, e, f]) := rfl
theorem nilBin_ptr (op : BinOp) (n tot i off : Nat) : nilBin .p op (.ptr n tot i off) = match op with
    | .eql => some (.d (.bool false))
    | .neq => some (.d (.bool true))
    | _ => none := by cases op <;> rfl
theorem nilBin_nil (op : BinOp) : nilBin .p op (.d .nilp) = match op with
    | .eql => some (.d (.bool true))
    | .neq => some (.d (.bool false))
    | _ => none := by cases op <;> rfl
theorem ext_tup (i : Nat) (l : List V) : ext i (.tup l) = l[i]? := rfl
theorem pick_b (c : Bool) (a b : V) : pick (.d (.bool c)) a b = some (if c = true then a else b) := rfl
theorem resV_two (a b : V) : resV [a, b] = .tup [a, b] := rfl
theorem resV_one (a : V) : resV [a] = a := rfl
theorem resV_three (a b c : V) : resV [a, b, c] = .tup [a, b, c] := rfl

theorem mkAgg_own (n es tot off len : Nat) (r : List V) : mkAgg (.own n es tot off len :: r) = .agg (.own n es tot off len :: r) := rfl
theorem mkAgg_ptr (n tot i off : Nat) (r : List V) : mkAgg (.ptr n tot i off :: r) = .agg (.ptr n tot i off :: r) := rfl
theorem mkAgg_tl (l : List V) (nl : Option Bool) (r : List V) : mkAgg (.tl l nl :: r) = .agg (.tl l nl :: r) := rfl
theorem mkAgg_map (n : Nat) (r : List V) : mkAgg (.map n :: r) = .agg (.map n :: r) := rfl
theorem mkAgg_clo (f : Nat) (l : List V) (r : List V) : mkAgg (.clo f l :: r) = .agg (.clo f l :: r) := rfl
theorem mkAgg_d_own (a : D) (n es tot off len : Nat) (r : List V) : mkAgg (.d a :: .own n es tot off len :: r) = .agg (.d a :: .own n es tot off len :: r) := rfl
theorem mkAgg_dd_own (a b : D) (n es tot off len : Nat) (r : List V) : mkAgg (.d a :: .d b :: .own n es tot off len :: r) = .agg (.d a :: .d b :: .own n es tot off len :: r) := rfl
theorem mkAgg_d_tl (a : D) (l : List V) (nl : Option Bool) (r : List V) : mkAgg (.d a :: .tl l nl :: r) = .agg (.d a :: .tl l nl :: r) := rfl
theorem mkAgg_dd_tl (a b : D) (l : List V) (nl : Option Bool) (r : List V) : mkAgg (.d a :: .d b :: .tl l nl :: r) = .agg (.d a :: .d b :: .tl l nl :: r) := rfl

theorem norm_ptr (n tot i off : Nat) : norm (.ptr n tot i off) = .ptr n tot i off := rfl
theorem norm_own (n es tot off len : Nat) : norm (.own n es tot off len) = .own n es tot off len := rfl
theorem norm_map (n : Nat) : norm (.map n) = .map n := rfl
def wantV (v : V) (b : Bool) : Option Bool := match v with
  | .d (.bool c) => some (c == b)
  | .tup [] => some false
  | _ => none
theorem want_some (e : Env) (p : Nat × Bool) : want e (some p) = wantV (e.get p.1) p.2 := rfl
theorem wantV_t (b : Bool) : wantV (.tup []) b = some false := rfl

/-! ### Loops -/
theorem it_frz (cf : Cf) (e : Env) (h : Hp) (t : Nat) : itX cf e h (.frz t) = (Zv.frz h (e.get t)).map fun r => ((t, r.1) :: e, r.2) := rfl
theorem it_fzd (cf : Cf) (e : Env) (h : Hp) (t : Nat) : itX cf e h (.fzd t) = (Zv.fzd h (e.get t)).map fun r => ((t, r.1) :: e, r.2) := rfl
def killX (t : Nat) (e : Env) (h : Hp) (v : V) : Option (Env × Hp) := match v with
  | .ptr n _ _ _ => some ((t, .undef) :: e, h.kill n)
  | .own n _ _ _ _ => some ((t, .undef) :: e, h.kill n)
  | _ => some ((t, .undef) :: e, h)
theorem it_kill (cf : Cf) (e : Env) (h : Hp) (t : Nat) : itX cf e h (.kill t) = killX t e h (e.get t) := rfl
theorem killX_ptr (t : Nat) (e : Env) (h : Hp) (n tot i off : Nat) : killX t e h (.ptr n tot i off) = some ((t, .undef) :: e, h.kill n) := rfl
theorem killX_own (t : Nat) (e : Env) (h : Hp) (n es tot off len : Nat) : killX t e h (.own n es tot off len) = some ((t, .undef) :: e, h.kill n) := rfl
theorem killX_fp (t : Nat) (e : Env) (h : Hp) (x : D) (o : Nat) : killX t e h (.fp x o) = some ((t, .undef) :: e, h) := rfl
theorem killX_d (t : Nat) (e : Env) (h : Hp) (x : D) : killX t e h (.d x) = some ((t, .undef) :: e, h) := rfl
theorem killX_undef (t : Nat) (e : Env) (h : Hp) : killX t e h .undef = some ((t, .undef) :: e, h) := rfl
theorem killX_tup (t : Nat) (e : Env) (h : Hp) (l : List V) : killX t e h (.tup l) = some ((t, .undef) :: e, h) := rfl
theorem kill_hd (n : Nat) (o : Ob) (l : List (Nat × Ob)) (nx : Nat) : Hp.kill ⟨(n, o) :: l, nx⟩ n = ⟨l, nx⟩ := by
  unfold Hp.kill; simp [del]
/-- A variable that is made, set and frozen in one go. -/
theorem frz_hd (n es nx : Nat) (x : D) (l : List (Nat × Ob)) (off : Nat) : Zv.frz ⟨(n, .arr es [.d x]) :: l, nx⟩ (.ptr n 1 0 off) = some (.fp x off, ⟨l, nx⟩) := by
  simp only [Zv.frz, row_cons, if_true, List.length_cons, List.length_nil, Option.bind_some, List.getElem?_cons_zero, Option.map_some, toD, kill_hd]

theorem norm_clo0 (f : Nat) (l : List V) : norm (.clo f l) = .clo f l := rfl

end Zs
end
section
set_option linter.unusedSimpArgs false
set_option linter.unusedVariables false
set_option linter.unusedSimpArgs false
namespace Zs
open Go Zv

/-- No panic, and Q. -/
def pq (Q : Out → Prop) (o : Out) : Prop := match o.1 with
  | .pan => False
  | _ => Q o
theorem pq_iff {Q : Out → Prop} {o : Out} : pq Q o ↔ o.1 ≠ .pan ∧ Q o := by
  obtain ⟨x, e, h⟩ := o
  cases x <;> simp [pq]
/-- The code ends without a panic, with something that Q says. -/
def wp (T : Tab) (c : AC) (e : Env) (h : Hp) (Q : Out → Prop) : Prop := ∃ o, ex T c e h = some o ∧ pq Q o
def seqQ (T : Tab) (b : AC) (Q : Out → Prop) (o : Out) : Prop := match o.1 with
  | .norm => wp T b o.2.1 o.2.2 Q
  | _ => Q o
def blkQ (id : Nat) (Q : Out → Prop) (o : Out) : Prop := Q (if o.1 = .exit id then .norm else o.1, o.2)
def donQ (fn : AF) (h : Hp) (R : Option (V × Hp) → Prop) (o : Out) : Prop := R (bEnd fn h o)
/-- Items, and then what K says of their end. -/
def wpI (cf : Cf) (its : List It) (e : Env) (h : Hp) (K : Env → Hp → Prop) : Prop := ∃ s, itsX cf its e h = some s ∧ K s.1 s.2
def regQ (kp : Option (List Nat)) (Q : Out → Prop) (e : Env) (h : Hp) : Prop := Q (.norm, keepE kp e, h)
/-- A value that is there and no panic, and then the other items. -/
def wpO (cf : Cf) (dst : Option Nat) (e : Env) (r : List It) (K : Env → Hp → Prop) : Option (V × Hp) → Prop
  | none => False
  | some (.pan _ _, _) => False
  | some s => wpI cf r (e.putO dst s.1) s.2 K
def wpG (cf : Cf) (dst : Option Nat) (op : AOp) (e : Env) (h : Hp) (r : List It) (K : Env → Hp → Prop) : Option Bool → Prop
  | none => False
  | some true => wpO cf dst e r K (opX cf e h op)
  | some false => wpI cf r (e.putO dst (.tup [])) h K
def wpC (T : Tab) (a b : AC) (e : Env) (h : Hp) (Q : Out → Prop) : Option Bool → Prop
  | none => False
  | some true => wp T a e h Q
  | some false => wp T b e h Q
def wpE (cf : Cf) (r : List It) (K : Env → Hp → Prop) : Option (Env × Hp) → Prop
  | none => False
  | some s => wpI cf r s.1 s.2 K

theorem body_nd {b : AC} {k : Nat} (hp : isPr b = some k) : b = .exit k := by
  unfold isPr at hp; split at hp <;> first | (cases hp; rfl) | cases hp
theorem call_wpE {T : Tab} {f : Nat} {fn : AF} {vs : List V} {h : Hp} {R : V × Hp → Prop} (hT : T f = some fn) (hn : vs.length = fn.np) (H : wp T fn.body (args 0 vs) h (donQ fn h (fun q => ∃ r, q = some r ∧ R r))) (hd : noDfr fn.body = true := by rfl) (hf : f < RB := by decide) : ∃ r, callW T f vs h = some r ∧ R r := by
  obtain ⟨o, h1, h2⟩ := H
  obtain ⟨-, r, h2, h3⟩ := pq_iff.1 h2
  cases hp : isPr fn.body with
  | none => exact ⟨r, by rw [callW_fn hT hn h hp hd hf, h1]; exact h2, h3⟩
  | some k =>
    rw [body_nd hp] at h1; cases h1; cases h2
theorem call_wp {T : Tab} {f : Nat} {fn : AF} {vs : List V} {h : Hp} {r : V × Hp} (hT : T f = some fn) (hn : vs.length = fn.np) (H : wp T fn.body (args 0 vs) h (donQ fn h (· = some r))) (hd : noDfr fn.body = true := by rfl) (hf : f < RB := by decide) : callW T f vs h = some r := by
  obtain ⟨o, h1, h2⟩ := H
  obtain ⟨-, h2⟩ := pq_iff.1 h2
  cases hp : isPr fn.body with
  | none => rw [callW_fn hT hn h hp hd hf, h1]; exact h2
  | some k =>
    rw [body_nd hp] at h1; cases h1; cases h2
theorem wq_of {T : Tab} {c : AC} {e : Env} {h : Hp} {o : Out} (H : ex T c e h = some o) (Q : Out → Prop) (hp : o.1 ≠ .pan := by first | exact nofun | ((repeat' split) <;> exact nofun)) : wp T c e h Q = Q o := by
  apply propext
  constructor
  · rintro ⟨o', h1, h2⟩; rw [H] at h1; cases h1; exact (pq_iff.1 h2).2
  · intro hq; exact ⟨o, H, pq_iff.2 ⟨hp, hq⟩⟩
theorem wq_mono {T : Tab} {c : AC} {e : Env} {h : Hp} {P Q : Out → Prop} (H : wp T c e h P) (k : ∀ o, P o → Q o) : wp T c e h Q := by
  obtain ⟨o, h1, h2⟩ := H; exact ⟨o, h1, pq_iff.2 ⟨(pq_iff.1 h2).1, k o (pq_iff.1 h2).2⟩⟩
theorem wp_out {T : Tab} {c : AC} {e : Env} {h : Hp} {Q : Out → Prop} : wp T c e h Q ↔ ∃ o, ex T c e h = some o ∧ o.1 ≠ .pan ∧ Q o :=
  ⟨fun ⟨o, h1, h2⟩ => ⟨o, h1, pq_iff.1 h2⟩, fun ⟨o, h1, h2⟩ => ⟨o, h1, pq_iff.2 h2⟩⟩

theorem wq_skip (T : Tab) (e : Env) (h : Hp) (Q : Out → Prop) : wp T .skip e h Q = Q (.norm, e, h) := wq_of rfl Q
theorem wq_exit (T : Tab) (i : Nat) (e : Env) (h : Hp) (Q : Out → Prop) : wp T (.exit i) e h Q = Q (.exit i, e, h) := wq_of rfl Q
theorem wq_ret (T : Tab) (e : Env) (h : Hp) (Q : Out → Prop) : wp T .ret e h Q = Q (.ret, e, h) := wq_of rfl Q
theorem wq_seq (T : Tab) (a b : AC) (e : Env) (h : Hp) (Q : Out → Prop) : wp T (.seq a b) e h Q = wp T a e h (seqQ T b Q) := by
  apply propext
  unfold wp
  rw [ex_seq]
  cases ex T a e h with
  | none => simp
  | some o =>
    obtain ⟨x, e', h'⟩ := o
    cases x <;> simp [nxt, seqQ, wp, pq]
theorem wq_blk (T : Tab) (id : Nat) (a : AC) (e : Env) (h : Hp) (Q : Out → Prop) : wp T (.blk id a) e h Q = wp T a e h (blkQ id Q) := by
  apply propext
  unfold wp
  rw [ex_blk]
  cases ex T a e h with
  | none => simp
  | some o =>
    obtain ⟨x, e', h'⟩ := o
    cases x with
    | exit i => by_cases hi : i = id <;> simp [blkQ, pq, hi]
    | _ => simp [blkQ, pq]
theorem wq_cond (T : Tab) (c : Opd) (a b : AC) (e : Env) (h : Hp) (Q : Out → Prop) : wp T (.cond c a b) e h Q = wpC T a b e h Q (condB (e.ev c)) := by
  apply propext
  unfold wp
  rw [ex_cond]
  cases condB (e.ev c) with
  | none => simp [wpC]
  | some t => cases t <;> simp [wpC, wp]
theorem wpC_t (T : Tab) (a b : AC) (e : Env) (h : Hp) (Q : Out → Prop) : wpC T a b e h Q (some true) = wp T a e h Q := rfl
theorem wpC_f (T : Tab) (a b : AC) (e : Env) (h : Hp) (Q : Out → Prop) : wpC T a b e h Q (some false) = wp T b e h Q := rfl
theorem itP_none {cf : Cf} {e : Env} {h : Hp} {i : It} {s : Env × Hp} : itP cf e h i = some (none, s) ↔ itX cf e h i = some s := by
  cases i with
  | o dst op g =>
    unfold itP itX
    cases hw : want e g with
    | none => simp only [hw]; simp
    | some w =>
      cases w with
      | false => simp only [hw]; simp
      | true =>
        simp only [hw, Option.bind_some, if_true]
        cases hq : opX cf e h op with
        | none => simp [np]
        | some r =>
          obtain ⟨v, h'⟩ := r
          simp only [Option.bind_some]
          cases hv : isPan v with
          | none => rw [np_some hv]; simp [panF, hv]
          | some p =>
            have hnp : np (some (v, h')) = none := by cases v <;> first | rfl | cases hv
            rw [hnp]
            by_cases ho : opP op = true <;> simp [panF, hv, ho]
  | frz t => show (Option.map _ (itX cf e h (.frz t))) = _ ↔ _; cases itX cf e h (.frz t) <;> simp
  | fzd t => show (Option.map _ (itX cf e h (.fzd t))) = _ ↔ _; cases itX cf e h (.fzd t) <;> simp
  | kill t => show (Option.map _ (itX cf e h (.kill t))) = _ ↔ _; cases itX cf e h (.kill t) <;> simp
theorem itsP_none {cf : Cf} : ∀ {its : List It} {e : Env} {h : Hp} {s : Env × Hp}, itsP cf its e h = some (none, s) ↔ itsX cf its e h = some s
  | [], e, h, s => by simp [itsP, itsX]
  | i :: r, e, h, s => by
    unfold itsP itsX
    cases hq : itX cf e h i with
    | some q =>
      rw [itP_none.2 hq]
      simp only [Option.bind_some]
      exact itsP_none
    | none =>
      cases hp : itP cf e h i with
      | none => simp
      | some q =>
        obtain ⟨p, q⟩ := q
        cases p with
        | none => rw [itP_none.1 hp] at hq; cases hq
        | some p => simp
theorem wq_reg (T : Tab) (its : List It) (kp : Option (List Nat)) (e : Env) (h : Hp) (Q : Out → Prop) : wp T (.reg its kp) e h Q = wpI (cW T) its e h (regQ kp Q) := by
  apply propext
  unfold wp wpI
  rw [ex_reg]
  constructor
  · rintro ⟨o, h1, h2⟩
    cases hq : itsP (cW T) its e h with
    | none => rw [hq] at h1; cases h1
    | some q =>
      rw [hq] at h1
      obtain ⟨p, s⟩ := q
      cases h1
      cases p with
      | none => exact ⟨s, itsP_none.1 hq, h2⟩
      | some p => exact absurd rfl (pq_iff.1 h2).1
  · rintro ⟨s, h1, h2⟩
    rw [itsP_none.2 h1]
    exact ⟨_, rfl, h2⟩
theorem wpI_nil (cf : Cf) (e : Env) (h : Hp) (K : Env → Hp → Prop) : wpI cf [] e h K = K e h := by
  apply propext
  simp [wpI, its_nil]
theorem wpI_o (cf : Cf) (dst : Option Nat) (op : AOp) (r : List It) (e : Env) (h : Hp) (K : Env → Hp → Prop) : wpI cf (.o dst op none :: r) e h K = wpO cf dst e r K (opX cf e h op) := by
  apply propext
  unfold wpI
  rw [its_cons, it_o]
  cases opX cf e h op with
  | none => simp [wpO, np]
  | some s =>
    obtain ⟨v, h'⟩ := s
    cases v <;> simp [wpO, wpI, np]
theorem wpI_g (cf : Cf) (dst : Option Nat) (op : AOp) (t : Nat) (b : Bool) (r : List It) (e : Env) (h : Hp) (K : Env → Hp → Prop) : wpI cf (.o dst op (some (t, b)) :: r) e h K = wpG cf dst op e h r K (wantV (e.get t) b) := by
  apply propext
  unfold wpI
  rw [its_cons, it_g, want_some]
  cases wantV (e.get t) b with
  | none => simp [wpG]
  | some w =>
    cases w with
    | false => simp [wpG, wpI]
    | true =>
      simp only [wpG]
      generalize opX cf e h op = q
      cases q with
      | none => simp [wpO, np]
      | some s =>
        obtain ⟨v, h'⟩ := s
        cases v <;> simp [wpO, wpI, np]
/-- Freezing makes no panic. -/
theorem frz_np {h : Hp} {v : V} {r : V × Hp} (H : Zv.frz h v = some r) : isPan r.1 = none := by
  unfold Zv.frz at H
  split at H
  · cases hq : h.row _ _ with
    | none => rw [hq] at H; cases H
    | some q =>
      rw [hq] at H
      simp only [Option.bind_some] at H
      split at H
      · cases ht : toDs ((q.2.drop _).take _) with
        | none => rw [ht] at H; cases H
        | some l => rw [ht] at H; cases H; rfl
      · cases H
  · cases hq : h.row _ _ with
    | none => rw [hq] at H; cases H
    | some q =>
      rw [hq] at H
      simp only [Option.bind_some] at H
      rw [Option.map_eq_some_iff] at H
      obtain ⟨x, -, H⟩ := H
      subst H
      split <;> rfl
  · cases ht : toD v with
    | none => rw [ht] at H; cases H
    | some l => rw [ht] at H; cases H; rfl
theorem fzd_np {h : Hp} {v : V} {r : V × Hp} (H : Zv.fzd h v = some r) : isPan r.1 = none := by
  unfold Zv.fzd at H
  split at H
  · cases hq : h.row _ _ with
    | none => rw [hq] at H; cases H
    | some q =>
      rw [hq] at H
      simp only [Option.bind_some] at H
      rw [Option.bind_eq_some_iff] at H
      obtain ⟨x, -, H⟩ := H
      split at H
      · cases H; rfl
      · rw [Option.bind_eq_some_iff] at H
        obtain ⟨s, -, H⟩ := H
        split at H
        · cases H; rfl
        · cases H
      · cases H
  · cases H
theorem wpO_np {cf : Cf} {dst : Option Nat} {e : Env} {r : List It} {K : Env → Hp → Prop} {s : V × Hp} (hv : isPan s.1 = none) : wpO cf dst e r K (some s) = wpI cf r (e.putO dst s.1) s.2 K := by
  obtain ⟨v, h⟩ := s
  cases v <;> first | rfl | cases hv
theorem wpI_frz (cf : Cf) (t : Nat) (r : List It) (e : Env) (h : Hp) (K : Env → Hp → Prop) : wpI cf (.frz t :: r) e h K = wpO cf (some t) e r K (Zv.frz h (e.get t)) := by
  apply propext
  unfold wpI
  rw [its_cons, it_frz]
  cases hq : Zv.frz h (e.get t) with
  | none => simp [wpO]
  | some s => rw [wpO_np (frz_np hq)]; simp [wpI, Env.putO, Env.put]
theorem wpI_fzd (cf : Cf) (t : Nat) (r : List It) (e : Env) (h : Hp) (K : Env → Hp → Prop) : wpI cf (.fzd t :: r) e h K = wpO cf (some t) e r K (Zv.fzd h (e.get t)) := by
  apply propext
  unfold wpI
  rw [its_cons, it_fzd]
  cases hq : Zv.fzd h (e.get t) with
  | none => simp [wpO]
  | some s => rw [wpO_np (fzd_np hq)]; simp [wpI, Env.putO, Env.put]
theorem wpI_kill (cf : Cf) (t : Nat) (r : List It) (e : Env) (h : Hp) (K : Env → Hp → Prop) : wpI cf (.kill t :: r) e h K = wpE cf r K (killX t e h (e.get t)) := by
  apply propext
  unfold wpI
  rw [its_cons, it_kill]
  cases killX t e h (e.get t) with
  | none => simp [wpE]
  | some s => simp [wpE, wpI]
theorem wpE_some (cf : Cf) (r : List It) (K : Env → Hp → Prop) (e : Env) (h : Hp) : wpE cf r K (some (e, h)) = wpI cf r e h K := rfl
theorem wpOs_d (cf : Cf) (t : Nat) (e : Env) (r : List It) (K : Env → Hp → Prop) (x : D) (h : Hp) : wpO cf (some t) e r K (some ((.d x), h)) = wpI cf r ((t, (.d x)) :: e) h K := rfl
theorem wpOn_d (cf : Cf) (e : Env) (r : List It) (K : Env → Hp → Prop) (x : D) (h : Hp) : wpO cf none e r K (some ((.d x), h)) = wpI cf r e h K := rfl
theorem isPan_d (x : D) : isPan (.d x) = none := rfl
theorem wpOs_tl (cf : Cf) (t : Nat) (e : Env) (r : List It) (K : Env → Hp → Prop) (l : List V) (nl : Option Bool) (h : Hp) : wpO cf (some t) e r K (some ((.tl l nl), h)) = wpI cf r ((t, (.tl l nl)) :: e) h K := rfl
theorem wpOn_tl (cf : Cf) (e : Env) (r : List It) (K : Env → Hp → Prop) (l : List V) (nl : Option Bool) (h : Hp) : wpO cf none e r K (some ((.tl l nl), h)) = wpI cf r e h K := rfl
theorem isPan_tl (l : List V) (nl : Option Bool) : isPan (.tl l nl) = none := rfl
theorem wpOs_own (cf : Cf) (t : Nat) (e : Env) (r : List It) (K : Env → Hp → Prop) (n es tot off len : Nat) (h : Hp) : wpO cf (some t) e r K (some ((.own n es tot off len), h)) = wpI cf r ((t, (.own n es tot off len)) :: e) h K := rfl
theorem wpOn_own (cf : Cf) (e : Env) (r : List It) (K : Env → Hp → Prop) (n es tot off len : Nat) (h : Hp) : wpO cf none e r K (some ((.own n es tot off len), h)) = wpI cf r e h K := rfl
theorem isPan_own (n es tot off len : Nat) : isPan (.own n es tot off len) = none := rfl
theorem wpOs_ptr (cf : Cf) (t : Nat) (e : Env) (r : List It) (K : Env → Hp → Prop) (n tot i off : Nat) (h : Hp) : wpO cf (some t) e r K (some ((.ptr n tot i off), h)) = wpI cf r ((t, (.ptr n tot i off)) :: e) h K := rfl
theorem wpOn_ptr (cf : Cf) (e : Env) (r : List It) (K : Env → Hp → Prop) (n tot i off : Nat) (h : Hp) : wpO cf none e r K (some ((.ptr n tot i off), h)) = wpI cf r e h K := rfl
theorem isPan_ptr (n tot i off : Nat) : isPan (.ptr n tot i off) = none := rfl
theorem wpOs_fp (cf : Cf) (t : Nat) (e : Env) (r : List It) (K : Env → Hp → Prop) (x : D) (o : Nat) (h : Hp) : wpO cf (some t) e r K (some ((.fp x o), h)) = wpI cf r ((t, (.fp x o)) :: e) h K := rfl
theorem wpOn_fp (cf : Cf) (e : Env) (r : List It) (K : Env → Hp → Prop) (x : D) (o : Nat) (h : Hp) : wpO cf none e r K (some ((.fp x o), h)) = wpI cf r e h K := rfl
theorem isPan_fp (x : D) (o : Nat) : isPan (.fp x o) = none := rfl
theorem wpOs_clo (cf : Cf) (t : Nat) (e : Env) (r : List It) (K : Env → Hp → Prop) (f : Nat) (l : List V) (h : Hp) : wpO cf (some t) e r K (some ((.clo f l), h)) = wpI cf r ((t, (.clo f l)) :: e) h K := rfl
theorem wpOn_clo (cf : Cf) (e : Env) (r : List It) (K : Env → Hp → Prop) (f : Nat) (l : List V) (h : Hp) : wpO cf none e r K (some ((.clo f l), h)) = wpI cf r e h K := rfl
theorem isPan_clo (f : Nat) (l : List V) : isPan (.clo f l) = none := rfl
theorem wpOs_agg (cf : Cf) (t : Nat) (e : Env) (r : List It) (K : Env → Hp → Prop) (l : List V) (h : Hp) : wpO cf (some t) e r K (some ((.agg l), h)) = wpI cf r ((t, (.agg l)) :: e) h K := rfl
theorem wpOn_agg (cf : Cf) (e : Env) (r : List It) (K : Env → Hp → Prop) (l : List V) (h : Hp) : wpO cf none e r K (some ((.agg l), h)) = wpI cf r e h K := rfl
theorem isPan_agg (l : List V) : isPan (.agg l) = none := rfl
theorem wpOs_tup (cf : Cf) (t : Nat) (e : Env) (r : List It) (K : Env → Hp → Prop) (l : List V) (h : Hp) : wpO cf (some t) e r K (some ((.tup l), h)) = wpI cf r ((t, (.tup l)) :: e) h K := rfl
theorem wpOn_tup (cf : Cf) (e : Env) (r : List It) (K : Env → Hp → Prop) (l : List V) (h : Hp) : wpO cf none e r K (some ((.tup l), h)) = wpI cf r e h K := rfl
theorem isPan_tup (l : List V) : isPan (.tup l) = none := rfl
theorem wpOs_map (cf : Cf) (t : Nat) (e : Env) (r : List It) (K : Env → Hp → Prop) (n : Nat) (h : Hp) : wpO cf (some t) e r K (some ((.map n), h)) = wpI cf r ((t, (.map n)) :: e) h K := rfl
theorem wpOn_map (cf : Cf) (e : Env) (r : List It) (K : Env → Hp → Prop) (n : Nat) (h : Hp) : wpO cf none e r K (some ((.map n), h)) = wpI cf r e h K := rfl
theorem isPan_map (n : Nat) : isPan (.map n) = none := rfl
theorem wpOs_yld (cf : Cf) (t : Nat) (e : Env) (r : List It) (K : Env → Hp → Prop) (n : Nat) (h : Hp) : wpO cf (some t) e r K (some ((.yld n), h)) = wpI cf r ((t, (.yld n)) :: e) h K := rfl
theorem wpOn_yld (cf : Cf) (e : Env) (r : List It) (K : Env → Hp → Prop) (n : Nat) (h : Hp) : wpO cf none e r K (some ((.yld n), h)) = wpI cf r e h K := rfl
theorem isPan_yld (n : Nat) : isPan (.yld n) = none := rfl
theorem wpOs_ub (cf : Cf) (t : Nat) (e : Env) (r : List It) (K : Env → Hp → Prop)  (h : Hp) : wpO cf (some t) e r K (some (.ub, h)) = wpI cf r ((t, .ub) :: e) h K := rfl
theorem wpOn_ub (cf : Cf) (e : Env) (r : List It) (K : Env → Hp → Prop)  (h : Hp) : wpO cf none e r K (some (.ub, h)) = wpI cf r e h K := rfl
theorem isPan_ub  : isPan .ub = none := rfl
theorem wpOs_undef (cf : Cf) (t : Nat) (e : Env) (r : List It) (K : Env → Hp → Prop)  (h : Hp) : wpO cf (some t) e r K (some (.undef, h)) = wpI cf r ((t, .undef) :: e) h K := rfl
theorem wpOn_undef (cf : Cf) (e : Env) (r : List It) (K : Env → Hp → Prop)  (h : Hp) : wpO cf none e r K (some (.undef, h)) = wpI cf r e h K := rfl
theorem isPan_undef  : isPan .undef = none := rfl
theorem wpOs_ifc (cf : Cf) (t : Nat) (e : Env) (r : List It) (K : Env → Hp → Prop) (i : Nat) (x : D) (h : Hp) : wpO cf (some t) e r K (some ((.ifc i x), h)) = wpI cf r ((t, (.ifc i x)) :: e) h K := rfl
theorem wpOn_ifc (cf : Cf) (e : Env) (r : List It) (K : Env → Hp → Prop) (i : Nat) (x : D) (h : Hp) : wpO cf none e r K (some ((.ifc i x), h)) = wpI cf r e h K := rfl
theorem isPan_ifc (i : Nat) (x : D) : isPan (.ifc i x) = none := rfl
theorem wpOs_nif (cf : Cf) (t : Nat) (e : Env) (r : List It) (K : Env → Hp → Prop)  (h : Hp) : wpO cf (some t) e r K (some (.nif, h)) = wpI cf r ((t, .nif) :: e) h K := rfl
theorem wpOn_nif (cf : Cf) (e : Env) (r : List It) (K : Env → Hp → Prop)  (h : Hp) : wpO cf none e r K (some (.nif, h)) = wpI cf r e h K := rfl
theorem isPan_nif  : isPan .nif = none := rfl
theorem isPan_ite {p : Prop} [Decidable p] {a b : V} (ha : isPan a = none) (hb : isPan b = none) : isPan (if p then a else b) = none := by split <;> assumption
theorem isPan_rowV (h : Hp) (es : Nat) (l : List D) : isPan (rowV h es l) = none := by unfold rowV; split <;> rfl
theorem isPan_mkAgg (l : List V) : isPan (mkAgg l) = none := by unfold mkAgg; split <;> rfl
theorem wpO_some {cf : Cf} {t : Nat} {e : Env} {r : List It} {K : Env → Hp → Prop} {v : V} {h : Hp} (hv : isPan v = none) : wpO cf (some t) e r K (some (v, h)) = wpI cf r ((t, v) :: e) h K := wpO_np (s := (v, h)) hv
theorem wpO_none {cf : Cf} {e : Env} {r : List It} {K : Env → Hp → Prop} {v : V} {h : Hp} (hv : isPan v = none) : wpO cf none e r K (some (v, h)) = wpI cf r e h K := wpO_np (s := (v, h)) hv
theorem mkif_d (t : Nat) (x : D) : mkif t (.d x) = some (.ifc t x) := rfl
theorem tas_hit (t : Nat) (x : D) : tas t (.ifc t x) = some (.tup [.d x, .d (.bool true)]) := if_pos rfl
theorem np_d (x : D) (h : Hp) : np (some (.d x, h)) = some (.d x, h) := rfl
theorem np_tup (l : List V) (h : Hp) : np (some (.tup l, h)) = some (.tup l, h) := rfl
theorem wpG_t (cf : Cf) (dst : Option Nat) (op : AOp) (e : Env) (h : Hp) (r : List It) (K : Env → Hp → Prop) : wpG cf dst op e h r K (some true) = wpO cf dst e r K (opX cf e h op) := rfl
theorem wpG_f (cf : Cf) (t : Nat) (op : AOp) (e : Env) (h : Hp) (r : List It) (K : Env → Hp → Prop) : wpG cf (some t) op e h r K (some false) = wpI cf r ((t, .tup []) :: e) h K := rfl
theorem wpG_fn (cf : Cf) (op : AOp) (e : Env) (h : Hp) (r : List It) (K : Env → Hp → Prop) : wpG cf none op e h r K (some false) = wpI cf r e h K := rfl
theorem wantV_bt (c : Bool) : wantV (.d (.bool c)) true = some c := by cases c <;> rfl
theorem wantV_bf (c : Bool) : wantV (.d (.bool c)) false = some (!c) := by cases c <;> rfl
theorem regQ_eq (kp : List Nat) (Q : Out → Prop) (e : Env) (h : Hp) : regQ (some kp) Q e h = Q (.norm, e.keep kp, h) := rfl
theorem seqQ_n (T : Tab) (b : AC) (Q : Out → Prop) (e : Env) (h : Hp) : seqQ T b Q (.norm, e, h) = wp T b e h Q := rfl
theorem seqQ_e (T : Tab) (b : AC) (Q : Out → Prop) (i : Nat) (e : Env) (h : Hp) : seqQ T b Q (.exit i, e, h) = Q (.exit i, e, h) := rfl
theorem seqQ_r (T : Tab) (b : AC) (Q : Out → Prop) (e : Env) (h : Hp) : seqQ T b Q (.ret, e, h) = Q (.ret, e, h) := rfl
theorem blkQ_n (id : Nat) (Q : Out → Prop) (e : Env) (h : Hp) : blkQ id Q (.norm, e, h) = Q (.norm, e, h) := rfl
theorem blkQ_r (id : Nat) (Q : Out → Prop) (e : Env) (h : Hp) : blkQ id Q (.ret, e, h) = Q (.ret, e, h) := rfl
theorem blkQ_e (id i : Nat) (Q : Out → Prop) (e : Env) (h : Hp) : blkQ id Q (.exit i, e, h) = if i = id then Q (.norm, e, h) else Q (.exit i, e, h) := by
  unfold blkQ
  by_cases hi : i = id
  · subst hi; simp
  · rw [if_neg hi, if_neg (by simpa using hi)]
theorem donQ_n (fn : AF) (h : Hp) (R : Option (V × Hp) → Prop) (e : Env) (h' : Hp) : donQ fn h R (.norm, e, h') = R (finish fn h e h') := rfl
theorem donQ_r (fn : AF) (h : Hp) (R : Option (V × Hp) → Prop) (e : Env) (h' : Hp) : donQ fn h R (.ret, e, h') = R (finish fn h e h') := rfl
/-- The end of a function that hands on nothing of its own. -/
def finS (h : Hp) (h' : Hp) (vs : List V) : Option (V × Hp) := if sufOk h.objs h'.objs = true then (vs.mapM (back1 h' h.next)).map fun l => (resV l, h) else none
theorem fin_s (np : Nat) (res : List (Nat × Option (Bool × Nat))) (b : AC) (h : Hp) (e : Env) (h' : Hp) : finish ⟨np, res, true, b⟩ h e h' = (resL e h' res).bind (finS h h') := rfl
theorem fin_l (np : Nat) (res : List (Nat × Option (Bool × Nat))) (b : AC) (h : Hp) (e : Env) (h' : Hp) : finish ⟨np, res, false, b⟩ h e h' = (resL e h' res).bind fun vs => some (resV vs, h') := rfl
theorem resL_nil (e : Env) (h : Hp) : resL e h [] = some [] := rfl
theorem resL_t (e : Env) (h : Hp) (t : Nat) (r : List (Nat × Option (Bool × Nat))) : resL e h ((t, none) :: r) = (resL e h r).map (e.get t :: ·) := rfl
theorem resL_c (e : Env) (h : Hp) (t sz : Nat) (ag : Bool) (r : List (Nat × Option (Bool × Nat))) : resL e h ((t, some (ag, sz)) :: r) = (ld ag sz h (e.get t)).bind fun v => (resL e h r).map (v :: ·) := rfl
theorem finS_same {h h' : Hp} (hh : h'.objs = h.objs) (vs : List D) : finS h h' (vs.map .d) = some (resV (vs.map .d), h) := by
  unfold finS
  rw [if_pos (by rw [hh]; exact suf_refl _)]
  have : (vs.map V.d).mapM (back1 h' h.next) = some (vs.map V.d) := by
    induction vs with
    | nil => rfl
    | cons x l ih => rw [List.map_cons, List.mapM_cons, back_d, ih]; rfl
  rw [this]; rfl
theorem finS1 (h : Hp) (x : D) : finS h h [.d x] = some (.d x, h) := finS_same rfl [x]
theorem finS2 (h : Hp) (x y : D) : finS h h [.d x, .d y] = some (.tup [.d x, .d y], h) := finS_same rfl [x, y]
theorem finS3 (h : Hp) (x y z : D) : finS h h [.d x, .d y, .d z] = some (.tup [.d x, .d y, .d z], h) := finS_same rfl [x, y, z]
theorem finS1' (h : Hp) (n : Nat) (x : D) : finS h ⟨h.objs, n⟩ [.d x] = some (.d x, h) := finS_same (h := h) (h' := ⟨h.objs, n⟩) rfl [x]
theorem finS2' (h : Hp) (n : Nat) (x y : D) : finS h ⟨h.objs, n⟩ [.d x, .d y] = some (.tup [.d x, .d y], h) := finS_same (h := h) (h' := ⟨h.objs, n⟩) rfl [x, y]
theorem finS3' (h : Hp) (n : Nat) (x y z : D) : finS h ⟨h.objs, n⟩ [.d x, .d y, .d z] = some (.tup [.d x, .d y, .d z], h) := finS_same (h := h) (h' := ⟨h.objs, n⟩) rfl [x, y, z]

theorem partD_t (o sz : Nat) (l : List D) : partD true o sz l = if o + sz ≤ l.length then some (.agg ((l.drop o).take sz)) else none := rfl
theorem un_not (b : Bool) : un .not (.d (.bool b)) = some (.d (.bool (!b))) := rfl
theorem na_t (bs : List Bool) (v : V) (vs : List V) : normArgs (true :: bs) (v :: vs) = norm v :: normArgs bs vs := rfl
theorem na_f (bs : List Bool) (v : V) (vs : List V) : normArgs (false :: bs) (v :: vs) = v :: normArgs bs vs := rfl
theorem na_n (vs : List V) : normArgs [] vs = vs := rfl
theorem nat_neg (n : Nat) : ((n : Int) < 0) = False := by simp
theorem nat_nn (n : Nat) : ((0 : Int) ≤ (n : Int)) = True := by simp
theorem bin_s_eq (a b : ByteArray) : bin .eql (.d (.str a)) (.d (.str b)) = some (.d (.bool (decide (a = b)))) := rfl
theorem bin_s_ne (a b : ByteArray) : bin .neq (.d (.str a)) (.d (.str b)) = some (.d (.bool (!decide (a = b)))) := rfl
theorem lenS_str (s : ByteArray) : lenS (.d (.str s)) = some (.d (.int .i64 (s.size : Int))) := rfl
theorem resV_nil : resV [] = .tup [] := rfl
theorem conv_i (k j : IntKind) (n : Int) : conv k (.d (.int j n)) = some (.d (.int k (k.wrap n))) := rfl
theorem norm_tl0 (nl : Option Bool) : norm (.tl [] nl) = .d (.lst []) := rfl
theorem un_neg (k : IntKind) (n : Int) : un .neg (.d (.int k n)) = some (.d (.int k (k.wrap (0 - n)))) := rfl
theorem binB_eq (a b : Bool) : binB .eql (.d (.bool a)) (.d (.bool b)) = some (.d (.bool (a == b))) := rfl
theorem binB_ne (a b : Bool) : binB .neq (.d (.bool a)) (.d (.bool b)) = some (.d (.bool (!(a == b)))) := rfl
theorem row_hd (n es : Nat) (els : List V) (r : List (Nat × Ob)) (nx tot : Nat) : Hp.row ⟨(n, .arr es els) :: r, nx⟩ n tot = if els.length = tot then some (es, els) else none := by
  rw [row_cons, if_pos rfl]
theorem set_hd (n : Nat) (o : Ob) (r : List (Nat × Ob)) (nx : Nat) (x : Ob) : Hp.set ⟨(n, o) :: r, nx⟩ n x = ⟨(n, x) :: r, nx⟩ := by
  rw [set_cons, if_pos rfl]
theorem alloc_eq (h : Hp) (o : Ob) : h.alloc o = ⟨(h.next, o) :: h.objs, h.next + 1⟩ := rfl


theorem finS_nil (h : Hp) (nl : Option Bool) : finS h h [.tl [] nl] = some (.d (.lst []), h) := by
  unfold finS; rw [if_pos (suf_refl _)]; rfl
theorem nat1_0 (n : Nat) : ((n : Int) + 1 == 0) = false := by simp; omega
theorem nat1_lt1 (n : Nat) : ((n : Int) + 1 < 1) = False := by simp; omega
theorem nat1_lt0 (n : Nat) : ((n : Int) + 1 < 0) = False := by simp; omega
theorem nat1_ge0 (n : Nat) : (0 ≤ (n : Int) + 1) = True := by simp; omega
theorem nat1_ge1 (n : Nat) : (1 ≤ (n : Int) + 1) = True := by simp; omega
theorem ld_one (sz : Nat) (h : Hp) (n tot i off : Nat) : ld false sz h (.ptr n tot i off) = (h.row n tot).bind fun r => (r.2[i]?).bind fun e => e.cells[off]? := by
  simp [ld, partV]
theorem st_hd (es n : Nat) (z : V) (l : List (Nat × Ob)) (nx : Nat) (x : V) : st es ⟨(n, .arr es [z]) :: l, nx⟩ (.ptr n 1 0 0) x = if stor x = true ∧ x.cells.length = es then some ⟨(n, .arr es [x]) :: l, nx⟩ else none := by
  simp [st, row_hd, set_hd]
theorem finS1m (l : List (Nat × Ob)) (n m : Nat) (x : D) : finS ⟨l, n⟩ ⟨l, m⟩ [.d x] = some (.d x, ⟨l, n⟩) := finS_same (h := ⟨l, n⟩) (h' := ⟨l, m⟩) rfl [x]
theorem finS2m (l : List (Nat × Ob)) (n m : Nat) (x y : D) : finS ⟨l, n⟩ ⟨l, m⟩ [.d x, .d y] = some (.tup [.d x, .d y], ⟨l, n⟩) := finS_same (h := ⟨l, n⟩) (h' := ⟨l, m⟩) rfl [x, y]
theorem finS3m (l : List (Nat × Ob)) (n m : Nat) (x y z : D) : finS ⟨l, n⟩ ⟨l, m⟩ [.d x, .d y, .d z] = some (.tup [.d x, .d y, .d z], ⟨l, n⟩) := finS_same (h := ⟨l, n⟩) (h' := ⟨l, m⟩) rfl [x, y, z]
theorem finS_suf {h h' : Hp} (hh : sufOk h.objs h'.objs = true) (vs : List D) : finS h h' (vs.map .d) = some (resV (vs.map .d), h) := by
  unfold finS
  rw [if_pos hh]
  have : (vs.map V.d).mapM (back1 h' h.next) = some (vs.map V.d) := by
    induction vs with
    | nil => rfl
    | cons x l ih => rw [List.map_cons, List.mapM_cons, back_d, ih]; rfl
  rw [this]; rfl
theorem finS1c (h : Hp) (o : Nat × Ob) (m : Nat) (x : D) : finS h ⟨o :: h.objs, m⟩ [.d x] = some (.d x, h) := finS_suf (h' := ⟨o :: h.objs, m⟩) (suf_one _ _) [x]
theorem finS2c (h : Hp) (o : Nat × Ob) (m : Nat) (x y : D) : finS h ⟨o :: h.objs, m⟩ [.d x, .d y] = some (.tup [.d x, .d y], h) := finS_suf (h' := ⟨o :: h.objs, m⟩) (suf_one _ _) [x, y]
theorem finS3c (h : Hp) (o : Nat × Ob) (m : Nat) (x y z : D) : finS h ⟨o :: h.objs, m⟩ [.d x, .d y, .d z] = some (.tup [.d x, .d y, .d z], h) := finS_suf (h' := ⟨o :: h.objs, m⟩) (suf_one _ _) [x, y, z]
theorem finS1cc (h : Hp) (o q : Nat × Ob) (m : Nat) (x : D) : finS h ⟨o :: q :: h.objs, m⟩ [.d x] = some (.d x, h) := finS_suf (h' := ⟨o :: q :: h.objs, m⟩) (suf_two _ _ _) [x]
theorem st_2 (es n : Nat) (o : Ob) (z : V) (l : List (Nat × Ob)) (nx : Nat) (x : V) : st es ⟨(n + 1, o) :: (n, .arr es [z]) :: l, nx⟩ (.ptr n 1 0 0) x = if stor x = true ∧ x.cells.length = es then some ⟨(n + 1, o) :: (n, .arr es [x]) :: l, nx⟩ else none := by
  have hr : Hp.row ⟨(n + 1, o) :: (n, .arr es [z]) :: l, nx⟩ n 1 = some (es, [z]) := by
    unfold Hp.row Hp.get; simp [Zv.look]
  have hs : ∀ y, Hp.set ⟨(n + 1, o) :: (n, .arr es [z]) :: l, nx⟩ n y = ⟨(n + 1, o) :: (n, y) :: l, nx⟩ := by
    intro y; unfold Hp.set; simp [upd]
  simp [st, hr, hs]
theorem frz_2 (n es nx : Nat) (o : Ob) (x : D) (l : List (Nat × Ob)) (off : Nat) : Zv.frz ⟨(n + 1, o) :: (n, .arr es [.d x]) :: l, nx⟩ (.ptr n 1 0 off) = some (.fp x off, ⟨(n + 1, o) :: l, nx⟩) := by
  have hr : Hp.row ⟨(n + 1, o) :: (n, .arr es [.d x]) :: l, nx⟩ n 1 = some (es, [.d x]) := by
    unfold Hp.row Hp.get; simp [Zv.look]
  simp only [Zv.frz, hr, Option.bind_some, List.getElem?_cons_zero, Option.map_some, toD]
  simp [Hp.kill, del]
theorem kill_2 (n : Nat) (o p : Ob) (l : List (Nat × Ob)) (nx : Nat) : Hp.kill ⟨(n + 1, o) :: (n, p) :: l, nx⟩ n = ⟨(n + 1, o) :: l, nx⟩ := by
  unfold Hp.kill; simp [del]
theorem ld_whole (es n : Nat) (l : List D) (r : List (Nat × Ob)) (nx : Nat) : ld true es ⟨(n, .arr es [.d (.agg l)]) :: r, nx⟩ (.ptr n 1 0 0) = some (.d (.agg l)) := by
  simp [ld, row_hd]
theorem ld_whole2 (es n : Nat) (o : Ob) (l : List D) (r : List (Nat × Ob)) (nx : Nat) : ld true es ⟨(n + 1, o) :: (n, .arr es [.d (.agg l)]) :: r, nx⟩ (.ptr n 1 0 0) = some (.d (.agg l)) := by
  have hr : Hp.row ⟨(n + 1, o) :: (n, .arr es [.d (.agg l)]) :: r, nx⟩ n 1 = some (es, [.d (.agg l)]) := by
    unfold Hp.row Hp.get; simp [Zv.look]
  simp [ld, hr]
/-- Lists and truth values. -/
theorem wsl : (type_of% @List.map_cons.{0, 0}) ∧ (type_of% @List.map_nil.{0, 0}) ∧ (type_of% @List.cons_append.{0}) ∧ (type_of% @List.nil_append.{0}) ∧ (type_of% @List.append_nil.{0}) ∧ (type_of% @List.getElem?_cons_zero.{0}) ∧ (type_of% @List.getElem?_cons_succ.{0}) ∧ (type_of% @List.length_cons.{0}) ∧ (type_of% @List.length_nil.{0}) ∧ (type_of% @List.length_map.{0, 0}) ∧ (type_of% @List.length_append.{0}) ∧ (type_of% @List.all_cons.{0}) ∧ (type_of% @List.all_nil.{0}) ∧ (type_of% @List.take_zero.{0}) ∧ (type_of% @List.take_succ_cons.{0}) ∧ (type_of% @List.drop_zero.{0}) ∧ (type_of% @List.drop_succ_cons.{0}) ∧ (type_of% @Option.map_some.{0, 0}) ∧ (type_of% @Option.bind_some.{0, 0}) ∧ (type_of% @Option.map_none.{0, 0}) ∧ (type_of% @Option.bind_none.{0, 0}) ∧ (type_of% @beq_self_eq_true.{0}) ∧ (type_of% @bne_self_eq_false.{0}) ∧ (type_of% @Option.some.injEq.{0}) ∧ (type_of% @Prod.mk.injEq.{0, 0}) ∧ (type_of% @gt_iff_lt.{0}) ∧ (type_of% @ge_iff_le.{0}) ∧ (type_of% @if_true.{1}) ∧ (type_of% @if_false.{1}) ∧ (type_of% @ite_self.{1}) ∧ (type_of% @ne_eq.{1}) ∧ (type_of% @eq_self.{1}) ∧ (type_of% @Bool.and_self) ∧ (type_of% @and_self) ∧ (type_of% @true_and) ∧ (type_of% @and_true) ∧ (type_of% @Bool.not_true) ∧ (type_of% @Bool.not_false) ∧ (type_of% @Bool.not_eq_true') ∧ (type_of% @decide_eq_true_eq) ∧ (type_of% @decide_eq_false_iff_not) ∧ (type_of% @Nat.zero_add) ∧ (type_of% @Nat.add_zero) ∧ (type_of% @Nat.succ_ne_zero) ∧ (type_of% @Bool.false_eq_true) ∧ (type_of% @not_true_eq_false) ∧ (type_of% @not_false_eq_true) ∧ (type_of% @Bool.false_and) ∧ (type_of% @Bool.true_and) ∧ (type_of% @and_false) ∧ (type_of% @false_and) ∧ (type_of% @Bool.true_eq_false) ∧ (type_of% @or_false) ∧ (type_of% @false_or) ∧ (type_of% @true_or) ∧ (type_of% @or_true) ∧ (type_of% @Int.cast_ofNat_Int) ∧ (type_of% @Int.ofNat_lt) ∧ (type_of% @Int.ofNat_le) ∧ (type_of% @Nat.lt_irrefl) ∧ (type_of% @decide_true) ∧ (type_of% @decide_false) :=
  ⟨@List.map_cons.{0, 0}, @List.map_nil.{0, 0}, @List.cons_append.{0}, @List.nil_append.{0}, @List.append_nil.{0}, @List.getElem?_cons_zero.{0}, @List.getElem?_cons_succ.{0}, @List.length_cons.{0}, @List.length_nil.{0}, @List.length_map.{0, 0}, @List.length_append.{0}, @List.all_cons.{0}, @List.all_nil.{0}, @List.take_zero.{0}, @List.take_succ_cons.{0}, @List.drop_zero.{0}, @List.drop_succ_cons.{0}, @Option.map_some.{0, 0}, @Option.bind_some.{0, 0}, @Option.map_none.{0, 0}, @Option.bind_none.{0, 0}, @beq_self_eq_true.{0}, @bne_self_eq_false.{0}, @Option.some.injEq.{0}, @Prod.mk.injEq.{0, 0}, @gt_iff_lt.{0}, @ge_iff_le.{0}, @if_true.{1}, @if_false.{1}, @ite_self.{1}, @ne_eq.{1}, @eq_self.{1}, @Bool.and_self, @and_self, @true_and, @and_true, @Bool.not_true, @Bool.not_false, @Bool.not_eq_true', @decide_eq_true_eq, @decide_eq_false_iff_not, @Nat.zero_add, @Nat.add_zero, @Nat.succ_ne_zero, @Bool.false_eq_true, @not_true_eq_false, @not_false_eq_true, @Bool.false_and, @Bool.true_and, @and_false, @false_and, @Bool.true_eq_false, @or_false, @false_or, @true_or, @or_true, @Int.cast_ofNat_Int, @Int.ofNat_lt, @Int.ofNat_le, @Nat.lt_irrefl, @decide_true, @decide_false⟩
/-- All steps. -/
theorem ws : (type_of% @wq_seq) ∧ (type_of% @wq_blk) ∧ (type_of% @wq_cond) ∧ (type_of% @wpC_t) ∧ (type_of% @wpC_f) ∧ (type_of% @wq_skip) ∧ (type_of% @wq_exit) ∧ (type_of% @wq_ret) ∧ (type_of% @wpI_nil) ∧ (type_of% @wpI_o) ∧ (type_of% @wpI_g) ∧ (type_of% @wpI_frz) ∧ (type_of% @wpI_fzd) ∧ (type_of% @wpI_kill) ∧ (type_of% @wpE_some) ∧ (type_of% @wpO_some) ∧ (type_of% @wpO_none) ∧ (type_of% @wpOs_d) ∧ (type_of% @wpOn_d) ∧ (type_of% @isPan_d) ∧ (type_of% @wpOs_tl) ∧ (type_of% @wpOn_tl) ∧ (type_of% @isPan_tl) ∧ (type_of% @wpOs_own) ∧ (type_of% @wpOn_own) ∧ (type_of% @isPan_own) ∧ (type_of% @wpOs_ptr) ∧ (type_of% @wpOn_ptr) ∧ (type_of% @isPan_ptr) ∧ (type_of% @wpOs_fp) ∧ (type_of% @wpOn_fp) ∧ (type_of% @isPan_fp) ∧ (type_of% @wpOs_clo) ∧ (type_of% @wpOn_clo) ∧ (type_of% @isPan_clo) ∧ (type_of% @wpOs_agg) ∧ (type_of% @wpOn_agg) ∧ (type_of% @isPan_agg) ∧ (type_of% @wpOs_tup) ∧ (type_of% @wpOn_tup) ∧ (type_of% @isPan_tup) ∧ (type_of% @wpOs_map) ∧ (type_of% @wpOn_map) ∧ (type_of% @isPan_map) ∧ (type_of% @wpOs_yld) ∧ (type_of% @wpOn_yld) ∧ (type_of% @isPan_yld) ∧ (type_of% @wpOs_ub) ∧ (type_of% @wpOn_ub) ∧ (type_of% @isPan_ub) ∧ (type_of% @wpOs_undef) ∧ (type_of% @wpOn_undef) ∧ (type_of% @isPan_undef) ∧ (type_of% @wpOs_ifc) ∧ (type_of% @wpOn_ifc) ∧ (type_of% @isPan_ifc) ∧ (type_of% @wpOs_nif) ∧ (type_of% @wpOn_nif) ∧ (type_of% @isPan_nif) ∧ (type_of% @isPan_ite) ∧ (type_of% @isPan_rowV) ∧ (type_of% @isPan_mkAgg) ∧ (type_of% @mkif_d) ∧ (type_of% @tas_hit) ∧ (type_of% @np_d) ∧ (type_of% @np_tup) ∧ (type_of% @wpG_t) ∧ (type_of% @wpG_f) ∧ (type_of% @wpG_fn) ∧ (type_of% @wantV_bt) ∧ (type_of% @wantV_bf) ∧ (type_of% @wantV_t) ∧ (type_of% @regQ_eq) ∧ (type_of% @seqQ_n) ∧ (type_of% @seqQ_e) ∧ (type_of% @seqQ_r) ∧ (type_of% @blkQ_n) ∧ (type_of% @blkQ_r) ∧ (type_of% @blkQ_e) ∧ (type_of% @donQ_n) ∧ (type_of% @donQ_r) ∧ (type_of% @fin_s) ∧ (type_of% @finS1) ∧ (type_of% @finS2) ∧ (type_of% @finS3) ∧ (type_of% @finS1') ∧ (type_of% @finS2') ∧ (type_of% @finS3') ∧ (type_of% @fin_l) ∧ (type_of% @resL_nil) ∧ (type_of% @resL_t) ∧ (type_of% @resL_c) ∧ (type_of% @resV_one) ∧ (type_of% @resV_two) ∧ (type_of% @resV_three) ∧ (type_of% @ev_t) ∧ (type_of% @ev_c) ∧ (type_of% @get_cons) ∧ (type_of% @get_nil) ∧ (type_of% @pv_some) ∧ (type_of% @bin_i) ∧ (type_of% @condB_b) ∧ (type_of% @keep_cons) ∧ (type_of% @keep_nil) ∧ (type_of% @args_cons) ∧ (type_of% @args_nil) ∧ (type_of% @na_t) ∧ (type_of% @na_f) ∧ (type_of% @na_n) ∧ (type_of% @norm_d) ∧ (type_of% @norm_ptr) ∧ (type_of% @norm_own) ∧ (type_of% @norm_map) ∧ (type_of% @norm_clo0) ∧ (type_of% @cW_clo) ∧ (type_of% @fa_fp) ∧ (type_of% @ld_fp) ∧ (type_of% @ldf_fp) ∧ (type_of% @partD_one) ∧ (type_of% @partD_t) ∧ (type_of% @cells_agg) ∧ (type_of% @cells_int) ∧ (type_of% @cells_bool) ∧ (type_of% @cells_str) ∧ (type_of% @cells_lst) ∧ (type_of% @lenL_lst) ∧ (type_of% @lenL_own) ∧ (type_of% @lenL_tl) ∧ (type_of% @ext_tup) ∧ (type_of% @pick_b) ∧ (type_of% @un_not) ∧ (type_of% @norm_tl0) ∧ (type_of% @conv_i) ∧ (type_of% @quiet_refl) ∧ (type_of% @st_2) ∧ (type_of% @frz_2) ∧ (type_of% @kill_2) ∧ (type_of% @resV_nil) ∧ (type_of% @nat1_0) ∧ (type_of% @nat1_lt1) ∧ (type_of% @nat1_lt0) ∧ (type_of% @nat1_ge0) ∧ (type_of% @nat1_ge1) ∧ (type_of% @ld_one) ∧ (type_of% @ld_whole) ∧ (type_of% @ld_whole2) ∧ (type_of% @st_hd) ∧ (type_of% @finS1m) ∧ (type_of% @finS2m) ∧ (type_of% @finS3m) ∧ (type_of% @finS1c) ∧ (type_of% @finS2c) ∧ (type_of% @finS3c) ∧ (type_of% @finS1cc) ∧ (type_of% @finS_nil) ∧ (type_of% @bin_s_eq) ∧ (type_of% @bin_s_ne) ∧ (type_of% @lenS_str) ∧ (type_of% @un_neg) ∧ (type_of% @nat_neg) ∧ (type_of% @nat_nn) ∧ (type_of% @binB_eq) ∧ (type_of% @binB_ne) ∧ (type_of% @nilck_ptr) ∧ (type_of% @nilck_fp) ∧ (type_of% @fa_ptr) ∧ (type_of% @partV_one) ∧ (type_of% @stor_d) ∧ (type_of% @stor_own) ∧ (type_of% @stor_ptr) ∧ (type_of% @stor_tl) ∧ (type_of% @stor_agg) ∧ (type_of% @stor_clo) ∧ (type_of% @stor_map) ∧ (type_of% @vcells_d) ∧ (type_of% @vcells_agg) ∧ (type_of% @vcells_own) ∧ (type_of% @vcells_ptr) ∧ (type_of% @vcells_tl) ∧ (type_of% @vcells_clo) ∧ (type_of% @vcells_map) ∧ (type_of% @lay_nil) ∧ (type_of% @lay_cons) ∧ (type_of% @mkAgg1) ∧ (type_of% @mkAgg2) ∧ (type_of% @mkAgg3) ∧ (type_of% @mkAgg4) ∧ (type_of% @mkAgg5) ∧ (type_of% @mkAgg6) ∧ (type_of% @mkAgg_own) ∧ (type_of% @mkAgg_ptr) ∧ (type_of% @mkAgg_tl) ∧ (type_of% @mkAgg_map) ∧ (type_of% @mkAgg_clo) ∧ (type_of% @mkAgg_d_own) ∧ (type_of% @mkAgg_dd_own) ∧ (type_of% @mkAgg_d_tl) ∧ (type_of% @mkAgg_dd_tl) ∧ (type_of% @killX_ptr) ∧ (type_of% @killX_own) ∧ (type_of% @killX_fp) ∧ (type_of% @killX_d) ∧ (type_of% @killX_undef) ∧ (type_of% @killX_tup) ∧ (type_of% @kill_hd) ∧ (type_of% @frz_hd) ∧ (type_of% @set_hd) ∧ (type_of% @row_hd) ∧ (type_of% @alloc_mk) ∧ (type_of% @alloc_eq) ∧ (type_of% @nilBin_ptr) ∧ (type_of% @nilBin_nil) ∧ (type_of% @V.d.injEq) ∧ (type_of% @D.bool.injEq) ∧ (type_of% @D.int.injEq) ∧ (type_of% @D.lst.injEq) ∧ (type_of% @D.agg.injEq) ∧ (type_of% @D.str.injEq) :=
  ⟨@wq_seq, @wq_blk, @wq_cond, @wpC_t, @wpC_f, @wq_skip, @wq_exit, @wq_ret, @wpI_nil, @wpI_o, @wpI_g, @wpI_frz, @wpI_fzd, @wpI_kill, @wpE_some, @wpO_some, @wpO_none, @wpOs_d, @wpOn_d, @isPan_d, @wpOs_tl, @wpOn_tl, @isPan_tl, @wpOs_own, @wpOn_own, @isPan_own, @wpOs_ptr, @wpOn_ptr, @isPan_ptr, @wpOs_fp, @wpOn_fp, @isPan_fp, @wpOs_clo, @wpOn_clo, @isPan_clo, @wpOs_agg, @wpOn_agg, @isPan_agg, @wpOs_tup, @wpOn_tup, @isPan_tup, @wpOs_map, @wpOn_map, @isPan_map, @wpOs_yld, @wpOn_yld, @isPan_yld, @wpOs_ub, @wpOn_ub, @isPan_ub, @wpOs_undef, @wpOn_undef, @isPan_undef, @wpOs_ifc, @wpOn_ifc, @isPan_ifc, @wpOs_nif, @wpOn_nif, @isPan_nif, @isPan_ite, @isPan_rowV, @isPan_mkAgg, @mkif_d, @tas_hit, @np_d, @np_tup, @wpG_t, @wpG_f, @wpG_fn, @wantV_bt, @wantV_bf, @wantV_t, @regQ_eq, @seqQ_n, @seqQ_e, @seqQ_r, @blkQ_n, @blkQ_r, @blkQ_e, @donQ_n, @donQ_r, @fin_s, @finS1, @finS2, @finS3, @finS1', @finS2', @finS3', @fin_l, @resL_nil, @resL_t, @resL_c, @resV_one, @resV_two, @resV_three, @ev_t, @ev_c, @get_cons, @get_nil, @pv_some, @bin_i, @condB_b, @keep_cons, @keep_nil, @args_cons, @args_nil, @na_t, @na_f, @na_n, @norm_d, @norm_ptr, @norm_own, @norm_map, @norm_clo0, @cW_clo, @fa_fp, @ld_fp, @ldf_fp, @partD_one, @partD_t, @cells_agg, @cells_int, @cells_bool, @cells_str, @cells_lst, @lenL_lst, @lenL_own, @lenL_tl, @ext_tup, @pick_b, @un_not, @norm_tl0, @conv_i, @quiet_refl, @st_2, @frz_2, @kill_2, @resV_nil, @nat1_0, @nat1_lt1, @nat1_lt0, @nat1_ge0, @nat1_ge1, @ld_one, @ld_whole, @ld_whole2, @st_hd, @finS1m, @finS2m, @finS3m, @finS1c, @finS2c, @finS3c, @finS1cc, @finS_nil, @bin_s_eq, @bin_s_ne, @lenS_str, @un_neg, @nat_neg, @nat_nn, @binB_eq, @binB_ne, @nilck_ptr, @nilck_fp, @fa_ptr, @partV_one, @stor_d, @stor_own, @stor_ptr, @stor_tl, @stor_agg, @stor_clo, @stor_map, @vcells_d, @vcells_agg, @vcells_own, @vcells_ptr, @vcells_tl, @vcells_clo, @vcells_map, @lay_nil, @lay_cons, @mkAgg1, @mkAgg2, @mkAgg3, @mkAgg4, @mkAgg5, @mkAgg6, @mkAgg_own, @mkAgg_ptr, @mkAgg_tl, @mkAgg_map, @mkAgg_clo, @mkAgg_d_own, @mkAgg_dd_own, @mkAgg_d_tl, @mkAgg_dd_tl, @killX_ptr, @killX_own, @killX_fp, @killX_d, @killX_undef, @killX_tup, @kill_hd, @frz_hd, @set_hd, @row_hd, @alloc_mk, @alloc_eq, @nilBin_ptr, @nilBin_nil, @V.d.injEq, @D.bool.injEq, @D.int.injEq, @D.lst.injEq, @D.agg.injEq, @D.str.injEq⟩

/-! ### Loops over a list -/
theorem ia_map {α : Type} {f : α → D} {es : Nat} {l : List α} {n : Nat} {x : α} (k : IntKind) (hx : l[n]? = some x) (hc : (f x).cells.length = es) : ia es (.d (.lst (l.map f))) (.d (.int k (n : Int))) = some (.fp (f x) 0) :=
  ia_at k (by rw [List.getElem?_map, hx]; rfl) hc

theorem look_hd (n : Nat) (o : Ob) (r : List (Nat × Ob)) : look ((n, o) :: r) n = some o := if_pos rfl
theorem look_tl {m n : Nat} (o : Ob) (r : List (Nat × Ob)) (h : n ≠ m) : look ((m, o) :: r) n = look r n := if_neg h
/-- A loop of which only something is known. -/
theorem loop_wp {T : Tab} {a : AC} (N : Nat) (J : Nat → Env → Hp → Prop) (Q : Out → Prop)
    (hs : ∀ n e h, n < N → J n e h → wp T a e h (fun o => (o.1 = .norm ∧ J (n + 1) o.2.1 o.2.2) ∨ (o.1 ≠ .norm ∧ Q o)))
    (hN : ∀ e h, J N e h → wp T a e h (fun o => o.1 ≠ .norm ∧ Q o)) :
    ∀ (k n : Nat) (e : Env) (h : Hp), n + k = N → J n e h → wp T (.loop a) e h Q := by
  intro k
  induction k with
  | zero =>
    intro n e h hn hJ
    have : n = N := by omega
    subst this
    obtain ⟨o, h1, hp, h2, h3⟩ := wp_out.1 (hN e h hJ)
    refine wp_out.2 ⟨o, ?_, hp, h3⟩
    rw [ex_loop, h1, Option.bind_some]
    obtain ⟨x, e', h'⟩ := o
    cases x with
    | norm => exact absurd rfl h2
    | exit i => rfl
    | ret => rfl
    | pan => rfl
  | succ k ih =>
    intro n e h hn hJ
    obtain ⟨o, h1, hp, h2⟩ := wp_out.1 (hs n e h (by omega) hJ)
    obtain ⟨x, e', h'⟩ := o
    rcases h2 with ⟨h2, h3⟩ | ⟨h2, h3⟩
    · cases h2
      obtain ⟨q, k1, k2⟩ := ih (n + 1) e' h' (by omega) h3
      refine ⟨q, ?_, k2⟩
      rw [ex_loop, h1, Option.bind_some, nxt_n]
      exact k1
    · refine wp_out.2 ⟨(x, e', h'), ?_, hp, h3⟩
      rw [ex_loop, h1, Option.bind_some]
      cases x with
      | norm => exact absurd rfl h2
      | exit i => rfl
      | ret => rfl
      | pan => rfl
theorem an {a b : Prop} (x : a) (y : b) : a ∧ b := ⟨x, y⟩
/-- All steps, and the words for data. -/
def qz := PLift.up (an ws (an wsl (an int.eq_1 Zv.bool.eq_1)))
theorem wz : type_of% qz.down := qz.down
def qq := PLift.up (an @decide_eq_true_eq (an @decide_eq_false_iff_not (an @Bool.not_eq_true' @Bool.not_eq_false')))
def qi := PLift.up (an It.m.eq_1 (an It.u.eq_1 (an It.g.eq_1 (an Opd.f.eq_1 (an Opd.i.eq_1 Opd.b.eq_1)))))
theorem itE : type_of% qi.down := qi.down
/-- A part of the code, as an equation. -/
theorem rgE {f : AC} {i : List It} {k : Option (List Nat)} (hf : f = .reg i k) (T : Tab) (e : Env) (h : Hp) (Q : Out → Prop) : wp T f e h Q = wpI (cW T) i e h (regQ k Q) := by subst hf; exact wq_reg ..
theorem bdE {f g : AC} (hf : f = g) (T : Tab) (e : Env) (h : Hp) (Q : Out → Prop) : wp T f e h Q = wp T g e h Q := by subst hf; rfl
end Zs
end
section
set_option linter.unusedSimpArgs false
set_option linter.unusedVariables false
namespace Zc56
open Go Zv Zs
variable (T : Tab) (e : Env) (h : Hp) (Q : Out → Prop)
def q3 := PLift.up <| an f3.eq_1 <| an (bdE b3.eq_1) <| an (rgE f3r0.eq_1) <| an (rgE f3r1.eq_1) <| an (rgE f3r2.eq_1) <| an (rgE f3r3.eq_1) <| an (rgE f3r4.eq_1) <| an (rgE f3r5.eq_1) <| an (rgE f3r6.eq_1) <| an (rgE f3r7.eq_1) <| an (rgE f3r8.eq_1) <| an (rgE f3r9.eq_1) <| an (rgE f3r10.eq_1) <| an (rgE f3r11.eq_1) <| an (rgE f3r12.eq_1) <| an (rgE f3r13.eq_1) <| an (bdE f3l0.eq_1) <| an (rgE f3r14.eq_1) <| an i3r0.eq_1 <| an i3r1.eq_1 <| an i3r2.eq_1 <| an i3r3.eq_1 <| an i3r4.eq_1 <| an i3r5.eq_1 <| an i3r6.eq_1 <| an i3r7.eq_1 <| an i3r8.eq_1 <| an i3r9.eq_1 <| an i3r10.eq_1 <| an i3r11.eq_1 <| an i3r12.eq_1 <| an i3r13.eq_1 <| an i3r14.eq_1 <| itE
theorem e3 : type_of% q3.down := q3.down
def q4 := PLift.up <| an f4.eq_1 <| an (bdE b4.eq_1) <| an (rgE f4r0.eq_1) <| an (rgE f4r1.eq_1) <| an (rgE f4r2.eq_1) <| an (rgE f4r3.eq_1) <| an (rgE f4r4.eq_1) <| an (rgE f4r5.eq_1) <| an (rgE f4r6.eq_1) <| an (rgE f4r7.eq_1) <| an i4r0.eq_1 <| an i4r1.eq_1 <| an i4r2.eq_1 <| an i4r3.eq_1 <| an i4r4.eq_1 <| an i4r5.eq_1 <| an i4r6.eq_1 <| an i4r7.eq_1 <| itE
theorem e4 : type_of% q4.down := q4.down
def q9 := PLift.up <| an f9.eq_1 <| an (bdE b9.eq_1) <| an (rgE f9r0.eq_1) <| an (rgE f9r1.eq_1) <| an (rgE f9r2.eq_1) <| an (rgE f9r3.eq_1) <| an (rgE f9r4.eq_1) <| an (rgE f9r5.eq_1) <| an (rgE f9r6.eq_1) <| an (bdE f9l0.eq_1) <| an (rgE f9r7.eq_1) <| an i9r0.eq_1 <| an i9r1.eq_1 <| an i9r2.eq_1 <| an i9r3.eq_1 <| an i9r4.eq_1 <| an i9r5.eq_1 <| an i9r6.eq_1 <| an i9r7.eq_1 <| itE
theorem e9 : type_of% q9.down := q9.down
def q15 := PLift.up <| an f15.eq_1 <| an (bdE b15.eq_1) <| an (rgE f15r0.eq_1) <| an (rgE f15r1.eq_1) <| an (rgE f15r2.eq_1) <| an (rgE f15r3.eq_1) <| an (rgE f15r4.eq_1) <| an (rgE f15r5.eq_1) <| an (rgE f15r6.eq_1) <| an (rgE f15r7.eq_1) <| an (rgE f15r8.eq_1) <| an (rgE f15r9.eq_1) <| an (bdE f15l0.eq_1) <| an (rgE f15r10.eq_1) <| an (bdE f15l1.eq_1) <| an (rgE f15r11.eq_1) <| an i15r0.eq_1 <| an i15r1.eq_1 <| an i15r2.eq_1 <| an i15r3.eq_1 <| an i15r4.eq_1 <| an i15r5.eq_1 <| an i15r6.eq_1 <| an i15r7.eq_1 <| an i15r8.eq_1 <| an i15r9.eq_1 <| an i15r10.eq_1 <| an i15r11.eq_1 <| itE
theorem e15 : type_of% q15.down := q15.down
def q16 := PLift.up <| an f16.eq_1 <| an (bdE b16.eq_1) <| an (rgE f16r0.eq_1) <| an (rgE f16r1.eq_1) <| an (rgE f16r2.eq_1) <| an (rgE f16r3.eq_1) <| an (rgE f16r4.eq_1) <| an (rgE f16r5.eq_1) <| an (rgE f16r6.eq_1) <| an (rgE f16r7.eq_1) <| an (rgE f16r8.eq_1) <| an (rgE f16r9.eq_1) <| an i16r0.eq_1 <| an i16r1.eq_1 <| an i16r2.eq_1 <| an i16r3.eq_1 <| an i16r4.eq_1 <| an i16r5.eq_1 <| an i16r6.eq_1 <| an i16r7.eq_1 <| an i16r8.eq_1 <| an i16r9.eq_1 <| an i16r10.eq_1 <| itE
theorem e16 : type_of% q16.down := q16.down
def q17 := PLift.up <| an f17.eq_1 <| an (bdE b17.eq_1) <| an (rgE f17r0.eq_1) <| an (rgE f17r1.eq_1) <| an (rgE f17r2.eq_1) <| an i17r0.eq_1 <| an i17r1.eq_1 <| an i17r2.eq_1 <| itE
theorem e17 : type_of% q17.down := q17.down
def q18 := PLift.up <| an f18.eq_1 <| an (bdE b18.eq_1) <| an (rgE f18r0.eq_1) <| an (rgE f18r1.eq_1) <| an i18r0.eq_1 <| an i18r1.eq_1 <| itE
theorem e18 : type_of% q18.down := q18.down
def q19 := PLift.up <| an f19.eq_1 <| an (bdE b19.eq_1) <| an (rgE f19r0.eq_1) <| an (rgE f19r1.eq_1) <| an (rgE f19r2.eq_1) <| an (rgE f19r3.eq_1) <| an (rgE f19r4.eq_1) <| an (rgE f19r5.eq_1) <| an (rgE f19r6.eq_1) <| an i19r0.eq_1 <| an i19r1.eq_1 <| an i19r2.eq_1 <| an i19r3.eq_1 <| an i19r4.eq_1 <| an i19r5.eq_1 <| an i19r6.eq_1 <| an i19r7.eq_1 <| itE
theorem e19 : type_of% q19.down := q19.down
def q20 := PLift.up <| an f20.eq_1 <| an (bdE b20.eq_1) <| an (rgE f20r0.eq_1) <| an (rgE f20r1.eq_1) <| an (rgE f20r2.eq_1) <| an (rgE f20r3.eq_1) <| an (rgE f20r4.eq_1) <| an (rgE f20r5.eq_1) <| an (rgE f20r6.eq_1) <| an (rgE f20r7.eq_1) <| an (rgE f20r8.eq_1) <| an (rgE f20r9.eq_1) <| an (rgE f20r10.eq_1) <| an (rgE f20r11.eq_1) <| an (bdE f20l0.eq_1) <| an (rgE f20r12.eq_1) <| an (rgE f20r13.eq_1) <| an (rgE f20r14.eq_1) <| an (rgE f20r15.eq_1) <| an (rgE f20r16.eq_1) <| an (rgE f20r17.eq_1) <| an (rgE f20r18.eq_1) <| an (bdE f20l1.eq_1) <| an (rgE f20r19.eq_1) <| an i20r0.eq_1 <| an i20r1.eq_1 <| an i20r2.eq_1 <| an i20r3.eq_1 <| an i20r4.eq_1 <| an i20r5.eq_1 <| an i20r6.eq_1 <| an i20r7.eq_1 <| an i20r8.eq_1 <| an i20r9.eq_1 <| an i20r10.eq_1 <| an i20r11.eq_1 <| an i20r12.eq_1 <| an i20r13.eq_1 <| an i20r14.eq_1 <| an i20r15.eq_1 <| an i20r16.eq_1 <| an i20r17.eq_1 <| an i20r18.eq_1 <| an i20r19.eq_1 <| itE
theorem e20 : type_of% q20.down := q20.down
def q39 := PLift.up <| an f39.eq_1 <| an (bdE b39.eq_1) <| an (rgE f39r0.eq_1) <| an (rgE f39r1.eq_1) <| an (rgE f39r2.eq_1) <| an (rgE f39r3.eq_1) <| an (rgE f39r4.eq_1) <| an (rgE f39r5.eq_1) <| an (rgE f39r6.eq_1) <| an (rgE f39r7.eq_1) <| an i39r0.eq_1 <| an i39r1.eq_1 <| an i39r2.eq_1 <| an i39r3.eq_1 <| an i39r4.eq_1 <| an i39r5.eq_1 <| an i39r6.eq_1 <| an i39r7.eq_1 <| itE
theorem e39 : type_of% q39.down := q39.down
def q42 := PLift.up <| an f42.eq_1 <| an (bdE b42.eq_1) <| an (rgE f42r0.eq_1) <| an (rgE f42r1.eq_1) <| an (rgE f42r2.eq_1) <| an (rgE f42r3.eq_1) <| an (rgE f42r4.eq_1) <| an (rgE f42r5.eq_1) <| an (rgE f42r6.eq_1) <| an (rgE f42r7.eq_1) <| an i42r0.eq_1 <| an i42r1.eq_1 <| an i42r2.eq_1 <| an i42r3.eq_1 <| an i42r4.eq_1 <| an i42r5.eq_1 <| an i42r6.eq_1 <| an i42r7.eq_1 <| an i42r8.eq_1 <| an i42r9.eq_1 <| itE
theorem e42 : type_of% q42.down := q42.down
end Zc56
end
section
set_option linter.unusedSimpArgs false
set_option linter.unusedVariables false
namespace Zc56
open Go Zv
theorem k3 : fnOk Go.Proofs.Try.prog tab 3 f3 = true := by kernel_rfl
theorem k4 : fnOk Go.Proofs.Try.prog tab 4 f4 = true := by kernel_rfl
theorem k9 : fnOk Go.Proofs.Try.prog tab 9 f9 = true := by kernel_rfl
theorem k10 : fnOk Go.Proofs.Try.prog tab 10 f10 = true := by kernel_rfl
theorem k11 : fnOk Go.Proofs.Try.prog tab 11 f11 = true := by kernel_rfl
theorem k12 : fnOk Go.Proofs.Try.prog tab 12 f12 = true := by kernel_rfl
theorem k13 : fnOk Go.Proofs.Try.prog tab 13 f13 = true := by kernel_rfl
theorem k14 : fnOk Go.Proofs.Try.prog tab 14 f14 = true := by kernel_rfl
theorem k15 : fnOk Go.Proofs.Try.prog tab 15 f15 = true := by kernel_rfl
theorem k16 : fnOk Go.Proofs.Try.prog tab 16 f16 = true := by kernel_rfl
theorem k17 : fnOk Go.Proofs.Try.prog tab 17 f17 = true := by kernel_rfl
theorem k18 : fnOk Go.Proofs.Try.prog tab 18 f18 = true := by kernel_rfl
theorem k19 : fnOk Go.Proofs.Try.prog tab 19 f19 = true := by kernel_rfl
theorem k20 : fnOk Go.Proofs.Try.prog tab 20 f20 = true := by kernel_rfl
theorem k21 : fnOk Go.Proofs.Try.prog tab 21 f21 = true := by kernel_rfl
theorem k22 : fnOk Go.Proofs.Try.prog tab 22 f22 = true := by kernel_rfl
theorem k25 : fnOk Go.Proofs.Try.prog tab 25 f25 = true := by kernel_rfl
theorem k27 : fnOk Go.Proofs.Try.prog tab 27 f27 = true := by kernel_rfl
theorem k28 : fnOk Go.Proofs.Try.prog tab 28 f28 = true := by kernel_rfl
theorem k29 : fnOk Go.Proofs.Try.prog tab 29 f29 = true := by kernel_rfl
theorem k30 : fnOk Go.Proofs.Try.prog tab 30 f30 = true := by kernel_rfl
theorem k31 : fnOk Go.Proofs.Try.prog tab 31 f31 = true := by kernel_rfl
theorem k32 : fnOk Go.Proofs.Try.prog tab 32 f32 = true := by kernel_rfl
theorem k33 : fnOk Go.Proofs.Try.prog tab 33 f33 = true := by kernel_rfl
theorem k34 : fnOk Go.Proofs.Try.prog tab 34 f34 = true := by kernel_rfl
theorem k35 : fnOk Go.Proofs.Try.prog tab 35 f35 = true := by kernel_rfl
theorem k36 : fnOk Go.Proofs.Try.prog tab 36 f36 = true := by kernel_rfl
theorem k37 : fnOk Go.Proofs.Try.prog tab 37 f37 = true := by kernel_rfl
theorem k38 : fnOk Go.Proofs.Try.prog tab 38 f38 = true := by kernel_rfl
theorem k39 : fnOk Go.Proofs.Try.prog tab 39 f39 = true := by kernel_rfl
theorem k40 : fnOk Go.Proofs.Try.prog tab 40 f40 = true := by kernel_rfl
theorem k41 : fnOk Go.Proofs.Try.prog tab 41 f41 = true := by kernel_rfl
theorem k42 : fnOk Go.Proofs.Try.prog tab 42 f42 = true := by kernel_rfl
theorem k43 : fnOk Go.Proofs.Try.prog tab 43 f43 = true := by kernel_rfl
theorem k44 : fnOk Go.Proofs.Try.prog tab 44 f44 = true := by kernel_rfl
theorem k45 : fnOk Go.Proofs.Try.prog tab 45 f45 = true := by kernel_rfl
theorem k46 : fnOk Go.Proofs.Try.prog tab 46 f46 = true := by kernel_rfl
theorem k47 : fnOk Go.Proofs.Try.prog tab 47 f47 = true := by kernel_rfl
theorem k48 : fnOk Go.Proofs.Try.prog tab 48 f48 = true := by kernel_rfl
theorem k50 : fnOk Go.Proofs.Try.prog tab 50 f50 = true := by kernel_rfl
theorem k51 : fnOk Go.Proofs.Try.prog tab 51 f51 = true := by kernel_rfl
theorem k52 : fnOk Go.Proofs.Try.prog tab 52 f52 = true := by kernel_rfl
theorem k53 : fnOk Go.Proofs.Try.prog tab 53 f53 = true := by kernel_rfl
theorem k54 : fnOk Go.Proofs.Try.prog tab 54 f54 = true := by kernel_rfl
theorem k55 : fnOk Go.Proofs.Try.prog tab 55 f55 = true := by kernel_rfl
theorem k56 : fnOk Go.Proofs.Try.prog tab 56 f56 = true := by kernel_rfl
theorem k57 : fnOk Go.Proofs.Try.prog tab 57 f57 = true := by kernel_rfl
theorem k58 : fnOk Go.Proofs.Try.prog tab 58 f58 = true := by kernel_rfl
theorem k59 : fnOk Go.Proofs.Try.prog tab 59 f59 = true := by kernel_rfl
theorem k60 : fnOk Go.Proofs.Try.prog tab 60 f60 = true := by kernel_rfl
theorem k61 : fnOk Go.Proofs.Try.prog tab 61 f61 = true := by kernel_rfl
theorem k62 : fnOk Go.Proofs.Try.prog tab 62 f62 = true := by kernel_rfl
theorem k63 : fnOk Go.Proofs.Try.prog tab 63 f63 = true := by kernel_rfl
theorem k64 : fnOk Go.Proofs.Try.prog tab 64 f64 = true := by kernel_rfl
theorem k65 : fnOk Go.Proofs.Try.prog tab 65 f65 = true := by kernel_rfl
theorem k66 : fnOk Go.Proofs.Try.prog tab 66 f66 = true := by kernel_rfl
theorem k67 : fnOk Go.Proofs.Try.prog tab 67 f67 = true := by kernel_rfl
theorem k68 : fnOk Go.Proofs.Try.prog tab 68 f68 = true := by kernel_rfl
theorem k69 : fnOk Go.Proofs.Try.prog tab 69 f69 = true := by kernel_rfl
theorem k70 : fnOk Go.Proofs.Try.prog tab 70 f70 = true := by kernel_rfl
theorem k71 : fnOk Go.Proofs.Try.prog tab 71 f71 = true := by kernel_rfl
theorem k72 : fnOk Go.Proofs.Try.prog tab 72 f72 = true := by kernel_rfl
theorem k73 : fnOk Go.Proofs.Try.prog tab 73 f73 = true := by kernel_rfl
theorem k74 : fnOk Go.Proofs.Try.prog tab 74 f74 = true := by kernel_rfl
theorem k75 : fnOk Go.Proofs.Try.prog tab 75 f75 = true := by kernel_rfl
theorem k76 : fnOk Go.Proofs.Try.prog tab 76 f76 = true := by kernel_rfl
theorem k77 : fnOk Go.Proofs.Try.prog tab 77 f77 = true := by kernel_rfl
theorem k78 : fnOk Go.Proofs.Try.prog tab 78 f78 = true := by kernel_rfl
theorem k79 : fnOk Go.Proofs.Try.prog tab 79 f79 = true := by kernel_rfl
theorem k80 : fnOk Go.Proofs.Try.prog tab 80 f80 = true := by kernel_rfl
theorem k81 : fnOk Go.Proofs.Try.prog tab 81 f81 = true := by kernel_rfl
theorem k82 : fnOk Go.Proofs.Try.prog tab 82 f82 = true := by kernel_rfl
theorem k83 : fnOk Go.Proofs.Try.prog tab 83 f83 = true := by kernel_rfl
theorem k84 : fnOk Go.Proofs.Try.prog tab 84 f84 = true := by kernel_rfl
theorem k85 : fnOk Go.Proofs.Try.prog tab 85 f85 = true := by kernel_rfl
theorem k86 : fnOk Go.Proofs.Try.prog tab 86 f86 = true := by kernel_rfl
theorem k87 : fnOk Go.Proofs.Try.prog tab 87 f87 = true := by kernel_rfl
theorem k88 : fnOk Go.Proofs.Try.prog tab 88 f88 = true := by kernel_rfl
theorem k89 : fnOk Go.Proofs.Try.prog tab 89 f89 = true := by kernel_rfl
theorem k90 : fnOk Go.Proofs.Try.prog tab 90 f90 = true := by kernel_rfl
theorem k91 : fnOk Go.Proofs.Try.prog tab 91 f91 = true := by kernel_rfl
theorem k92 : fnOk Go.Proofs.Try.prog tab 92 f92 = true := by kernel_rfl
theorem k93 : fnOk Go.Proofs.Try.prog tab 93 f93 = true := by kernel_rfl
theorem k94 : fnOk Go.Proofs.Try.prog tab 94 f94 = true := by kernel_rfl
theorem k95 : fnOk Go.Proofs.Try.prog tab 95 f95 = true := by kernel_rfl
theorem tabOk : TabOk Go.Proofs.Try.prog tab := by
  intro n fn hlt h
  unfold tab at h
  split at h
  · cases h; exact .inl k3
  · cases h; exact .inl k4
  · cases h; exact .inl k9
  · cases h; exact .inl k10
  · cases h; exact .inl k11
  · cases h; exact .inl k12
  · cases h; exact .inl k13
  · cases h; exact .inl k14
  · cases h; exact .inl k15
  · cases h; exact .inl k16
  · cases h; exact .inl k17
  · cases h; exact .inl k18
  · cases h; exact .inl k19
  · cases h; exact .inl k20
  · cases h; exact .inl k21
  · cases h; exact .inl k22
  · cases h; exact .inl k25
  · cases h; exact .inl k27
  · cases h; exact .inl k28
  · cases h; exact .inl k29
  · cases h; exact .inl k30
  · cases h; exact .inl k31
  · cases h; exact .inl k32
  · cases h; exact .inl k33
  · cases h; exact .inl k34
  · cases h; exact .inl k35
  · cases h; exact .inl k36
  · cases h; exact .inl k37
  · cases h; exact .inl k38
  · cases h; exact .inl k39
  · cases h; exact .inl k40
  · cases h; exact .inl k41
  · cases h; exact .inl k42
  · cases h; exact .inl k43
  · cases h; exact .inl k44
  · cases h; exact .inl k45
  · cases h; exact .inl k46
  · cases h; exact .inl k47
  · cases h; exact .inl k48
  · cases h; exact .inl k50
  · cases h; exact .inl k51
  · cases h; exact .inl k52
  · cases h; exact .inl k53
  · cases h; exact .inl k54
  · cases h; exact .inl k55
  · cases h; exact .inl k56
  · cases h; exact .inl k57
  · cases h; exact .inl k58
  · cases h; exact .inl k59
  · cases h; exact .inl k60
  · cases h; exact .inl k61
  · cases h; exact .inl k62
  · cases h; exact .inl k63
  · cases h; exact .inl k64
  · cases h; exact .inl k65
  · cases h; exact .inl k66
  · cases h; exact .inl k67
  · cases h; exact .inl k68
  · cases h; exact .inl k69
  · cases h; exact .inl k70
  · cases h; exact .inl k71
  · cases h; exact .inl k72
  · cases h; exact .inl k73
  · cases h; exact .inl k74
  · cases h; exact .inl k75
  · cases h; exact .inl k76
  · cases h; exact .inl k77
  · cases h; exact .inl k78
  · cases h; exact .inl k79
  · cases h; exact .inl k80
  · cases h; exact .inl k81
  · cases h; exact .inl k82
  · cases h; exact .inl k83
  · cases h; exact .inl k84
  · cases h; exact .inl k85
  · cases h; exact .inl k86
  · cases h; exact .inl k87
  · cases h; exact .inl k88
  · cases h; exact .inl k89
  · cases h; exact .inl k90
  · cases h; exact .inl k91
  · cases h; exact .inl k92
  · cases h; exact .inl k93
  · cases h; exact .inl k94
  · cases h; exact .inl k95
  · cases h
theorem c3 : clC f3.body = true := by kernel_rfl
theorem c4 : clC f4.body = true := by kernel_rfl
theorem c9 : clC f9.body = true := by kernel_rfl
theorem c10 : clC f10.body = true := by kernel_rfl
theorem c11 : clC f11.body = true := by kernel_rfl
theorem c12 : clC f12.body = true := by kernel_rfl
theorem c13 : clC f13.body = true := by kernel_rfl
theorem c14 : clC f14.body = true := by kernel_rfl
theorem c15 : clC f15.body = true := by kernel_rfl
theorem c16 : clC f16.body = true := by kernel_rfl
theorem c17 : clC f17.body = true := by kernel_rfl
theorem c18 : clC f18.body = true := by kernel_rfl
theorem c19 : clC f19.body = true := by kernel_rfl
theorem c20 : clC f20.body = true := by kernel_rfl
theorem c21 : clC f21.body = true := by kernel_rfl
theorem c22 : clC f22.body = true := by kernel_rfl
theorem c25 : clC f25.body = true := by kernel_rfl
theorem c27 : clC f27.body = true := by kernel_rfl
theorem c28 : clC f28.body = true := by kernel_rfl
theorem c29 : clC f29.body = true := by kernel_rfl
theorem c30 : clC f30.body = true := by kernel_rfl
theorem c31 : clC f31.body = true := by kernel_rfl
theorem c32 : clC f32.body = true := by kernel_rfl
theorem c33 : clC f33.body = true := by kernel_rfl
theorem c34 : clC f34.body = true := by kernel_rfl
theorem c35 : clC f35.body = true := by kernel_rfl
theorem c36 : clC f36.body = true := by kernel_rfl
theorem c37 : clC f37.body = true := by kernel_rfl
theorem c38 : clC f38.body = true := by kernel_rfl
theorem c39 : clC f39.body = true := by kernel_rfl
theorem c40 : clC f40.body = true := by kernel_rfl
theorem c41 : clC f41.body = true := by kernel_rfl
theorem c42 : clC f42.body = true := by kernel_rfl
theorem c43 : clC f43.body = true := by kernel_rfl
theorem c44 : clC f44.body = true := by kernel_rfl
theorem c45 : clC f45.body = true := by kernel_rfl
theorem c46 : clC f46.body = true := by kernel_rfl
theorem c47 : clC f47.body = true := by kernel_rfl
theorem c48 : clC f48.body = true := by kernel_rfl
theorem c50 : clC f50.body = true := by kernel_rfl
theorem c51 : clC f51.body = true := by kernel_rfl
theorem c52 : clC f52.body = true := by kernel_rfl
theorem c53 : clC f53.body = true := by kernel_rfl
theorem c54 : clC f54.body = true := by kernel_rfl
theorem c55 : clC f55.body = true := by kernel_rfl
theorem c56 : clC f56.body = true := by kernel_rfl
theorem c57 : clC f57.body = true := by kernel_rfl
theorem c58 : clC f58.body = true := by kernel_rfl
theorem c59 : clC f59.body = true := by kernel_rfl
theorem c60 : clC f60.body = true := by kernel_rfl
theorem c61 : clC f61.body = true := by kernel_rfl
theorem c62 : clC f62.body = true := by kernel_rfl
theorem c63 : clC f63.body = true := by kernel_rfl
theorem c64 : clC f64.body = true := by kernel_rfl
theorem c65 : clC f65.body = true := by kernel_rfl
theorem c66 : clC f66.body = true := by kernel_rfl
theorem c67 : clC f67.body = true := by kernel_rfl
theorem c68 : clC f68.body = true := by kernel_rfl
theorem c69 : clC f69.body = true := by kernel_rfl
theorem c70 : clC f70.body = true := by kernel_rfl
theorem c71 : clC f71.body = true := by kernel_rfl
theorem c72 : clC f72.body = true := by kernel_rfl
theorem c73 : clC f73.body = true := by kernel_rfl
theorem c74 : clC f74.body = true := by kernel_rfl
theorem c75 : clC f75.body = true := by kernel_rfl
theorem c76 : clC f76.body = true := by kernel_rfl
theorem c77 : clC f77.body = true := by kernel_rfl
theorem c78 : clC f78.body = true := by kernel_rfl
theorem c79 : clC f79.body = true := by kernel_rfl
theorem c80 : clC f80.body = true := by kernel_rfl
theorem c81 : clC f81.body = true := by kernel_rfl
theorem c82 : clC f82.body = true := by kernel_rfl
theorem c83 : clC f83.body = true := by kernel_rfl
theorem c84 : clC f84.body = true := by kernel_rfl
theorem c85 : clC f85.body = true := by kernel_rfl
theorem c86 : clC f86.body = true := by kernel_rfl
theorem c87 : clC f87.body = true := by kernel_rfl
theorem c88 : clC f88.body = true := by kernel_rfl
theorem c89 : clC f89.body = true := by kernel_rfl
theorem c90 : clC f90.body = true := by kernel_rfl
theorem c91 : clC f91.body = true := by kernel_rfl
theorem c92 : clC f92.body = true := by kernel_rfl
theorem c93 : clC f93.body = true := by kernel_rfl
theorem c94 : clC f94.body = true := by kernel_rfl
theorem c95 : clC f95.body = true := by kernel_rfl
theorem tabCl : TabCl tab := by
  intro n fn h
  unfold tab at h
  split at h
  · cases h; exact c3
  · cases h; exact c4
  · cases h; exact c9
  · cases h; exact c10
  · cases h; exact c11
  · cases h; exact c12
  · cases h; exact c13
  · cases h; exact c14
  · cases h; exact c15
  · cases h; exact c16
  · cases h; exact c17
  · cases h; exact c18
  · cases h; exact c19
  · cases h; exact c20
  · cases h; exact c21
  · cases h; exact c22
  · cases h; exact c25
  · cases h; exact c27
  · cases h; exact c28
  · cases h; exact c29
  · cases h; exact c30
  · cases h; exact c31
  · cases h; exact c32
  · cases h; exact c33
  · cases h; exact c34
  · cases h; exact c35
  · cases h; exact c36
  · cases h; exact c37
  · cases h; exact c38
  · cases h; exact c39
  · cases h; exact c40
  · cases h; exact c41
  · cases h; exact c42
  · cases h; exact c43
  · cases h; exact c44
  · cases h; exact c45
  · cases h; exact c46
  · cases h; exact c47
  · cases h; exact c48
  · cases h; exact c50
  · cases h; exact c51
  · cases h; exact c52
  · cases h; exact c53
  · cases h; exact c54
  · cases h; exact c55
  · cases h; exact c56
  · cases h; exact c57
  · cases h; exact c58
  · cases h; exact c59
  · cases h; exact c60
  · cases h; exact c61
  · cases h; exact c62
  · cases h; exact c63
  · cases h; exact c64
  · cases h; exact c65
  · cases h; exact c66
  · cases h; exact c67
  · cases h; exact c68
  · cases h; exact c69
  · cases h; exact c70
  · cases h; exact c71
  · cases h; exact c72
  · cases h; exact c73
  · cases h; exact c74
  · cases h; exact c75
  · cases h; exact c76
  · cases h; exact c77
  · cases h; exact c78
  · cases h; exact c79
  · cases h; exact c80
  · cases h; exact c81
  · cases h; exact c82
  · cases h; exact c83
  · cases h; exact c84
  · cases h; exact c85
  · cases h; exact c86
  · cases h; exact c87
  · cases h; exact c88
  · cases h; exact c89
  · cases h; exact c90
  · cases h; exact c91
  · cases h; exact c92
  · cases h; exact c93
  · cases h; exact c94
  · cases h; exact c95
  · cases h
end Zc56
end
section
set_option linter.unusedSimpArgs false
set_option linter.unusedVariables false
set_option linter.unusedSimpArgs false
namespace Zv
open Go

section
variable {H : Type} {enc : TypeId × Value → H} {P : Program} {w : World} {base : Nat} {sp : Nat → Bool} {held : Bool}

end
end Zv
end
section
set_option linter.unusedSimpArgs false
set_option linter.unusedVariables false
namespace Zc56
open Go Zv
def tys : List TypeId := [69, 66, 37, 45, 40, 42]
def es : List ET := [.st [.s, .l 1], .st [.s, .l 2], .one (.i .i64), .st [.i .i64, .i .i64, .i .i64, .i .i64, .l 4, .i .u8, .i .i64, .i .i64, .l 5], .st [.i .i64, .i .i64, .l 4], .st [.i .i64, .i .i64]]
theorem typesOk : mtEs Go.Proofs.Try.prog tys tys es = true := by kernel_rfl
def bys : List Nat := [40, 40, 8, 104, 40, 16]
theorem bysOk : tys.map Go.Proofs.Try.prog.bytesOf = bys := by kernel_rfl
end Zc56
end
section
set_option linter.unusedSimpArgs false
set_option linter.unusedVariables false
namespace Zs
open Go Zv

end Zs
end
section
set_option linter.unusedSimpArgs false
set_option linter.unusedVariables false
set_option linter.unusedSimpArgs false
namespace Zs
open Go Zv

/-! ### Rows that are put together, then frozen -/
/-! ### Tests that may be unknown -/
end Zs
end
section
set_option linter.unusedSimpArgs false
set_option linter.unusedVariables false
set_option maxHeartbeats 4000000
namespace Zc56
open Go Zv Zs
theorem awake : callW tab 10 [] ⟨[], 0⟩ = some (.d (.bool true), ⟨[], 0⟩) := callW_of tab 200 (by kernel_rfl)
theorem awake_any {b : Hp} (L : Low b) : callW tab 10 [] b = some (.d (.bool true), b) := callW_any tabCl (xs := []) awake L

abbrev eI (n : Int) : D := .int .i64 n
theorem get_of_lt {α : Type} {l : List α} {n : Nat} (h : n < l.length) : ∃ x, l[n]? = some x := ⟨l[n], List.getElem?_eq_getElem h⟩
theorem okEs_map {α : Type} {E : Nat → ET} {t : ET} {enc : α → D} (H : ∀ x, ok E t x → ∃ a, x = enc a) : ∀ {l : List D}, okEs E t l → ∃ xs : List α, l = xs.map enc
  | [], _ => ⟨[], rfl⟩
  | x :: l, h => by
    simp only [okEs] at h
    obtain ⟨a, rfl⟩ := H x h.1
    obtain ⟨xs, rfl⟩ := okEs_map H h.2
    exact ⟨a :: xs, rfl⟩
theorem okI {x : D} (h : ok (EE es) (.one (.i .i64)) x) : ∃ a, x = eI a := by
  obtain ⟨n, rfl, _⟩ := ok_i h; exact ⟨n, rfl⟩
end Zc56
end
section
set_option linter.unusedSimpArgs false
set_option linter.unusedVariables false
set_option linter.unusedSimpArgs false
set_option maxHeartbeats 4000000
namespace Zc56
open Go Zv Zs

structure Cn where
  name : ByteArray
  flds : List Int
structure Dt where
  name : ByteArray
  cons : List Cn

abbrev eC (c : Cn) : D := .agg [.str c.name, .lst (c.flds.map eI)]
abbrev eD (d : Dt) : D := .agg [.str d.name, .lst (d.cons.map eC)]
abbrev eDs (l : List Dt) : D := .lst (l.map eD)

theorem iaC {l : List Cn} {n : Nat} {x : Cn} (hx : l[n]? = some x) : ia 2 (.d (.lst (l.map eC))) (.d (.int .i64 (n : Int))) = some (.fp (eC x) 0) := ia_map (f := eC) .i64 hx rfl
theorem iaD {l : List Dt} {n : Nat} {x : Dt} (hx : l[n]? = some x) : ia 2 (.d (.lst (l.map eD))) (.d (.int .i64 (n : Int))) = some (.fp (eD x) 0) := ia_map (f := eD) .i64 hx rfl
theorem lt_of_get {α : Type} {l : List α} {n : Nat} {x : α} (h : l[n]? = some x) : n < l.length := (List.getElem?_eq_some_iff.1 h).1
end Zc56
end
section
set_option linter.unusedSimpArgs false
set_option linter.unusedVariables false
set_option linter.unusedSimpArgs false
set_option maxHeartbeats 4000000
namespace Zc56
open Go Zv Zs

/-- A table within bounds. -/
structure Bd (d : List Dt) : Prop where
  len : d.length ≤ 100
  cons : ∀ y, y ∈ d → y.cons.length ≤ 30
  flds : ∀ y, y ∈ d → ∀ c, c ∈ y.cons → c.flds.length ≤ 20
theorem Bd.at {d : List Dt} (B : Bd d) {m : Nat} {y : Dt} (hy : d[m]? = some y) : m < 100 ∧ m < d.length ∧ y.cons.length ≤ 30 := by
  have := lt_of_get hy
  have := B.len
  exact ⟨by omega, by omega, B.cons y (List.mem_of_getElem? hy)⟩
end Zc56
end
section
set_option linter.unusedSimpArgs false
set_option linter.unusedVariables false
set_option linter.unusedSimpArgs false
set_option maxHeartbeats 4000000
namespace Zc56
open Go Zv Zs

theorem okC {x : D} (h : ok (EE es) (.st [.s, .l 2]) x) : ∃ a, x = eC a := by
  obtain ⟨l, rfl, h1⟩ := ok_st h
  obtain ⟨y, r, rfl, ha, h1⟩ := okCs_cons h1
  obtain ⟨z, r, rfl, hb, h1⟩ := okCs_cons h1
  obtain rfl := okCs_nil h1
  obtain ⟨s, rfl, _⟩ := ok_s ha
  obtain ⟨l, rfl, _, h2⟩ := ok_l hb
  obtain ⟨xs, rfl⟩ := okEs_map (fun _ => okI) h2
  exact ⟨⟨s, xs⟩, rfl⟩
theorem okD {x : D} (h : ok (EE es) (.st [.s, .l 1]) x) : ∃ a, x = eD a := by
  obtain ⟨l, rfl, h1⟩ := ok_st h
  obtain ⟨y, r, rfl, ha, h1⟩ := okCs_cons h1
  obtain ⟨z, r, rfl, hb, h1⟩ := okCs_cons h1
  obtain rfl := okCs_nil h1
  obtain ⟨s, rfl, _⟩ := ok_s ha
  obtain ⟨l, rfl, _, h2⟩ := ok_l hb
  obtain ⟨xs, rfl⟩ := okEs_map (fun _ => okC) h2
  exact ⟨⟨s, xs⟩, rfl⟩
theorem okDs {x : D} (h : ok (EE es) (.one (.l 0)) x) : ∃ a, x = eDs a := by
  obtain ⟨l, rfl, _, h2⟩ := ok_l h
  obtain ⟨xs, rfl⟩ := okEs_map (fun _ => okD) h2
  exact ⟨xs, rfl⟩

end Zc56
end
section
set_option linter.unusedSimpArgs false
set_option linter.unusedVariables false
set_option linter.unusedSimpArgs false
set_option maxHeartbeats 4000000
namespace Zc56
open Go Zv Zs

def smC (c : Cn) : Prop := c.name.size ≤ 40 ∧ c.flds.length ≤ 8
def smD (y : Dt) : Prop := y.name.size ≤ 40 ∧ y.cons.length ≤ 8 ∧ ∀ c, c ∈ y.cons → smC c
structure Sml (d : List Dt) : Prop where
  len : d.length ≤ 10
  ds : ∀ y, y ∈ d → smD y
theorem mem_get {α : Type} {l : List α} {x : α} (h : x ∈ l) : ∃ k, k < l.length ∧ l[k]? = some x := by
  obtain ⟨k, hk1, hk2⟩ := List.getElem_of_mem h
  exact ⟨k, hk1, by rw [List.getElem?_eq_getElem hk1, hk2]⟩
theorem small_in {d : List Dt} {y : Dt} {j : Nat} (hy : d[j]? = some y) (hj : j < 10) (hc : y.cons.length ≤ 8) (h : Hp) :
    wp tab (.loop f15l0) [(0, .d (eDs d)), (3, .d (.int .i64 (j : Int))), (4, .d (.int .i64 0))] h
      (fun o => o = (.ret, [(2, .d (.bool false))], h) ∨ (o = (.exit 2, [(0, .d (eDs d)), (3, .d (.int .i64 (j : Int))), (4, .d (.int .i64 y.cons.length)), (38, .d (.bool false))], h) ∧ ∀ c, c ∈ y.cons → smC c)) := by
  refine loop_wp y.cons.length (fun n e h' => h' = h ∧ e = [(0, .d (eDs d)), (3, .d (.int .i64 (j : Int))), (4, .d (.int .i64 n))] ∧ ∀ c k, y.cons[k]? = some c → k < n → smC c) _ ?_ ?_ y.cons.length 0 _ _ (by omega) ⟨rfl, rfl, fun c k _ hk => by omega⟩
  · rintro n e h' hn ⟨rfl, rfl, hk⟩
    obtain ⟨c, hcn⟩ := get_of_lt hn
    by_cases h1 : (40 : Int) < (c.name.size : Int)
    · simp only [e15, iaD hy, iaC hcn, hn, h1, wz, opX, intBin, ↓reduceIte, simprocAttr]
    · by_cases h2 : (8 : Int) < (c.flds.length : Int)
      · simp only [e15, iaD hy, iaC hcn, hn, h1, h2, wz, opX, intBin, ↓reduceIte, simprocAttr]
      · simp only [e15, iaD hy, iaC hcn, hn, h1, h2, wrap_succ (show n < 2 ^ 62 by omega), wz, opX, intBin, ↓reduceIte, simprocAttr]
        intro c' k hc' hkn
        by_cases hkk : k = n
        · subst hkk; rw [hcn] at hc'; cases hc'; exact ⟨by omega, by omega⟩
        · exact hk c' k hc' (by omega)
  · rintro e h' ⟨rfl, rfl, hk⟩
    simp only [e15, iaD hy, wz, opX, intBin, ↓reduceIte, simprocAttr]
    intro c hc
    obtain ⟨k, h1, h2⟩ := mem_get hc
    exact hk c k h2 h1
theorem small_ok (d : List Dt) (h : Hp) : ∃ b, callW tab 15 [.d (eDs d)] h = some (.d (.bool b), h) ∧ (b = true → Sml d) := by
  obtain ⟨r, h1, b, rfl, h2⟩ : ∃ r, callW tab 15 [.d (eDs d)] h = some r ∧ ∃ b, r = (.d (.bool b), h) ∧ (b = true → Sml d) := by
    refine call_wpE (fn := f15) rfl rfl ?_
    simp only [e15, wz, opX, intBin, ↓reduceIte, simprocAttr]
    refine loop_wp (min d.length 10) (fun n e h' => h' = h ∧ e = [(0, .d (eDs d)), (3, .d (.int .i64 n))] ∧ ∀ y k, d[k]? = some y → k < n → smD y) _ ?_ ?_ (min d.length 10) 0 _ _ (by omega) ⟨rfl, rfl, fun c k _ hk => by omega⟩
    · rintro n e h' hn ⟨rfl, rfl, hk⟩
      have hn1 : n < d.length := by omega
      have hn2 : (n : Int) < 10 := by omega
      obtain ⟨y, hy⟩ := get_of_lt hn1
      by_cases h1 : (40 : Int) < (y.name.size : Int)
      · simp only [e15, iaD hy, hn1, hn2, h1, wz, opX, intBin, ↓reduceIte, simprocAttr]
        exact ⟨_, rfl, false, rfl, fun h => (by cases h)⟩
      · by_cases h2 : (8 : Int) < (y.cons.length : Int)
        · simp only [e15, iaD hy, hn1, hn2, h1, h2, wz, opX, intBin, ↓reduceIte, simprocAttr]
          exact ⟨_, rfl, false, rfl, fun h => (by cases h)⟩
        · simp only [e15, iaD hy, hn1, hn2, h1, h2, wz, opX, intBin, ↓reduceIte, simprocAttr]
          refine wq_mono (small_in hy (by omega) (by omega) h') ?_
          rintro o (rfl | ⟨rfl, hall⟩)
          · simp only [e15, wz, opX, intBin, ↓reduceIte, simprocAttr]
            exact ⟨_, rfl, false, rfl, fun h => (by cases h)⟩
          · simp only [e15, wrap_succ (show n < 2 ^ 62 by omega), wz, opX, intBin, ↓reduceIte, simprocAttr]
            intro y' k hy' hkn
            by_cases hkk : k = n
            · subst hkk; rw [hy] at hy'; cases hy'; exact ⟨by omega, by omega, hall⟩
            · exact hk y' k hy' (by omega)
    · rintro e h' ⟨rfl, rfl, hk⟩
      by_cases h3 : d.length < 10
      · have e1 : min d.length 10 = d.length := by omega
        rw [e1]
        have hle : (d.length : Int) ≤ 10 := by omega
        simp only [e15, hle, wz, opX, intBin, ↓reduceIte, simprocAttr]
        refine ⟨_, rfl, true, rfl, fun _ => ⟨by omega, fun y hy => ?_⟩⟩
        obtain ⟨k, k1, k2⟩ := mem_get hy
        exact hk y k k2 (by omega)
      · have e1 : min d.length 10 = 10 := by omega
        rw [e1]
        have hnl : ¬ ((10 : Int) < 10) := by omega
        by_cases h4 : (10 : Int) < (d.length : Int)
        · have hnle : ¬ (d.length : Int) ≤ 10 := by omega
          simp only [e15, h4, hnle, wz, opX, intBin, ↓reduceIte, simprocAttr]
          exact ⟨_, rfl, false, rfl, fun h => (by cases h)⟩
        · have hle : (d.length : Int) ≤ 10 := by omega
          simp only [e15, h4, hle, wz, opX, intBin, ↓reduceIte, simprocAttr]
          refine ⟨_, rfl, true, rfl, fun _ => ⟨by omega, fun y hy => ?_⟩⟩
          obtain ⟨k, k1, k2⟩ := mem_get hy
          exact hk y k k2 (by omega)
  exact ⟨b, h1, h2⟩
end Zc56
end
section
set_option linter.unusedSimpArgs false
set_option linter.unusedVariables false
set_option linter.unusedSimpArgs false
namespace Zs
open Go Zv

/-- A function's code ends without a panic, with something that Q says. -/
def wpB (T : Tab) (c : AC) (e : Env) (h : Hp) (Q : Out → Prop) : Prop := ∃ o, exB T c e h = some o ∧ pq Q o
def seqB (T : Tab) (b : AC) (Q : Out → Prop) (o : Out) : Prop := match o.1 with
  | .norm => wpB T b o.2.1 o.2.2 Q
  | _ => Q o
theorem exB_seq (T : Tab) (a b : AC) (e : Env) (h : Hp) : exB T (.seq a b) e h = (ex T a e h).bind (nxt (exB T b)) := rfl
theorem wqB_seq (T : Tab) (a b : AC) (e : Env) (h : Hp) (Q : Out → Prop) : wpB T (.seq a b) e h Q = wp T a e h (seqB T b Q) := by
  apply propext
  unfold wp wpB
  rw [exB_seq]
  cases ex T a e h with
  | none => simp
  | some o =>
    obtain ⟨x, e', h'⟩ := o
    cases x <;> simp [nxt, seqB, wpB, pq]
theorem seqB_n (T : Tab) (b : AC) (Q : Out → Prop) (e : Env) (h : Hp) : seqB T b Q (.norm, e, h) = wpB T b e h Q := rfl
theorem seqB_r (T : Tab) (b : AC) (Q : Out → Prop) (e : Env) (h : Hp) : seqB T b Q (.ret, e, h) = Q (.ret, e, h) := rfl
theorem call_wpB {T : Tab} {f : Nat} {fn : AF} {vs : List V} {h : Hp} {r : V × Hp} (hT : T f = some fn) (hn : vs.length = fn.np) (H : wpB T fn.body (args 0 vs) h (donQ fn h (· = some r))) (hf : f < RB := by decide) : callW T f vs h = some r := by
  obtain ⟨o, h1, h2⟩ := H
  obtain ⟨-, h2⟩ := pq_iff.1 h2
  cases hp : isPr fn.body with
  | none => rw [callW_fnB hT hn h hp hf, h1]; exact h2
  | some k =>
    rw [body_nd hp] at h1; cases h1; cases h2
end Zs
end
