/-
  From what a call is given, as it is read, to pure data; and from the machine's end to the row.
-/
import Derived.Test.YtfbkbopmenilkaaZwFun
import Derived.ChangeArms
import Derived.WideShapes
import Derived.RowKit
import Derived.ChangeMaps5
import Derived.OpenShut
import Derived.ChangeOld
import Derived.Below
set_option linter.unusedSimpArgs false
namespace Zv
open Go

/-- Types of cells, and of elements. -/
inductive CT where
  | b
  | i (k : IntKind)
  | s
  | l (e : Nat)
  deriving Inhabited
inductive ET where
  | one (c : CT)
  | st (cs : List CT)
  deriving Inhabited

mutual
def ok (E : Nat → ET) : ET → D → Prop
  | .one .b, .bool _ => True
  | .one (.i k), .int k' n => k' = k ∧ (Lit.int k n).wf = true
  | .one .s, .str s => s.size ≤ maxLen
  | .one (.l e), .lst xs => xs.length ≤ maxLen ∧ okEs E (E e) xs
  | .st cs, .agg ys => okCs E cs ys
  | _, _ => False
def okEs (E : Nat → ET) (t : ET) : List D → Prop
  | [] => True
  | x :: r => ok E t x ∧ okEs E t r
def okCs (E : Nat → ET) : List CT → List D → Prop
  | [], [] => True
  | c :: cs, y :: ys => ok E (.one c) y ∧ okCs E cs ys
  | _, _ => False
end

theorem okEs_app {E : Nat → ET} {t : ET} : ∀ {l r : List D}, okEs E t l → okEs E t r → okEs E t (l ++ r)
  | [], _, _, h => h
  | x :: l, r, h, k => by simp only [okEs] at h; exact (show ok E t x ∧ okEs E t (l ++ r) from ⟨h.1, okEs_app h.2 k⟩)

theorem ok_b {E : Nat → ET} {x : D} (h : ok E (.one .b) x) : ∃ b, x = .bool b := by
  cases x <;> simp [ok] at h
  exact ⟨_, rfl⟩
theorem ok_i {E : Nat → ET} {k : IntKind} {x : D} (h : ok E (.one (.i k)) x) : ∃ n, x = .int k n ∧ (Lit.int k n).wf = true := by
  cases x <;> simp [ok] at h
  obtain ⟨rfl, h⟩ := h
  exact ⟨_, rfl, h⟩
theorem ok_s {E : Nat → ET} {x : D} (h : ok E (.one .s) x) : ∃ s, x = .str s ∧ s.size ≤ maxLen := by
  cases x <;> simp [ok] at h
  exact ⟨_, rfl, h⟩
theorem ok_l {E : Nat → ET} {e : Nat} {x : D} (h : ok E (.one (.l e)) x) : ∃ l, x = .lst l ∧ l.length ≤ maxLen ∧ okEs E (E e) l := by
  cases x <;> simp [ok] at h
  exact ⟨_, rfl, h⟩
theorem ok_st {E : Nat → ET} {cs : List CT} {x : D} (h : ok E (.st cs) x) : ∃ l, x = .agg l ∧ okCs E cs l := by
  cases x <;> simp [ok] at h
  exact ⟨_, rfl, h⟩
theorem okCs_nil {E : Nat → ET} {l : List D} (h : okCs E [] l) : l = [] := by
  cases l <;> simp [okCs] at h
  rfl
theorem okCs_cons {E : Nat → ET} {c : CT} {cs : List CT} {l : List D} (h : okCs E (c :: cs) l) : ∃ y r, l = y :: r ∧ ok E (.one c) y ∧ okCs E cs r := by
  cases l <;> simp [okCs] at h
  exact ⟨_, _, rfl, h⟩

def flatF (P : Program) (g : TypeId → Option (List TypeId)) : List Field → Nat → Option (List TypeId)
  | [], _ => some []
  | f :: r, off => if f.offset = off then (match g f.type with
    | some a => if a.length = P.cellsOf f.type then (flatF P g r (off + a.length)).map fun q => a ++ q else none
    | none => none) else none
def flat (P : Program) : Nat → TypeId → Option (List TypeId)
  | 0, _ => none
  | n + 1, t => match P.underlying t with
    | some (.struct fs) => match flatF P (flat P n) fs.toList 0 with
      | some tl => if tl.length = P.cellsOf t then some tl else none
      | none => none
    | some .bool | some (.int _) | some .string | some (.slice _) => some [t]
    | _ => none

def mtCT (P : Program) (tys : List TypeId) (t : TypeId) : CT → Bool
  | .b => match P.underlying t with
    | some .bool => true
    | _ => false
  | .i k => match P.underlying t with
    | some (.int k') => decide (k' = k)
    | _ => false
  | .s => match P.underlying t with
    | some .string => true
    | _ => false
  | .l j => match P.underlying t with
    | some (.slice e) => decide (tys[j]? = some e)
    | _ => false
def mtCTs (P : Program) (tys : List TypeId) : List TypeId → List CT → Bool
  | [], [] => true
  | t :: ts, c :: cs => mtCT P tys t c && mtCTs P tys ts cs
  | _, _ => false
def mtET (P : Program) (tys : List TypeId) (t : TypeId) : ET → Bool
  | .one c => mtCT P tys t c
  | .st cs => (match P.underlying t with
    | some (.struct _) => true
    | _ => false) && (match flat P 12 t with
    | some tl => mtCTs P tys tl cs
    | none => false)
def mtEs (P : Program) (tys : List TypeId) : List TypeId → List ET → Bool
  | [], [] => true
  | t :: ts, e :: es => mtET P tys t e && !(P.cellsOf t == 0) && mtEs P tys ts es
  | _, _ => false

section
variable {H : Type} {enc : TypeId × Value → H} {P : Program} {w : World} {base : Nat} {sp : Nat → Bool} {held : Bool}

theorem trod_leaf {t : TypeId} {n : Nat} {cs : List Value} {x : DataW H × List MemPlace} (ht : P.underlying t = some .bool ∨ (∃ k, P.underlying t = some (.int k)) ∨ P.underlying t = some .string ∨ ∃ e, P.underlying t = some (.slice e))
    (h : DataW.trod enc P w base sp held n t cs = some x) : ∃ v, cs = [v] := by
  rcases ht with ht | ⟨k, ht⟩ | ht | ⟨e, ht⟩
  · obtain ⟨b, h1, _⟩ := DataW.trod_bool ht h; exact ⟨_, h1⟩
  · obtain ⟨b, h1, _⟩ := DataW.trod_int ht h; exact ⟨_, h1⟩
  · obtain ⟨b, h1, _⟩ := DataW.trod_string ht h; exact ⟨_, h1⟩
  · rcases DataW.trod_slice ht h with ⟨h1, _⟩ | ⟨a, len, cap, elems, rest, n, _, h1, _⟩
    · exact ⟨_, h1⟩
    · exact ⟨_, h1⟩

theorem flat_ok : ∀ (n : Nat) {t : TypeId} {tl : List TypeId}, flat P n t = some tl → ∀ (m : Nat) (cs : List Value) (x : DataW H × List MemPlace), DataW.trod enc P w base sp held m t cs = some x →
    cs.length = tl.length ∧ ∀ (i : Nat) (ty : TypeId) (v : Value), tl[i]? = some ty → cs[i]? = some v → ∃ m' x', m' ≤ m ∧ DataW.trod enc P w base sp held m' ty [v] = some x'
  | 0, _, _, h => by cases h
  | n + 1, t, tl, hf => by
    have leafCase : (P.underlying t = some .bool ∨ (∃ k, P.underlying t = some (.int k)) ∨ P.underlying t = some .string ∨ ∃ e, P.underlying t = some (.slice e)) → tl = [t] →
        ∀ (m : Nat) (cs : List Value) (x : DataW H × List MemPlace), DataW.trod enc P w base sp held m t cs = some x →
        cs.length = tl.length ∧ ∀ (i : Nat) (ty : TypeId) (v : Value), tl[i]? = some ty → cs[i]? = some v → ∃ m' x', m' ≤ m ∧ DataW.trod enc P w base sp held m' ty [v] = some x' := by
      rintro hl rfl m cs x h
      obtain ⟨v, rfl⟩ := trod_leaf hl h
      refine ⟨rfl, fun i ty u h1 h2 => ?_⟩
      cases i with
      | zero => simp at h1 h2; subst h1; subst h2; exact ⟨m, x, Nat.le_refl _, h⟩
      | succ i => simp at h1
    unfold flat at hf
    split at hf
    · rename_i fs ht
      split at hf
      · rename_i tl' hff
        split at hf
        · rename_i hlen
          cases hf
          intro m cs x h
          obtain ⟨xs, m', hm, _, hcl, hxl, hx⟩ := DataW.trod_struct ht h
          refine ⟨by rw [hcl, hlen], ?_⟩
          -- the fields from one on
          have go : ∀ (r : List Field) (k off : Nat) (q : List TypeId), fs.toList.drop k = r → flatF P (flat P n) r off = some q → ∀ (i : Nat) (ty : TypeId) (v : Value), q[i]? = some ty → cs[off + i]? = some v → ∃ m' x', m' ≤ m ∧ DataW.trod enc P w base sp held m' ty [v] = some x' := by
            intro r
            induction r with
            | nil => intro k off q _ hq i ty v h1; cases hq; simp at h1
            | cons f r ih =>
              intro k off q hk hq i ty v h1 h2
              have hfk : fs[k]? = some f := by
                have : (fs.toList.drop k)[0]? = some f := by rw [hk]; rfl
                rw [List.getElem?_drop, Nat.add_zero] at this
                rw [← Array.getElem?_toList]; exact this
              have hklt : k < fs.size := (Array.getElem?_eq_some_iff.1 hfk).1
              simp only [flatF] at hq
              split at hq
              · rename_i hoff
                split at hq
                · rename_i a ha
                  split at hq
                  · rename_i hal
                    simp only [Option.map_eq_some_iff] at hq
                    obtain ⟨q', hq', rfl⟩ := hq
                    have hxk := hx k f hfk
                    have hsome : xs[k]? = some (xs[k]'(by omega)) := by simp [show k < xs.length by omega]
                    rw [hsome] at hxk
                    obtain ⟨hl1, hl2⟩ := flat_ok n ha _ _ _ hxk
                    by_cases hia : i < a.length
                    · rw [List.getElem?_append_left hia] at h1
                      obtain ⟨m2, x2, hm2, hx2⟩ := hl2 i ty v h1 (by
                        rw [List.getElem?_take_of_lt (by omega), List.getElem?_drop, hoff]; exact h2)
                      exact ⟨m2, x2, by omega, hx2⟩
                    · rw [List.getElem?_append_right (by omega)] at h1
                      exact ih (k + 1) (off + a.length) q' (by rw [← List.drop_drop, hk]; rfl) hq' (i - a.length) ty v h1 (by rw [show off + a.length + (i - a.length) = off + i by omega]; exact h2)
                  · cases hq
                · cases hq
              · cases hq
          exact fun i ty v h1 h2 => go fs.toList 0 0 tl (by simp) hff i ty v h1 (by rw [Nat.zero_add]; exact h2)
        · cases hf
      · cases hf
    · rename_i ht; cases hf; exact leafCase (.inl ht) rfl
    · rename_i k ht; cases hf; exact leafCase (.inr (.inl ⟨k, ht⟩)) rfl
    · rename_i ht; cases hf; exact leafCase (.inr (.inr (.inl ht))) rfl
    · rename_i e ht; cases hf; exact leafCase (.inr (.inr (.inr ⟨e, ht⟩))) rfl
    · cases hf

theorem cells?_spec {a : Addr} : ∀ {n : Nat} {cs : List Value}, w.cells? base a n = some cs → cs.length = n ∧ ∀ i, i < n → ∃ v, cs[i]? = some v ∧ w.cell? (a.add i) = some v := by
  intro n cs h
  unfold World.cells? at h
  split at h
  · have hl : cs.length = n := by have := mapM_length h; simpa using this
    refine ⟨hl, fun i hi => ?_⟩
    have hget : ∀ (l : List Nat) (r : List Value), l.mapM (fun i => w.cell? (a.add i)) = some r → ∀ (i j : Nat), l[i]? = some j → ∃ v, r[i]? = some v ∧ w.cell? (a.add j) = some v := by
      intro l
      induction l with
      | nil => intro r _ i j hj; simp at hj
      | cons x l ih =>
        intro r hr i j hj
        obtain ⟨b, s, h1, h2, rfl⟩ := mapM_cons hr
        cases i with
        | zero => simp at hj; subst hj; exact ⟨b, rfl, h1⟩
        | succ i => exact ih s h2 i j (by simpa using hj)
    exact hget _ _ h i i (by simp [hi])
  · cases h

theorem mtEs_at {tys : List TypeId} : ∀ {ts : List TypeId} {es : List ET} {j : Nat} {e : TypeId}, mtEs P tys ts es = true → ts[j]? = some e → ∃ et, es[j]? = some et ∧ mtET P tys e et = true ∧ P.cellsOf e ≠ 0
  | [], _, _, _, _, h => by simp at h
  | t :: ts, [], _, _, hm, _ => by cases hm
  | t :: ts, x :: es, j, e, hm, h => by
    simp only [mtEs, Bool.and_eq_true] at hm
    cases j with
    | zero => simp at h; subst h; exact ⟨x, rfl, hm.1.1, by simpa using hm.1.2⟩
    | succ j =>
      obtain ⟨et, h1, h2⟩ := mtEs_at hm.2 (by simpa using h)
      exact ⟨et, by simpa using h1, h2⟩

theorem mtCTs_at {tys : List TypeId} : ∀ {tl : List TypeId} {cs : List CT}, mtCTs P tys tl cs = true → cs.length = tl.length ∧ ∀ (i : Nat) (c : CT), cs[i]? = some c → ∃ ty, tl[i]? = some ty ∧ mtCT P tys ty c = true
  | [], [], _ => ⟨rfl, fun i c h => by simp at h⟩
  | t :: ts, x :: cs, hm => by
    simp only [mtCTs, Bool.and_eq_true] at hm
    obtain ⟨h1, h2⟩ := mtCTs_at hm.2
    refine ⟨by simp [h1], fun i c hc => ?_⟩
    cases i with
    | zero => simp at hc; subst hc; exact ⟨t, rfl, hm.1⟩
    | succ i => obtain ⟨ty, k1, k2⟩ := h2 i c (by simpa using hc); exact ⟨ty, by simpa using k1, k2⟩
  | [], _ :: _, h => by cases h
  | _ :: _, [], h => by cases h

def EE (es : List ET) (j : Nat) : ET := es.getD j (.one .b)

/-- What is read of a cell, and of an element, is pure data. -/
theorem trod_rep {tys : List TypeId} {es : List ET} (hE : mtEs P tys tys es = true) : ∀ (n : Nat),
    (∀ (t : TypeId) (c : CT) (v : Value) (x : DataW H × List MemPlace), mtCT P tys t c = true → DataW.trod enc P w base sp held n t [v] = some x → ∃ d, ok (EE es) (.one c) d ∧ RepD (fun b => w.heap[b]?) d v ∧ leaf v ∧ d.cells = [d]) ∧
    (∀ (t : TypeId) (et : ET) (cs : List Value) (x : DataW H × List MemPlace), mtET P tys t et = true → DataW.trod enc P w base sp held n t cs = some x → ∃ d, ok (EE es) et d ∧ RepDs (fun b => w.heap[b]?) d.cells cs ∧ d.cells.length = cs.length ∧ (∀ c, et = .one c → ∃ v, cs = [v] ∧ RepD (fun b => w.heap[b]?) d v ∧ leaf v)) := by
  intro n
  induction n using Nat.strongRecOn with
  | _ n ih =>
    have hC : ∀ (t : TypeId) (c : CT) (v : Value) (x : DataW H × List MemPlace), mtCT P tys t c = true → DataW.trod enc P w base sp held n t [v] = some x → ∃ d, ok (EE es) (.one c) d ∧ RepD (fun b => w.heap[b]?) d v ∧ leaf v ∧ d.cells = [d] := by
      intro t c v x hm h
      cases c with
      | b =>
        simp only [mtCT] at hm
        split at hm
        · rename_i ht
          obtain ⟨b, h1, _⟩ := DataW.trod_bool ht h
          cases h1
          exact ⟨.bool b, by simp [ok], .bool b, trivial, rfl⟩
        · cases hm
      | i k =>
        simp only [mtCT] at hm
        split at hm
        · rename_i k' ht
          have := of_decide_eq_true hm
          subst this
          obtain ⟨q, h1, _, h2⟩ := DataW.trod_int ht h
          cases h1
          exact ⟨.int k' q, by simp [ok, h2], .int k' q, trivial, rfl⟩
        · cases hm
      | s =>
        simp only [mtCT] at hm
        split at hm
        · rename_i ht
          obtain ⟨s, h1, _, h2⟩ := DataW.trod_string ht h
          cases h1
          exact ⟨.str s, by simpa [ok] using h2, .str s, trivial, rfl⟩
        · cases hm
      | l j =>
        simp only [mtCT] at hm
        split at hm
        · rename_i e ht
          have hj := of_decide_eq_true hm
          obtain ⟨et, he1, he2, he3⟩ := mtEs_at hE hj
          rcases DataW.trod_slice ht h with ⟨h1, _⟩ | ⟨a, len, cap, elems, rest, m, hnm, h1, _, hb, hlc, hcm, hel, hat, _⟩
          · cases h1
            exact ⟨.lst [], by simp [ok, okEs], .lst [] 0 0 none [] (fun x hx => by cases hx) (Nat.le_refl _) .nil (.inl rfl), trivial, rfl⟩
          · cases h1
            -- the first k elements
            have build : ∀ k, k ≤ len → ∃ (xs : List D) (vs : List Value), xs.length = k ∧ vs.length = k * P.cellsOf e ∧ okEs (EE es) et xs ∧ (∀ x, x ∈ xs → x.cells.length = P.cellsOf e) ∧ RepDs (fun b => w.heap[b]?) (xs.flatMap D.cells) vs ∧
                ∀ j v, vs[j]? = some v → w.cell? ⟨a.block, a.off + j, none⟩ = some v ∧ a.spot = none := by
              intro k
              induction k with
              | zero => intro _; exact ⟨[], [], rfl, by simp, by simp [okEs], (fun x hx => by cases hx), .nil, fun j v hj => by simp at hj⟩
              | succ k ihk =>
                intro hk
                obtain ⟨xs, vs, b1, b2, b3, b4, b5, b6⟩ := ihk (by omega)
                have hak := hat k (by omega)
                have hsome : elems[k]? = some (elems[k]'(by omega)) := by simp [show k < elems.length by omega]
                rw [hsome, Option.bind_eq_some_iff] at hak
                obtain ⟨cs, hcs, htr⟩ := hak
                obtain ⟨hcl, hcat⟩ := cells?_spec hcs
                obtain ⟨d, d1, d2, d3, _⟩ := (ih m (by omega)).2 e et cs _ he2 htr
                refine ⟨xs ++ [d], vs ++ cs, by simp [b1], by rw [List.length_append, b2, hcl, Nat.add_mul, Nat.one_mul], okEs_app b3 (by simp [okEs, d1]), fun x hx => ?_, ?_, fun j v hj => ?_⟩
                · rcases List.mem_append.1 hx with hx | hx
                  · exact b4 x hx
                  · simp at hx; subst hx; rw [d3, hcl]
                · rw [List.flatMap_append]
                  refine b5.app ?_
                  simpa using d2
                · by_cases hjl : j < vs.length
                  · rw [List.getElem?_append_left hjl] at hj; exact b6 j v hj
                  · rw [List.getElem?_append_right (by omega)] at hj
                    have hlt : j - vs.length < P.cellsOf e := by have := (List.getElem?_eq_some_iff.1 hj).1; omega
                    obtain ⟨u, u1, u2⟩ := hcat (j - vs.length) hlt
                    rw [hj] at u1; cases u1
                    have hspot : ∀ b : Addr, w.cell? b = some v → b.spot = none := by
                      intro b hb'
                      unfold World.cell? at hb'
                      split at hb'
                      · split at hb'
                        · cases hb'
                        · rename_i hs; cases hq : b.spot with
                          | none => rfl
                          | some q => rw [hq] at hs; simp at hs
                      · cases hb'
                    -- the address
                    have haddr : (a.add (k * P.cellsOf e)).add (j - vs.length) = ⟨a.block, a.off + j, none⟩ := by
                      have hs := hspot _ u2
                      have hkj : k * P.cellsOf e + (j - vs.length) = j := by omega
                      obtain ⟨ab, ao, asp⟩ := a
                      unfold Addr.add at hs ⊢
                      by_cases hk0 : k * P.cellsOf e = 0
                      · simp only [hk0, if_true] at hs ⊢
                        by_cases hj0 : j - vs.length = 0
                        · simp only [hj0, if_true] at hs ⊢
                          subst hs
                          simp only [Addr.mk.injEq, true_and, and_true]; omega
                        · simp only [hj0, if_false]
                          simp only [Addr.mk.injEq, true_and, and_true]; omega
                      · simp only [hk0, if_false] at hs ⊢
                        by_cases hj0 : j - vs.length = 0
                        · simp only [hj0, if_true] at hs ⊢
                          simp only [Addr.mk.injEq, true_and, and_true]; omega
                        · simp only [hj0, if_false]
                          simp only [Addr.mk.injEq, true_and, and_true]; omega
                    rw [haddr] at u2
                    refine ⟨u2, ?_⟩
                    by_cases hk0 : k = 0
                    · subst hk0
                      -- the first cell of all
                      obtain ⟨u', _, u2'⟩ := hcat 0 (by omega)
                      have : (a.add (0 * P.cellsOf e)).add 0 = a := by simp [Addr.add]
                      rw [this] at u2'
                      unfold World.cell? at u2'
                      split at u2'
                      · split at u2'
                        · cases u2'
                        · rename_i hs; cases hq : a.spot with
                          | none => rfl
                          | some q => rw [hq] at hs; simp at hs
                      · cases u2'
                    · have hvl : 0 < vs.length := by rw [b2]; exact Nat.mul_pos (by omega) (by omega)
                      obtain ⟨_, hs⟩ := b6 0 vs[0] (by simp [hvl])
                      exact hs
            obtain ⟨xs, vs, b1, b2, b3, b4, b5, b6⟩ := build len (Nat.le_refl _)
            refine ⟨.lst xs, ?_, ?_, trivial, rfl⟩
            · simp only [ok]
              refine ⟨by omega, ?_⟩
              rw [show EE es j = et from by simp [EE, he1]]
              exact b3
            · subst b1
              refine .lst xs (P.cellsOf e) cap (some a) vs b4 hlc b5 ?_
              by_cases hx : xs = []
              · exact .inl hx
              · right
                have hxl : 0 < xs.length := List.length_pos_iff.2 hx
                have hvl : 0 < vs.length := by rw [b2]; exact Nat.mul_pos hxl (by omega)
                obtain ⟨_, hs⟩ := b6 0 vs[0] (by simp [hvl])
                refine ⟨a.block, a.off, by rw [← hs], fun j v hj => ?_⟩
                obtain ⟨hc, _⟩ := b6 j v hj
                unfold World.cell? at hc
                unfold cellφ
                simp only at hc ⊢
                split at hc
                · rename_i hh; rw [hh]; simpa using hc
                · cases hc
        · cases hm
    refine ⟨hC, fun t et cs x hm h => ?_⟩
    cases et with
    | one c =>
      simp only [mtET] at hm
      have hleaf : P.underlying t = some .bool ∨ (∃ k, P.underlying t = some (.int k)) ∨ P.underlying t = some .string ∨ ∃ e, P.underlying t = some (.slice e) := by
        cases c <;> simp only [mtCT] at hm <;> split at hm <;> first | cases hm | skip
        · exact .inl (by assumption)
        · exact .inr (.inl ⟨_, by assumption⟩)
        · exact .inr (.inr (.inl (by assumption)))
        · exact .inr (.inr (.inr ⟨_, by assumption⟩))
      obtain ⟨v, rfl⟩ := trod_leaf hleaf h
      obtain ⟨d, d1, d2, d3, d4⟩ := hC t c v x hm h
      exact ⟨d, d1, by rw [d4]; exact .cons _ _ _ _ d2 .nil d3, by rw [d4]; rfl, fun c' hc' => ⟨v, rfl, d2, d3⟩⟩
    | st ct =>
      simp only [mtET, Bool.and_eq_true] at hm
      obtain ⟨_, hm⟩ := hm
      split at hm
      · rename_i tl htl
        obtain ⟨hl, hfl⟩ := flat_ok 12 htl _ _ _ h
        obtain ⟨hl2, hct⟩ := mtCTs_at hm
        -- cell by cell
        have each : ∀ (i : Nat) (c : CT) (v : Value), ct[i]? = some c → cs[i]? = some v → ∃ d, ok (EE es) (.one c) d ∧ RepD (fun b => w.heap[b]?) d v ∧ leaf v := by
          intro i c v hc hv
          obtain ⟨ty, k1, k2⟩ := hct i c hc
          obtain ⟨m, x', hm', hx'⟩ := hfl i ty v k1 hv
          rcases Nat.lt_or_ge m n with hlt | hge
          · obtain ⟨d, d1, d2, d3, _⟩ := (ih m hlt).1 ty c v x' k2 hx'
            exact ⟨d, d1, d2, d3⟩
          · have : m = n := by omega
            subst this
            obtain ⟨d, d1, d2, d3, _⟩ := hC ty c v x' k2 hx'
            exact ⟨d, d1, d2, d3⟩
        have all : ∀ (ct : List CT) (cs : List Value), ct.length = cs.length → (∀ (i : Nat) (c : CT) (v : Value), ct[i]? = some c → cs[i]? = some v → ∃ d, ok (EE es) (.one c) d ∧ RepD (fun b => w.heap[b]?) d v ∧ leaf v) →
            ∃ ys, okCs (EE es) ct ys ∧ RepDs (fun b => w.heap[b]?) ys cs ∧ ys.length = cs.length := by
          intro ct
          induction ct with
          | nil => intro cs hl _; cases cs with
            | nil => exact ⟨[], by simp [okCs], .nil, rfl⟩
            | cons _ _ => simp at hl
          | cons c ct ihc =>
            intro cs hl he
            cases cs with
            | nil => simp at hl
            | cons v cs =>
              obtain ⟨d, d1, d2, d3⟩ := he 0 c v rfl rfl
              obtain ⟨ys, y1, y2, y3⟩ := ihc cs (by simpa using hl) (fun i c' v' h1 h2 => he (i + 1) c' v' (by simpa using h1) (by simpa using h2))
              exact ⟨d :: ys, by simp only [okCs]; exact ⟨d1, y1⟩, .cons _ _ _ _ d2 y2 d3, by simp [y3]⟩
        obtain ⟨ys, y1, y2, y3⟩ := all ct cs (by omega) each
        exact ⟨.agg ys, by simp only [ok]; exact y1, y2, y3, fun c hc => by cases hc⟩
      · cases hm

/-- An argument is pure data. -/
theorem arg_rep {tys : List TypeId} {es : List ET} (hE : mtEs P tys tys es = true) {t : TypeId} {et : ET} {v : Value} {d : DataW H} {ps : List MemPlace} {r : Reach} {b0 : Nat} (hm : mtET P tys t et = true) (hv : Value.okWide P w r b0 t v)
    (h : DataW.Trod enc P w base sp held t v d ps) : ∃ x, ok (EE es) et x ∧ RepD (fun b => w.heap[b]?) x v := by
  obtain ⟨n, hn⟩ := h
  obtain ⟨x, x1, x2, x3, x4⟩ := (trod_rep hE n).2 t et _ _ hm hn
  cases et with
  | one c =>
    obtain ⟨u, hu, hr, hl⟩ := x4 c rfl
    refine ⟨x, x1, ?_⟩
    have : v = u := by
      simp only [mtET] at hm
      cases c <;> simp only [mtCT] at hm <;> split at hm <;> first | cases hm | skip
      · rename_i ht; obtain ⟨b, rfl⟩ := WideShapes.okWide_bool ht hv; simpa [Value.cells] using hu
      · rename_i k' ht; obtain ⟨b, rfl⟩ := WideShapes.okWide_int ht hv; simpa [Value.cells] using hu
      · rename_i ht; obtain ⟨b, rfl⟩ := WideShapes.okWide_string ht hv; simpa [Value.cells] using hu
      · rename_i e ht; obtain ⟨a, l, c, rfl⟩ := WideShapes.okWide_slice ht hv; simpa [Value.cells] using hu
    rw [this]; exact hr
  | st ct =>
    simp only [mtET, Bool.and_eq_true] at hm
    have hagg : ∃ cs, v = .agg cs := by
      have h1 := hm.1
      split at h1
      · rename_i fs ht
        simp only [Value.okWide, ht] at hv
        obtain ⟨cs, rfl, _⟩ := hv
        exact ⟨cs, rfl⟩
      · cases h1
    obtain ⟨cs, rfl⟩ := hagg
    cases x with
    | agg ys =>
      refine ⟨.agg ys, x1, ?_⟩
      have := RepD.agg (φ := fun b => w.heap[b]?) ys cs.toList x2
      simpa using this
    | _ => simp [ok] at x1
end

/-! ### A whole call -/

def G.start (W : World) (C : CTy) : G := { φ := fun b => W.heap[b]?, μ := fun _ _ => default, N := 0, B := fun _ => 0, F := fun _ => none, C := C }
theorem Rel.start (W : World) (C : CTy) : Rel (G.start W C) ⟨[], 0⟩ W where
  nx := rfl
  fr := fun _ _ h => h
  nd := List.nodup_nil
  ob := fun _ _ h => (by cases h)
  sep := fun _ _ _ _ h => (by cases h)
  out := fun _ _ h => (by cases h)
  kp := fun _ _ h => (by cases h)
  kpo := fun _ _ h => (by cases h)

theorem run_true {P : Program} {T : Tab} (HT : TabOk P T) {f : Nat} {xs : List D} {vals : List Value} {W : World} {h' : Hp} (H : callW T f (xs.map .d) ⟨[], 0⟩ = some (.d (.bool true), h')) (hr : RepDs (fun b => W.heap[b]?) xs vals ∨ ∀ C, Reps (G.start W C) (xs.map .d) vals) (hy : f ≠ YF := by decide) :
    Calls P f vals.toArray W fun e W' => e = .returned (.bool true) ∧ RowKit.Below W.heap.size W W' := by
  have hr' : Reps (G.start W (LpC P T)) (xs.map .d) vals := by
    rcases hr with h | h
    · exact Reps.of_map_d h
    · exact h _
  refine (callW_ok HT hy H (Rel.start W _) rfl hr').mono ?_
  rintro e W' ⟨v, g', rfl, l1, l2, l3, l4⟩
  have hv : v = .bool true := by
    cases l3 with | d _ _ h => cases h; rfl
  subst hv
  refine ⟨rfl, l4.os, l4.tape, l4.output, l4.size, fun k hk => ?_⟩
  have h1 : W.heap[k]? = some W.heap[k] := by simp [hk]
  rw [h1]
  exact l2.fr k _ (l1.φ k _ h1)

end Zv
