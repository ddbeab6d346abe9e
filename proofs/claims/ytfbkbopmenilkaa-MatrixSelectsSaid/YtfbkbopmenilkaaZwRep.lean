/-
  How the values and the heap of ZvVal stand for the machine's values and memory.
-/
import Derived.Test.YtfbkbopmenilkaaZwVal
import Derived.Below
namespace Zv
open Go

/-- Where a row lies: its block, its first cell, the cells of an element, the cells of the block. -/
structure Pl where
  b : Nat
  o : Nat
  es : Nat
  sz : Nat
  deriving Inhabited

/-- What is known of memory: blocks that stay as they are; where the rows lie; names and lengths in use. -/
structure G where
  φ : Nat → Option Obj
  μ : Nat → Nat → Pl
  N : Nat
  B : Nat → Nat
  /-- blocks that stay as they are, and are not looked at -/
  F : Nat → Option Obj
  /-- the code of the rounds: number, parameters, assignments, body, number of variables -/
  C : Nat → Array Tmp → Code → Code → Nat → Prop

def cellφ (φ : Nat → Option Obj) (b p : Nat) : Option Value :=
  match φ b with
  | some (.cells c _ _) => c[p]?
  | _ => none

def At (φ : Nat → Option Obj) (b p : Nat) (vs : List Value) : Prop := ∀ j v, vs[j]? = some v → cellφ φ b (p + j) = some v

/-- A value that one cell can hold. -/
def leaf : Value → Prop
  | .agg _ => False
  | .tuple _ => False
  | _ => True

mutual
inductive RepD (φ : Nat → Option Obj) : D → Value → Prop
  | bool (b : Bool) : RepD φ (.bool b) (.bool b)
  | int (k : IntKind) (n : Int) : RepD φ (.int k n) (.int k n)
  | str (s : ByteArray) : RepD φ (.str s) (.string s)
  | nilp : RepD φ .nilp (.pointer none)
  | nilf : RepD φ .nilf .nilFunc
  | nilm : RepD φ .nilm (.map none)
  | lst (l : List D) (es cap : Nat) (a : Option Addr) (vs : List Value) (hes : ∀ x, x ∈ l → x.cells.length = es) (hc : l.length ≤ cap)
      (hr : RepDs φ (l.flatMap D.cells) vs) (ha : l = [] ∨ ∃ b p, a = some ⟨b, p, none⟩ ∧ At φ b p vs) : RepD φ (.lst l) (.slice a l.length cap)
  | agg (l : List D) (vs : List Value) (hr : RepDs φ l vs) : RepD φ (.agg l) (.agg vs.toArray)
inductive RepDs (φ : Nat → Option Obj) : List D → List Value → Prop
  | nil : RepDs φ [] []
  | cons (x : D) (l : List D) (v : Value) (vs : List Value) (h : RepD φ x v) (hs : RepDs φ l vs) (hf : leaf v) : RepDs φ (x :: l) (v :: vs)
end

mutual
inductive Rep (g : G) : V → Value → Prop
  | d (x : D) (v : Value) (h : RepD g.φ x v) : Rep g (.d x) v
  | tl (l : List V) (nl : Option Bool) (es : Nat) (a : Option Addr) (vs : List Value) (hes : ∀ x, x ∈ l → x.cells.length = es)
      (hr : Reps g (l.flatMap V.cells) vs) (ha : l = [] ∨ ∃ b p, a = some ⟨b, p, none⟩ ∧ At g.φ b p vs)
      (hn : ∀ q, nl = some q → (q = true ↔ a = none)) (hf : ∀ v, v ∈ vs → leaf v) : Rep g (.tl l nl) (.slice a l.length l.length)
  | own (n es tot off len cap : Nat) (a : Addr) (he : (g.μ n tot).es = es) (hN : n < g.N) (hB : tot ≤ g.B n)
      (ha : cap = 0 ∨ a = ⟨(g.μ n tot).b, (g.μ n tot).o + off * (g.μ n tot).es, none⟩) (hl : len ≤ cap) (ht : off + len ≤ tot) (hc : tot ≤ off + cap)
      (hs : (g.μ n tot).o + (off + cap) * (g.μ n tot).es ≤ (g.μ n tot).sz) : Rep g (.own n es tot off len) (.slice (some a) len cap)
  | ptr (n tot i off : Nat) (hN : n < g.N) (hB : tot ≤ g.B n) :
      Rep g (.ptr n tot i off) (.pointer (some ⟨(g.μ n tot).b, (g.μ n tot).o + i * (g.μ n tot).es + off, none⟩))
  | fp (x : D) (off b p : Nat) (vs : List Value) (hr : RepDs g.φ x.cells vs) (ha : At g.φ b p vs) : Rep g (.fp x off) (.pointer (some ⟨b, p + off, none⟩))
  | clo (f : Nat) (caps : List V) (vs : List Value) (hr : Reps g caps vs) : Rep g (.clo f caps) (.func (.func f) #[] vs.toArray)
  | agg (l : List V) (vs : List Value) (hr : Reps g l vs) (hf : ∀ v, v ∈ vs → leaf v) : Rep g (.agg l) (.agg vs.toArray)
  | tup (l : List V) (vs : List Value) (hr : Reps g l vs) : Rep g (.tup l) (.tuple vs.toArray)
  | map (n : Nat) (hN : n < g.N) : Rep g (.map n) (.map (some (g.μ n 0).b))
  | yld (n : Nat) (hN : n < g.N) : Rep g (.yld n) (.func (.yield (g.μ n 0).b) #[] #[])
  | ub (b : Bool) : Rep g .ub (.bool b)
  | undef (v : Value) : Rep g .undef v
inductive Reps (g : G) : List V → List Value → Prop
  | nil : Reps g [] []
  | cons (x : V) (l : List V) (v : Value) (vs : List Value) (h : Rep g x v) (hs : Reps g l vs) : Reps g (x :: l) (v :: vs)
end

/-! ## More is known later -/

structure Le (g g' : G) : Prop where
  φ : ∀ b o, g.φ b = some o → g'.φ b = some o
  N : g.N ≤ g'.N
  B : ∀ n, n < g.N → g.B n ≤ g'.B n
  μ : ∀ n t, n < g.N → t ≤ g.B n → g'.μ n t = g.μ n t
  F : g'.F = g.F
  C : g'.C = g.C

theorem Le.refl (g : G) : Le g g := ⟨fun _ _ h => h, Nat.le_refl _, fun _ _ => Nat.le_refl _, fun _ _ _ _ => rfl, rfl, rfl⟩
theorem Le.trans {a b c : G} (h : Le a b) (k : Le b c) : Le a c :=
  ⟨fun _ _ x => k.φ _ _ (h.φ _ _ x), Nat.le_trans h.N k.N, fun n hn => Nat.le_trans (h.B n hn) (k.B n (Nat.lt_of_lt_of_le hn h.N)),
    fun n t hn ht => (k.μ n t (Nat.lt_of_lt_of_le hn h.N) (Nat.le_trans ht (h.B n hn))).trans (h.μ n t hn ht), k.F.trans h.F, k.C.trans h.C⟩

theorem cellφ_mono {φ φ' : Nat → Option Obj} (h : ∀ b o, φ b = some o → φ' b = some o) {b p : Nat} {v : Value} (hc : cellφ φ b p = some v) : cellφ φ' b p = some v := by
  unfold cellφ at hc ⊢
  cases hb : φ b with
  | none => rw [hb] at hc; cases hc
  | some o => rw [hb] at hc; rw [h _ _ hb]; exact hc

theorem At.mono {φ φ' : Nat → Option Obj} (h : ∀ b o, φ b = some o → φ' b = some o) {b p : Nat} {vs : List Value} (ha : At φ b p vs) : At φ' b p vs :=
  fun j v hj => cellφ_mono h (ha j v hj)

mutual
theorem RepD.mono {φ φ' : Nat → Option Obj} (h : ∀ b o, φ b = some o → φ' b = some o) : ∀ {x : D} {v : Value}, RepD φ x v → RepD φ' x v
  | _, _, .bool b => .bool b
  | _, _, .int k n => .int k n
  | _, _, .str s => .str s
  | _, _, .nilp => .nilp
  | _, _, .nilf => .nilf
  | _, _, .nilm => .nilm
  | _, _, .lst l es cap a vs hes hc hr ha => .lst l es cap a vs hes hc (RepDs.mono h hr) (ha.imp id fun ⟨b, p, e, hat⟩ => ⟨b, p, e, hat.mono h⟩)
  | _, _, .agg l vs hr => .agg l vs (RepDs.mono h hr)
theorem RepDs.mono {φ φ' : Nat → Option Obj} (h : ∀ b o, φ b = some o → φ' b = some o) : ∀ {x : List D} {v : List Value}, RepDs φ x v → RepDs φ' x v
  | _, _, .nil => .nil
  | _, _, .cons x l v vs hx hs hf => .cons x l v vs (RepD.mono h hx) (RepDs.mono h hs) hf
end

mutual
theorem Rep.mono {g g' : G} (h : Le g g') : ∀ {x : V} {v : Value}, Rep g x v → Rep g' x v
  | _, _, .d x v hx => .d x v (hx.mono h.φ)
  | _, _, .tl l nl es a vs hes hr ha hn hf => .tl l nl es a vs hes (Reps.mono h hr) (ha.imp id fun ⟨b, p, e, hat⟩ => ⟨b, p, e, hat.mono h.φ⟩) hn hf
  | _, _, .own n es tot off len cap a he hN hB ha hl ht hc hs => .own n es tot off len cap a (by rw [h.μ n tot hN hB]; exact he) (Nat.lt_of_lt_of_le hN h.N) (Nat.le_trans hB (h.B n hN)) (by rw [h.μ n tot hN hB]; exact ha) hl ht hc (by rw [h.μ n tot hN hB]; exact hs)
  | _, _, .ptr n tot i off hN hB => by rw [← h.μ n tot hN hB]; exact .ptr n tot i off (Nat.lt_of_lt_of_le hN h.N) (Nat.le_trans hB (h.B n hN))
  | _, _, .fp x off b p vs hr ha => .fp x off b p vs (hr.mono h.φ) (ha.mono h.φ)
  | _, _, .clo f caps vs hr => .clo f caps vs (Reps.mono h hr)
  | _, _, .agg l vs hr hf => .agg l vs (Reps.mono h hr) hf
  | _, _, .tup l vs hr => .tup l vs (Reps.mono h hr)
  | _, _, .map n hN => by rw [← h.μ n 0 hN (Nat.zero_le _)]; exact .map n (Nat.lt_of_lt_of_le hN h.N)
  | _, _, .yld n hN => by rw [← h.μ n 0 hN (Nat.zero_le _)]; exact .yld n (Nat.lt_of_lt_of_le hN h.N)
  | _, _, .ub b => .ub b
  | _, _, .undef v => .undef v
theorem Reps.mono {g g' : G} (h : Le g g') : ∀ {x : List V} {v : List Value}, Reps g x v → Reps g' x v
  | _, _, .nil => .nil
  | _, _, .cons x l v vs hx hs => .cons x l v vs (Rep.mono h hx) (Reps.mono h hs)
end

/-! ## Lists -/

theorem RepDs.length {φ : Nat → Option Obj} : ∀ {l : List D} {vs : List Value}, RepDs φ l vs → vs.length = l.length
  | _, _, .nil => rfl
  | _, _, .cons _ _ _ _ _ hs _ => by simp [RepDs.length hs]
theorem Reps.length {g : G} : ∀ {l : List V} {vs : List Value}, Reps g l vs → vs.length = l.length
  | _, _, .nil => rfl
  | _, _, .cons _ _ _ _ _ hs => by simp [Reps.length hs]

theorem RepDs.app {φ : Nat → Option Obj} : ∀ {l : List D} {vs : List Value} {l' : List D} {vs' : List Value}, RepDs φ l vs → RepDs φ l' vs' → RepDs φ (l ++ l') (vs ++ vs')
  | _, _, _, _, .nil, k => k
  | _, _, _, _, .cons x l v vs hx hs hf, k => .cons x _ v _ hx (RepDs.app hs k) hf
theorem Reps.app {g : G} : ∀ {l : List V} {vs : List Value} {l' : List V} {vs' : List Value}, Reps g l vs → Reps g l' vs' → Reps g (l ++ l') (vs ++ vs')
  | _, _, _, _, .nil, k => k
  | _, _, _, _, .cons x l v vs hx hs, k => .cons x _ v _ hx (Reps.app hs k)

theorem RepDs.split {φ : Nat → Option Obj} : ∀ {l l' : List D} {vs : List Value}, RepDs φ (l ++ l') vs → RepDs φ l (vs.take l.length) ∧ RepDs φ l' (vs.drop l.length)
  | [], _, _, h => ⟨.nil, h⟩
  | x :: l, l', _, .cons _ _ v vs hx hs hf => ⟨.cons x l v _ hx (RepDs.split hs).1 hf, (RepDs.split hs).2⟩
theorem Reps.split {g : G} : ∀ {l l' : List V} {vs : List Value}, Reps g (l ++ l') vs → Reps g l (vs.take l.length) ∧ Reps g l' (vs.drop l.length)
  | [], _, _, h => ⟨.nil, h⟩
  | x :: l, l', _, .cons _ _ v vs hx hs => ⟨.cons x l v _ hx (Reps.split hs).1, (Reps.split hs).2⟩

theorem RepDs.drop {φ : Nat → Option Obj} : ∀ {l : List D} {vs : List Value} (n : Nat), RepDs φ l vs → RepDs φ (l.drop n) (vs.drop n)
  | _, _, 0, h => h
  | _, _, _ + 1, .nil => .nil
  | _, _, n + 1, .cons _ _ _ _ _ hs _ => hs.drop n
theorem Reps.drop {g : G} : ∀ {l : List V} {vs : List Value} (n : Nat), Reps g l vs → Reps g (l.drop n) (vs.drop n)
  | _, _, 0, h => h
  | _, _, _ + 1, .nil => .nil
  | _, _, n + 1, .cons _ _ _ _ _ hs => hs.drop n
theorem RepDs.take {φ : Nat → Option Obj} : ∀ {l : List D} {vs : List Value} (n : Nat), RepDs φ l vs → RepDs φ (l.take n) (vs.take n)
  | _, _, 0, _ => .nil
  | _, _, _ + 1, .nil => .nil
  | _, _, n + 1, .cons x _ v _ h hs hf => .cons x _ v _ h (hs.take n) hf
theorem Reps.take {g : G} : ∀ {l : List V} {vs : List Value} (n : Nat), Reps g l vs → Reps g (l.take n) (vs.take n)
  | _, _, 0, _ => .nil
  | _, _, _ + 1, .nil => .nil
  | _, _, n + 1, .cons x _ v _ h hs => .cons x _ v _ h (hs.take n)

theorem RepDs.get {φ : Nat → Option Obj} : ∀ {l : List D} {vs : List Value} {i : Nat} {x : D}, RepDs φ l vs → l[i]? = some x → ∃ v, vs[i]? = some v ∧ RepD φ x v
  | _, _, _, _, .nil, h => by simp at h
  | _, _, 0, _, .cons x _ v _ hx _ _, h => by simp at h; subst h; exact ⟨v, rfl, hx⟩
  | _, _, i + 1, _, .cons _ _ _ _ _ hs _, h => by simp at h; simpa using RepDs.get hs h
theorem Reps.get {g : G} : ∀ {l : List V} {vs : List Value} {i : Nat} {x : V}, Reps g l vs → l[i]? = some x → ∃ v, vs[i]? = some v ∧ Rep g x v
  | _, _, _, _, .nil, h => by simp at h
  | _, _, 0, _, .cons x _ v _ hx _, h => by simp at h; subst h; exact ⟨v, rfl, hx⟩
  | _, _, i + 1, _, .cons _ _ _ _ _ hs, h => by simp at h; simpa using Reps.get hs h

theorem Reps.of_map_d {g : G} : ∀ {l : List D} {vs : List Value}, RepDs g.φ l vs → Reps g (l.map .d) vs
  | _, _, .nil => .nil
  | _, _, .cons x l v vs hx hs _ => .cons (.d x) _ v vs (.d x v hx) (Reps.of_map_d hs)
theorem Reps.to_map_d {g : G} : ∀ {l : List D} {vs : List Value}, Reps g (l.map .d) vs → (∀ v, v ∈ vs → leaf v) → RepDs g.φ l vs
  | [], _, .nil, _ => .nil
  | _ :: _, _, .cons _ _ v vs (.d x _ hx) hs, hf => .cons x _ v vs hx (Reps.to_map_d hs fun u hu => hf u (List.mem_cons_of_mem _ hu)) (hf v (List.mem_cons_self))
theorem RepDs.leaf {φ : Nat → Option Obj} : ∀ {l : List D} {vs : List Value}, RepDs φ l vs → ∀ v, v ∈ vs → Zv.leaf v
  | _, _, .nil, _, h => by simp at h
  | _, _, .cons _ _ _ _ _ hs hf, v, h => by
    rcases List.mem_cons.1 h with rfl | h
    · exact hf
    · exact RepDs.leaf hs v h

/-- A value's cells. -/
theorem RepD.cells {φ : Nat → Option Obj} {x : D} {v : Value} (h : RepD φ x v) : RepDs φ x.cells v.cells.toList := by
  cases h with
  | agg l vs hr => simpa [D.cells, Value.cells] using hr
  | bool b => exact .cons _ _ _ _ (.bool b) .nil trivial
  | int k n => exact .cons _ _ _ _ (.int k n) .nil trivial
  | str s => exact .cons _ _ _ _ (.str s) .nil trivial
  | nilp => exact .cons _ _ _ _ .nilp .nil trivial
  | nilf => exact .cons _ _ _ _ .nilf .nil trivial
  | nilm => exact .cons _ _ _ _ .nilm .nil trivial
  | lst l es cap a vs hes hc hr ha => exact .cons _ _ _ _ (.lst l es cap a vs hes hc hr ha) .nil trivial

theorem Rep.cells {g : G} {x : V} {v : Value} (hu : stor x = true) (h : Rep g x v) : Reps g x.cells v.cells.toList ∧ ∀ u, u ∈ v.cells.toList → leaf u := by
  have one : ∀ u : Value, leaf u → ∀ q, q ∈ [u] → leaf q := fun u hu q hq => by simp at hq; subst hq; exact hu
  cases h with
  | d x v hx => exact ⟨Reps.of_map_d hx.cells, hx.cells.leaf⟩
  | agg l vs hr hf => exact ⟨by simpa [V.cells, Value.cells] using hr, by simpa [Value.cells] using hf⟩
  | tl l nl es a vs hes hr ha hn hf => exact ⟨.cons _ _ _ _ (.tl l nl es a vs hes hr ha hn hf) .nil, one _ trivial⟩
  | own n es tot off len cap a he hN hB ha hl ht hc hs => exact ⟨.cons _ _ _ _ (.own n es tot off len cap a he hN hB ha hl ht hc hs) .nil, one _ trivial⟩
  | ptr n tot i off hN hB => exact ⟨.cons _ _ _ _ (.ptr n tot i off hN hB) .nil, one _ trivial⟩
  | fp x off b p vs hr ha => exact ⟨.cons _ _ _ _ (.fp x off b p vs hr ha) .nil, one _ trivial⟩
  | clo f caps vs hr => exact ⟨.cons _ _ _ _ (.clo f caps vs hr) .nil, one _ trivial⟩
  | tup l vs hr => cases hu
  | map n hN => exact ⟨.cons _ _ _ _ (.map n hN) .nil, one _ trivial⟩
  | yld n hN => exact ⟨.cons _ _ _ _ (.yld n hN) .nil, one _ trivial⟩
  | ub b => exact ⟨.cons _ _ _ _ (.ub b) .nil, one _ trivial⟩
  | undef v => cases hu

theorem toDs_cons {x : V} {l : List V} {ys : List D} (h : toDs (x :: l) = some ys) : ∃ y r, toD x = some y ∧ toDs l = some r ∧ ys = y :: r := by
  simp only [toDs] at h
  cases h1 : toD x with
  | none => rw [h1] at h; simp at h
  | some a =>
    cases h2 : toDs l with
    | none => rw [h1, h2] at h; simp at h
    | some b => rw [h1, h2] at h; simp at h; exact ⟨a, b, rfl, rfl, h.symm⟩
theorem toDs_mk {x : V} {l : List V} {y : D} {r : List D} (h : toD x = some y) (k : toDs l = some r) : toDs (x :: l) = some (y :: r) := by
  simp only [toDs, h, k]
theorem toDs_length : ∀ {l : List V} {ys : List D}, toDs l = some ys → l.length = ys.length
  | [], ys, h => by simp [toDs] at h; subst h; rfl
  | x :: l, ys, h => by obtain ⟨y, r, _, h2, rfl⟩ := toDs_cons h; simp [toDs_length h2]
theorem toDs_app : ∀ {l k : List V} {ys zs : List D}, toDs l = some ys → toDs k = some zs → toDs (l ++ k) = some (ys ++ zs)
  | [], k, ys, zs, h, h' => by simp [toDs] at h; subst h; exact h'
  | x :: l, k, ys, zs, h, h' => by obtain ⟨y, r, h1, h2, rfl⟩ := toDs_cons h; exact toDs_mk h1 (toDs_app h2 h')
theorem toDs_map_d : ∀ (l : List D), toDs (l.map .d) = some l
  | [] => rfl
  | x :: l => toDs_mk rfl (toDs_map_d l)
theorem toD_cells {x : V} {y : D} (h : toD x = some y) : toDs x.cells = some y.cells := by
  cases x with
  | d z => simp [toD] at h; subst h; exact toDs_map_d _
  | tl l nl =>
    have h' := h
    simp only [toD, Option.map_eq_some_iff] at h'
    obtain ⟨ds, hds, rfl⟩ := h'
    exact toDs_mk h rfl
  | agg l =>
    simp only [toD, Option.map_eq_some_iff] at h
    obtain ⟨ds, hds, rfl⟩ := h
    exact hds
  | _ => simp [toD] at h
theorem toDs_flat : ∀ {l : List V} {ys : List D}, toDs l = some ys → toDs (l.flatMap V.cells) = some (ys.flatMap D.cells)
  | [], ys, h => by simp [toDs] at h; subst h; rfl
  | x :: l, ys, h => by
    obtain ⟨y, r, h1, h2, rfl⟩ := toDs_cons h
    simpa using toDs_app (toD_cells h1) (toDs_flat h2)
theorem toD_len {x : V} {y : D} (h : toD x = some y) : y.cells.length = x.cells.length := (toDs_length (toD_cells h)).symm
theorem toDs_es : ∀ {l : List V} {ys : List D} {es : Nat}, toDs l = some ys → (∀ x, x ∈ l → x.cells.length = es) → ∀ y, y ∈ ys → y.cells.length = es
  | [], ys, es, h, _, y, hy => by simp [toDs] at h; subst h; simp at hy
  | x :: l, ys, es, h, hes, y, hy => by
    obtain ⟨z, r, h1, h2, rfl⟩ := toDs_cons h
    rcases List.mem_cons.1 hy with rfl | hy
    · rw [toD_len h1]; exact hes x (by simp)
    · exact toDs_es h2 (fun q hq => hes q (by simp [hq])) y hy

mutual
/-- What can be read as data is data. -/
theorem Rep.toD {g : G} : ∀ {x : V} {v : Value} {y : D}, Rep g x v → toD x = some y → RepD g.φ y v
  | _, _, _, .d x v hx, h => by simp [Zv.toD] at h; subst h; exact hx
  | _, _, _, .tl l nl es a vs hes hr ha hn hf, h => by
    simp only [Zv.toD, Option.map_eq_some_iff] at h
    obtain ⟨ds, hds, rfl⟩ := h
    rw [toDs_length hds]
    exact .lst ds es ds.length a vs (toDs_es hds hes) (Nat.le_refl _) (Reps.toDs hr (toDs_flat hds) hf) (ha.imp (fun e => by subst e; simp [Zv.toDs] at hds; exact hds) id)
  | _, _, _, .agg l vs hr hf, h => by
    simp only [Zv.toD, Option.map_eq_some_iff] at h
    obtain ⟨ds, hds, rfl⟩ := h
    exact .agg ds vs (Reps.toDs hr hds hf)
  | _, _, _, .own .., h => by simp [Zv.toD] at h
  | _, _, _, .ptr .., h => by simp [Zv.toD] at h
  | _, _, _, .fp .., h => by simp [Zv.toD] at h
  | _, _, _, .clo .., h => by simp [Zv.toD] at h
  | _, _, _, .tup .., h => by simp [Zv.toD] at h
  | _, _, _, .map .., h => by simp [Zv.toD] at h
  | _, _, _, .yld .., h => by simp [Zv.toD] at h
  | _, _, _, .ub .., h => by simp [Zv.toD] at h
  | _, _, _, .undef .., h => by simp [Zv.toD] at h
theorem Reps.toDs {g : G} : ∀ {x : List V} {v : List Value} {y : List D}, Reps g x v → toDs x = some y → (∀ u, u ∈ v → Zv.leaf u) → RepDs g.φ y v
  | _, _, _, .nil, h, _ => by simp [Zv.toDs] at h; subst h; exact .nil
  | _, _, _, .cons x l v vs hx hs, h, hf => by
    simp only [Zv.toDs] at h
    cases h1 : Zv.toD x with
    | none => rw [h1] at h; simp at h
    | some a =>
      cases h2 : Zv.toDs l with
      | none => rw [h1, h2] at h; simp at h
      | some b =>
        rw [h1, h2] at h
        simp at h
        subst h
        exact .cons a b v vs (Rep.toD hx h1) (Reps.toDs hs h2 fun u hu => hf u (List.mem_cons_of_mem _ hu)) (hf v (List.mem_cons_self))
end

theorem Rep.norm {g : G} {x : V} {v : Value} (h : Rep g x v) : Rep g (Zv.norm x) v := by
  unfold Zv.norm
  split
  · rename_i y hy; exact .d y v (h.toD hy)
  · exact h
theorem norm_len (x : V) : (norm x).cells.length = x.cells.length := by
  unfold norm
  split
  · rename_i y hy
    show (y.cells.map V.d).length = _
    rw [List.length_map, toD_len hy]
  · rfl
theorem asD_toDs : ∀ {l : List V} {ds : List D}, asD l = some ds → toDs l = some ds
  | [], ds, h => by simp [asD] at h; subst h; rfl
  | .d x :: l, ds, h => by
    simp only [asD, Option.map_eq_some_iff] at h
    obtain ⟨r, hr, rfl⟩ := h
    exact toDs_mk rfl (asD_toDs hr)
theorem Rep.mkAgg {g : G} {l : List V} {vs : List Value} (h : Reps g l vs) (hf : ∀ u, u ∈ vs → leaf u) : Rep g (Zv.mkAgg l) (.agg vs.toArray) := by
  unfold Zv.mkAgg
  split
  · rename_i ds hds; exact .d _ _ (.agg ds vs (h.toDs (asD_toDs hds) hf))
  · exact .agg l vs h hf
theorem stor_norm {x : V} (h : stor x = true) : stor (norm x) = true := by
  unfold norm
  split
  · rfl
  · exact h
theorem stor_mkAgg (l : List V) : stor (mkAgg l) = true := by
  unfold mkAgg
  split <;> rfl
theorem mkAgg_len (l : List V) : (mkAgg l).cells.length = l.length := by
  unfold mkAgg
  split
  · rename_i ds hds; show (ds.map V.d).length = _; rw [List.length_map, toDs_length (asD_toDs hds)]
  · rfl

/-! ## The heap and memory -/

/-- Memory's other parts are as they were; no block has gone. -/
structure Fx (w w' : World) : Prop where
  os : w'.os = w.os
  tape : w'.tape = w.tape
  output : w'.output = w.output
  size : w.heap.size ≤ w'.heap.size
theorem Fx.refl (w : World) : Fx w w := ⟨rfl, rfl, rfl, Nat.le_refl _⟩
theorem Fx.trans {a b c : World} (h : Fx a b) (k : Fx b c) : Fx a c := ⟨k.os.trans h.os, k.tape.trans h.tape, k.output.trans h.output, Nat.le_trans h.size k.size⟩

def Ob.tot : Ob → Nat
  | .arr _ els => els.length
  | .mp _ => 0
  | .lp _ _ _ => 0
def blk (g : G) (n : Nat) (o : Ob) : Nat := (g.μ n o.tot).b

/-- The entries of a map. -/
inductive RepKvs (g : G) : List (D × V) → List MapEntry → Prop
  | nil : RepKvs g [] []
  | cons (k : D) (x : V) (l : List (D × V)) (e : MapEntry) (es : List MapEntry) (hk : RepD g.φ k e.key) (hx : Rep g x e.val) (hs : RepKvs g l es) : RepKvs g ((k, x) :: l) (e :: es)

/-- How the record of a loop stands, as it says itself. -/
def LpSt : Option Ex → LoopState → Option Code → Prop
  | none, s, p => s = .ready ∧ p = none
  | some .norm, s, p => s = .busy ∧ p = none
  | some (.exit i), s, p => s = .done ∧ p = some (.exit i)
  | some .ret, s, p => s = .done ∧ p = some .ret

def ObRep (g : G) (w : World) (n : Nat) : Ob → Prop
  | .arr es els => ∃ c ty vs, w.heap[(g.μ n els.length).b]? = some (.cells c ty (0, 0)) ∧ c.size = (g.μ n els.length).sz ∧ ((g.μ n els.length).es = es ∧ (g.μ n els.length).o + els.length * es ≤ (g.μ n els.length).sz) ∧
      (∀ x, x ∈ els → x.cells.length = es) ∧ Reps g (els.flatMap V.cells) vs ∧ (∀ u, u ∈ vs → leaf u) ∧ (∀ j v, vs[j]? = some v → c[(g.μ n els.length).o + j]? = some v)
  | .mp kvs => ∃ es clock, w.heap[(g.μ n 0).b]? = some (.map es clock) ∧ RepKvs g kvs es.toList
  | .lp b e s => ∃ r : Loop, w.heap[(g.μ n 0).b]? = some (.loop r) ∧ (∀ t, Rep g (Env.get e t) (r.tmps.getD t undef)) ∧ g.C b r.params r.assign r.body r.tmps.size ∧ LpSt s r.state r.pending

structure Rel (g : G) (h : Hp) (w : World) : Prop where
  nx : h.next = g.N
  fr : ∀ b o, g.φ b = some o → w.heap[b]? = some o
  nd : (h.objs.map (·.1)).Nodup
  ob : ∀ n o, h.get n = some o → n < g.N ∧ g.B n = o.tot ∧ ObRep g w n o
  sep : ∀ n m o p, h.get n = some o → h.get m = some p → n ≠ m → blk g n o ≠ blk g m p
  out : ∀ n o, h.get n = some o → g.φ (blk g n o) = none
  kp : ∀ b o, g.F b = some o → w.heap[b]? = some o ∧ g.φ b = none
  kpo : ∀ n o, h.get n = some o → g.F (blk g n o) = none

theorem RepKvs.mono {g g' : G} (h : Le g g') : ∀ {l : List (D × V)} {es : List MapEntry}, RepKvs g l es → RepKvs g' l es
  | _, _, .nil => .nil
  | _, _, .cons k x l e es hk hx hs => .cons k x l e es (hk.mono h.φ) (hx.mono h) (RepKvs.mono h hs)

/-- An object as it was, in a later state where its block is as it was. -/
theorem ObRep.mono {g g' : G} {w w' : World} {n : Nat} {o : Ob} (hle : Le g g') (hn : n < g.N) (hB : o.tot ≤ g.B n) (hb : w'.heap[blk g n o]? = w.heap[blk g n o]?) (h : ObRep g w n o) : ObRep g' w' n o := by
  cases o with
  | arr es els =>
    obtain ⟨c, ty, vs, h1, h2, h3, h4, h5, h6, h7⟩ := h
    have e := hle.μ n els.length hn hB
    simp only [ObRep]
    rw [e]
    exact ⟨c, ty, vs, hb.trans h1, h2, h3, h4, h5.mono hle, h6, h7⟩
  | mp kvs =>
    obtain ⟨es, cl, h1, h2⟩ := h
    have e := hle.μ n 0 hn (Nat.zero_le _)
    simp only [ObRep]
    rw [e]
    exact ⟨es, cl, hb.trans h1, h2.mono hle⟩
  | lp b ev s =>
    obtain ⟨r, h1, h2, h3, h4⟩ := h
    have e := hle.μ n 0 hn (Nat.zero_le _)
    simp only [ObRep]
    rw [e]
    exact ⟨r, hb.trans h1, fun t => (h2 t).mono hle, by rw [hle.C]; exact h3, h4⟩
theorem blk_mono {g g' : G} {n : Nat} {o : Ob} (hle : Le g g') (hn : n < g.N) (hB : o.tot ≤ g.B n) : blk g' n o = blk g n o := by
  unfold blk; rw [hle.μ n _ hn hB]

/-! ### Lookups -/
theorem look_mem : ∀ {l : List (Nat × Ob)} {n : Nat} {o : Ob}, look l n = some o → (n, o) ∈ l
  | (m, q) :: l, n, o, h => by
    unfold look at h
    split at h
    · rename_i e; subst e; simp at h; subst h; simp
    · exact List.mem_cons_of_mem _ (look_mem h)
theorem look_of_mem : ∀ {l : List (Nat × Ob)} {n : Nat} {o : Ob}, (l.map (·.1)).Nodup → (n, o) ∈ l → look l n = some o
  | (m, q) :: l, n, o, hd, h => by
    unfold look
    rw [List.map_cons, List.nodup_cons] at hd
    rcases List.mem_cons.1 h with e | h'
    · cases e; simp
    · rw [if_neg (fun e => hd.1 (by subst e; exact List.mem_map.2 ⟨(n, o), h', rfl⟩))]
      exact look_of_mem hd.2 h'
theorem look_none : ∀ {l : List (Nat × Ob)} {n : Nat}, n ∉ l.map (·.1) → look l n = none
  | [], _, _ => rfl
  | (m, q) :: l, n, h => by
    simp at h
    unfold look
    rw [if_neg h.1]
    exact look_none (by simpa using h.2)
theorem look_upd : ∀ {l : List (Nat × Ob)} {n : Nat} {o q : Ob} (m : Nat), look l n = some q → look (upd l n o) m = if m = n then some o else look l m
  | (k, x) :: l, n, o, q, m, h => by
    unfold look at h
    by_cases e : n = k
    · subst e
      simp only [upd, if_true, look]
      by_cases e2 : m = n
      · simp [e2]
      · simp [e2]
    · rw [if_neg e] at h
      simp only [upd, if_neg e, look]
      by_cases e2 : m = k
      · subst e2
        rw [if_pos rfl, if_neg (fun h => e h.symm), if_pos rfl]
      · rw [if_neg e2, if_neg e2]
        exact look_upd m h
theorem upd_keys : ∀ (l : List (Nat × Ob)) (n : Nat) (o : Ob), (upd l n o).map (·.1) = l.map (·.1)
  | [], _, _ => rfl
  | (k, x) :: l, n, o => by
    unfold upd
    split
    · simp
    · simp [upd_keys l n o]
theorem del_keys : ∀ (l : List (Nat × Ob)) (n : Nat), ((del l n).map (·.1)).Sublist (l.map (·.1))
  | [], _ => .slnil
  | (k, x) :: l, n => by
    unfold del
    split
    · exact List.sublist_cons_self _ _
    · exact (del_keys l n).cons_cons _
theorem look_del : ∀ {l : List (Nat × Ob)} {n : Nat} (m : Nat), (l.map (·.1)).Nodup → look (del l n) m = if m = n then none else look l m
  | [], n, m, _ => by simp [del, look]
  | (k, x) :: l, n, m, hd => by
    rw [List.map_cons, List.nodup_cons] at hd
    unfold del
    by_cases e : n = k
    · subst e
      rw [if_pos rfl]
      by_cases e2 : m = n
      · subst e2; rw [if_pos rfl]; exact look_none hd.1
      · rw [if_neg e2]; simp only [look]; rw [if_neg e2]
    · rw [if_neg e]
      simp only [look]
      by_cases e2 : m = k
      · subst e2; rw [if_pos rfl, if_neg (fun h => e h.symm), if_pos rfl]
      · rw [if_neg e2, if_neg e2]; exact look_del m hd.2

end Zv
