/-
  A change of one object of ZvVal's heap, and memory: what then holds.
-/
import Derived.Test.YtfbkbopmenilkaaZwOpC
import Derived.Laws.Tables
set_option linter.unusedSimpArgs false
namespace Zv
open Go

def G.put (g : G) (k tot : Nat) (pl : Pl) : G :=
  { φ := g.φ, μ := fun n t => if n = k ∧ t = tot then pl else g.μ n t, N := max g.N (k + 1), B := fun n => if n = k then tot else g.B n, F := g.F, C := g.C }

def G.fix (g : G) (b : Nat) (o : Obj) : G := { g with φ := fun c => if c = b then some o else g.φ c }

theorem Le.put {g : G} {k tot : Nat} {pl : Pl} (hk : (k < g.N ∧ (g.B k < tot ∨ (tot = g.B k ∧ pl = g.μ k tot))) ∨ k = g.N) : Le g (g.put k tot pl) := by
  refine ⟨fun _ _ h => h, Nat.le_max_left _ _, fun n hn => ?_, fun n t hn ht => ?_, rfl, rfl⟩
  · show g.B n ≤ if n = k then tot else g.B n
    split
    · rename_i e; subst e
      rcases hk with ⟨_, h | h⟩ | h
      · omega
      · omega
      · omega
    · exact Nat.le_refl _
  · show (if n = k ∧ t = tot then pl else g.μ n t) = g.μ n t
    split
    · rename_i e
      obtain ⟨rfl, rfl⟩ := e
      rcases hk with ⟨_, h | h⟩ | h
      · omega
      · exact h.2
      · omega
    · rfl

theorem Rel.put {g : G} {h h' : Hp} {w w' : World} (R : Rel g h w) (k : Nat) (O : Ob) (pl : Pl)
    (hk : (k < g.N ∧ (g.B k < O.tot ∨ (O.tot = g.B k ∧ pl = g.μ k O.tot))) ∨ k = g.N) (hnx : h'.next = max g.N (k + 1)) (hnd : (h'.objs.map (·.1)).Nodup)
    (hob : ∀ m o, h'.get m = some o → (m = k ∧ o = O) ∨ (m ≠ k ∧ h.get m = some o))
    (hblk : pl.b = w.heap.size ∨ (∃ n o, h.get n = some o ∧ pl.b = blk g n o ∧ ∀ m o', h'.get m = some o' → m ≠ k → m ≠ n) ∨ (g.φ pl.b = none ∧ g.F pl.b = none ∧ ∀ n o, h.get n = some o → blk g n o ≠ pl.b))
    (hw : ∀ b, b < w.heap.size → b ≠ pl.b → w'.heap[b]? = w.heap[b]?) (hO : ObRep (g.put k O.tot pl) w' k O) : Le g (g.put k O.tot pl) ∧ Rel (g.put k O.tot pl) h' w' := by
  have hle := Le.put (pl := pl) hk
  have hφ : g.φ pl.b = none := by
    rcases hblk with e | ⟨n, o, hn, e, _⟩ | e
    · cases hp : g.φ pl.b with
      | none => rfl
      | some o =>
        have := (Array.getElem?_eq_some_iff.1 (R.fr _ _ hp)).1
        omega
    · rw [e]; exact R.out n o hn
    · exact e.1
  have hF : g.F pl.b = none := by
    rcases hblk with e | ⟨n, o, hn, e, _⟩ | e
    · cases hp : g.F pl.b with
      | none => rfl
      | some o =>
        have := (Array.getElem?_eq_some_iff.1 (R.kp _ _ hp).1).1
        omega
    · rw [e]; exact R.kpo n o hn
    · exact e.2.1
  have hlt : ∀ n o, h.get n = some o → blk g n o < w.heap.size := by
    intro n o hn
    have := (R.ob n o hn).2.2
    cases o with
    | arr es els => obtain ⟨c, ty, vs, h1, _⟩ := this; exact (Array.getElem?_eq_some_iff.1 h1).1
    | mp kvs => obtain ⟨es, cl, h1, _⟩ := this; exact (Array.getElem?_eq_some_iff.1 h1).1
    | lp b e s => obtain ⟨r, h1, _⟩ := this; exact (Array.getElem?_eq_some_iff.1 h1).1
  have hbk : blk (g.put k O.tot pl) k O = pl.b := by simp [blk, G.put]
  have hne : ∀ m o, h'.get m = some o → m ≠ k → blk g m o ≠ pl.b := by
    intro m o hm hmk
    rcases hob m o hm with ⟨e, _⟩ | ⟨_, hm'⟩
    · exact absurd e hmk
    · rcases hblk with e | ⟨n, p, hn, e, hx⟩ | e
      · have := hlt m o hm'; omega
      · rw [e]; exact R.sep m n o p hm' hn (hx m o hm hmk)
      · exact e.2.2 m o hm'
  refine ⟨hle, ⟨hnx, fun b o hb => ?_, hnd, fun n o hn => ?_, fun n m o p hn hm hnm => ?_, fun n o hn => ?_, fun b o hb => ?_, fun n o hn => ?_⟩⟩
  · have h1 := R.fr b o hb
    have h2 := (Array.getElem?_eq_some_iff.1 h1).1
    rw [hw b h2 (fun e => by subst e; rw [show (g.put k O.tot pl).φ = g.φ from rfl, hφ] at hb; cases hb)]
    exact h1
  · rcases hob n o hn with ⟨rfl, rfl⟩ | ⟨hnk, hn'⟩
    · exact ⟨Nat.lt_of_lt_of_le (Nat.lt_succ_self n) (Nat.le_max_right g.N (n + 1)), by simp [G.put], hO⟩
    · obtain ⟨h1, h2, h3⟩ := R.ob n o hn'
      refine ⟨Nat.lt_of_lt_of_le h1 hle.N, by simp [G.put, hnk, h2], ?_⟩
      exact h3.mono hle h1 (by omega) (hw _ (hlt n o hn') (hne n o hn hnk))
  · rcases hob n o hn with ⟨rfl, rfl⟩ | ⟨hnk, hn'⟩
    · rcases hob m p hm with ⟨rfl, rfl⟩ | ⟨hmk, hm'⟩
      · exact absurd rfl hnm
      · rw [hbk, blk_mono hle (R.ob m p hm').1 (by rw [(R.ob m p hm').2.1]; exact Nat.le_refl _)]
        exact fun e => hne m p hm hmk e.symm
    · rcases hob m p hm with ⟨rfl, rfl⟩ | ⟨hmk, hm'⟩
      · rw [hbk, blk_mono hle (R.ob n o hn').1 (by rw [(R.ob n o hn').2.1]; exact Nat.le_refl _)]
        exact hne n o hn hnk
      · rw [blk_mono hle (R.ob n o hn').1 (by rw [(R.ob n o hn').2.1]; exact Nat.le_refl _), blk_mono hle (R.ob m p hm').1 (by rw [(R.ob m p hm').2.1]; exact Nat.le_refl _)]
        exact R.sep n m o p hn' hm' hnm
  · rcases hob n o hn with ⟨rfl, rfl⟩ | ⟨hnk, hn'⟩
    · rw [hbk]; exact hφ
    · rw [blk_mono hle (R.ob n o hn').1 (by rw [(R.ob n o hn').2.1]; exact Nat.le_refl _)]
      exact R.out n o hn'
  · have h1 := R.kp b o hb
    have h2 := (Array.getElem?_eq_some_iff.1 h1.1).1
    rw [hw b h2 (fun e => by subst e; rw [show (g.put k O.tot pl).F = g.F from rfl, hF] at hb; cases hb)]
    exact h1
  · rcases hob n o hn with ⟨rfl, rfl⟩ | ⟨hnk, hn'⟩
    · rw [hbk]; exact hF
    · rw [blk_mono hle (R.ob n o hn').1 (by rw [(R.ob n o hn').2.1]; exact Nat.le_refl _)]
      exact R.kpo n o hn'

/-- A new block that stays as it is. -/
theorem Rel.fix {g : G} {h : Hp} {w w' : World} (R : Rel g h w) (o : Obj) (hb : w'.heap[w.heap.size]? = some o) (hw : ∀ b, b < w.heap.size → w'.heap[b]? = w.heap[b]?) :
    Le g (g.fix w.heap.size o) ∧ Rel (g.fix w.heap.size o) h w' := by
  have hnew : g.φ w.heap.size = none := by
    cases hp : g.φ w.heap.size with
    | none => rfl
    | some q => have := (Array.getElem?_eq_some_iff.1 (R.fr _ _ hp)).1; omega
  have hle : Le g (g.fix w.heap.size o) := by
    refine ⟨fun b q hq => ?_, Nat.le_refl _, fun _ _ => Nat.le_refl _, fun _ _ _ _ => rfl, rfl, rfl⟩
    show (if b = w.heap.size then some o else g.φ b) = some q
    rw [if_neg (fun e => by subst e; rw [hnew] at hq; cases hq)]
    exact hq
  have hlt : ∀ n o, h.get n = some o → blk g n o < w.heap.size := by
    intro n o hn
    have := (R.ob n o hn).2.2
    cases o with
    | arr es els => obtain ⟨c, ty, vs, h1, _⟩ := this; exact (Array.getElem?_eq_some_iff.1 h1).1
    | mp kvs => obtain ⟨es, cl, h1, _⟩ := this; exact (Array.getElem?_eq_some_iff.1 h1).1
    | lp b e s => obtain ⟨r, h1, _⟩ := this; exact (Array.getElem?_eq_some_iff.1 h1).1
  refine ⟨hle, ⟨R.nx, fun b q hq => ?_, R.nd, fun n q hn => ?_, fun n m q p hn hm hnm => R.sep n m q p hn hm hnm, fun n q hn => ?_, fun b q hq => ?_, R.kpo⟩⟩
  · have hq' : (if b = w.heap.size then some o else g.φ b) = some q := hq
    split at hq'
    · rename_i e; subst e; cases hq'; exact hb
    · have h1 := R.fr b q hq'
      rw [hw b (Array.getElem?_eq_some_iff.1 h1).1]
      exact h1
  · obtain ⟨h1, h2, h3⟩ := R.ob n q hn
    exact ⟨h1, h2, h3.mono hle h1 (by omega) (hw _ (hlt n q hn))⟩
  · show (if blk g n q = w.heap.size then some o else g.φ (blk g n q)) = none
    rw [if_neg (by have := hlt n q hn; omega)]
    exact R.out n q hn
  · have h1 := R.kp b q hq
    have h2 := (Array.getElem?_eq_some_iff.1 h1.1).1
    refine ⟨by rw [hw b h2]; exact h1.1, ?_⟩
    show (if b = w.heap.size then some o else g.φ b) = none
    rw [if_neg (by omega)]
    exact h1.2

theorem Rel.kill {g : G} {h : Hp} {w : World} (R : Rel g h w) (n : Nat) : Rel g (h.kill n) w := by
  have hg : ∀ m o, (h.kill n).get m = some o → h.get m = some o := by
    intro m o hm
    unfold Hp.get Hp.kill at hm
    rw [look_del m R.nd] at hm
    split at hm
    · cases hm
    · exact hm
  exact ⟨R.nx, R.fr, (del_keys h.objs n).nodup R.nd, fun m o hm => R.ob m o (hg m o hm), fun m k o p hm hk hmk => R.sep m k o p (hg m o hm) (hg k p hk) hmk, fun m o hm => R.out m o (hg m o hm), R.kp, fun m o hm => R.kpo m o (hg m o hm)⟩

/-- The world moves, no block that is known turns. -/
theorem Rel.world {g : G} {h : Hp} {w w' : World} (R : Rel g h w) (hw : ∀ b, b < w.heap.size → w'.heap[b]? = w.heap[b]?) : Rel g h w' := by
  have hlt : ∀ n o, h.get n = some o → blk g n o < w.heap.size := by
    intro n o hn
    have := (R.ob n o hn).2.2
    cases o with
    | arr es els => obtain ⟨c, ty, vs, h1, _⟩ := this; exact (Array.getElem?_eq_some_iff.1 h1).1
    | mp kvs => obtain ⟨es, cl, h1, _⟩ := this; exact (Array.getElem?_eq_some_iff.1 h1).1
    | lp b e s => obtain ⟨r, h1, _⟩ := this; exact (Array.getElem?_eq_some_iff.1 h1).1
  refine ⟨R.nx, fun b q hq => ?_, R.nd, fun n q hn => ?_, R.sep, R.out, fun b q hq => ?_, R.kpo⟩
  · have h1 := R.fr b q hq
    rw [hw b (Array.getElem?_eq_some_iff.1 h1).1]; exact h1
  · obtain ⟨h1, h2, h3⟩ := R.ob n q hn
    exact ⟨h1, h2, h3.mono (Le.refl g) h1 (by omega) (hw _ (hlt n q hn))⟩
  · have h1 := R.kp b q hq
    exact ⟨by rw [hw b (Array.getElem?_eq_some_iff.1 h1.1).1]; exact h1.1, h1.2⟩

/-! ### Shapes of the heap after a change -/
theorem get_alloc {h : Hp} {O : Ob} (m : Nat) : (h.alloc O).get m = if m = h.next then some O else h.get m := rfl
theorem nodup_alloc {g : G} {h : Hp} {w : World} (R : Rel g h w) (O : Ob) : ((h.alloc O).objs.map (·.1)).Nodup := by
  show (h.next :: h.objs.map (·.1)).Nodup
  rw [List.nodup_cons]
  refine ⟨fun hm => ?_, R.nd⟩
  obtain ⟨⟨k, o⟩, hko, rfl⟩ := List.mem_map.1 hm
  have := (R.ob h.next o (look_of_mem R.nd hko)).1
  rw [R.nx] at this
  omega
theorem get_set {h : Hp} {n : Nat} {O q : Ob} (hq : h.get n = some q) (m : Nat) : (h.set n O).get m = if m = n then some O else h.get m := look_upd m hq
theorem nodup_set {g : G} {h : Hp} {w : World} (R : Rel g h w) (n : Nat) (O : Ob) : ((h.set n O).objs.map (·.1)).Nodup := by
  show ((upd h.objs n O).map (·.1)).Nodup
  rw [upd_keys]; exact R.nd

/-- A new object in a new block. -/
theorem Rel.alloc {g : G} {h : Hp} {w w' : World} (R : Rel g h w) (O : Ob) (pl : Pl) (hb : pl.b = w.heap.size) (hw : ∀ b, b < w.heap.size → w'.heap[b]? = w.heap[b]?)
    (hO : ObRep (g.put h.next O.tot pl) w' h.next O) : Le g (g.put h.next O.tot pl) ∧ Rel (g.put h.next O.tot pl) (h.alloc O) w' := by
  refine R.put h.next O pl (.inr R.nx) ?_ (nodup_alloc R O) (fun m o hm => ?_) (.inl hb) (fun b hb' _ => hw b hb') hO
  · show h.next + 1 = max g.N (h.next + 1)
    rw [R.nx]; omega
  · rw [get_alloc] at hm
    split at hm
    · cases hm; exact .inl ⟨by assumption, rfl⟩
    · exact .inr ⟨by assumption, hm⟩

/-- An object is changed in its place; its length stays. -/
theorem Rel.set {g : G} {h : Hp} {w w' : World} (R : Rel g h w) {n : Nat} {O q : Ob} (hq : h.get n = some q) (ht : O.tot = q.tot)
    (hw : ∀ b, b < w.heap.size → b ≠ blk g n q → w'.heap[b]? = w.heap[b]?) (hO : ObRep g w' n O) : Rel g (h.set n O) w' := by
  obtain ⟨h1, h2, h3⟩ := R.ob n q hq
  have hpl : (g.put n O.tot (g.μ n O.tot)).φ = g.φ ∧ (g.put n O.tot (g.μ n O.tot)) = g := by
    refine ⟨rfl, ?_⟩
    cases g with
    | mk φ μ N B F =>
      simp only [G.put, G.mk.injEq, true_and, and_true]
      refine ⟨?_, by simp at h1; omega, ?_⟩
      · funext a b
        split
        · rename_i e; rw [e.1, e.2]
        · rfl
      · funext a
        split
        · rename_i e; subst e; rw [ht]; exact h2.symm
        · rfl
  have := R.put (h' := h.set n O) (w' := w') n O (g.μ n O.tot) (.inl ⟨h1, .inr ⟨by rw [ht, h2], rfl⟩⟩) (by show h.next = max g.N (n + 1); rw [R.nx]; omega) (nodup_set R n O)
    (fun m o hm => by
      rw [get_set hq] at hm
      split at hm
      · cases hm; exact .inl ⟨by assumption, rfl⟩
      · exact .inr ⟨by assumption, hm⟩)
    (.inr (.inl ⟨n, q, hq, by rw [ht]; rfl, fun m _ _ hmk => hmk⟩)) (fun b hb hne => hw b hb (by rw [ht] at hne; exact hne)) (by rw [hpl.2]; exact hO)
  rw [hpl.2] at this
  exact this.2

/-- What an operation on the heap gives. -/
def GivesH (P : Program) (g : G) (w : World) (s : Sem Value) (x : V) (h' : Hp) : Prop :=
  ∃ v w' g', s.run P w = .ok v w' ∧ Le g g' ∧ Rel g' h' w' ∧ Rep g' x v ∧ Fx w w'
def GivesU (P : Program) (g : G) (w : World) (s : Sem Unit) (h' : Hp) : Prop :=
  ∃ w' g', s.run P w = .ok () w' ∧ Le g g' ∧ Rel g' h' w' ∧ Fx w w'

theorem Gives.h {P : Program} {g : G} {h : Hp} {w : World} {s : Sem Value} {x : V} (R : Rel g h w) (hg : Gives P g w s x) : GivesH P g w s x h := by
  obtain ⟨v, hr, hx⟩ := hg
  exact ⟨v, w, g, hr, Le.refl g, R, hx, Fx.refl w⟩

theorem heap_alloc (w : World) (o : Obj) : (w.alloc o).heap[w.heap.size]? = some o ∧ (∀ b, b < w.heap.size → (w.alloc o).heap[b]? = w.heap[b]?) ∧ Fx w (w.alloc o) := by
  refine ⟨?_, fun b hb => ?_, ⟨rfl, rfl, rfl, ?_⟩⟩
  · show (w.heap.push o)[w.heap.size]? = some o
    simp
  · show (w.heap.push o)[b]? = w.heap[b]?
    rw [Array.getElem?_push, if_neg (by omega)]
  · show w.heap.size ≤ (w.heap.push o).size
    simp

theorem heap_setRow {w : World} {b : Nat} {c c' : Array Value} {ty : TypeId} (hb : w.heap[b]? = some (.cells c ty (0, 0))) :
    (w.setRow b c').heap[b]? = some (.cells c' ty (0, 0)) ∧ (∀ d, d < w.heap.size → d ≠ b → (w.setRow b c').heap[d]? = w.heap[d]?) ∧ Fx w (w.setRow b c') := by
  refine ⟨setRow_heap w b c c' ty (0, 0) hb, fun d hd hne => ?_, ⟨rfl, rfl, rfl, by simp [World.setRow]⟩⟩
  simp only [World.setRow, Array.getElem?_modify]
  rw [if_neg (fun e => hne e.symm)]

end Zv
