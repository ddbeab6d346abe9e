/-
  One operation of a region: the machine's and ZvVal's.
-/
import Derived.Test.YtfbkbopmenilkaaZwOpI
import Derived.Tactics
import Derived.Orders
set_option linter.unusedSimpArgs false
namespace Zv
open Go

/-! ### Equality that is computed -/
mutual
theorem D.beq_eq : ∀ {a b : D}, D.beq a b = true → a = b
  | .bool a, .bool b, h => by simp [D.beq] at h; rw [h]
  | .int k a, .int k' b, h => by simp [D.beq] at h; rw [h.1, h.2]
  | .str a, .str b, h => by simp [D.beq] at h; rw [h]
  | .nilp, .nilp, _ => rfl
  | .nilf, .nilf, _ => rfl
  | .nilm, .nilm, _ => rfl
  | .lst a, .lst b, h => congrArg D.lst (D.beqs_eq (by simpa [D.beq] using h))
  | .agg a, .agg b, h => congrArg D.agg (D.beqs_eq (by simpa [D.beq] using h))
  | .bool _, .int _ _, h | .bool _, .str _, h | .bool _, .nilp, h | .bool _, .nilf, h | .bool _, .nilm, h | .bool _, .lst _, h | .bool _, .agg _, h => by simp [D.beq] at h
  | .int _ _, .bool _, h | .int _ _, .str _, h | .int _ _, .nilp, h | .int _ _, .nilf, h | .int _ _, .nilm, h | .int _ _, .lst _, h | .int _ _, .agg _, h => by simp [D.beq] at h
  | .str _, .int _ _, h | .str _, .bool _, h | .str _, .nilp, h | .str _, .nilf, h | .str _, .nilm, h | .str _, .lst _, h | .str _, .agg _, h => by simp [D.beq] at h
  | .nilp, .int _ _, h | .nilp, .str _, h | .nilp, .bool _, h | .nilp, .nilf, h | .nilp, .nilm, h | .nilp, .lst _, h | .nilp, .agg _, h => by simp [D.beq] at h
  | .nilf, .int _ _, h | .nilf, .str _, h | .nilf, .bool _, h | .nilf, .nilp, h | .nilf, .nilm, h | .nilf, .lst _, h | .nilf, .agg _, h => by simp [D.beq] at h
  | .nilm, .int _ _, h | .nilm, .str _, h | .nilm, .bool _, h | .nilm, .nilp, h | .nilm, .nilf, h | .nilm, .lst _, h | .nilm, .agg _, h => by simp [D.beq] at h
  | .lst _, .int _ _, h | .lst _, .str _, h | .lst _, .bool _, h | .lst _, .nilp, h | .lst _, .nilf, h | .lst _, .nilm, h | .lst _, .agg _, h => by simp [D.beq] at h
  | .agg _, .int _ _, h | .agg _, .str _, h | .agg _, .bool _, h | .agg _, .nilp, h | .agg _, .nilf, h | .agg _, .nilm, h | .agg _, .lst _, h => by simp [D.beq] at h
theorem D.beqs_eq : ∀ {a b : List D}, D.beqs a b = true → a = b
  | [], [], _ => rfl
  | a :: r, b :: s, h => by simp only [D.beqs, Bool.and_eq_true] at h; rw [D.beq_eq h.1, D.beqs_eq h.2]
  | [], _ :: _, h => by simp [D.beqs] at h
  | _ :: _, [], h => by simp [D.beqs] at h
end
mutual
theorem D.beq_refl : ∀ a : D, D.beq a a = true
  | .bool _ | .int _ _ | .str _ | .nilp | .nilf | .nilm => by simp [D.beq]
  | .lst a | .agg a => by simp only [D.beq]; exact D.beqs_refl a
theorem D.beqs_refl : ∀ a : List D, D.beqs a a = true
  | [] => rfl
  | a :: r => by simp only [D.beqs, D.beq_refl a, D.beqs_refl r, Bool.and_self]
end

mutual
theorem V.beq_eq : ∀ {a b : V}, V.beq a b = true → a = b := by
  intro a b h
  cases a <;> cases b <;> simp only [V.beq, Bool.and_eq_true, beq_iff_eq, Bool.false_eq_true] at h
  · rw [D.beq_eq h]
  · rw [V.beqs_eq h.1, h.2]
  · obtain ⟨⟨⟨⟨rfl, rfl⟩, rfl⟩, rfl⟩, rfl⟩ := h; rfl
  · obtain ⟨⟨⟨rfl, rfl⟩, rfl⟩, rfl⟩ := h; rfl
  · rw [D.beq_eq h.1, h.2]
  · rw [h.1, V.beqs_eq h.2]
  · rw [V.beqs_eq h]
  · rw [V.beqs_eq h]
  · rw [h]
  · rw [h]
  · rfl
  · rfl
theorem V.beqs_eq : ∀ {a b : List V}, V.beqs a b = true → a = b
  | [], [], _ => rfl
  | a :: r, b :: s, h => by simp only [V.beqs, Bool.and_eq_true] at h; rw [V.beq_eq h.1, V.beqs_eq h.2]
  | [], _ :: _, h => by simp [V.beqs] at h
  | _ :: _, [], h => by simp [V.beqs] at h
end
mutual
theorem V.beq_refl : ∀ a : V, V.beq a a = true
  | .d x => by simp only [V.beq]; exact D.beq_refl x
  | .tl a n => by simp only [V.beq, V.beqs_refl a]; simp
  | .own .. | .ptr .. | .map .. | .yld .. | .ub | .undef => by simp [V.beq]
  | .fp x o => by simp only [V.beq, D.beq_refl x]; simp
  | .clo f a => by simp only [V.beq, V.beqs_refl a]; simp
  | .agg a | .tup a => by simp only [V.beq]; exact V.beqs_refl a
theorem V.beqs_refl : ∀ a : List V, V.beqs a a = true
  | [] => rfl
  | a :: r => by simp only [V.beqs, V.beq_refl a, V.beqs_refl r, Bool.and_self]
end
theorem kvsBeq_eq : ∀ {a b : List (D × V)}, kvsBeq a b = true → a = b
  | [], [], _ => rfl
  | (a, v) :: r, (b, u) :: s, h => by simp only [kvsBeq, Bool.and_eq_true] at h; rw [D.beq_eq h.1.1, V.beq_eq h.1.2, kvsBeq_eq h.2]
  | [], _ :: _, h => by simp [kvsBeq] at h
  | _ :: _, [], h => by simp [kvsBeq] at h
theorem kvsBeq_refl : ∀ a : List (D × V), kvsBeq a a = true
  | [] => rfl
  | (a, v) :: r => by simp only [kvsBeq, D.beq_refl, V.beq_refl, kvsBeq_refl r, Bool.and_self]
theorem envBeq_eq : ∀ {a b : List (Nat × V)}, envBeq a b = true → a = b
  | [], [], _ => rfl
  | (a, v) :: r, (b, u) :: s, h => by simp only [envBeq, Bool.and_eq_true, beq_iff_eq] at h; rw [h.1.1, V.beq_eq h.1.2, envBeq_eq h.2]
  | [], _ :: _, h => by simp [envBeq] at h
  | _ :: _, [], h => by simp [envBeq] at h
theorem envBeq_refl : ∀ a : List (Nat × V), envBeq a a = true
  | [] => rfl
  | (a, v) :: r => by simp only [envBeq, V.beq_refl, envBeq_refl r, Bool.and_self, beq_self_eq_true]
theorem Ob.beq_eq : ∀ {a b : Ob}, Ob.beq a b = true → a = b
  | .arr e l, .arr f m, h => by simp only [Ob.beq, Bool.and_eq_true, beq_iff_eq] at h; rw [h.1, V.beqs_eq h.2]
  | .mp a, .mp b, h => congrArg Ob.mp (kvsBeq_eq (by simpa [Ob.beq] using h))
  | .lp a e s, .lp b f t, h => by simp only [Ob.beq, Bool.and_eq_true, beq_iff_eq, decide_eq_true_eq] at h; rw [h.1.1, envBeq_eq h.1.2, h.2]
  | .lp _ _ _, .arr _ _, h => by simp [Ob.beq] at h
  | .lp _ _ _, .mp _, h => by simp [Ob.beq] at h
  | .arr _ _, .lp _ _ _, h => by simp [Ob.beq] at h
  | .mp _, .lp _ _ _, h => by simp [Ob.beq] at h
  | .arr _ _, .mp _, h => by simp [Ob.beq] at h
  | .mp _, .arr _ _, h => by simp [Ob.beq] at h
theorem Ob.beq_refl : ∀ a : Ob, Ob.beq a a = true
  | .arr e l => by simp [Ob.beq, V.beqs_refl]
  | .mp a => by simp [Ob.beq, kvsBeq_refl]
  | .lp a e s => by simp [Ob.beq, envBeq_refl]
theorem objsBeq_eq : ∀ {a b : List (Nat × Ob)}, objsBeq a b = true → a = b
  | [], [], _ => rfl
  | (n, a) :: r, (m, b) :: s, h => by simp only [objsBeq, Bool.and_eq_true, beq_iff_eq] at h; rw [h.1.1, Ob.beq_eq h.1.2, objsBeq_eq h.2]
  | [], _ :: _, h => by simp [objsBeq] at h
  | _ :: _, [], h => by simp [objsBeq] at h
theorem objsBeq_refl : ∀ a : List (Nat × Ob), objsBeq a a = true
  | [] => rfl
  | (n, a) :: r => by simp [objsBeq, Ob.beq_refl, objsBeq_refl r]

theorem quiet_eq {h : Hp} {r : V × Hp} {q : V × Hp} (H : quiet h r = some q) : q = r ∧ r.2 = h := by
  unfold quiet at H
  split at H
  · rename_i hc
    cases H
    obtain ⟨x, h2⟩ := r
    have := objsBeq_eq hc.1
    have e : h = h2 := by cases h; cases h2; simp_all
    subst e
    exact ⟨rfl, rfl⟩
  · cases H

/-! ### Operands -/
section
variable {P : Program} {g : G} {h : Hp} {w : World}

def mtOpd : Operand → Opd → Bool
  | .tmp t, .t n => t == n
  | .const v, .c x => rc x v
  | .func f, .c x => rc x (.func (.func f) #[] #[])
  | _, _ => false
def mtOpds : List Operand → List Opd → Bool
  | [], [] => true
  | x :: l, y :: m => mtOpd x y && mtOpds l m
  | _, _ => false
def mtOpdO : Option Operand → Option Opd → Bool
  | none, none => true
  | some x, some y => mtOpd x y
  | _, _ => false

def EnvRep (g : G) (e : Env) (a : Act) : Prop := ∀ t, Rep g (e.get t) (a.tmps.getD t undef)

theorem opd_ok {o : Operand} {x : Opd} {e : Env} {a : Act} (hm : mtOpd o x = true) (he : EnvRep g e a) : Rep g (e.ev x) (a.eval o) := by
  cases o <;> cases x <;> simp only [mtOpd, Bool.false_eq_true] at hm
  · have := eq_of_beq hm; subst this; exact he _
  · exact rc_ok hm
  · exact rc_ok hm
theorem opds_ok {e : Env} {a : Act} (he : EnvRep g e a) : ∀ {l : List Operand} {m : List Opd}, mtOpds l m = true → Reps g (m.map e.ev) (l.map a.eval)
  | [], [], _ => .nil
  | x :: l, y :: m, h => by
    simp only [mtOpds, Bool.and_eq_true] at h
    exact .cons _ _ _ _ (opd_ok h.1 he) (opds_ok he h.2)
  | [], _ :: _, h => by cases h
  | _ :: _, [], h => by cases h
theorem opdO_ok {o : Option Operand} {x : Option Opd} {e : Env} {a : Act} (hm : mtOpdO o x = true) (he : EnvRep g e a) : RepO g (x.map e.ev) (o.map a.eval) := by
  cases o <;> cases x <;> simp only [mtOpdO, Bool.false_eq_true] at hm
  · exact trivial
  · exact opd_ok hm he

/-! ### Operations -/

/-- The element type of a slice type, where its size and zero value are known. -/
def elT (P : Program) (t : TypeId) : Option (TypeId × TypeInfo × Value) :=
  match P.underlying t with
  | some (.slice e) => match P.info? e with
    | some i => match i.zero with
      | some z => some (e, i, z)
      | none => none
    | none => none
  | _ => none
theorem elT_ok {t e : TypeId} {i : TypeInfo} {z : Value} (H : elT P t = some (e, i, z)) : P.underlying t = some (.slice e) ∧ P.info? e = some i ∧ i.zero = some z := by
  unfold elT at H
  split at H
  · split at H
    · split at H
      · cases H; exact ⟨by assumption, by assumption, by assumption⟩
      · cases H
    · cases H
  · cases H

def zeroT (P : Program) (t : TypeId) : Option Value :=
  match P.info? t with
  | some i => i.zero
  | none => none
theorem zeroT_ok {t : TypeId} {z : Value} (H : zeroT P t = some z) : ∃ i, P.info? t = some i ∧ i.zero = some z := by
  unfold zeroT at H
  split at H
  · exact ⟨_, by assumption, H⟩
  · cases H

def fieldT (P : Program) (t : TypeId) (i : Nat) : Option Field :=
  match P.underlying t with
  | some (.struct fs) => fs[i]?
  | _ => none
theorem fieldT_ok {t : TypeId} {i : Nat} {f : Field} (H : fieldT P t i = some f) : ∃ fs, P.underlying t = some (.struct fs) ∧ fs[i]? = some f := by
  unfold fieldT at H
  split at H
  · exact ⟨_, by assumption, H⟩
  · cases H

def mtParts (P : Program) (fs : Array Field) : List (Nat × Operand) → List (Nat × Nat × Opd) → Bool
  | [], [] => true
  | (i, x) :: l, (off, sz, y) :: m => (match fs[i]? with
      | some f => f.offset == off && P.cellsOf f.type == sz
      | none => false) && mtOpd x y && mtParts P fs l m
  | _, _ => false
def mtSeq : Nat → List (Nat × Operand) → List Opd → Bool
  | _, [], [] => true
  | k, (i, x) :: l, y :: m => i == k && mtOpd x y && mtSeq (k + 1) l m
  | _, _, _ => false

def isNilC (k : NK) : Operand → Bool
  | .const (.pointer none) => decide (k = .p)
  | .const .nilFunc => decide (k = .f)
  | .const (.map none) => decide (k = .m)
  | .const (.slice none 0 0) => decide (k = .s)
  | _ => false
theorem isNilC_ok {k : NK} {o : Operand} (H : isNilC k o = true) (a : Act) : a.eval o = nilOf k := by
  unfold isNilC at H
  split at H <;> first | (have := of_decide_eq_true H; subst this; rfl) | cases H

def mtOp (P : Program) (o : Oper) (op : AOp) : Bool :=
  match op with
  | .mv x => match o.op with
    | .move y => mtOpd y x
    | .assign y => mtOpd y x
    | _ => false
  | .pick c a b => match o.op with
    | .pick c' a' b' => mtOpd c' c && mtOpd a' a && mtOpd b' b
    | _ => false
  | .alloc es z => match o.op with
    | .alloc t => match zeroT P t with
      | some zv => rc z zv && stor z && z.cells.length == es
      | none => false
    | _ => false
  | .box _ x => match o.op with
    | .box _ y => mtOpd y x
    | _ => false
  | .build z ps => match o.op with
    | .build t qs => match P.underlying t with
      | some (.struct fs) => (match zeroT P t with
        | some zv => rcLs z zv.cells.toList
        | none => false) && fs.toList.all (fun f => (P.info? f.type).isSome) && mtParts P fs qs.toList ps
      | _ => false
    | _ => false
  | .bsl es xs => match o.op with
    | .buildSlice t n qs => (match elT P t with
      | some (e, _, _) => P.cellsOf e == es
      | none => false) && xs.length == n && decide (n * es ≤ 2 ^ 24) && mtSeq 0 qs.toList xs
    | _ => false
  | .bslO es xs => match o.op with
    | .buildSlice t n qs => (match elT P t with
      | some (e, _, _) => P.cellsOf e == es
      | none => false) && xs.length == n && decide (n * es ≤ 2 ^ 24) && mtSeq 0 qs.toList xs
    | _ => false
  | .ld ag sz a => match o.op with
    | .load t b => (P.underlying t).isSome && (P.info? t).isSome && agOf P t == ag && P.cellsOf t == sz && mtOpd b a
    | _ => false
  | .ldf ag sz a => match o.op with
    | .load t b => (P.underlying t).isSome && (P.info? t).isSome && agOf P t == ag && P.cellsOf t == sz && mtOpd b a
    | _ => false
  | .st sz a x => match o.op with
    | .store t b y => (P.info? t).isSome && P.cellsOf t == sz && mtOpd b a && mtOpd y x
    | _ => false
  | .nilck x => match o.op with
    | .nilCheck y => mtOpd y x
    | _ => false
  | .bin op x y => match o.op with
    | .binOp op' _ x' y' _ => decide (op = op') && mtOpd x' x && mtOpd y' y
    | _ => false
  | .binB op x y => match o.op with
    | .binOp op' t x' y' _ => decide (op = op') && (match P.underlying t with
      | some .bool => true
      | _ => false) && mtOpd x' x && mtOpd y' y
    | _ => false
  | .nilBin k op x => match o.op with
    | .binOp op' t x' y' _ => decide (op = op') && nkOk P k t && ((isNilC k y' && mtOpd x' x) || (isNilC k x' && mtOpd y' x))
    | _ => false
  | .aggBin ks op x y => match o.op with
    | .binOp op' t x' y' _ => decide (op = op') && eqTyOk P ks t && mtOpd x' x && mtOpd y' y
    | _ => false
  | .un op x => match o.op with
    | .unOp op' _ x' => decide (op = op') && mtOpd x' x
    | _ => false
  | .conv k x => match o.op with
    | .convert s d y => (P.underlying s).isSome && (match P.underlying d with
      | some (.int q) => decide (q = k)
      | _ => false) && mtOpd y x
    | _ => false
  | .mkf f caps => match o.op with
    | .makeFunc (.func f') first cs => f == f' && first.isEmpty && mtOpds cs.toList caps
    | _ => false
  | .mkmap => match o.op with
    | .makeMap _ none => true
    | .makeMap t (some (.const (.int _ _))) => (match P.underlying t with
      | some (.map _ _) => true
      | _ => false)
    | _ => false
  | .mksl z es b n => match o.op with
    | .makeSlice t l c => (match elT P t with
      | some (e, i, zv) => P.cellsOf e == es && i.bytes == b && rc z zv && stor z && z.cells.length == es
      | none => false) && mtOpd l n && mtOpd c n
    | _ => false
  | .mkslT z b n => match o.op with
    | .makeSlice t l c => (match elT P t with
      | some (e, i, zv) => i.bytes == b && rc z zv && stor z && z.cells.length == P.cellsOf e
      | none => false) && mtOpd l n && mtOpd c n
    | _ => false
  | .slcS x lo hi => match o.op with
    | .slice t y lo' hi' none => (match P.underlying t with
      | some .string => true
      | _ => false) && mtOpd y x && mtOpdO lo' lo && mtOpdO hi' hi
    | _ => false
  | .slc es x lo hi => match o.op with
    | .slice t y lo' hi' none => (match P.underlying t with
      | some (.slice e) => (P.info? e).isSome && P.cellsOf e == es
      | _ => false) && mtOpd y x && mtOpdO lo' lo && mtOpdO hi' hi
    | _ => false
  | .slc3 es x lo hi mx => match o.op with
    | .slice t y lo' hi' mx' => (match P.underlying t with
      | some (.slice e) => (P.info? e).isSome && P.cellsOf e == es
      | _ => false) && mtOpd y x && mtOpdO lo' lo && mtOpdO hi' hi && mtOpdO mx' mx && hi.isSome && mx.isSome
    | _ => false
  | .fa off x => match o.op with
    | .fieldAddr t y i => (match fieldT P t i with
      | some f => f.offset == off && (P.info? f.type).isSome && !(P.cellsOf f.type == 0)
      | none => false) && mtOpd y x
    | _ => false
  | .fld ag off sz x => match o.op with
    | .field t y i => (match fieldT P t i with
      | some f => f.offset == off && (P.underlying f.type).isSome && (P.info? f.type).isSome && agOf P f.type == ag && P.cellsOf f.type == sz
      | none => false) && mtOpd y x
    | _ => false
  | .ia es x i => match o.op with
    | .indexAddr t y j => (match P.underlying t with
      | some (.slice e) => (P.info? e).isSome && P.cellsOf e == es
      | _ => false) && mtOpd y x && mtOpd j i
    | _ => false
  | .ixS x i => match o.op with
    | .index t y j => (match P.underlying t with
      | some .string => true
      | _ => false) && mtOpd y x && mtOpd j i
    | _ => false
  | .lk kk z ok m k => match o.op with
    | .lookup t x y ok' => (match P.underlying t with
      | some (.map q e) => kkOk P kk q && (match zeroT P e with
        | some zv => rc z zv
        | none => false)
      | _ => false) && ok == ok' && mtOpd x m && mtOpd y k
    | _ => false
  | .mu kk m k x => match o.op with
    | .mapUpdate t m' k' x' => (match P.underlying t with
      | some (.map q _) => kkOk P kk q
      | _ => false) && mtOpd m' m && mtOpd k' k && mtOpd x' x
    | .insert t m' k' x' => (match P.underlying t with
      | some (.map q _) => kkOk P kk q
      | _ => false) && mtOpd m' m && mtOpd k' k && mtOpd x' x
    | _ => false
  | .lenS x => match o.op with
    | .call ⟨.builtin .len, ⟨[y]⟩, ⟨[t]⟩⟩ => (match P.underlying t with
      | some .string => true
      | _ => false) && mtOpd y x
    | _ => false
  | .lenL x => match o.op with
    | .call ⟨.builtin .len, ⟨[y]⟩, ⟨[t]⟩⟩ => (match P.underlying t with
      | some (.slice _) => true
      | _ => false) && mtOpd y x
    | _ => false
  | .lenM x => match o.op with
    | .call ⟨.builtin .len, ⟨[y]⟩, ⟨[t]⟩⟩ => (match P.underlying t with
      | some (.map _ _) => true
      | _ => false) && mtOpd y x
    | _ => false
  | .app es b s x => match o.op with
    | .call ⟨.builtin .append, ⟨[s', x']⟩, ⟨[t, t2]⟩⟩ => (match elT P t with
      | some (e, i, zv) => P.cellsOf e == es && i.bytes == b && decide (1 ≤ b) && zv.cells.size == es
      | none => false) && (match P.underlying t2 with
      | some (.slice _) => true
      | _ => false) && mtOpd s' s && mtOpd x' x
    | _ => false
  | .appn es b s x => match o.op with
    | .call ⟨.builtin .append, ⟨[s', x']⟩, ⟨[t, t2]⟩⟩ => (match elT P t with
      | some (e, i, zv) => P.cellsOf e == es && i.bytes == b && decide (1 ≤ b) && zv.cells.size == es
      | none => false) && (match P.underlying t2 with
      | some (.slice _) => true
      | _ => false) && mtOpd s' s && mtOpd x' x
    | _ => false
  | .appf es b s x => match o.op with
    | .call ⟨.builtin .append, ⟨[s', x']⟩, ⟨[t, t2]⟩⟩ => (match elT P t with
      | some (e, i, zv) => P.cellsOf e == es && i.bytes == b && decide (1 ≤ b) && zv.cells.size == es
      | none => false) && (match P.underlying t2 with
      | some (.slice _) => true
      | _ => false) && mtOpd s' s && mtOpd x' x
    | _ => false
  | .appd es b s x => match o.op with
    | .call ⟨.builtin .append, ⟨[s', x']⟩, ⟨[t, t2]⟩⟩ => (match elT P t with
      | some (e, i, zv) => P.cellsOf e == es && i.bytes == b && decide (1 ≤ b) && zv.cells.size == es
      | none => false) && (match P.underlying t2 with
      | some (.slice _) => true
      | _ => false) && mtOpd s' s && mtOpd x' x
    | _ => false
  | .cpy es s x => match o.op with
    | .call ⟨.builtin .copy, ⟨[s', x']⟩, ⟨[t, _]⟩⟩ => (match elT P t with
      | some (e, _, _) => P.cellsOf e == es
      | none => false) && mtOpd s' s && mtOpd x' x
    | _ => false
  | .ext i x => match o.op with
    | .extract y j => i == j && mtOpd y x
    | _ => false
  | .call f nm xs => match o.op with
    | .call ⟨.value f', args, _⟩ => mtOpd f' f && mtOpds args.toList xs && nm.length == xs.length
    | _ => false
  | .calln f nm xs => match o.op with
    | .call ⟨.value f', args, _⟩ => mtOpd f' f && mtOpds args.toList xs && nm.length == xs.length
    | _ => false

end
end Zv
