/-
  The pure operations of ZvVal are the machine's.
-/
import Derived.Test.YtfbkbopmenilkaaZwRep
import Derived.Laws.Sem
import Derived.Laws.Cells
import Derived.Laws.CopyRow
import Derived.Laws.Strings
import Derived.Laws.Entries
import Derived.Laws.Cover3
import Derived.WideShapes
set_option linter.unusedSimpArgs false
namespace Zv
open Go

section
variable {P : Program} {g : G} {w : World}

theorem str_beq (a b : ByteArray) : (a.toList == b.toList) = decide (a = b) := by
  rw [ByteArray.toList_eq, ByteArray.toList_eq]
  by_cases h : a = b
  · subst h; simp
  · have : ¬ a.data.toList = b.data.toList := fun e => h (WideShapes.bytes_inj e)
    rw [decide_eq_false h]
    exact beq_eq_false_iff_ne.2 this

theorem ba_beq (a b : ByteArray) : (a == b) = decide (a = b) := by
  obtain ⟨x⟩ := a
  obtain ⟨y⟩ := b
  have e : ((⟨x⟩ : ByteArray) == ⟨y⟩) = (x == y) := rfl
  rw [e, Bool.eq_iff_iff]
  simp

theorem Rep.dI {x : D} {v : Value} (h : Rep g (.d x) v) : RepD g.φ x v := by cases h; assumption
theorem Rep.intI {k : IntKind} {n : Int} {v : Value} (h : Rep g (.d (.int k n)) v) : v = .int k n := by cases h.dI; rfl
theorem Rep.boolI {b : Bool} {v : Value} (h : Rep g (.d (.bool b)) v) : v = .bool b := by cases h.dI; rfl
theorem Rep.strI {s : ByteArray} {v : Value} (h : Rep g (.d (.str s)) v) : v = .string s := by cases h.dI; rfl

/-- What an operation on values gives. -/
def Gives (P : Program) (g : G) (w : World) (s : Sem Value) (x : V) : Prop := ∃ v, s.run P w = .ok v w ∧ Rep g x v

theorem intBin_ok {op : BinOp} {k : IntKind} {a b : Int} {z : V} (t : TypeId) (h : intBin op k a b = some z) : Gives P g w (binOp op t (.int k a) (.int k b)) z := by
  cases op
  case add => cases h; exact ⟨.int k (k.wrap (a + b)), by simp [binOp, Op.intArith], .d _ _ (.int _ _)⟩
  case sub => cases h; exact ⟨.int k (k.wrap (a - b)), by simp [binOp, Op.intArith], .d _ _ (.int _ _)⟩
  case mul => cases h; exact ⟨.int k (k.wrap (a * b)), by simp [binOp, Op.intArith], .d _ _ (.int _ _)⟩
  case quo =>
    simp only [intBin] at h
    by_cases hb : b = 0
    · rw [if_pos hb] at h; cases h
    · rw [if_neg hb] at h; cases h; exact ⟨.int k (k.wrap (a.tdiv b)), by simp [binOp, Op.intDiv, hb], .d _ _ (.int _ _)⟩
  case rem =>
    simp only [intBin] at h
    by_cases hb : b = 0
    · rw [if_pos hb] at h; cases h
    · rw [if_neg hb] at h; cases h; exact ⟨.int k (a.tmod b), by simp [binOp, Op.intDiv, hb], .d _ _ (.int _ _)⟩
  case eql => cases h; exact ⟨.bool (a == b), by simp [binOp, Op.intCmp], .d _ _ (.bool _)⟩
  case neq => cases h; exact ⟨.bool (a != b), by simp [binOp, Op.intCmp], .d _ _ (.bool _)⟩
  case lss => cases h; exact ⟨.bool (decide (a < b)), by simp [binOp, Op.intCmp], .d _ _ (.bool _)⟩
  case leq => cases h; exact ⟨.bool (decide (a ≤ b)), by simp [binOp, Op.intCmp], .d _ _ (.bool _)⟩
  case gtr => cases h; exact ⟨.bool (decide (a > b)), by simp [binOp, Op.intCmp], .d _ _ (.bool _)⟩
  case geq => cases h; exact ⟨.bool (decide (a ≥ b)), by simp [binOp, Op.intCmp], .d _ _ (.bool _)⟩
  all_goals cases h

theorem strBin_ok {op : BinOp} {a b : ByteArray} {z : V} (t : TypeId) (h : strBin op a b = some z) : Gives P g w (binOp op t (.string a) (.string b)) z := by
  cases op
  case add =>
    simp only [strBin] at h
    by_cases hb : a.size + b.size ≤ 2 ^ 62
    · rw [if_pos hb] at h
      cases h
      refine ⟨.string (a ++ b), ?_, .d _ _ (.str _)⟩
      have h2 : a.size + b.size ≤ 4611686018427387904 := by simpa using hb
      have : ¬ ((a.size + b.size : Nat) : Int) > IntKind.i64.max := by
        have e : IntKind.i64.max = 9223372036854775807 := rfl
        rw [e]; omega
      simp only [binOp, Op.stringOp, if_neg this]
      rfl
    · rw [if_neg hb] at h; cases h
  case eql => cases h; exact ⟨.bool (decide (a = b)), by simp [binOp, Op.stringOp, str_beq], .d _ _ (.bool _)⟩
  case neq => cases h; exact ⟨.bool (!decide (a = b)), by simp [binOp, Op.stringOp, str_beq], .d _ _ (.bool _)⟩
  case lss => cases h; exact ⟨.bool (Op.bytesLess a.toList b.toList), by simp [binOp, Op.stringOp], .d _ _ (.bool _)⟩
  all_goals cases h

theorem bin_ok {op : BinOp} {x y z : V} {a b : Value} (t : TypeId) (h : bin op x y = some z) (ha : Rep g x a) (hb : Rep g y b) : Gives P g w (binOp op t a b) z := by
  unfold bin at h
  split at h
  · cases ha with | d _ _ ha => cases hb with | d _ _ hb =>
    cases ha; cases hb
    split at h
    · rename_i e; subst e; exact intBin_ok t h
    · cases h
  · cases ha with | d _ _ ha => cases hb with | d _ _ hb =>
    cases ha; cases hb
    exact strBin_ok t h
  · cases h

theorem eqIn_bool {t : TypeId} (ht : P.underlying t = some .bool) (d : Nat) (p q : Bool) : (Op.equalIn (d + 1) t (.bool p) (.bool q)).run P w = .ok (p == q) w := by
  simp [Op.equalIn, run_underlying ht]
theorem eq_bool {t : TypeId} (ht : P.underlying t = some .bool) (p q : Bool) : (Op.equal t (.bool p) (.bool q)).run P w = .ok (p == q) w := eqIn_bool ht 9999 p q

theorem binB_ok {op : BinOp} {x y z : V} {a b : Value} {t : TypeId} (ht : P.underlying t = some .bool) (h : binB op x y = some z) (ha : Rep g x a) (hb : Rep g y b) : Gives P g w (binOp op t a b) z := by
  unfold binB at h
  split at h
  · rename_i p q
    cases ha with | d _ _ ha => cases hb with | d _ _ hb =>
    cases ha; cases hb
    cases op
    case eql => cases h; exact ⟨.bool (p == q), by simp only [binOp, Sem.run_bind, eq_bool ht, Result.andThen_ok, Sem.run_pure], .d _ _ (.bool _)⟩
    case neq => cases h; exact ⟨.bool (!(p == q)), by simp only [binOp, Sem.run_bind, eq_bool ht, Result.andThen_ok, Sem.run_pure], .d _ _ (.bool _)⟩
    all_goals cases h
  · cases h

/-- Does a type have the kind of nil? -/
def nkOk (P : Program) (k : NK) (t : TypeId) : Bool :=
  match k, P.underlying t with
  | .p, some (.pointer _) => true
  | .f, some (.func ..) => true
  | .m, some (.map ..) => true
  | .s, some (.slice _) => true
  | _, _ => false
def nilOf : NK → Value
  | .p => .pointer none
  | .f => .nilFunc
  | .m => .map none
  | .s => .slice none 0 0

theorem eqIn_pp {t e : TypeId} (ht : P.underlying t = some (.pointer e)) (d : Nat) : (Op.equalIn (d + 1) t (.pointer none) (.pointer none)).run P w = .ok true w := by
  simp [Op.equalIn, run_underlying ht]
theorem eqIn_p {t e : TypeId} (ht : P.underlying t = some (.pointer e)) (d : Nat) (a : Addr) :
    (Op.equalIn (d + 1) t (.pointer (some a)) (.pointer none)).run P w = .ok false w ∧ (Op.equalIn (d + 1) t (.pointer none) (.pointer (some a))).run P w = .ok false w := by
  simp [Op.equalIn, run_underlying ht]
theorem eqIn_ff {t : TypeId} {a b : Array TypeId} {c : Bool} (ht : P.underlying t = some (.func a b c)) (d : Nat) : (Op.equalIn (d + 1) t .nilFunc .nilFunc).run P w = .ok true w := by
  simp [Op.equalIn, run_underlying ht]
theorem eqIn_f {t : TypeId} {a b : Array TypeId} {c : Bool} (ht : P.underlying t = some (.func a b c)) (d : Nat) (f : Go.Fn) (x y : Array Value) :
    (Op.equalIn (d + 1) t (.func f x y) .nilFunc).run P w = .ok false w ∧ (Op.equalIn (d + 1) t .nilFunc (.func f x y)).run P w = .ok false w := by
  simp [Op.equalIn, run_underlying ht]
theorem eqIn_m {t a b : TypeId} (ht : P.underlying t = some (.map a b)) (d : Nat) (r : Option Nat) :
    (Op.equalIn (d + 1) t (.map r) (.map none)).run P w = .ok r.isNone w ∧ (Op.equalIn (d + 1) t (.map none) (.map r)).run P w = .ok r.isNone w := by
  cases r <;> simp [Op.equalIn, run_underlying ht]
theorem eqIn_s {t e : TypeId} (ht : P.underlying t = some (.slice e)) (d : Nat) (a : Option Addr) (l c : Nat) :
    (Op.equalIn (d + 1) t (.slice a l c) (.slice none 0 0)).run P w = .ok a.isNone w ∧ (Op.equalIn (d + 1) t (.slice none 0 0) (.slice a l c)).run P w = .ok a.isNone w := by
  cases a <;> simp [Op.equalIn, run_underlying ht]

theorem isNil_eqIn {k : NK} {x : V} {a : Value} {b : Bool} {t : TypeId} (d : Nat) (hk : nkOk P k t = true) (h : isNil k x = some b) (ha : Rep g x a) :
    (Op.equalIn (d + 1) t a (nilOf k)).run P w = .ok b w ∧ (Op.equalIn (d + 1) t (nilOf k) a).run P w = .ok b w := by
  cases k with
  | p =>
    have ht : ∃ e, P.underlying t = some (.pointer e) := by
      simp only [nkOk] at hk; split at hk <;> simp_all
    obtain ⟨e, ht⟩ := ht
    cases x <;> simp only [isNil] at h <;> first | cases h | skip
    · rename_i y
      cases y <;> simp only [isNil] at h <;> first | cases h | skip
      cases ha.dI
      exact ⟨eqIn_pp ht d, eqIn_pp ht d⟩
    · cases ha; exact eqIn_p ht d _
    · cases ha; exact eqIn_p ht d _
  | f =>
    have ht : ∃ a b c, P.underlying t = some (.func a b c) := by
      simp only [nkOk] at hk; split at hk <;> simp_all
    obtain ⟨_, _, _, ht⟩ := ht
    cases x <;> simp only [isNil] at h <;> first | cases h | skip
    · rename_i y
      cases y <;> simp only [isNil] at h <;> first | cases h | skip
      cases ha.dI
      exact ⟨eqIn_ff ht d, eqIn_ff ht d⟩
    · cases ha; exact eqIn_f ht d _ _ _
    · cases ha; exact eqIn_f ht d _ _ _
  | m =>
    have ht : ∃ a b, P.underlying t = some (.map a b) := by
      simp only [nkOk] at hk; split at hk <;> simp_all
    obtain ⟨_, _, ht⟩ := ht
    cases x <;> simp only [isNil] at h <;> first | cases h | skip
    · rename_i y
      cases y <;> simp only [isNil] at h <;> first | cases h | skip
      cases ha.dI
      exact eqIn_m ht d none
    · cases ha; exact eqIn_m ht d (some _)
  | s =>
    have ht : ∃ e, P.underlying t = some (.slice e) := by
      simp only [nkOk] at hk; split at hk <;> simp_all
    obtain ⟨e, ht⟩ := ht
    have key : ∃ q l c, a = .slice q l c ∧ q.isNone = b := by
      cases x with
      | d y =>
        cases y with
        | lst l =>
          cases l with
          | nil => cases h
          | cons y l =>
            cases h
            have hd := ha.dI
            clear ha
            cases hd with | lst _ es cap a vs hes hc hr hz =>
            rcases hz with hz | ⟨b', p, rfl, _⟩
            · cases hz
            · exact ⟨_, _, _, rfl, rfl⟩
        | _ => cases h
      | tl l nl =>
        cases ha with | tl _ _ es a vs hes hr ha hn hf =>
        cases l with
        | nil =>
          have hq := hn b h
          refine ⟨_, _, _, rfl, ?_⟩
          cases a with
          | none => exact (hq.2 rfl).symm
          | some a => cases b with
            | false => rfl
            | true => exact absurd (hq.1 rfl) (by simp)
        | cons y l =>
          cases h
          rcases ha with ha | ⟨b', p, rfl, _⟩
          · cases ha
          · exact ⟨_, _, _, rfl, rfl⟩
      | own n es tot off len => cases h; cases ha; exact ⟨_, _, _, rfl, rfl⟩
      | _ => cases h
    obtain ⟨q, l, c, rfl, rfl⟩ := key
    exact eqIn_s ht d q l c

theorem ub_eqIn {k : NK} {x : V} {z : V} {a : Value} {t : TypeId} (d : Nat) (hk : nkOk P k t = true) (h : ubOf k x = some z) (ha : Rep g x a) :
    z = .ub ∧ ∃ b, (Op.equalIn (d + 1) t a (nilOf k)).run P w = .ok b w ∧ (Op.equalIn (d + 1) t (nilOf k) a).run P w = .ok b w := by
  have key : ∃ q l c, k = .s ∧ z = .ub ∧ a = .slice q l c := by
    unfold ubOf at h
    split at h
    · cases h
      have hd := ha.dI
      cases hd with | lst _ es cap a vs hes hc hr hz => exact ⟨_, _, _, rfl, rfl, rfl⟩
    · cases h
      cases ha with | tl _ _ es a vs hes hr ha hn hf => exact ⟨_, _, _, rfl, rfl, rfl⟩
    · cases h
  obtain ⟨q, l, c, rfl, rfl, rfl⟩ := key
  have ht : ∃ e, P.underlying t = some (.slice e) := by
    simp only [nkOk] at hk; split at hk <;> simp_all
  obtain ⟨e, ht⟩ := ht
  obtain ⟨e1, e2⟩ := eqIn_s (w := w) ht d q l c
  exact ⟨rfl, _, e1, e2⟩
theorem nilBin_ok {k : NK} {op : BinOp} {x z : V} {a : Value} {t : TypeId} (hk : nkOk P k t = true) (h : nilBin k op x = some z) (ha : Rep g x a) :
    Gives P g w (binOp op t a (nilOf k)) z ∧ Gives P g w (binOp op t (nilOf k) a) z := by
  have hx : ∃ b, ((Op.equalIn (9999 + 1) t a (nilOf k)).run P w = .ok b w ∧ (Op.equalIn (9999 + 1) t (nilOf k) a).run P w = .ok b w) ∧ ((op = .eql ∧ Rep g z (.bool b)) ∨ (op = .neq ∧ Rep g z (.bool (!b)))) := by
    unfold nilBin at h
    split at h
    · rename_i b hb; cases h; exact ⟨b, isNil_eqIn (w := w) 9999 hk hb ha, .inl ⟨rfl, .d _ _ (.bool _)⟩⟩
    · rename_i b hb; cases h; exact ⟨b, isNil_eqIn (w := w) 9999 hk hb ha, .inr ⟨rfl, .d _ _ (.bool _)⟩⟩
    · obtain ⟨rfl, b, e⟩ := ub_eqIn (w := w) 9999 hk h ha
      exact ⟨b, e, .inl ⟨rfl, .ub _⟩⟩
    · obtain ⟨rfl, b, e⟩ := ub_eqIn (w := w) 9999 hk h ha
      exact ⟨b, e, .inr ⟨rfl, .ub _⟩⟩
    · cases h
  obtain ⟨b, ⟨e1, e2⟩, hz⟩ := hx
  have e1' : (Op.equal t a (nilOf k)).run P w = .ok b w := e1
  have e2' : (Op.equal t (nilOf k) a).run P w = .ok b w := e2
  have b1 : binOp .eql t a (nilOf k) = (do pure (.bool (← Op.equal t a (nilOf k)))) ∧ binOp .neq t a (nilOf k) = (do pure (.bool (!(← Op.equal t a (nilOf k))))) := by
    cases k <;> cases a <;> exact ⟨rfl, rfl⟩
  have b2 : binOp .eql t (nilOf k) a = (do pure (.bool (← Op.equal t (nilOf k) a))) ∧ binOp .neq t (nilOf k) a = (do pure (.bool (!(← Op.equal t (nilOf k) a)))) := by
    cases k <;> cases a <;> exact ⟨rfl, rfl⟩
  rcases hz with ⟨rfl, hz⟩ | ⟨rfl, hz⟩
  · exact ⟨⟨.bool b, by rw [b1.1]; simp only [Sem.run_bind, e1', Result.andThen_ok, Sem.run_pure], hz⟩, ⟨.bool b, by rw [b2.1]; simp only [Sem.run_bind, e2', Result.andThen_ok, Sem.run_pure], hz⟩⟩
  · exact ⟨⟨.bool (!b), by rw [b1.2]; simp only [Sem.run_bind, e1', Result.andThen_ok, Sem.run_pure], hz⟩, ⟨.bool (!b), by rw [b2.2]; simp only [Sem.run_bind, e2', Result.andThen_ok, Sem.run_pure], hz⟩⟩

theorem un_ok {op : UnOp} {x z : V} {a : Value} (h : un op x = some z) (ha : Rep g x a) : Gives P g w (Op.unary op a) z := by
  unfold un at h
  split at h
  · rename_i b
    obtain rfl := ha.boolI
    cases op
    case not => cases h; exact ⟨.bool (!b), rfl, .d _ _ (.bool _)⟩
    all_goals cases h
  · rename_i k n
    obtain rfl := ha.intI
    cases op
    case neg => cases h; exact ⟨.int k (k.wrap (0 - n)), rfl, .d _ _ (.int _ _)⟩
    all_goals cases h
  · cases h

theorem conv_ok {k : IntKind} {x z : V} {a : Value} {s t : TypeId} (hs : (P.underlying s).isSome = true) (ht : P.underlying t = some (.int k)) (h : conv k x = some z) (ha : Rep g x a) :
    Gives P g w (convert s t a) z := by
  unfold conv at h
  split at h
  · rename_i q n
    obtain rfl := ha.intI
    cases h
    obtain ⟨d, hd⟩ := Option.isSome_iff_exists.mp hs
    exact ⟨.int k (k.wrap n), by simp [convert, run_underlying hd, run_underlying ht, Conv.intToInt], .d _ _ (.int _ _)⟩
  · cases h

theorem pick_ok {x y z u : V} {c a b : Value} (h : pick x y z = some u) (hc : Rep g x c) (ha : Rep g y a) (hb : Rep g z b) :
    Gives P g w (do pure (if ← asBool c then a else b)) u := by
  unfold pick at h
  split at h
  · rename_i q
    obtain rfl := hc.boolI
    cases h
    cases q
    · exact ⟨b, rfl, hb⟩
    · exact ⟨a, rfl, ha⟩
  · cases h

theorem nilck_ok {x z : V} {a : Value} (h : nilck x = some z) (ha : Rep g x a) : z = x ∧ (∀ (s : Sem Next), (match a with
    | .pointer none | .nilIface | .nilFunc => s
    | .func (.method name) first captured =>
      match (first[0]? : Option Value) with
      | some .nilIface => runtimePanic .nilDeref
      | some (.iface t w) => do
        if (← nilAhead ((← program).types.size + Made.depth) t w name) != some false then
          unsupported (.noEntry "op/nilCheck.the method's receiver behind this interface value is a nil pointer, or cannot be seen to be none, and the arguments act or may panic (ledger 612)")
        pure (.value (.func (.method name) first captured))
      | _ => pure (.value (.func (.method name) first captured))
    | x => pure (.value x)) = pure (.value a)) := by
  unfold nilck at h
  split at h <;> first | cases h | skip
  · cases ha; exact ⟨rfl, fun _ => rfl⟩
  · cases ha; exact ⟨rfl, fun _ => rfl⟩
  · cases ha; exact ⟨rfl, fun _ => rfl⟩

theorem ixOf_ok {x : V} {n : Nat} {a : Value} (h : ixOf x = some n) (ha : Rep g x a) : ∃ k : IntKind, a = .int k (n : Int) := by
  unfold ixOf at h
  split at h
  · rename_i k i
    by_cases hi : 0 ≤ i
    · rw [if_pos hi] at h
      cases h
      exact ⟨k, by rw [ha.intI, Int.toNat_of_nonneg hi]⟩
    · rw [if_neg hi] at h; cases h
  · cases h

theorem lenS_ok {x z : V} {a : Value} {t ty : TypeId} (ht : P.underlying t = some .string) (h : lenS x = some z) (ha : Rep g x a) : Gives P g w (Builtin.len_ #[t] ty #[a]) z := by
  unfold lenS at h
  split at h
  · rename_i s
    obtain rfl := ha.strI
    cases h
    exact ⟨.int .i64 s.size, by simp [Builtin.len_, run_underlying ht, goInt], .d _ _ (.int _ _)⟩
  · cases h

theorem lenL_ok {x z : V} {a : Value} {t e ty : TypeId} (ht : P.underlying t = some (.slice e)) (h : lenL x = some z) (ha : Rep g x a) : Gives P g w (Builtin.len_ #[t] ty #[a]) z := by
  unfold lenL at h
  split at h
  · rename_i l
    cases ha.dI with | lst _ es cap a vs hes hc hr ha =>
    cases h
    exact ⟨.int .i64 l.length, by simp [Builtin.len_, run_underlying ht, goInt], .d _ _ (.int _ _)⟩
  · rename_i l nl
    cases ha with | tl _ _ es a vs hes hr ha hn hf =>
    cases h
    exact ⟨.int .i64 l.length, by simp [Builtin.len_, run_underlying ht, goInt], .d _ _ (.int _ _)⟩
  · rename_i n es tot off len
    cases ha
    cases h
    exact ⟨.int .i64 len, by simp [Builtin.len_, run_underlying ht, goInt], .d _ _ (.int _ _)⟩
  · cases h

theorem ext_ok {i : Nat} {x z : V} {a : Value} (h : ext i x = some z) (ha : Rep g x a) : Gives P g w (Instr.extract a i) z := by
  unfold ext at h
  split at h
  · cases ha with | tup l vs hr =>
    obtain ⟨v, hv, hz⟩ := hr.get h
    exact ⟨v, by simp [Instr.extract, hv], hz⟩
  · cases h

end
end Zv
