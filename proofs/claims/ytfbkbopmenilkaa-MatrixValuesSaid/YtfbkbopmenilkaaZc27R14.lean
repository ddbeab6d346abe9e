/-
  Parts of the proof.
-/
import Derived.Test.YtfbkbopmenilkaaZwStep
import Derived.Test.YtfbkbopmenilkaaTab
import Derived.KernelRfl
section
set_option linter.unusedSimpArgs false
set_option linter.unusedVariables false
set_option linter.unusedSimpArgs false
namespace Zs
open Go Zv

/-- The code ends, with something that Q says. -/
def wp (T : Tab) (c : AC) (e : Env) (h : Hp) (Q : Out → Prop) : Prop := ∃ o, ex T c e h = some o ∧ Q o
def seqQ (T : Tab) (b : AC) (Q : Out → Prop) (o : Out) : Prop := match o.1 with
  | .norm => wp T b o.2.1 o.2.2 Q
  | _ => Q o
def blkQ (id : Nat) (Q : Out → Prop) (o : Out) : Prop := Q (if o.1 = .exit id then .norm else o.1, o.2)
def donQ (fn : AF) (h : Hp) (R : Option (V × Hp) → Prop) (o : Out) : Prop := R (done fn h o)
/-- Items, and then what K says of their end. -/
def wpI (cf : Cf) (its : List It) (e : Env) (h : Hp) (K : Env → Hp → Prop) : Prop := ∃ s, itsX cf its e h = some s ∧ K s.1 s.2
def regQ (kp : Option (List Nat)) (Q : Out → Prop) (e : Env) (h : Hp) : Prop := Q (.norm, keepE kp e, h)
/-- A value that is there, and then the other items. -/
def wpO (cf : Cf) (dst : Option Nat) (e : Env) (r : List It) (K : Env → Hp → Prop) : Option (V × Hp) → Prop
  | none => False
  | some s => wpI cf r (e.putO dst s.1) s.2 K
def wpG (cf : Cf) (dst : Option Nat) (op : AOp) (e : Env) (h : Hp) (r : List It) (K : Env → Hp → Prop) : Option Bool → Prop
  | none => False
  | some true => wpO cf dst e r K (opX cf e h op)
  | some false => wpI cf r (e.putO dst (.tup [])) h K
def wpC (T : Tab) (a b : AC) (e : Env) (h : Hp) (Q : Out → Prop) : Option Bool → Prop
  | none => False
  | some true => wp T a e h Q
  | some false => wp T b e h Q
def wpE (cf : Cf) (r : List It) (K : Env → Hp → Prop) : Option (Env × Hp) → Prop
  | none => False
  | some s => wpI cf r s.1 s.2 K

theorem call_wp {T : Tab} {f : Nat} {fn : AF} {vs : List V} {h : Hp} {r : V × Hp} (hT : T f = some fn) (hn : vs.length = fn.np) (H : wp T fn.body (args 0 vs) h (donQ fn h (· = some r))) (hf : f < RB := by decide) : callW T f vs h = some r := by
  obtain ⟨o, h1, h2⟩ := H
  cases hp : isPr fn.body with
  | none => rw [callW_fn hT hn h hp hf, h1]; exact h2
  | some k =>
    have hb : fn.body = .exit k := by unfold isPr at hp; split at hp <;> first | (cases hp; assumption) | cases hp
    rw [hb] at h1; cases h1; cases h2
theorem call_wpE {T : Tab} {f : Nat} {fn : AF} {vs : List V} {h : Hp} {R : V × Hp → Prop} (hT : T f = some fn) (hn : vs.length = fn.np) (H : wp T fn.body (args 0 vs) h (donQ fn h (fun q => ∃ r, q = some r ∧ R r))) (hf : f < RB := by decide) : ∃ r, callW T f vs h = some r ∧ R r := by
  obtain ⟨o, h1, r, h2, h3⟩ := H
  cases hp : isPr fn.body with
  | none => exact ⟨r, by rw [callW_fn hT hn h hp hf, h1]; exact h2, h3⟩
  | some k =>
    have hb : fn.body = .exit k := by unfold isPr at hp; split at hp <;> first | (cases hp; assumption) | cases hp
    rw [hb] at h1; cases h1; cases h2
theorem wq_of {T : Tab} {c : AC} {e : Env} {h : Hp} {o : Out} (H : ex T c e h = some o) (Q : Out → Prop) : wp T c e h Q = Q o := by
  apply propext
  constructor
  · rintro ⟨o', h1, h2⟩; rw [H] at h1; cases h1; exact h2
  · intro hq; exact ⟨o, H, hq⟩
theorem wq_ex {T : Tab} {c : AC} {e : Env} {h : Hp} {o : Out} : wp T c e h (· = o) ↔ ex T c e h = some o :=
  ⟨fun ⟨_, h1, h2⟩ => h2 ▸ h1, fun H => ⟨o, H, rfl⟩⟩
theorem wq_mono {T : Tab} {c : AC} {e : Env} {h : Hp} {P Q : Out → Prop} (H : wp T c e h P) (k : ∀ o, P o → Q o) : wp T c e h Q := by
  obtain ⟨o, h1, h2⟩ := H; exact ⟨o, h1, k o h2⟩

theorem wq_skip (T : Tab) (e : Env) (h : Hp) (Q : Out → Prop) : wp T .skip e h Q = Q (.norm, e, h) := wq_of rfl Q
theorem wq_exit (T : Tab) (i : Nat) (e : Env) (h : Hp) (Q : Out → Prop) : wp T (.exit i) e h Q = Q (.exit i, e, h) := wq_of rfl Q
theorem wq_ret (T : Tab) (e : Env) (h : Hp) (Q : Out → Prop) : wp T .ret e h Q = Q (.ret, e, h) := wq_of rfl Q
theorem wq_seq (T : Tab) (a b : AC) (e : Env) (h : Hp) (Q : Out → Prop) : wp T (.seq a b) e h Q = wp T a e h (seqQ T b Q) := by
  apply propext
  unfold wp
  rw [ex_seq]
  cases ex T a e h with
  | none => simp
  | some o =>
    obtain ⟨x, e', h'⟩ := o
    cases x <;> simp [nxt, seqQ, wp]
theorem wq_blk (T : Tab) (id : Nat) (a : AC) (e : Env) (h : Hp) (Q : Out → Prop) : wp T (.blk id a) e h Q = wp T a e h (blkQ id Q) := by
  apply propext
  unfold wp
  rw [ex_blk]
  cases ex T a e h with
  | none => simp
  | some o => simp [blkQ]
theorem wq_cond (T : Tab) (c : Opd) (a b : AC) (e : Env) (h : Hp) (Q : Out → Prop) : wp T (.cond c a b) e h Q = wpC T a b e h Q (condB (e.ev c)) := by
  apply propext
  unfold wp
  rw [ex_cond]
  cases condB (e.ev c) with
  | none => simp [wpC]
  | some t => cases t <;> simp [wpC, wp]
theorem wpC_t (T : Tab) (a b : AC) (e : Env) (h : Hp) (Q : Out → Prop) : wpC T a b e h Q (some true) = wp T a e h Q := rfl
theorem wpC_f (T : Tab) (a b : AC) (e : Env) (h : Hp) (Q : Out → Prop) : wpC T a b e h Q (some false) = wp T b e h Q := rfl
theorem wq_reg (T : Tab) (its : List It) (kp : Option (List Nat)) (e : Env) (h : Hp) (Q : Out → Prop) : wp T (.reg its kp) e h Q = wpI (cW T) its e h (regQ kp Q) := by
  apply propext
  unfold wp wpI
  rw [ex_reg]
  cases itsX (cW T) its e h with
  | none => simp
  | some o => simp [regQ]
theorem wpI_nil (cf : Cf) (e : Env) (h : Hp) (K : Env → Hp → Prop) : wpI cf [] e h K = K e h := by
  apply propext
  simp [wpI, its_nil]
theorem wpI_o (cf : Cf) (dst : Option Nat) (op : AOp) (r : List It) (e : Env) (h : Hp) (K : Env → Hp → Prop) : wpI cf (.o dst op none :: r) e h K = wpO cf dst e r K (opX cf e h op) := by
  apply propext
  unfold wpI
  rw [its_cons, it_o]
  cases opX cf e h op with
  | none => simp [wpO]
  | some s => simp [wpO, wpI]
theorem wpI_g (cf : Cf) (dst : Option Nat) (op : AOp) (t : Nat) (b : Bool) (r : List It) (e : Env) (h : Hp) (K : Env → Hp → Prop) : wpI cf (.o dst op (some (t, b)) :: r) e h K = wpG cf dst op e h r K (wantV (e.get t) b) := by
  apply propext
  unfold wpI
  rw [its_cons, it_g, want_some]
  cases wantV (e.get t) b with
  | none => simp [wpG]
  | some w =>
    cases w with
    | false => simp [wpG, wpI]
    | true =>
      simp only [wpG]
      generalize opX cf e h op = q
      cases q with
      | none => simp [wpO]
      | some s => simp [wpO, wpI]
theorem wpI_frz (cf : Cf) (t : Nat) (r : List It) (e : Env) (h : Hp) (K : Env → Hp → Prop) : wpI cf (.frz t :: r) e h K = wpO cf (some t) e r K (Zv.frz h (e.get t)) := by
  apply propext
  unfold wpI
  rw [its_cons, it_frz]
  cases Zv.frz h (e.get t) with
  | none => simp [wpO]
  | some s => simp [wpO, wpI, Env.putO, Env.put]
theorem wpI_kill (cf : Cf) (t : Nat) (r : List It) (e : Env) (h : Hp) (K : Env → Hp → Prop) : wpI cf (.kill t :: r) e h K = wpE cf r K (killX t e h (e.get t)) := by
  apply propext
  unfold wpI
  rw [its_cons, it_kill]
  cases killX t e h (e.get t) with
  | none => simp [wpE]
  | some s => simp [wpE, wpI]
theorem wpE_some (cf : Cf) (r : List It) (K : Env → Hp → Prop) (e : Env) (h : Hp) : wpE cf r K (some (e, h)) = wpI cf r e h K := rfl
theorem wpO_some (cf : Cf) (t : Nat) (e : Env) (r : List It) (K : Env → Hp → Prop) (v : V) (h : Hp) : wpO cf (some t) e r K (some (v, h)) = wpI cf r ((t, v) :: e) h K := rfl
theorem wpO_none (cf : Cf) (e : Env) (r : List It) (K : Env → Hp → Prop) (v : V) (h : Hp) : wpO cf none e r K (some (v, h)) = wpI cf r e h K := rfl
theorem wpG_t (cf : Cf) (dst : Option Nat) (op : AOp) (e : Env) (h : Hp) (r : List It) (K : Env → Hp → Prop) : wpG cf dst op e h r K (some true) = wpO cf dst e r K (opX cf e h op) := rfl
theorem wpG_f (cf : Cf) (t : Nat) (op : AOp) (e : Env) (h : Hp) (r : List It) (K : Env → Hp → Prop) : wpG cf (some t) op e h r K (some false) = wpI cf r ((t, .tup []) :: e) h K := rfl
theorem wpG_fn (cf : Cf) (op : AOp) (e : Env) (h : Hp) (r : List It) (K : Env → Hp → Prop) : wpG cf none op e h r K (some false) = wpI cf r e h K := rfl
theorem wantV_bt (c : Bool) : wantV (.d (.bool c)) true = some c := by cases c <;> rfl
theorem wantV_bf (c : Bool) : wantV (.d (.bool c)) false = some (!c) := by cases c <;> rfl
theorem regQ_eq (kp : List Nat) (Q : Out → Prop) (e : Env) (h : Hp) : regQ (some kp) Q e h = Q (.norm, e.keep kp, h) := rfl
theorem seqQ_n (T : Tab) (b : AC) (Q : Out → Prop) (e : Env) (h : Hp) : seqQ T b Q (.norm, e, h) = wp T b e h Q := rfl
theorem seqQ_e (T : Tab) (b : AC) (Q : Out → Prop) (i : Nat) (e : Env) (h : Hp) : seqQ T b Q (.exit i, e, h) = Q (.exit i, e, h) := rfl
theorem seqQ_r (T : Tab) (b : AC) (Q : Out → Prop) (e : Env) (h : Hp) : seqQ T b Q (.ret, e, h) = Q (.ret, e, h) := rfl
theorem blkQ_n (id : Nat) (Q : Out → Prop) (e : Env) (h : Hp) : blkQ id Q (.norm, e, h) = Q (.norm, e, h) := rfl
theorem blkQ_r (id : Nat) (Q : Out → Prop) (e : Env) (h : Hp) : blkQ id Q (.ret, e, h) = Q (.ret, e, h) := rfl
theorem blkQ_e (id i : Nat) (Q : Out → Prop) (e : Env) (h : Hp) : blkQ id Q (.exit i, e, h) = if i = id then Q (.norm, e, h) else Q (.exit i, e, h) := by
  unfold blkQ
  by_cases hi : i = id
  · subst hi; simp
  · rw [if_neg hi, if_neg (by simpa using hi)]
theorem donQ_n (fn : AF) (h : Hp) (R : Option (V × Hp) → Prop) (e : Env) (h' : Hp) : donQ fn h R (.norm, e, h') = R (finish fn h e h') := rfl
theorem donQ_r (fn : AF) (h : Hp) (R : Option (V × Hp) → Prop) (e : Env) (h' : Hp) : donQ fn h R (.ret, e, h') = R (finish fn h e h') := rfl
/-- The end of a function that hands on nothing of its own. -/
def finS (h : Hp) (h' : Hp) (vs : List V) : Option (V × Hp) := if sufOk h.objs h'.objs = true then (vs.mapM (back1 h' h.next)).map fun l => (resV l, h) else none
theorem fin_s (np : Nat) (res : List (Nat × Option (Bool × Nat))) (b : AC) (h : Hp) (e : Env) (h' : Hp) : finish ⟨np, res, true, b⟩ h e h' = (resL e h' res).bind (finS h h') := rfl
theorem fin_l (np : Nat) (res : List (Nat × Option (Bool × Nat))) (b : AC) (h : Hp) (e : Env) (h' : Hp) : finish ⟨np, res, false, b⟩ h e h' = (resL e h' res).bind fun vs => some (resV vs, h') := rfl
theorem resL_nil (e : Env) (h : Hp) : resL e h [] = some [] := rfl
theorem resL_t (e : Env) (h : Hp) (t : Nat) (r : List (Nat × Option (Bool × Nat))) : resL e h ((t, none) :: r) = (resL e h r).map (e.get t :: ·) := rfl
theorem resL_c (e : Env) (h : Hp) (t sz : Nat) (ag : Bool) (r : List (Nat × Option (Bool × Nat))) : resL e h ((t, some (ag, sz)) :: r) = (ld ag sz h (e.get t)).bind fun v => (resL e h r).map (v :: ·) := rfl
theorem finS_same {h h' : Hp} (hh : h'.objs = h.objs) (vs : List D) : finS h h' (vs.map .d) = some (resV (vs.map .d), h) := by
  unfold finS
  rw [if_pos (by rw [hh]; exact suf_refl _)]
  have : (vs.map V.d).mapM (back1 h' h.next) = some (vs.map V.d) := by
    induction vs with
    | nil => rfl
    | cons x l ih => rw [List.map_cons, List.mapM_cons, back_d, ih]; rfl
  rw [this]; rfl
theorem finS1 (h : Hp) (x : D) : finS h h [.d x] = some (.d x, h) := finS_same rfl [x]
theorem finS2 (h : Hp) (x y : D) : finS h h [.d x, .d y] = some (.tup [.d x, .d y], h) := finS_same rfl [x, y]
theorem finS3 (h : Hp) (x y z : D) : finS h h [.d x, .d y, .d z] = some (.tup [.d x, .d y, .d z], h) := finS_same rfl [x, y, z]
theorem finS1' (h : Hp) (n : Nat) (x : D) : finS h ⟨h.objs, n⟩ [.d x] = some (.d x, h) := finS_same (h := h) (h' := ⟨h.objs, n⟩) rfl [x]
theorem finS2' (h : Hp) (n : Nat) (x y : D) : finS h ⟨h.objs, n⟩ [.d x, .d y] = some (.tup [.d x, .d y], h) := finS_same (h := h) (h' := ⟨h.objs, n⟩) rfl [x, y]
theorem finS3' (h : Hp) (n : Nat) (x y z : D) : finS h ⟨h.objs, n⟩ [.d x, .d y, .d z] = some (.tup [.d x, .d y, .d z], h) := finS_same (h := h) (h' := ⟨h.objs, n⟩) rfl [x, y, z]

theorem partD_t (o sz : Nat) (l : List D) : partD true o sz l = if o + sz ≤ l.length then some (.agg ((l.drop o).take sz)) else none := rfl
theorem un_not (b : Bool) : un .not (.d (.bool b)) = some (.d (.bool (!b))) := rfl
theorem na_t (bs : List Bool) (v : V) (vs : List V) : normArgs (true :: bs) (v :: vs) = norm v :: normArgs bs vs := rfl
theorem na_f (bs : List Bool) (v : V) (vs : List V) : normArgs (false :: bs) (v :: vs) = v :: normArgs bs vs := rfl
theorem na_n (vs : List V) : normArgs [] vs = vs := rfl
theorem nat_neg (n : Nat) : ((n : Int) < 0) = False := by simp
theorem nat_nn (n : Nat) : ((0 : Int) ≤ (n : Int)) = True := by simp
theorem bin_s_eq (a b : ByteArray) : bin .eql (.d (.str a)) (.d (.str b)) = some (.d (.bool (decide (a = b)))) := rfl
theorem bin_s_ne (a b : ByteArray) : bin .neq (.d (.str a)) (.d (.str b)) = some (.d (.bool (!decide (a = b)))) := rfl
theorem lenS_str (s : ByteArray) : lenS (.d (.str s)) = some (.d (.int .i64 (s.size : Int))) := rfl
theorem ixS_at {s : ByteArray} {n : Nat} {c : UInt8} (k : IntKind) (h : s.data.toList[n]? = some c) : ixS (.d (.str s)) (.d (.int k (n : Int))) = some (.d (.int .u8 c.toNat)) := by
  have hlt : n < s.size := by
    have := (List.getElem?_eq_some_iff.1 h).1
    simpa using this
  have hg : s[n] = c := by
    have := (List.getElem?_eq_some_iff.1 h).2
    rw [← this]; rfl
  simp [ixS, ixOf_nat, hlt, hg]
theorem resV_nil : resV [] = .tup [] := rfl
theorem conv_i (k j : IntKind) (n : Int) : conv k (.d (.int j n)) = some (.d (.int k (k.wrap n))) := rfl
theorem ibeq (a b : Int) : (a == b) = decide (a = b) := rfl
theorem ibne (a b : Int) : (a != b) = !decide (a = b) := rfl
theorem norm_tl0 (nl : Option Bool) : norm (.tl [] nl) = .d (.lst []) := rfl
theorem un_neg (k : IntKind) (n : Int) : un .neg (.d (.int k n)) = some (.d (.int k (k.wrap (0 - n)))) := rfl
theorem binB_eq (a b : Bool) : binB .eql (.d (.bool a)) (.d (.bool b)) = some (.d (.bool (a == b))) := rfl
theorem binB_ne (a b : Bool) : binB .neq (.d (.bool a)) (.d (.bool b)) = some (.d (.bool (!(a == b)))) := rfl
theorem row_hd (n es : Nat) (els : List V) (r : List (Nat × Ob)) (nx tot : Nat) : Hp.row ⟨(n, .arr es els) :: r, nx⟩ n tot = if els.length = tot then some (es, els) else none := by
  rw [row_cons, if_pos rfl]
theorem set_hd (n : Nat) (o : Ob) (r : List (Nat × Ob)) (nx : Nat) (x : Ob) : Hp.set ⟨(n, o) :: r, nx⟩ n x = ⟨(n, x) :: r, nx⟩ := by
  rw [set_cons, if_pos rfl]
theorem alloc_eq (h : Hp) (o : Ob) : h.alloc o = ⟨(h.next, o) :: h.objs, h.next + 1⟩ := rfl


theorem wpG_s {cf : Cf} {dst : Option Nat} {op : AOp} {e : Env} {h : Hp} {r : List It} {K : Env → Hp → Prop} {c : Bool} (h1 : c = true → wpG cf dst op e h r K (some true)) (h2 : c = false → wpG cf dst op e h r K (some false)) : wpG cf dst op e h r K (some c) := by
  cases c
  · exact h2 rfl
  · exact h1 rfl
theorem wpC_s {T : Tab} {a b : AC} {e : Env} {h : Hp} {Q : Out → Prop} {c : Bool} (h1 : c = true → wpC T a b e h Q (some true)) (h2 : c = false → wpC T a b e h Q (some false)) : wpC T a b e h Q (some c) := by
  cases c
  · exact h2 rfl
  · exact h1 rfl

theorem finS_nil (h : Hp) (nl : Option Bool) : finS h h [.tl [] nl] = some (.d (.lst []), h) := by
  unfold finS; rw [if_pos (suf_refl _)]; rfl
theorem nat1_0 (n : Nat) : ((n : Int) + 1 == 0) = false := by simp; omega
theorem nat1_lt1 (n : Nat) : ((n : Int) + 1 < 1) = False := by simp; omega
theorem nat1_lt0 (n : Nat) : ((n : Int) + 1 < 0) = False := by simp; omega
theorem nat1_ge0 (n : Nat) : (0 ≤ (n : Int) + 1) = True := by simp; omega
theorem nat1_ge1 (n : Nat) : (1 ≤ (n : Int) + 1) = True := by simp; omega
theorem ld_one (sz : Nat) (h : Hp) (n tot i off : Nat) : ld false sz h (.ptr n tot i off) = (h.row n tot).bind fun r => (r.2[i]?).bind fun e => e.cells[off]? := by
  simp [ld, partV]
theorem st_hd (es n : Nat) (z : V) (l : List (Nat × Ob)) (nx : Nat) (x : V) : st es ⟨(n, .arr es [z]) :: l, nx⟩ (.ptr n 1 0 0) x = if stor x = true ∧ x.cells.length = es then some ⟨(n, .arr es [x]) :: l, nx⟩ else none := by
  simp [st, row_hd, set_hd]
theorem finS1m (l : List (Nat × Ob)) (n m : Nat) (x : D) : finS ⟨l, n⟩ ⟨l, m⟩ [.d x] = some (.d x, ⟨l, n⟩) := finS_same (h := ⟨l, n⟩) (h' := ⟨l, m⟩) rfl [x]
theorem finS2m (l : List (Nat × Ob)) (n m : Nat) (x y : D) : finS ⟨l, n⟩ ⟨l, m⟩ [.d x, .d y] = some (.tup [.d x, .d y], ⟨l, n⟩) := finS_same (h := ⟨l, n⟩) (h' := ⟨l, m⟩) rfl [x, y]
theorem finS3m (l : List (Nat × Ob)) (n m : Nat) (x y z : D) : finS ⟨l, n⟩ ⟨l, m⟩ [.d x, .d y, .d z] = some (.tup [.d x, .d y, .d z], ⟨l, n⟩) := finS_same (h := ⟨l, n⟩) (h' := ⟨l, m⟩) rfl [x, y, z]
theorem finS_suf {h h' : Hp} (hh : sufOk h.objs h'.objs = true) (vs : List D) : finS h h' (vs.map .d) = some (resV (vs.map .d), h) := by
  unfold finS
  rw [if_pos hh]
  have : (vs.map V.d).mapM (back1 h' h.next) = some (vs.map V.d) := by
    induction vs with
    | nil => rfl
    | cons x l ih => rw [List.map_cons, List.mapM_cons, back_d, ih]; rfl
  rw [this]; rfl
theorem finS1c (h : Hp) (o : Nat × Ob) (m : Nat) (x : D) : finS h ⟨o :: h.objs, m⟩ [.d x] = some (.d x, h) := finS_suf (h' := ⟨o :: h.objs, m⟩) (suf_one _ _) [x]
theorem finS2c (h : Hp) (o : Nat × Ob) (m : Nat) (x y : D) : finS h ⟨o :: h.objs, m⟩ [.d x, .d y] = some (.tup [.d x, .d y], h) := finS_suf (h' := ⟨o :: h.objs, m⟩) (suf_one _ _) [x, y]
theorem finS3c (h : Hp) (o : Nat × Ob) (m : Nat) (x y z : D) : finS h ⟨o :: h.objs, m⟩ [.d x, .d y, .d z] = some (.tup [.d x, .d y, .d z], h) := finS_suf (h' := ⟨o :: h.objs, m⟩) (suf_one _ _) [x, y, z]
theorem finS1cc (h : Hp) (o q : Nat × Ob) (m : Nat) (x : D) : finS h ⟨o :: q :: h.objs, m⟩ [.d x] = some (.d x, h) := finS_suf (h' := ⟨o :: q :: h.objs, m⟩) (suf_two _ _ _) [x]
theorem st_2 (es n : Nat) (o : Ob) (z : V) (l : List (Nat × Ob)) (nx : Nat) (x : V) : st es ⟨(n + 1, o) :: (n, .arr es [z]) :: l, nx⟩ (.ptr n 1 0 0) x = if stor x = true ∧ x.cells.length = es then some ⟨(n + 1, o) :: (n, .arr es [x]) :: l, nx⟩ else none := by
  have hr : Hp.row ⟨(n + 1, o) :: (n, .arr es [z]) :: l, nx⟩ n 1 = some (es, [z]) := by
    unfold Hp.row Hp.get; simp [Zv.look]
  have hs : ∀ y, Hp.set ⟨(n + 1, o) :: (n, .arr es [z]) :: l, nx⟩ n y = ⟨(n + 1, o) :: (n, y) :: l, nx⟩ := by
    intro y; unfold Hp.set; simp [upd]
  simp [st, hr, hs]
theorem frz_2 (n es nx : Nat) (o : Ob) (x : D) (l : List (Nat × Ob)) (off : Nat) : Zv.frz ⟨(n + 1, o) :: (n, .arr es [.d x]) :: l, nx⟩ (.ptr n 1 0 off) = some (.fp x off, ⟨(n + 1, o) :: l, nx⟩) := by
  have hr : Hp.row ⟨(n + 1, o) :: (n, .arr es [.d x]) :: l, nx⟩ n 1 = some (es, [.d x]) := by
    unfold Hp.row Hp.get; simp [Zv.look]
  simp only [Zv.frz, hr, Option.bind_some, List.getElem?_cons_zero, Option.map_some, toD]
  simp [Hp.kill, del]
theorem kill_2 (n : Nat) (o p : Ob) (l : List (Nat × Ob)) (nx : Nat) : Hp.kill ⟨(n + 1, o) :: (n, p) :: l, nx⟩ n = ⟨(n + 1, o) :: l, nx⟩ := by
  unfold Hp.kill; simp [del]
theorem ld_whole (es n : Nat) (l : List D) (r : List (Nat × Ob)) (nx : Nat) : ld true es ⟨(n, .arr es [.d (.agg l)]) :: r, nx⟩ (.ptr n 1 0 0) = some (.d (.agg l)) := by
  simp [ld, row_hd]
theorem ld_whole2 (es n : Nat) (o : Ob) (l : List D) (r : List (Nat × Ob)) (nx : Nat) : ld true es ⟨(n + 1, o) :: (n, .arr es [.d (.agg l)]) :: r, nx⟩ (.ptr n 1 0 0) = some (.d (.agg l)) := by
  have hr : Hp.row ⟨(n + 1, o) :: (n, .arr es [.d (.agg l)]) :: r, nx⟩ n 1 = some (es, [.d (.agg l)]) := by
    unfold Hp.row Hp.get; simp [Zv.look]
  simp [ld, hr]
/-- Lists and truth values. -/
theorem wsl : (type_of% @List.map_cons.{0, 0}) ∧ (type_of% @List.map_nil.{0, 0}) ∧ (type_of% @List.cons_append.{0}) ∧ (type_of% @List.nil_append.{0}) ∧ (type_of% @List.append_nil.{0}) ∧ (type_of% @List.getElem?_cons_zero.{0}) ∧ (type_of% @List.getElem?_cons_succ.{0}) ∧ (type_of% @List.length_cons.{0}) ∧ (type_of% @List.length_nil.{0}) ∧ (type_of% @List.length_map.{0, 0}) ∧ (type_of% @List.length_append.{0}) ∧ (type_of% @List.all_cons.{0}) ∧ (type_of% @List.all_nil.{0}) ∧ (type_of% @List.take_zero.{0}) ∧ (type_of% @List.take_succ_cons.{0}) ∧ (type_of% @List.drop_zero.{0}) ∧ (type_of% @List.drop_succ_cons.{0}) ∧ (type_of% @Option.map_some.{0, 0}) ∧ (type_of% @Option.bind_some.{0, 0}) ∧ (type_of% @Option.map_none.{0, 0}) ∧ (type_of% @Option.bind_none.{0, 0}) ∧ (type_of% @beq_self_eq_true.{0}) ∧ (type_of% @bne_self_eq_false.{0}) ∧ (type_of% @Option.some.injEq.{0}) ∧ (type_of% @Prod.mk.injEq.{0, 0}) ∧ (type_of% @gt_iff_lt.{0}) ∧ (type_of% @ge_iff_le.{0}) ∧ (type_of% @if_true.{1}) ∧ (type_of% @if_false.{1}) ∧ (type_of% @ite_self.{1}) ∧ (type_of% @ne_eq.{1}) ∧ (type_of% @eq_self.{1}) ∧ (type_of% @Bool.and_self) ∧ (type_of% @and_self) ∧ (type_of% @true_and) ∧ (type_of% @and_true) ∧ (type_of% @Bool.not_true) ∧ (type_of% @Bool.not_false) ∧ (type_of% @Bool.not_eq_true') ∧ (type_of% @decide_eq_true_eq) ∧ (type_of% @decide_eq_false_iff_not) ∧ (type_of% @Nat.zero_add) ∧ (type_of% @Nat.add_zero) ∧ (type_of% @Nat.succ_ne_zero) ∧ (type_of% @Bool.false_eq_true) ∧ (type_of% @not_true_eq_false) ∧ (type_of% @not_false_eq_true) ∧ (type_of% @Bool.false_and) ∧ (type_of% @Bool.true_and) ∧ (type_of% @and_false) ∧ (type_of% @false_and) ∧ (type_of% @Bool.true_eq_false) ∧ (type_of% @or_false) ∧ (type_of% @false_or) ∧ (type_of% @true_or) ∧ (type_of% @or_true) ∧ (type_of% @Int.cast_ofNat_Int) ∧ (type_of% @Int.ofNat_lt) ∧ (type_of% @Int.ofNat_le) ∧ (type_of% @Nat.lt_irrefl) ∧ (type_of% @decide_true) ∧ (type_of% @decide_false) :=
  ⟨@List.map_cons.{0, 0}, @List.map_nil.{0, 0}, @List.cons_append.{0}, @List.nil_append.{0}, @List.append_nil.{0}, @List.getElem?_cons_zero.{0}, @List.getElem?_cons_succ.{0}, @List.length_cons.{0}, @List.length_nil.{0}, @List.length_map.{0, 0}, @List.length_append.{0}, @List.all_cons.{0}, @List.all_nil.{0}, @List.take_zero.{0}, @List.take_succ_cons.{0}, @List.drop_zero.{0}, @List.drop_succ_cons.{0}, @Option.map_some.{0, 0}, @Option.bind_some.{0, 0}, @Option.map_none.{0, 0}, @Option.bind_none.{0, 0}, @beq_self_eq_true.{0}, @bne_self_eq_false.{0}, @Option.some.injEq.{0}, @Prod.mk.injEq.{0, 0}, @gt_iff_lt.{0}, @ge_iff_le.{0}, @if_true.{1}, @if_false.{1}, @ite_self.{1}, @ne_eq.{1}, @eq_self.{1}, @Bool.and_self, @and_self, @true_and, @and_true, @Bool.not_true, @Bool.not_false, @Bool.not_eq_true', @decide_eq_true_eq, @decide_eq_false_iff_not, @Nat.zero_add, @Nat.add_zero, @Nat.succ_ne_zero, @Bool.false_eq_true, @not_true_eq_false, @not_false_eq_true, @Bool.false_and, @Bool.true_and, @and_false, @false_and, @Bool.true_eq_false, @or_false, @false_or, @true_or, @or_true, @Int.cast_ofNat_Int, @Int.ofNat_lt, @Int.ofNat_le, @Nat.lt_irrefl, @decide_true, @decide_false⟩
/-- All steps. -/
theorem ws : (type_of% @wq_seq) ∧ (type_of% @wq_blk) ∧ (type_of% @wq_cond) ∧ (type_of% @wpC_t) ∧ (type_of% @wpC_f) ∧ (type_of% @wq_skip) ∧ (type_of% @wq_exit) ∧ (type_of% @wq_ret) ∧ (type_of% @wpI_nil) ∧ (type_of% @wpI_o) ∧ (type_of% @wpI_g) ∧ (type_of% @wpI_frz) ∧ (type_of% @wpI_kill) ∧ (type_of% @wpE_some) ∧ (type_of% @wpO_some) ∧ (type_of% @wpO_none) ∧ (type_of% @wpG_t) ∧ (type_of% @wpG_f) ∧ (type_of% @wpG_fn) ∧ (type_of% @wantV_bt) ∧ (type_of% @wantV_bf) ∧ (type_of% @wantV_t) ∧ (type_of% @regQ_eq) ∧ (type_of% @seqQ_n) ∧ (type_of% @seqQ_e) ∧ (type_of% @seqQ_r) ∧ (type_of% @blkQ_n) ∧ (type_of% @blkQ_r) ∧ (type_of% @blkQ_e) ∧ (type_of% @donQ_n) ∧ (type_of% @donQ_r) ∧ (type_of% @fin_s) ∧ (type_of% @finS1) ∧ (type_of% @finS2) ∧ (type_of% @finS3) ∧ (type_of% @finS1') ∧ (type_of% @finS2') ∧ (type_of% @finS3') ∧ (type_of% @fin_l) ∧ (type_of% @resL_nil) ∧ (type_of% @resL_t) ∧ (type_of% @resL_c) ∧ (type_of% @resV_one) ∧ (type_of% @resV_two) ∧ (type_of% @resV_three) ∧ (type_of% @ev_t) ∧ (type_of% @ev_c) ∧ (type_of% @get_cons) ∧ (type_of% @get_nil) ∧ (type_of% @pv_some) ∧ (type_of% @bin_i) ∧ (type_of% @condB_b) ∧ (type_of% @keep_cons) ∧ (type_of% @keep_nil) ∧ (type_of% @args_cons) ∧ (type_of% @args_nil) ∧ (type_of% @na_t) ∧ (type_of% @na_f) ∧ (type_of% @na_n) ∧ (type_of% @norm_d) ∧ (type_of% @norm_ptr) ∧ (type_of% @norm_own) ∧ (type_of% @norm_map) ∧ (type_of% @norm_clo0) ∧ (type_of% @cW_clo) ∧ (type_of% @fa_fp) ∧ (type_of% @ld_fp) ∧ (type_of% @ldf_fp) ∧ (type_of% @partD_one) ∧ (type_of% @partD_t) ∧ (type_of% @cells_agg) ∧ (type_of% @cells_int) ∧ (type_of% @cells_bool) ∧ (type_of% @cells_str) ∧ (type_of% @cells_lst) ∧ (type_of% @lenL_lst) ∧ (type_of% @lenL_own) ∧ (type_of% @lenL_tl) ∧ (type_of% @ext_tup) ∧ (type_of% @pick_b) ∧ (type_of% @un_not) ∧ (type_of% @norm_tl0) ∧ (type_of% @conv_i) ∧ (type_of% @quiet_refl) ∧ (type_of% @st_2) ∧ (type_of% @frz_2) ∧ (type_of% @kill_2) ∧ (type_of% @resV_nil) ∧ (type_of% @nat1_0) ∧ (type_of% @nat1_lt1) ∧ (type_of% @nat1_lt0) ∧ (type_of% @nat1_ge0) ∧ (type_of% @nat1_ge1) ∧ (type_of% @ld_one) ∧ (type_of% @ld_whole) ∧ (type_of% @ld_whole2) ∧ (type_of% @st_hd) ∧ (type_of% @finS1m) ∧ (type_of% @finS2m) ∧ (type_of% @finS3m) ∧ (type_of% @finS1c) ∧ (type_of% @finS2c) ∧ (type_of% @finS3c) ∧ (type_of% @finS1cc) ∧ (type_of% @finS_nil) ∧ (type_of% @bin_s_eq) ∧ (type_of% @bin_s_ne) ∧ (type_of% @lenS_str) ∧ (type_of% @un_neg) ∧ (type_of% @nat_neg) ∧ (type_of% @nat_nn) ∧ (type_of% @binB_eq) ∧ (type_of% @binB_ne) ∧ (type_of% @nilck_ptr) ∧ (type_of% @nilck_fp) ∧ (type_of% @fa_ptr) ∧ (type_of% @partV_one) ∧ (type_of% @stor_d) ∧ (type_of% @stor_own) ∧ (type_of% @stor_ptr) ∧ (type_of% @stor_tl) ∧ (type_of% @stor_agg) ∧ (type_of% @stor_clo) ∧ (type_of% @stor_map) ∧ (type_of% @vcells_d) ∧ (type_of% @vcells_agg) ∧ (type_of% @vcells_own) ∧ (type_of% @vcells_ptr) ∧ (type_of% @vcells_tl) ∧ (type_of% @vcells_clo) ∧ (type_of% @vcells_map) ∧ (type_of% @lay_nil) ∧ (type_of% @lay_cons) ∧ (type_of% @mkAgg1) ∧ (type_of% @mkAgg2) ∧ (type_of% @mkAgg3) ∧ (type_of% @mkAgg4) ∧ (type_of% @mkAgg5) ∧ (type_of% @mkAgg6) ∧ (type_of% @mkAgg_own) ∧ (type_of% @mkAgg_ptr) ∧ (type_of% @mkAgg_tl) ∧ (type_of% @mkAgg_map) ∧ (type_of% @mkAgg_clo) ∧ (type_of% @mkAgg_d_own) ∧ (type_of% @mkAgg_dd_own) ∧ (type_of% @mkAgg_d_tl) ∧ (type_of% @mkAgg_dd_tl) ∧ (type_of% @killX_ptr) ∧ (type_of% @killX_own) ∧ (type_of% @killX_fp) ∧ (type_of% @killX_d) ∧ (type_of% @killX_undef) ∧ (type_of% @killX_tup) ∧ (type_of% @kill_hd) ∧ (type_of% @frz_hd) ∧ (type_of% @set_hd) ∧ (type_of% @row_hd) ∧ (type_of% @alloc_mk) ∧ (type_of% @alloc_eq) ∧ (type_of% @nilBin_ptr) ∧ (type_of% @nilBin_nil) ∧ (type_of% @V.d.injEq) ∧ (type_of% @D.bool.injEq) ∧ (type_of% @D.int.injEq) ∧ (type_of% @D.lst.injEq) ∧ (type_of% @D.agg.injEq) ∧ (type_of% @D.str.injEq) :=
  ⟨@wq_seq, @wq_blk, @wq_cond, @wpC_t, @wpC_f, @wq_skip, @wq_exit, @wq_ret, @wpI_nil, @wpI_o, @wpI_g, @wpI_frz, @wpI_kill, @wpE_some, @wpO_some, @wpO_none, @wpG_t, @wpG_f, @wpG_fn, @wantV_bt, @wantV_bf, @wantV_t, @regQ_eq, @seqQ_n, @seqQ_e, @seqQ_r, @blkQ_n, @blkQ_r, @blkQ_e, @donQ_n, @donQ_r, @fin_s, @finS1, @finS2, @finS3, @finS1', @finS2', @finS3', @fin_l, @resL_nil, @resL_t, @resL_c, @resV_one, @resV_two, @resV_three, @ev_t, @ev_c, @get_cons, @get_nil, @pv_some, @bin_i, @condB_b, @keep_cons, @keep_nil, @args_cons, @args_nil, @na_t, @na_f, @na_n, @norm_d, @norm_ptr, @norm_own, @norm_map, @norm_clo0, @cW_clo, @fa_fp, @ld_fp, @ldf_fp, @partD_one, @partD_t, @cells_agg, @cells_int, @cells_bool, @cells_str, @cells_lst, @lenL_lst, @lenL_own, @lenL_tl, @ext_tup, @pick_b, @un_not, @norm_tl0, @conv_i, @quiet_refl, @st_2, @frz_2, @kill_2, @resV_nil, @nat1_0, @nat1_lt1, @nat1_lt0, @nat1_ge0, @nat1_ge1, @ld_one, @ld_whole, @ld_whole2, @st_hd, @finS1m, @finS2m, @finS3m, @finS1c, @finS2c, @finS3c, @finS1cc, @finS_nil, @bin_s_eq, @bin_s_ne, @lenS_str, @un_neg, @nat_neg, @nat_nn, @binB_eq, @binB_ne, @nilck_ptr, @nilck_fp, @fa_ptr, @partV_one, @stor_d, @stor_own, @stor_ptr, @stor_tl, @stor_agg, @stor_clo, @stor_map, @vcells_d, @vcells_agg, @vcells_own, @vcells_ptr, @vcells_tl, @vcells_clo, @vcells_map, @lay_nil, @lay_cons, @mkAgg1, @mkAgg2, @mkAgg3, @mkAgg4, @mkAgg5, @mkAgg6, @mkAgg_own, @mkAgg_ptr, @mkAgg_tl, @mkAgg_map, @mkAgg_clo, @mkAgg_d_own, @mkAgg_dd_own, @mkAgg_d_tl, @mkAgg_dd_tl, @killX_ptr, @killX_own, @killX_fp, @killX_d, @killX_undef, @killX_tup, @kill_hd, @frz_hd, @set_hd, @row_hd, @alloc_mk, @alloc_eq, @nilBin_ptr, @nilBin_nil, @V.d.injEq, @D.bool.injEq, @D.int.injEq, @D.lst.injEq, @D.agg.injEq, @D.str.injEq⟩

/-! ### Loops over a list -/
/-- A loop that goes through a list and may leave it early. -/
def runL {α S : Type} (stp : Nat → S → α → Out ⊕ S) (fin : S → Out) : Nat → List α → S → Out
  | _, [], s => fin s
  | n, x :: l, s => match stp n s x with
    | .inl o => o
    | .inr s' => runL stp fin (n + 1) l s'
theorem loop_gen {T : Tab} {a : AC} {α S : Type} (l : List α) (env : Nat → S → Env) (hp : Nat → S → Hp) (I : Nat → S → Prop) (stp : Nat → S → α → Out ⊕ S) (fin : S → Out)
    (h1 : ∀ n s x, l[n]? = some x → I n s → match stp n s x with
      | .inl o => ex T a (env n s) (hp n s) = some o ∧ o.1 ≠ .norm
      | .inr s' => ex T a (env n s) (hp n s) = some (.norm, env (n + 1) s', hp (n + 1) s') ∧ I (n + 1) s')
    (h2 : ∀ s, I l.length s → ex T a (env l.length s) (hp l.length s) = some (fin s) ∧ (fin s).1 ≠ .norm) :
    ∀ (k n : Nat) (s : S), n + k = l.length → I n s → ex T (.loop a) (env n s) (hp n s) = some (runL stp fin n (l.drop n) s) := by
  have stop : ∀ {e : Env} {h : Hp} {o : Out}, ex T a e h = some o → o.1 ≠ .norm → ex T (.loop a) e h = some o := by
    intro e h o H ho
    rw [ex_loop, H, Option.bind_some]
    obtain ⟨x, e', h'⟩ := o
    cases x with
    | norm => exact absurd rfl ho
    | exit i => rfl
    | ret => rfl
  intro k
  induction k with
  | zero =>
    intro n s hn hI
    have : n = l.length := by omega
    subst this
    rw [List.drop_length]
    exact stop (h2 s hI).1 (h2 s hI).2
  | succ k ih =>
    intro n s hn hI
    have hlt : n < l.length := by omega
    have hd : l.drop n = l[n] :: l.drop (n + 1) := List.drop_eq_getElem_cons hlt
    rw [hd]
    have hs := h1 n s l[n] (List.getElem?_eq_getElem hlt) hI
    show _ = some (match stp n s l[n] with | .inl o => o | .inr s' => runL stp fin (n + 1) (l.drop (n + 1)) s')
    cases hq : stp n s l[n] with
    | inl o => rw [hq] at hs; exact stop hs.1 hs.2
    | inr s' =>
      rw [hq] at hs
      rw [ex_loop, hs.1, Option.bind_some, nxt_n]
      exact ih (n + 1) s' (by omega) hs.2

/-- A loop that looks for an element. -/
theorem loop_any {T : Tab} {a : AC} {α : Type} {l : List α} {p : α → Bool} {f : Nat → Env} {h : Hp} {o oN : Out}
    (hs : ∀ n x, l[n]? = some x → n < l.length → p x = false → ex T a (f n) h = some (.norm, f (n + 1), h))
    (hx : ∀ n x, l[n]? = some x → n < l.length → p x = true → ex T a (f n) h = some o)
    (hN : ex T a (f l.length) h = some oN) (ho : o.1 ≠ .norm) (hoN : oN.1 ≠ .norm) :
    ex T (.loop a) (f 0) h = some (if l.any p = true then o else oN) := by
  have := loop_gen (T := T) (a := a) l (fun n (_ : Unit) => f n) (fun _ _ => h) (fun _ _ => True) (fun _ _ x => if p x = true then .inl o else .inr ()) (fun _ => oN)
    (by
      intro n s x hn _
      have hlt : n < l.length := by
        rw [List.getElem?_eq_some_iff] at hn; exact hn.1
      cases hp : p x with
      | true => exact ⟨hx n x hn hlt hp, ho⟩
      | false => exact ⟨hs n x hn hlt hp, trivial⟩)
    (fun _ _ => ⟨hN, hoN⟩) l.length 0 () (by omega) trivial
  rw [this, List.drop_zero]
  congr 1
  clear this hs hx hN
  have : ∀ (m : List α) (n : Nat), runL (fun _ (_ : Unit) x => if p x = true then .inl o else .inr ()) (fun _ => oN) n m () = if m.any p = true then o else oN := by
    intro m
    induction m with
    | nil => intro n; rfl
    | cons x m ih =>
      intro n
      cases hp : p x with
      | true => simp [runL, hp]
      | false => simp only [runL, hp, Bool.false_eq_true, if_false, List.any_cons, Bool.false_or]; exact ih _
  exact this l 0

/-- The first element where something holds, with its place. -/
def fst? {α : Type} (p : α → Bool) : Nat → List α → Option (Nat × α)
  | _, [] => none
  | n, x :: l => if p x = true then some (n, x) else fst? p (n + 1) l
theorem fst_none {α : Type} {p : α → Bool} : ∀ {l : List α} {k : Nat}, fst? p k l = none ↔ l.any p = false
  | [], _ => by simp [fst?]
  | a :: l, k => by
    unfold fst?
    by_cases hp : p a = true
    · rw [if_pos hp]; simp [hp]
    · rw [if_neg hp, fst_none]; simp [hp]
/-- A loop that looks for the place of an element. -/
theorem loop_find {T : Tab} {a : AC} {α : Type} {l : List α} {p : α → Bool} {f : Nat → Env} {h : Hp} {o : Nat → α → Out} {oN : Out}
    (hs : ∀ n x, l[n]? = some x → n < l.length → p x = false → ex T a (f n) h = some (.norm, f (n + 1), h))
    (hx : ∀ n x, l[n]? = some x → n < l.length → p x = true → ex T a (f n) h = some (o n x))
    (hN : ex T a (f l.length) h = some oN) (ho : ∀ n x, (o n x).1 ≠ .norm) (hoN : oN.1 ≠ .norm) :
    ex T (.loop a) (f 0) h = some (match fst? p 0 l with | some (n, x) => o n x | none => oN) := by
  have := loop_gen (T := T) (a := a) l (fun n (_ : Unit) => f n) (fun _ _ => h) (fun _ _ => True) (fun n _ x => if p x = true then .inl (o n x) else .inr ()) (fun _ => oN)
    (by
      intro n s x hn _
      have hlt : n < l.length := by
        rw [List.getElem?_eq_some_iff] at hn; exact hn.1
      cases hp : p x with
      | true => exact ⟨hx n x hn hlt hp, ho n x⟩
      | false => exact ⟨hs n x hn hlt hp, trivial⟩)
    (fun _ _ => ⟨hN, hoN⟩) l.length 0 () (by omega) trivial
  rw [this, List.drop_zero]
  congr 1
  clear this hs hx hN
  have : ∀ (m : List α) (n : Nat), runL (fun n (_ : Unit) x => if p x = true then .inl (o n x) else .inr ()) (fun _ => oN) n m () = match fst? p n m with | some (n, x) => o n x | none => oN := by
    intro m
    induction m with
    | nil => intro n; rfl
    | cons x m ih =>
      intro n
      cases hp : p x with
      | true => simp [runL, fst?, hp]
      | false =>
        simp only [runL, fst?, hp, Bool.false_eq_true, if_false]
        exact ih _
  exact this l 0

/-- A loop that goes through a list to the end. -/
theorem loop_fold {T : Tab} {a : AC} {α S : Type} {l : List α} (env : Nat → S → Env) (hp : Nat → S → Hp) (I : Nat → S → Prop) (stp : S → α → S) (fin : S → Out)
    (h1 : ∀ n s x, l[n]? = some x → n < l.length → I n s → ex T a (env n s) (hp n s) = some (.norm, env (n + 1) (stp s x), hp (n + 1) (stp s x)) ∧ I (n + 1) (stp s x))
    (h2 : ∀ s, I l.length s → ex T a (env l.length s) (hp l.length s) = some (fin s)) (h3 : ∀ s, (fin s).1 ≠ .norm) (s : S) (hI : I 0 s) :
    ex T (.loop a) (env 0 s) (hp 0 s) = some (fin (l.foldl stp s)) := by
  have := loop_gen (T := T) (a := a) l env hp I (fun _ s x => .inr (stp s x)) fin
    (by
      intro n s x hn hI
      have hlt : n < l.length := by
        rw [List.getElem?_eq_some_iff] at hn; exact hn.1
      exact h1 n s x hn hlt hI)
    (fun s hs => ⟨h2 s hs, h3 s⟩) l.length 0 s (by omega) hI
  rw [this, List.drop_zero]
  congr 1
  clear this h1 h2 hI
  have : ∀ (m : List α) (n : Nat) (s : S), runL (fun _ s x => .inr (stp s x)) fin n m s = fin (m.foldl stp s) := by
    intro m
    induction m with
    | nil => intro n s; rfl
    | cons x m ih => intro n s; exact ih (n + 1) (stp s x)
  exact this l 0 s

theorem ia_map {α : Type} {f : α → D} {es : Nat} {l : List α} {n : Nat} {x : α} (k : IntKind) (hx : l[n]? = some x) (hc : (f x).cells.length = es) : ia es (.d (.lst (l.map f))) (.d (.int k (n : Int))) = some (.fp (f x) 0) :=
  ia_at k (by rw [List.getElem?_map, hx]; rfl) hc

/-- The place of the first element where something holds, or -1. -/
def idxZ {α : Type} (p : α → Bool) (l : List α) : Int := match fst? p 0 l with
  | some (n, _) => n
  | none => -1
theorem idxZ_nn {α : Type} (p : α → Bool) (l : List α) : (0 ≤ idxZ p l) = (l.any p = true) := by
  unfold idxZ
  cases hq : fst? p 0 l with
  | none =>
    rw [fst_none] at hq
    simp only [hq, Bool.false_eq_true]
    simp
  | some y =>
    obtain ⟨n, x⟩ := y
    have : l.any p = true := by
      by_cases ha : l.any p = true
      · exact ha
      · rw [fst_none.2 (by simpa using ha)] at hq; cases hq
    simp only [this]
    simp

/-- Folds over the first elements. -/
def foldT {α S : Type} (stp : S → α → S) (s : S) (l : List α) (n : Nat) : S := (l.take n).foldl stp s
theorem foldT_succ {α S : Type} {stp : S → α → S} {s : S} {l : List α} {n : Nat} {x : α} (h : l[n]? = some x) : foldT stp s l (n + 1) = stp (foldT stp s l n) x := by
  unfold foldT
  obtain ⟨hlt, rfl⟩ := List.getElem?_eq_some_iff.1 h
  rw [List.take_succ_eq_append_getElem hlt, List.foldl_append]; rfl
theorem look_hd (n : Nat) (o : Ob) (r : List (Nat × Ob)) : look ((n, o) :: r) n = some o := if_pos rfl
theorem look_tl {m n : Nat} (o : Ob) (r : List (Nat × Ob)) (h : n ≠ m) : look ((m, o) :: r) n = look r n := if_neg h
theorem row_look {h : Hp} {n es tot : Nat} {els : List V} (H : look h.objs n = some (.arr es els)) (hl : els.length = tot) : h.row n tot = some (es, els) := by
  unfold Hp.row Hp.get
  rw [H]
  simp [hl]

/-- A loop of which only something is known. -/
theorem loop_wp {T : Tab} {a : AC} (N : Nat) (J : Nat → Env → Hp → Prop) (Q : Out → Prop)
    (hs : ∀ n e h, n < N → J n e h → wp T a e h (fun o => (o.1 = .norm ∧ J (n + 1) o.2.1 o.2.2) ∨ (o.1 ≠ .norm ∧ Q o)))
    (hN : ∀ e h, J N e h → wp T a e h (fun o => o.1 ≠ .norm ∧ Q o)) :
    ∀ (k n : Nat) (e : Env) (h : Hp), n + k = N → J n e h → wp T (.loop a) e h Q := by
  intro k
  induction k with
  | zero =>
    intro n e h hn hJ
    have : n = N := by omega
    subst this
    obtain ⟨o, h1, h2, h3⟩ := hN e h hJ
    refine ⟨o, ?_, h3⟩
    rw [ex_loop, h1, Option.bind_some]
    obtain ⟨x, e', h'⟩ := o
    cases x with
    | norm => exact absurd rfl h2
    | exit i => rfl
    | ret => rfl
  | succ k ih =>
    intro n e h hn hJ
    obtain ⟨o, h1, h2⟩ := hs n e h (by omega) hJ
    obtain ⟨x, e', h'⟩ := o
    rcases h2 with ⟨h2, h3⟩ | ⟨h2, h3⟩
    · cases h2
      obtain ⟨q, k1, k2⟩ := ih (n + 1) e' h' (by omega) h3
      refine ⟨q, ?_, k2⟩
      rw [ex_loop, h1, Option.bind_some, nxt_n]
      exact k1
    · refine ⟨(x, e', h'), ?_, h3⟩
      rw [ex_loop, h1, Option.bind_some]
      cases x with
      | norm => exact absurd rfl h2
      | exit i => rfl
      | ret => rfl
/-- A loop that looks for an element; it may make objects that are gone behind a round. -/
theorem loop_anyq {T : Tab} {a : AC} {α : Type} {l : List α} {p : α → Bool} {f : Nat → Env} {h : Hp} {x1 x2 : Ex} {e1 e2 : Env}
    (hs : ∀ q n x, l[n]? = some x → n < l.length → p x = false → wp T a (f n) ⟨h.objs, q⟩ (fun o => ∃ q', o = (.norm, f (n + 1), ⟨h.objs, q'⟩)))
    (hx : ∀ q n x, l[n]? = some x → n < l.length → p x = true → wp T a (f n) ⟨h.objs, q⟩ (fun o => ∃ q', o = (x1, e1, ⟨h.objs, q'⟩)))
    (hN : ∀ q, wp T a (f l.length) ⟨h.objs, q⟩ (fun o => ∃ q', o = (x2, e2, ⟨h.objs, q'⟩))) (ho : x1 ≠ .norm) (hoN : x2 ≠ .norm) :
    ∃ q', ex T (.loop a) (f 0) h = some (if l.any p = true then (x1, e1, ⟨h.objs, q'⟩) else (x2, e2, ⟨h.objs, q'⟩)) := by
  obtain ⟨o, h1, q, h2⟩ : wp T (.loop a) (f 0) h (fun o => ∃ q', o = if l.any p = true then (x1, e1, ⟨h.objs, q'⟩) else (x2, e2, ⟨h.objs, q'⟩)) := by
    refine loop_wp l.length (fun n e h' => (∃ q, h' = ⟨h.objs, q⟩) ∧ e = f n ∧ ∀ i x, i < n → l[i]? = some x → p x = false) _ ?_ ?_ l.length 0 _ _ (by omega) ⟨⟨h.next, rfl⟩, rfl, fun i x hi => by omega⟩
    · rintro n e h' hn ⟨⟨q, rfl⟩, rfl, hk⟩
      have hx' : l[n]? = some l[n] := List.getElem?_eq_getElem hn
      cases hp : p l[n] with
      | true =>
        obtain ⟨o, hq, q', rfl⟩ := hx q n _ hx' hn hp
        have : l.any p = true := List.any_eq_true.2 ⟨_, List.getElem_mem hn, hp⟩
        rw [this]
        exact ⟨_, hq, .inr ⟨ho, q', rfl⟩⟩
      | false =>
        obtain ⟨o, hq, q', rfl⟩ := hs q n _ hx' hn hp
        refine ⟨_, hq, .inl ⟨rfl, ⟨q', rfl⟩, rfl, fun i x hi hxi => ?_⟩⟩
        by_cases hij : i = n
        · subst hij; rw [hx'] at hxi; cases hxi; exact hp
        · exact hk i x (by omega) hxi
    · rintro e h' ⟨⟨q, rfl⟩, rfl, hk⟩
      have : l.any p = false := by
        rw [← Bool.not_eq_true, List.any_eq_true]
        rintro ⟨x, hx, hp⟩
        obtain ⟨i, hi1, hi2⟩ := List.getElem_of_mem hx
        rw [hk i x hi1 (by rw [List.getElem?_eq_getElem hi1, hi2])] at hp
        cases hp
      rw [this]
      obtain ⟨o, hq, q', rfl⟩ := hN q
      exact ⟨_, hq, hoN, q', rfl⟩
  exact ⟨q, by rw [h1, h2]⟩
/-- A loop that goes through a list and never leaves it early. -/
theorem loop_all {T : Tab} {a : AC} {α : Type} {l : List α} {f : Nat → Env} {h : Hp} {oN : Out}
    (hs : ∀ n x, l[n]? = some x → n < l.length → ex T a (f n) h = some (.norm, f (n + 1), h))
    (hN : ex T a (f l.length) h = some oN) (hoN : oN.1 ≠ .norm) : ex T (.loop a) (f 0) h = some oN := by
  have := loop_any (T := T) (a := a) (l := l) (p := fun _ => false) (f := f) (h := h) (o := oN) (oN := oN) (fun n x hx hlt _ => hs n x hx hlt) (fun n x _ _ hp => by cases hp) hN hoN hoN
  simpa using this
theorem wq_loop (T : Tab) (a : AC) (e : Env) (h : Hp) (Q : Out → Prop) : wp T (.loop a) e h Q = wp T a e h (seqQ T (.loop a) Q) := by
  rw [← wq_seq]
  apply propext
  unfold wp
  rw [ex_loop, ex_seq]

theorem an {a b : Prop} (x : a) (y : b) : a ∧ b := ⟨x, y⟩
/-- All steps, and the words for data. -/
def qz := PLift.up (an ws (an wsl (an int.eq_1 Zv.bool.eq_1)))
theorem wz : type_of% qz.down := qz.down
def qq := PLift.up (an @decide_eq_true_eq (an @decide_eq_false_iff_not (an @Bool.not_eq_true' @Bool.not_eq_false')))
theorem dq : type_of% qq.down := qq.down
def qi := PLift.up (an It.m.eq_1 (an It.u.eq_1 (an It.g.eq_1 (an Opd.f.eq_1 (an Opd.i.eq_1 Opd.b.eq_1)))))
theorem itE : type_of% qi.down := qi.down
/-- A part of the code, as an equation. -/
theorem rgE {f : AC} {i : List It} {k : Option (List Nat)} (hf : f = .reg i k) (T : Tab) (e : Env) (h : Hp) (Q : Out → Prop) : wp T f e h Q = wpI (cW T) i e h (regQ k Q) := by subst hf; exact wq_reg ..
theorem bdE {f g : AC} (hf : f = g) (T : Tab) (e : Env) (h : Hp) (Q : Out → Prop) : wp T f e h Q = wp T g e h Q := by subst hf; rfl
end Zs
end
section
set_option linter.unusedSimpArgs false
set_option linter.unusedVariables false
namespace Zc27
open Go Zv Zs
variable (T : Tab) (e : Env) (h : Hp) (Q : Out → Prop)
def q3 := PLift.up <| an f3.eq_1 <| an (bdE b3.eq_1) <| an (rgE f3r0.eq_1) <| an (rgE f3r1.eq_1) <| an (rgE f3r2.eq_1) <| an (rgE f3r3.eq_1) <| an i3r0.eq_1 <| an i3r1.eq_1 <| an i3r2.eq_1 <| an i3r3.eq_1 <| itE
theorem e3 : type_of% q3.down := q3.down
def q4 := PLift.up <| an f4.eq_1 <| an (bdE b4.eq_1) <| an (rgE f4r0.eq_1) <| an (rgE f4r1.eq_1) <| an (rgE f4r2.eq_1) <| an (rgE f4r3.eq_1) <| an (rgE f4r4.eq_1) <| an (rgE f4r5.eq_1) <| an (rgE f4r6.eq_1) <| an (rgE f4r7.eq_1) <| an (rgE f4r8.eq_1) <| an (rgE f4r9.eq_1) <| an (rgE f4r10.eq_1) <| an (rgE f4r11.eq_1) <| an (rgE f4r12.eq_1) <| an (rgE f4r13.eq_1) <| an (rgE f4r14.eq_1) <| an (rgE f4r15.eq_1) <| an (rgE f4r16.eq_1) <| an (rgE f4r17.eq_1) <| an (bdE f4l0.eq_1) <| an (rgE f4r18.eq_1) <| an (rgE f4r19.eq_1) <| an (rgE f4r20.eq_1) <| an (rgE f4r21.eq_1) <| an i4r0.eq_1 <| an i4r1.eq_1 <| an i4r2.eq_1 <| an i4r3.eq_1 <| an i4r4.eq_1 <| an i4r5.eq_1 <| an i4r6.eq_1 <| an i4r7.eq_1 <| an i4r8.eq_1 <| an i4r9.eq_1 <| an i4r10.eq_1 <| an i4r11.eq_1 <| an i4r12.eq_1 <| an i4r13.eq_1 <| an i4r14.eq_1 <| an i4r15.eq_1 <| an i4r16.eq_1 <| an i4r17.eq_1 <| an i4r18.eq_1 <| an i4r19.eq_1 <| an i4r20.eq_1 <| an i4r21.eq_1 <| itE
theorem e4 : type_of% q4.down := q4.down
def q6 := PLift.up <| an f6.eq_1 <| an (bdE b6.eq_1) <| an (rgE f6r0.eq_1) <| an (rgE f6r1.eq_1) <| an (rgE f6r2.eq_1) <| an (rgE f6r3.eq_1) <| an (rgE f6r4.eq_1) <| an (rgE f6r5.eq_1) <| an (rgE f6r6.eq_1) <| an (rgE f6r7.eq_1) <| an (rgE f6r8.eq_1) <| an (rgE f6r9.eq_1) <| an (rgE f6r10.eq_1) <| an (rgE f6r11.eq_1) <| an (rgE f6r12.eq_1) <| an (rgE f6r13.eq_1) <| an (rgE f6r14.eq_1) <| an (rgE f6r15.eq_1) <| an i6r0.eq_1 <| an i6r1.eq_1 <| an i6r2.eq_1 <| an i6r3.eq_1 <| an i6r4.eq_1 <| an i6r5.eq_1 <| an i6r6.eq_1 <| an i6r7.eq_1 <| an i6r8.eq_1 <| an i6r9.eq_1 <| an i6r10.eq_1 <| an i6r11.eq_1 <| an i6r12.eq_1 <| an i6r13.eq_1 <| an i6r14.eq_1 <| an i6r15.eq_1 <| itE
theorem e6 : type_of% q6.down := q6.down
def q8 := PLift.up <| an f8.eq_1 <| an (bdE b8.eq_1) <| an (rgE f8r0.eq_1) <| an (rgE f8r1.eq_1) <| an (rgE f8r2.eq_1) <| an (rgE f8r3.eq_1) <| an (rgE f8r4.eq_1) <| an (rgE f8r5.eq_1) <| an (rgE f8r6.eq_1) <| an (rgE f8r7.eq_1) <| an (rgE f8r8.eq_1) <| an (rgE f8r9.eq_1) <| an (rgE f8r10.eq_1) <| an (rgE f8r11.eq_1) <| an (rgE f8r12.eq_1) <| an (rgE f8r13.eq_1) <| an (rgE f8r14.eq_1) <| an (rgE f8r15.eq_1) <| an (rgE f8r16.eq_1) <| an (bdE f8l0.eq_1) <| an (rgE f8r17.eq_1) <| an (rgE f8r18.eq_1) <| an (rgE f8r19.eq_1) <| an (rgE f8r20.eq_1) <| an (rgE f8r21.eq_1) <| an (rgE f8r22.eq_1) <| an (rgE f8r23.eq_1) <| an (rgE f8r24.eq_1) <| an (rgE f8r25.eq_1) <| an (rgE f8r26.eq_1) <| an (bdE f8l1.eq_1) <| an (rgE f8r27.eq_1) <| an (bdE f8l2.eq_1) <| an (rgE f8r28.eq_1) <| an i8r0.eq_1 <| an i8r1.eq_1 <| an i8r2.eq_1 <| an i8r3.eq_1 <| an i8r4.eq_1 <| an i8r5.eq_1 <| an i8r6.eq_1 <| an i8r7.eq_1 <| an i8r8.eq_1 <| an i8r9.eq_1 <| an i8r10.eq_1 <| an i8r11.eq_1 <| an i8r12.eq_1 <| an i8r13.eq_1 <| an i8r14.eq_1 <| an i8r15.eq_1 <| an i8r16.eq_1 <| an i8r17.eq_1 <| an i8r18.eq_1 <| an i8r19.eq_1 <| an i8r20.eq_1 <| an i8r21.eq_1 <| an i8r22.eq_1 <| an i8r23.eq_1 <| an i8r24.eq_1 <| an i8r25.eq_1 <| an i8r26.eq_1 <| an i8r27.eq_1 <| an i8r28.eq_1 <| itE
theorem e8 : type_of% q8.down := q8.down
def q9 := PLift.up <| an f9.eq_1 <| an (bdE b9.eq_1) <| an (rgE f9r0.eq_1) <| an (rgE f9r1.eq_1) <| an (rgE f9r2.eq_1) <| an (rgE f9r3.eq_1) <| an (rgE f9r4.eq_1) <| an (rgE f9r5.eq_1) <| an (bdE f9l0.eq_1) <| an (rgE f9r6.eq_1) <| an i9r0.eq_1 <| an i9r1.eq_1 <| an i9r2.eq_1 <| an i9r3.eq_1 <| an i9r4.eq_1 <| an i9r5.eq_1 <| an i9r6.eq_1 <| itE
theorem e9 : type_of% q9.down := q9.down
def q11 := PLift.up <| an f11.eq_1 <| an (bdE b11.eq_1) <| an (rgE f11r0.eq_1) <| an (rgE f11r1.eq_1) <| an (rgE f11r2.eq_1) <| an (rgE f11r3.eq_1) <| an (rgE f11r4.eq_1) <| an (rgE f11r5.eq_1) <| an (rgE f11r6.eq_1) <| an (rgE f11r7.eq_1) <| an (rgE f11r8.eq_1) <| an (rgE f11r9.eq_1) <| an (rgE f11r10.eq_1) <| an (rgE f11r11.eq_1) <| an (rgE f11r12.eq_1) <| an (bdE f11l0.eq_1) <| an (rgE f11r13.eq_1) <| an (rgE f11r14.eq_1) <| an (rgE f11r15.eq_1) <| an (rgE f11r16.eq_1) <| an (rgE f11r17.eq_1) <| an (rgE f11r18.eq_1) <| an (rgE f11r19.eq_1) <| an (rgE f11r20.eq_1) <| an (rgE f11r21.eq_1) <| an (rgE f11r22.eq_1) <| an (rgE f11r23.eq_1) <| an (bdE f11l1.eq_1) <| an (rgE f11r24.eq_1) <| an (bdE f11l2.eq_1) <| an (rgE f11r25.eq_1) <| an i11r0.eq_1 <| an i11r1.eq_1 <| an i11r2.eq_1 <| an i11r3.eq_1 <| an i11r4.eq_1 <| an i11r5.eq_1 <| an i11r6.eq_1 <| an i11r7.eq_1 <| an i11r8.eq_1 <| an i11r9.eq_1 <| an i11r10.eq_1 <| an i11r11.eq_1 <| an i11r12.eq_1 <| an i11r13.eq_1 <| an i11r14.eq_1 <| an i11r15.eq_1 <| an i11r16.eq_1 <| an i11r17.eq_1 <| an i11r18.eq_1 <| an i11r19.eq_1 <| an i11r20.eq_1 <| an i11r21.eq_1 <| an i11r22.eq_1 <| an i11r23.eq_1 <| an i11r24.eq_1 <| an i11r25.eq_1 <| itE
theorem e11 : type_of% q11.down := q11.down
def q12 := PLift.up <| an f12.eq_1 <| an (bdE b12.eq_1) <| an (rgE f12r0.eq_1) <| an (rgE f12r1.eq_1) <| an (rgE f12r2.eq_1) <| an (rgE f12r3.eq_1) <| an (rgE f12r4.eq_1) <| an (rgE f12r5.eq_1) <| an (bdE f12l0.eq_1) <| an (rgE f12r6.eq_1) <| an i12r0.eq_1 <| an i12r1.eq_1 <| an i12r2.eq_1 <| an i12r3.eq_1 <| an i12r4.eq_1 <| an i12r5.eq_1 <| an i12r6.eq_1 <| itE
theorem e12 : type_of% q12.down := q12.down
def q13 := PLift.up <| an f13.eq_1 <| an (bdE b13.eq_1) <| an (rgE f13r0.eq_1) <| an (rgE f13r1.eq_1) <| an (rgE f13r2.eq_1) <| an (rgE f13r3.eq_1) <| an (rgE f13r4.eq_1) <| an (rgE f13r5.eq_1) <| an (rgE f13r6.eq_1) <| an (rgE f13r7.eq_1) <| an (rgE f13r8.eq_1) <| an (rgE f13r9.eq_1) <| an (bdE f13l0.eq_1) <| an (rgE f13r10.eq_1) <| an (rgE f13r11.eq_1) <| an (rgE f13r12.eq_1) <| an (rgE f13r13.eq_1) <| an (rgE f13r14.eq_1) <| an (rgE f13r15.eq_1) <| an (rgE f13r16.eq_1) <| an (bdE f13l1.eq_1) <| an (rgE f13r17.eq_1) <| an (bdE f13l2.eq_1) <| an (rgE f13r18.eq_1) <| an (rgE f13r19.eq_1) <| an (rgE f13r20.eq_1) <| an (rgE f13r21.eq_1) <| an (rgE f13r22.eq_1) <| an (rgE f13r23.eq_1) <| an (rgE f13r24.eq_1) <| an (rgE f13r25.eq_1) <| an (rgE f13r26.eq_1) <| an (bdE f13l3.eq_1) <| an (rgE f13r27.eq_1) <| an (bdE f13l4.eq_1) <| an (rgE f13r28.eq_1) <| an i13r0.eq_1 <| an i13r1.eq_1 <| an i13r2.eq_1 <| an i13r3.eq_1 <| an i13r4.eq_1 <| an i13r5.eq_1 <| an i13r6.eq_1 <| an i13r7.eq_1 <| an i13r8.eq_1 <| an i13r9.eq_1 <| an i13r10.eq_1 <| an i13r11.eq_1 <| an i13r12.eq_1 <| an i13r13.eq_1 <| an i13r14.eq_1 <| an i13r15.eq_1 <| an i13r16.eq_1 <| an i13r17.eq_1 <| an i13r18.eq_1 <| an i13r19.eq_1 <| an i13r20.eq_1 <| an i13r21.eq_1 <| an i13r22.eq_1 <| an i13r23.eq_1 <| an i13r24.eq_1 <| an i13r25.eq_1 <| an i13r26.eq_1 <| an i13r27.eq_1 <| an i13r28.eq_1 <| itE
theorem e13 : type_of% q13.down := q13.down
def q15 := PLift.up <| an f15.eq_1 <| an (bdE b15.eq_1) <| an (rgE f15r0.eq_1) <| an (rgE f15r1.eq_1) <| an (rgE f15r2.eq_1) <| an (rgE f15r3.eq_1) <| an (rgE f15r4.eq_1) <| an (rgE f15r5.eq_1) <| an (bdE f15l0.eq_1) <| an (rgE f15r6.eq_1) <| an i15r0.eq_1 <| an i15r1.eq_1 <| an i15r2.eq_1 <| an i15r3.eq_1 <| an i15r4.eq_1 <| an i15r5.eq_1 <| an i15r6.eq_1 <| itE
theorem e15 : type_of% q15.down := q15.down
def q16 := PLift.up <| an f16.eq_1 <| an (bdE b16.eq_1) <| an (rgE f16r0.eq_1) <| an (rgE f16r1.eq_1) <| an (rgE f16r2.eq_1) <| an (rgE f16r3.eq_1) <| an (rgE f16r4.eq_1) <| an (rgE f16r5.eq_1) <| an (rgE f16r6.eq_1) <| an (rgE f16r7.eq_1) <| an (rgE f16r8.eq_1) <| an (rgE f16r9.eq_1) <| an (rgE f16r10.eq_1) <| an (bdE f16l0.eq_1) <| an (rgE f16r11.eq_1) <| an i16r0.eq_1 <| an i16r1.eq_1 <| an i16r2.eq_1 <| an i16r3.eq_1 <| an i16r4.eq_1 <| an i16r5.eq_1 <| an i16r6.eq_1 <| an i16r7.eq_1 <| an i16r8.eq_1 <| an i16r9.eq_1 <| an i16r10.eq_1 <| an i16r11.eq_1 <| itE
theorem e16 : type_of% q16.down := q16.down
def q19 := PLift.up <| an f19.eq_1 <| an (bdE b19.eq_1) <| an (rgE f19r0.eq_1) <| an (rgE f19r1.eq_1) <| an (rgE f19r2.eq_1) <| an (rgE f19r3.eq_1) <| an (rgE f19r4.eq_1) <| an (rgE f19r5.eq_1) <| an i19r0.eq_1 <| an i19r1.eq_1 <| an i19r2.eq_1 <| an i19r3.eq_1 <| an i19r4.eq_1 <| an i19r5.eq_1 <| itE
theorem e19 : type_of% q19.down := q19.down
def q24 := PLift.up <| an f24.eq_1 <| an (bdE b24.eq_1) <| an (rgE f24r0.eq_1) <| an (rgE f24r1.eq_1) <| an (rgE f24r2.eq_1) <| an (rgE f24r3.eq_1) <| an (rgE f24r4.eq_1) <| an (rgE f24r5.eq_1) <| an (rgE f24r6.eq_1) <| an (rgE f24r7.eq_1) <| an (rgE f24r8.eq_1) <| an (bdE f24l0.eq_1) <| an (rgE f24r9.eq_1) <| an i24r0.eq_1 <| an i24r1.eq_1 <| an i24r2.eq_1 <| an i24r3.eq_1 <| an i24r4.eq_1 <| an i24r5.eq_1 <| an i24r6.eq_1 <| an i24r7.eq_1 <| an i24r8.eq_1 <| an i24r9.eq_1 <| itE
theorem e24 : type_of% q24.down := q24.down
def q26 := PLift.up <| an f26.eq_1 <| an (bdE b26.eq_1) <| an (rgE f26r0.eq_1) <| an (rgE f26r1.eq_1) <| an i26r0.eq_1 <| an i26r1.eq_1 <| itE
theorem e26 : type_of% q26.down := q26.down
def q28 := PLift.up <| an f28.eq_1 <| an (bdE b28.eq_1) <| an (rgE f28r0.eq_1) <| an (rgE f28r1.eq_1) <| an (rgE f28r2.eq_1) <| an (rgE f28r3.eq_1) <| an (rgE f28r4.eq_1) <| an (rgE f28r5.eq_1) <| an (rgE f28r6.eq_1) <| an (rgE f28r7.eq_1) <| an (rgE f28r8.eq_1) <| an (rgE f28r9.eq_1) <| an (rgE f28r10.eq_1) <| an (bdE f28l0.eq_1) <| an (rgE f28r11.eq_1) <| an (bdE f28l1.eq_1) <| an (rgE f28r12.eq_1) <| an i28r0.eq_1 <| an i28r1.eq_1 <| an i28r2.eq_1 <| an i28r3.eq_1 <| an i28r4.eq_1 <| an i28r5.eq_1 <| an i28r6.eq_1 <| an i28r7.eq_1 <| an i28r8.eq_1 <| an i28r9.eq_1 <| an i28r10.eq_1 <| an i28r11.eq_1 <| an i28r12.eq_1 <| itE
theorem e28 : type_of% q28.down := q28.down
def q29 := PLift.up <| an f29.eq_1 <| an (bdE b29.eq_1) <| an (rgE f29r0.eq_1) <| an (rgE f29r1.eq_1) <| an (rgE f29r2.eq_1) <| an (rgE f29r3.eq_1) <| an (rgE f29r4.eq_1) <| an (bdE f29l0.eq_1) <| an (rgE f29r5.eq_1) <| an i29r0.eq_1 <| an i29r1.eq_1 <| an i29r2.eq_1 <| an i29r3.eq_1 <| an i29r4.eq_1 <| an i29r5.eq_1 <| itE
theorem e29 : type_of% q29.down := q29.down
def q30 := PLift.up <| an f30.eq_1 <| an (bdE b30.eq_1) <| an (rgE f30r0.eq_1) <| an (rgE f30r1.eq_1) <| an (rgE f30r2.eq_1) <| an (rgE f30r3.eq_1) <| an (rgE f30r4.eq_1) <| an (rgE f30r5.eq_1) <| an (rgE f30r6.eq_1) <| an (rgE f30r7.eq_1) <| an (rgE f30r8.eq_1) <| an (rgE f30r9.eq_1) <| an (bdE f30l0.eq_1) <| an (rgE f30r10.eq_1) <| an (bdE f30l1.eq_1) <| an (rgE f30r11.eq_1) <| an i30r0.eq_1 <| an i30r1.eq_1 <| an i30r2.eq_1 <| an i30r3.eq_1 <| an i30r4.eq_1 <| an i30r5.eq_1 <| an i30r6.eq_1 <| an i30r7.eq_1 <| an i30r8.eq_1 <| an i30r9.eq_1 <| an i30r10.eq_1 <| an i30r11.eq_1 <| itE
theorem e30 : type_of% q30.down := q30.down
def q33 := PLift.up <| an f33.eq_1 <| an (bdE b33.eq_1) <| an (rgE f33r0.eq_1) <| an (rgE f33r1.eq_1) <| an (rgE f33r2.eq_1) <| an (rgE f33r3.eq_1) <| an (rgE f33r4.eq_1) <| an (rgE f33r5.eq_1) <| an (rgE f33r6.eq_1) <| an (rgE f33r7.eq_1) <| an (rgE f33r8.eq_1) <| an (rgE f33r9.eq_1) <| an (rgE f33r10.eq_1) <| an (rgE f33r11.eq_1) <| an (rgE f33r12.eq_1) <| an (rgE f33r13.eq_1) <| an (rgE f33r14.eq_1) <| an (rgE f33r15.eq_1) <| an (bdE f33l0.eq_1) <| an (rgE f33r16.eq_1) <| an (bdE f33l1.eq_1) <| an (rgE f33r17.eq_1) <| an (rgE f33r18.eq_1) <| an (rgE f33r19.eq_1) <| an i33r0.eq_1 <| an i33r1.eq_1 <| an i33r2.eq_1 <| an i33r3.eq_1 <| an i33r4.eq_1 <| an i33r5.eq_1 <| an i33r6.eq_1 <| an i33r7.eq_1 <| an i33r8.eq_1 <| an i33r9.eq_1 <| an i33r10.eq_1 <| an i33r11.eq_1 <| an i33r12.eq_1 <| an i33r13.eq_1 <| an i33r14.eq_1 <| an i33r15.eq_1 <| an i33r16.eq_1 <| an i33r17.eq_1 <| an i33r18.eq_1 <| an i33r19.eq_1 <| itE
theorem e33 : type_of% q33.down := q33.down
def q34 := PLift.up <| an f34.eq_1 <| an (bdE b34.eq_1) <| an (rgE f34r0.eq_1) <| an (rgE f34r1.eq_1) <| an i34r0.eq_1 <| an i34r1.eq_1 <| itE
theorem e34 : type_of% q34.down := q34.down
def q35 := PLift.up <| an f35.eq_1 <| an (bdE b35.eq_1) <| an (rgE f35r0.eq_1) <| an (rgE f35r1.eq_1) <| an i35r0.eq_1 <| an i35r1.eq_1 <| itE
theorem e35 : type_of% q35.down := q35.down
def q36 := PLift.up <| an f36.eq_1 <| an (bdE b36.eq_1) <| an (rgE f36r0.eq_1) <| an (rgE f36r1.eq_1) <| an i36r0.eq_1 <| an i36r1.eq_1 <| itE
theorem e36 : type_of% q36.down := q36.down
def q37 := PLift.up <| an f37.eq_1 <| an (bdE b37.eq_1) <| an (rgE f37r0.eq_1) <| an (rgE f37r1.eq_1) <| an i37r0.eq_1 <| an i37r1.eq_1 <| itE
theorem e37 : type_of% q37.down := q37.down
def q38 := PLift.up <| an f38.eq_1 <| an (bdE b38.eq_1) <| an (rgE f38r0.eq_1) <| an (rgE f38r1.eq_1) <| an i38r0.eq_1 <| an i38r1.eq_1 <| itE
theorem e38 : type_of% q38.down := q38.down
def q39 := PLift.up <| an f39.eq_1 <| an (bdE b39.eq_1) <| an (rgE f39r0.eq_1) <| an (rgE f39r1.eq_1) <| an (rgE f39r2.eq_1) <| an (rgE f39r3.eq_1) <| an (rgE f39r4.eq_1) <| an (rgE f39r5.eq_1) <| an (rgE f39r6.eq_1) <| an (rgE f39r7.eq_1) <| an (rgE f39r8.eq_1) <| an (rgE f39r9.eq_1) <| an (rgE f39r10.eq_1) <| an (rgE f39r11.eq_1) <| an (rgE f39r12.eq_1) <| an (rgE f39r13.eq_1) <| an (rgE f39r14.eq_1) <| an (rgE f39r15.eq_1) <| an (rgE f39r16.eq_1) <| an (rgE f39r17.eq_1) <| an (bdE f39l0.eq_1) <| an (rgE f39r18.eq_1) <| an (rgE f39r19.eq_1) <| an i39r0.eq_1 <| an i39r1.eq_1 <| an i39r2.eq_1 <| an i39r3.eq_1 <| an i39r4.eq_1 <| an i39r5.eq_1 <| an i39r6.eq_1 <| an i39r7.eq_1 <| an i39r8.eq_1 <| an i39r9.eq_1 <| an i39r10.eq_1 <| an i39r11.eq_1 <| an i39r12.eq_1 <| an i39r13.eq_1 <| an i39r14.eq_1 <| an i39r15.eq_1 <| an i39r16.eq_1 <| an i39r17.eq_1 <| an i39r18.eq_1 <| an i39r19.eq_1 <| itE
theorem e39 : type_of% q39.down := q39.down
def q40 := PLift.up <| an f40.eq_1 <| an (bdE b40.eq_1) <| an (rgE f40r0.eq_1) <| an (rgE f40r1.eq_1) <| an (rgE f40r2.eq_1) <| an (rgE f40r3.eq_1) <| an (rgE f40r4.eq_1) <| an (rgE f40r5.eq_1) <| an (rgE f40r6.eq_1) <| an (rgE f40r7.eq_1) <| an (rgE f40r8.eq_1) <| an (rgE f40r9.eq_1) <| an (rgE f40r10.eq_1) <| an (rgE f40r11.eq_1) <| an i40r0.eq_1 <| an i40r1.eq_1 <| an i40r2.eq_1 <| an i40r3.eq_1 <| an i40r4.eq_1 <| an i40r5.eq_1 <| an i40r6.eq_1 <| an i40r7.eq_1 <| an i40r8.eq_1 <| an i40r9.eq_1 <| an i40r10.eq_1 <| an i40r11.eq_1 <| itE
theorem e40 : type_of% q40.down := q40.down
def q41 := PLift.up <| an f41.eq_1 <| an (bdE b41.eq_1) <| an (rgE f41r0.eq_1) <| an (rgE f41r1.eq_1) <| an (rgE f41r2.eq_1) <| an (rgE f41r3.eq_1) <| an (rgE f41r4.eq_1) <| an (rgE f41r5.eq_1) <| an (rgE f41r6.eq_1) <| an (rgE f41r7.eq_1) <| an (bdE f41l0.eq_1) <| an (rgE f41r8.eq_1) <| an i41r0.eq_1 <| an i41r1.eq_1 <| an i41r2.eq_1 <| an i41r3.eq_1 <| an i41r4.eq_1 <| an i41r5.eq_1 <| an i41r6.eq_1 <| an i41r7.eq_1 <| an i41r8.eq_1 <| itE
theorem e41 : type_of% q41.down := q41.down
def q42 := PLift.up <| an f42.eq_1 <| an (bdE b42.eq_1) <| an (rgE f42r0.eq_1) <| an (rgE f42r1.eq_1) <| an (rgE f42r2.eq_1) <| an (rgE f42r3.eq_1) <| an (rgE f42r4.eq_1) <| an (rgE f42r5.eq_1) <| an (rgE f42r6.eq_1) <| an (rgE f42r7.eq_1) <| an (rgE f42r8.eq_1) <| an (rgE f42r9.eq_1) <| an (rgE f42r10.eq_1) <| an (rgE f42r11.eq_1) <| an (rgE f42r12.eq_1) <| an (rgE f42r13.eq_1) <| an (rgE f42r14.eq_1) <| an (rgE f42r15.eq_1) <| an (rgE f42r16.eq_1) <| an (bdE f42l0.eq_1) <| an (rgE f42r17.eq_1) <| an (rgE f42r18.eq_1) <| an i42r0.eq_1 <| an i42r1.eq_1 <| an i42r2.eq_1 <| an i42r3.eq_1 <| an i42r4.eq_1 <| an i42r5.eq_1 <| an i42r6.eq_1 <| an i42r7.eq_1 <| an i42r8.eq_1 <| an i42r9.eq_1 <| an i42r10.eq_1 <| an i42r11.eq_1 <| an i42r12.eq_1 <| an i42r13.eq_1 <| an i42r14.eq_1 <| an i42r15.eq_1 <| an i42r16.eq_1 <| an i42r17.eq_1 <| an i42r18.eq_1 <| itE
theorem e42 : type_of% q42.down := q42.down
def q44 := PLift.up <| an f44.eq_1 <| an (bdE b44.eq_1) <| an (rgE f44r0.eq_1) <| an (rgE f44r1.eq_1) <| an (rgE f44r2.eq_1) <| an (rgE f44r3.eq_1) <| an (rgE f44r4.eq_1) <| an (rgE f44r5.eq_1) <| an (rgE f44r6.eq_1) <| an (rgE f44r7.eq_1) <| an (rgE f44r8.eq_1) <| an (rgE f44r9.eq_1) <| an (rgE f44r10.eq_1) <| an (rgE f44r11.eq_1) <| an (rgE f44r12.eq_1) <| an (rgE f44r13.eq_1) <| an (rgE f44r14.eq_1) <| an (rgE f44r15.eq_1) <| an (rgE f44r16.eq_1) <| an (bdE a44q0.eq_1) <| an (bdE d44q0.eq_1) <| an (rgE f44r17.eq_1) <| an i44r0.eq_1 <| an i44r1.eq_1 <| an i44r2.eq_1 <| an i44r3.eq_1 <| an i44r4.eq_1 <| an i44r5.eq_1 <| an i44r6.eq_1 <| an i44r7.eq_1 <| an i44r8.eq_1 <| an i44r9.eq_1 <| an i44r10.eq_1 <| an i44r11.eq_1 <| an i44r12.eq_1 <| an i44r13.eq_1 <| an i44r14.eq_1 <| an i44r15.eq_1 <| an i44r16.eq_1 <| an i44r17.eq_1 <| itE
theorem e44 : type_of% q44.down := q44.down
def q45 := PLift.up <| an f45.eq_1 <| an (bdE b45.eq_1) <| an (rgE f45r0.eq_1) <| an (rgE f45r1.eq_1) <| an i45r0.eq_1 <| an i45r1.eq_1 <| itE
theorem e45 : type_of% q45.down := q45.down
def q51 := PLift.up <| an f51.eq_1 <| an (bdE b51.eq_1) <| an (rgE f51r0.eq_1) <| an (rgE f51r1.eq_1) <| an (rgE f51r2.eq_1) <| an (rgE f51r3.eq_1) <| an (rgE f51r4.eq_1) <| an (rgE f51r5.eq_1) <| an (rgE f51r6.eq_1) <| an (rgE f51r7.eq_1) <| an (rgE f51r8.eq_1) <| an (rgE f51r9.eq_1) <| an (rgE f51r10.eq_1) <| an (rgE f51r11.eq_1) <| an (bdE a51q0.eq_1) <| an (bdE d51q0.eq_1) <| an (rgE f51r12.eq_1) <| an (rgE f51r13.eq_1) <| an (rgE f51r14.eq_1) <| an (rgE f51r15.eq_1) <| an (rgE f51r16.eq_1) <| an (rgE f51r17.eq_1) <| an (rgE f51r18.eq_1) <| an (rgE f51r19.eq_1) <| an (rgE f51r20.eq_1) <| an (bdE f51l0.eq_1) <| an (rgE f51r21.eq_1) <| an (rgE f51r22.eq_1) <| an (rgE f51r23.eq_1) <| an (rgE f51r24.eq_1) <| an (rgE f51r25.eq_1) <| an (bdE f51l1.eq_1) <| an (rgE f51r26.eq_1) <| an (rgE f51r27.eq_1) <| an i51r0.eq_1 <| an i51r1.eq_1 <| an i51r2.eq_1 <| an i51r3.eq_1 <| an i51r4.eq_1 <| an i51r5.eq_1 <| an i51r6.eq_1 <| an i51r7.eq_1 <| an i51r8.eq_1 <| an i51r9.eq_1 <| an i51r10.eq_1 <| an i51r11.eq_1 <| an i51r12.eq_1 <| an i51r13.eq_1 <| an i51r14.eq_1 <| an i51r15.eq_1 <| an i51r16.eq_1 <| an i51r17.eq_1 <| an i51r18.eq_1 <| an i51r19.eq_1 <| an i51r20.eq_1 <| an i51r21.eq_1 <| an i51r22.eq_1 <| an i51r23.eq_1 <| an i51r24.eq_1 <| an i51r25.eq_1 <| an i51r26.eq_1 <| an i51r27.eq_1 <| itE
theorem e51 : type_of% q51.down := q51.down
def q56 := PLift.up <| an f56.eq_1 <| an (bdE b56.eq_1) <| an (rgE f56r0.eq_1) <| an (rgE f56r1.eq_1) <| an (rgE f56r2.eq_1) <| an (rgE f56r3.eq_1) <| an (rgE f56r4.eq_1) <| an (rgE f56r5.eq_1) <| an (rgE f56r6.eq_1) <| an (rgE f56r7.eq_1) <| an (rgE f56r8.eq_1) <| an i56r0.eq_1 <| an i56r1.eq_1 <| an i56r2.eq_1 <| an i56r3.eq_1 <| an i56r4.eq_1 <| an i56r5.eq_1 <| an i56r6.eq_1 <| an i56r7.eq_1 <| an i56r8.eq_1 <| itE
theorem e56 : type_of% q56.down := q56.down
def q58 := PLift.up <| an f58.eq_1 <| an (bdE b58.eq_1) <| an (rgE f58r0.eq_1) <| an (rgE f58r1.eq_1) <| an (rgE f58r2.eq_1) <| an (rgE f58r3.eq_1) <| an (rgE f58r4.eq_1) <| an (rgE f58r5.eq_1) <| an (rgE f58r6.eq_1) <| an (bdE f58l0.eq_1) <| an (rgE f58r7.eq_1) <| an i58r0.eq_1 <| an i58r1.eq_1 <| an i58r2.eq_1 <| an i58r3.eq_1 <| an i58r4.eq_1 <| an i58r5.eq_1 <| an i58r6.eq_1 <| an i58r7.eq_1 <| itE
theorem e58 : type_of% q58.down := q58.down
def q59 := PLift.up <| an f59.eq_1 <| an (bdE b59.eq_1) <| an (rgE f59r0.eq_1) <| an (rgE f59r1.eq_1) <| an i59r0.eq_1 <| an i59r1.eq_1 <| itE
theorem e59 : type_of% q59.down := q59.down
def q60 := PLift.up <| an f60.eq_1 <| an (bdE b60.eq_1) <| an (rgE f60r0.eq_1) <| an (rgE f60r1.eq_1) <| an (rgE f60r2.eq_1) <| an (rgE f60r3.eq_1) <| an (rgE f60r4.eq_1) <| an (rgE f60r5.eq_1) <| an i60r0.eq_1 <| an i60r1.eq_1 <| an i60r2.eq_1 <| an i60r3.eq_1 <| an i60r4.eq_1 <| an i60r5.eq_1 <| itE
theorem e60 : type_of% q60.down := q60.down
def q61 := PLift.up <| an f61.eq_1 <| an (bdE b61.eq_1) <| an (rgE f61r0.eq_1) <| an (rgE f61r1.eq_1) <| an (rgE f61r2.eq_1) <| an (rgE f61r3.eq_1) <| an (rgE f61r4.eq_1) <| an (rgE f61r5.eq_1) <| an (rgE f61r6.eq_1) <| an (rgE f61r7.eq_1) <| an (rgE f61r8.eq_1) <| an (rgE f61r9.eq_1) <| an (rgE f61r10.eq_1) <| an (rgE f61r11.eq_1) <| an (rgE f61r12.eq_1) <| an (rgE f61r13.eq_1) <| an (rgE f61r14.eq_1) <| an (rgE f61r15.eq_1) <| an (rgE f61r16.eq_1) <| an (rgE f61r17.eq_1) <| an (bdE f61l0.eq_1) <| an (rgE f61r18.eq_1) <| an (bdE f61l1.eq_1) <| an (rgE f61r19.eq_1) <| an i61r0.eq_1 <| an i61r1.eq_1 <| an i61r2.eq_1 <| an i61r3.eq_1 <| an i61r4.eq_1 <| an i61r5.eq_1 <| an i61r6.eq_1 <| an i61r7.eq_1 <| an i61r8.eq_1 <| an i61r9.eq_1 <| an i61r10.eq_1 <| an i61r11.eq_1 <| an i61r12.eq_1 <| an i61r13.eq_1 <| an i61r14.eq_1 <| an i61r15.eq_1 <| an i61r16.eq_1 <| an i61r17.eq_1 <| an i61r18.eq_1 <| an i61r19.eq_1 <| itE
theorem e61 : type_of% q61.down := q61.down
def q62 := PLift.up <| an f62.eq_1 <| an (bdE b62.eq_1) <| an (rgE f62r0.eq_1) <| an (rgE f62r1.eq_1) <| an (rgE f62r2.eq_1) <| an (rgE f62r3.eq_1) <| an (rgE f62r4.eq_1) <| an (rgE f62r5.eq_1) <| an (rgE f62r6.eq_1) <| an (rgE f62r7.eq_1) <| an (rgE f62r8.eq_1) <| an (bdE f62l0.eq_1) <| an (rgE f62r9.eq_1) <| an i62r0.eq_1 <| an i62r1.eq_1 <| an i62r2.eq_1 <| an i62r3.eq_1 <| an i62r4.eq_1 <| an i62r5.eq_1 <| an i62r6.eq_1 <| an i62r7.eq_1 <| an i62r8.eq_1 <| an i62r9.eq_1 <| itE
theorem e62 : type_of% q62.down := q62.down
def q63 := PLift.up <| an f63.eq_1 <| an (bdE b63.eq_1) <| an (rgE f63r0.eq_1) <| an (rgE f63r1.eq_1) <| an (rgE f63r2.eq_1) <| an (rgE f63r3.eq_1) <| an (rgE f63r4.eq_1) <| an (rgE f63r5.eq_1) <| an (rgE f63r6.eq_1) <| an (rgE f63r7.eq_1) <| an (rgE f63r8.eq_1) <| an (rgE f63r9.eq_1) <| an (rgE f63r10.eq_1) <| an (rgE f63r11.eq_1) <| an (bdE f63l0.eq_1) <| an (rgE f63r12.eq_1) <| an i63r0.eq_1 <| an i63r1.eq_1 <| an i63r2.eq_1 <| an i63r3.eq_1 <| an i63r4.eq_1 <| an i63r5.eq_1 <| an i63r6.eq_1 <| an i63r7.eq_1 <| an i63r8.eq_1 <| an i63r9.eq_1 <| an i63r10.eq_1 <| an i63r11.eq_1 <| an i63r12.eq_1 <| itE
theorem e63 : type_of% q63.down := q63.down
def q64 := PLift.up <| an f64.eq_1 <| an (bdE b64.eq_1) <| an (rgE f64r0.eq_1) <| an (rgE f64r1.eq_1) <| an (rgE f64r2.eq_1) <| an (rgE f64r3.eq_1) <| an (rgE f64r4.eq_1) <| an (rgE f64r5.eq_1) <| an (rgE f64r6.eq_1) <| an (rgE f64r7.eq_1) <| an (rgE f64r8.eq_1) <| an (rgE f64r9.eq_1) <| an (rgE f64r10.eq_1) <| an (rgE f64r11.eq_1) <| an (rgE f64r12.eq_1) <| an (rgE f64r13.eq_1) <| an (rgE f64r14.eq_1) <| an (bdE f64l0.eq_1) <| an (rgE f64r15.eq_1) <| an (bdE f64l1.eq_1) <| an (rgE f64r16.eq_1) <| an i64r0.eq_1 <| an i64r1.eq_1 <| an i64r2.eq_1 <| an i64r3.eq_1 <| an i64r4.eq_1 <| an i64r5.eq_1 <| an i64r6.eq_1 <| an i64r7.eq_1 <| an i64r8.eq_1 <| an i64r9.eq_1 <| an i64r10.eq_1 <| an i64r11.eq_1 <| an i64r12.eq_1 <| an i64r13.eq_1 <| an i64r14.eq_1 <| an i64r15.eq_1 <| an i64r16.eq_1 <| itE
theorem e64 : type_of% q64.down := q64.down
def q65 := PLift.up <| an f65.eq_1 <| an (bdE b65.eq_1) <| an (rgE f65r0.eq_1) <| an (rgE f65r1.eq_1) <| an i65r0.eq_1 <| an i65r1.eq_1 <| itE
theorem e65 : type_of% q65.down := q65.down
def q66 := PLift.up <| an f66.eq_1 <| an (bdE b66.eq_1) <| an (rgE f66r0.eq_1) <| an (rgE f66r1.eq_1) <| an i66r0.eq_1 <| an i66r1.eq_1 <| itE
theorem e66 : type_of% q66.down := q66.down
def q67 := PLift.up <| an f67.eq_1 <| an (bdE b67.eq_1) <| an (rgE f67r0.eq_1) <| an (rgE f67r1.eq_1) <| an (rgE f67r2.eq_1) <| an (rgE f67r3.eq_1) <| an (rgE f67r4.eq_1) <| an (rgE f67r5.eq_1) <| an (rgE f67r6.eq_1) <| an (rgE f67r7.eq_1) <| an (rgE f67r8.eq_1) <| an (rgE f67r9.eq_1) <| an (rgE f67r10.eq_1) <| an (rgE f67r11.eq_1) <| an (rgE f67r12.eq_1) <| an (bdE f67l0.eq_1) <| an (bdE f67l1.eq_1) <| an (rgE f67r13.eq_1) <| an i67r0.eq_1 <| an i67r1.eq_1 <| an i67r2.eq_1 <| an i67r3.eq_1 <| an i67r4.eq_1 <| an i67r5.eq_1 <| an i67r6.eq_1 <| an i67r7.eq_1 <| an i67r8.eq_1 <| an i67r9.eq_1 <| an i67r10.eq_1 <| an i67r11.eq_1 <| an i67r12.eq_1 <| an i67r13.eq_1 <| itE
theorem e67 : type_of% q67.down := q67.down
def q68 := PLift.up <| an f68.eq_1 <| an (bdE b68.eq_1) <| an (rgE f68r0.eq_1) <| an (rgE f68r1.eq_1) <| an (rgE f68r2.eq_1) <| an (rgE f68r3.eq_1) <| an (rgE f68r4.eq_1) <| an (rgE f68r5.eq_1) <| an (rgE f68r6.eq_1) <| an (bdE f68l0.eq_1) <| an (rgE f68r7.eq_1) <| an i68r0.eq_1 <| an i68r1.eq_1 <| an i68r2.eq_1 <| an i68r3.eq_1 <| an i68r4.eq_1 <| an i68r5.eq_1 <| an i68r6.eq_1 <| an i68r7.eq_1 <| itE
theorem e68 : type_of% q68.down := q68.down
def q69 := PLift.up <| an f69.eq_1 <| an (bdE b69.eq_1) <| an (rgE f69r0.eq_1) <| an (rgE f69r1.eq_1) <| an (rgE f69r2.eq_1) <| an (rgE f69r3.eq_1) <| an (rgE f69r4.eq_1) <| an (rgE f69r5.eq_1) <| an (rgE f69r6.eq_1) <| an (bdE f69l0.eq_1) <| an (rgE f69r7.eq_1) <| an i69r0.eq_1 <| an i69r1.eq_1 <| an i69r2.eq_1 <| an i69r3.eq_1 <| an i69r4.eq_1 <| an i69r5.eq_1 <| an i69r6.eq_1 <| an i69r7.eq_1 <| itE
theorem e69 : type_of% q69.down := q69.down
def q70 := PLift.up <| an f70.eq_1 <| an (bdE b70.eq_1) <| an (rgE f70r0.eq_1) <| an (rgE f70r1.eq_1) <| an i70r0.eq_1 <| an i70r1.eq_1 <| itE
theorem e70 : type_of% q70.down := q70.down
def q71 := PLift.up <| an f71.eq_1 <| an (bdE b71.eq_1) <| an (rgE f71r0.eq_1) <| an (rgE f71r1.eq_1) <| an (rgE f71r2.eq_1) <| an (rgE f71r3.eq_1) <| an (rgE f71r4.eq_1) <| an (rgE f71r5.eq_1) <| an (rgE f71r6.eq_1) <| an (rgE f71r7.eq_1) <| an (rgE f71r8.eq_1) <| an (rgE f71r9.eq_1) <| an (rgE f71r10.eq_1) <| an (rgE f71r11.eq_1) <| an (bdE f71l0.eq_1) <| an (rgE f71r12.eq_1) <| an (bdE f71l1.eq_1) <| an (rgE f71r13.eq_1) <| an i71r0.eq_1 <| an i71r1.eq_1 <| an i71r2.eq_1 <| an i71r3.eq_1 <| an i71r4.eq_1 <| an i71r5.eq_1 <| an i71r6.eq_1 <| an i71r7.eq_1 <| an i71r8.eq_1 <| an i71r9.eq_1 <| an i71r10.eq_1 <| an i71r11.eq_1 <| an i71r12.eq_1 <| an i71r13.eq_1 <| itE
theorem e71 : type_of% q71.down := q71.down
def q72 := PLift.up <| an f72.eq_1 <| an (bdE b72.eq_1) <| an (rgE f72r0.eq_1) <| an (rgE f72r1.eq_1) <| an (rgE f72r2.eq_1) <| an (rgE f72r3.eq_1) <| an (rgE f72r4.eq_1) <| an (rgE f72r5.eq_1) <| an (rgE f72r6.eq_1) <| an (rgE f72r7.eq_1) <| an (rgE f72r8.eq_1) <| an (rgE f72r9.eq_1) <| an (rgE f72r10.eq_1) <| an (rgE f72r11.eq_1) <| an (rgE f72r12.eq_1) <| an (rgE f72r13.eq_1) <| an (rgE f72r14.eq_1) <| an (bdE f72l0.eq_1) <| an (rgE f72r15.eq_1) <| an (bdE f72l1.eq_1) <| an (rgE f72r16.eq_1) <| an i72r0.eq_1 <| an i72r1.eq_1 <| an i72r2.eq_1 <| an i72r3.eq_1 <| an i72r4.eq_1 <| an i72r5.eq_1 <| an i72r6.eq_1 <| an i72r7.eq_1 <| an i72r8.eq_1 <| an i72r9.eq_1 <| an i72r10.eq_1 <| an i72r11.eq_1 <| an i72r12.eq_1 <| an i72r13.eq_1 <| an i72r14.eq_1 <| an i72r15.eq_1 <| an i72r16.eq_1 <| itE
theorem e72 : type_of% q72.down := q72.down
def q73 := PLift.up <| an f73.eq_1 <| an (bdE b73.eq_1) <| an (rgE f73r0.eq_1) <| an (rgE f73r1.eq_1) <| an (rgE f73r2.eq_1) <| an (rgE f73r3.eq_1) <| an (rgE f73r4.eq_1) <| an (rgE f73r5.eq_1) <| an (rgE f73r6.eq_1) <| an (rgE f73r7.eq_1) <| an (rgE f73r8.eq_1) <| an (rgE f73r9.eq_1) <| an (rgE f73r10.eq_1) <| an (rgE f73r11.eq_1) <| an (rgE f73r12.eq_1) <| an (rgE f73r13.eq_1) <| an (bdE f73l0.eq_1) <| an (rgE f73r14.eq_1) <| an (bdE f73l1.eq_1) <| an (rgE f73r15.eq_1) <| an i73r0.eq_1 <| an i73r1.eq_1 <| an i73r2.eq_1 <| an i73r3.eq_1 <| an i73r4.eq_1 <| an i73r5.eq_1 <| an i73r6.eq_1 <| an i73r7.eq_1 <| an i73r8.eq_1 <| an i73r9.eq_1 <| an i73r10.eq_1 <| an i73r11.eq_1 <| an i73r12.eq_1 <| an i73r13.eq_1 <| an i73r14.eq_1 <| an i73r15.eq_1 <| itE
theorem e73 : type_of% q73.down := q73.down
def q74 := PLift.up <| an f74.eq_1 <| an (bdE b74.eq_1) <| an (rgE f74r0.eq_1) <| an (rgE f74r1.eq_1) <| an (rgE f74r2.eq_1) <| an (rgE f74r3.eq_1) <| an (rgE f74r4.eq_1) <| an (rgE f74r5.eq_1) <| an (rgE f74r6.eq_1) <| an (rgE f74r7.eq_1) <| an (rgE f74r8.eq_1) <| an (rgE f74r9.eq_1) <| an (rgE f74r10.eq_1) <| an (bdE f74l0.eq_1) <| an (rgE f74r11.eq_1) <| an (bdE f74l1.eq_1) <| an (rgE f74r12.eq_1) <| an (bdE f74l2.eq_1) <| an (rgE f74r13.eq_1) <| an i74r0.eq_1 <| an i74r1.eq_1 <| an i74r2.eq_1 <| an i74r3.eq_1 <| an i74r4.eq_1 <| an i74r5.eq_1 <| an i74r6.eq_1 <| an i74r7.eq_1 <| an i74r8.eq_1 <| an i74r9.eq_1 <| an i74r10.eq_1 <| an i74r11.eq_1 <| an i74r12.eq_1 <| an i74r13.eq_1 <| itE
theorem e74 : type_of% q74.down := q74.down
def q75 := PLift.up <| an f75.eq_1 <| an (bdE b75.eq_1) <| an (rgE f75r0.eq_1) <| an (rgE f75r1.eq_1) <| an (rgE f75r2.eq_1) <| an (rgE f75r3.eq_1) <| an (rgE f75r4.eq_1) <| an (rgE f75r5.eq_1) <| an (rgE f75r6.eq_1) <| an (rgE f75r7.eq_1) <| an (rgE f75r8.eq_1) <| an (rgE f75r9.eq_1) <| an (rgE f75r10.eq_1) <| an (rgE f75r11.eq_1) <| an (rgE f75r12.eq_1) <| an (rgE f75r13.eq_1) <| an (rgE f75r14.eq_1) <| an (bdE f75l0.eq_1) <| an (rgE f75r15.eq_1) <| an (rgE f75r16.eq_1) <| an (bdE f75l1.eq_1) <| an (rgE f75r17.eq_1) <| an (bdE f75l2.eq_1) <| an (rgE f75r18.eq_1) <| an (bdE f75l3.eq_1) <| an (rgE f75r19.eq_1) <| an (rgE f75r20.eq_1) <| an (rgE f75r21.eq_1) <| an (rgE f75r22.eq_1) <| an (rgE f75r23.eq_1) <| an (bdE f75l4.eq_1) <| an (rgE f75r24.eq_1) <| an i75r0.eq_1 <| an i75r1.eq_1 <| an i75r2.eq_1 <| an i75r3.eq_1 <| an i75r4.eq_1 <| an i75r5.eq_1 <| an i75r6.eq_1 <| an i75r7.eq_1 <| an i75r8.eq_1 <| an i75r9.eq_1 <| an i75r10.eq_1 <| an i75r11.eq_1 <| an i75r12.eq_1 <| an i75r13.eq_1 <| an i75r14.eq_1 <| an i75r15.eq_1 <| an i75r16.eq_1 <| an i75r17.eq_1 <| an i75r18.eq_1 <| an i75r19.eq_1 <| an i75r20.eq_1 <| an i75r21.eq_1 <| an i75r22.eq_1 <| an i75r23.eq_1 <| an i75r24.eq_1 <| itE
theorem e75 : type_of% q75.down := q75.down
def q76 := PLift.up <| an f76.eq_1 <| an (bdE b76.eq_1) <| an (rgE f76r0.eq_1) <| an (rgE f76r1.eq_1) <| an i76r0.eq_1 <| an i76r1.eq_1 <| itE
theorem e76 : type_of% q76.down := q76.down
def q77 := PLift.up <| an f77.eq_1 <| an (bdE b77.eq_1) <| an (rgE f77r0.eq_1) <| an (rgE f77r1.eq_1) <| an (rgE f77r2.eq_1) <| an (rgE f77r3.eq_1) <| an (rgE f77r4.eq_1) <| an (rgE f77r5.eq_1) <| an (rgE f77r6.eq_1) <| an (rgE f77r7.eq_1) <| an (rgE f77r8.eq_1) <| an (rgE f77r9.eq_1) <| an (rgE f77r10.eq_1) <| an (bdE f77l0.eq_1) <| an (rgE f77r11.eq_1) <| an i77r0.eq_1 <| an i77r1.eq_1 <| an i77r2.eq_1 <| an i77r3.eq_1 <| an i77r4.eq_1 <| an i77r5.eq_1 <| an i77r6.eq_1 <| an i77r7.eq_1 <| an i77r8.eq_1 <| an i77r9.eq_1 <| an i77r10.eq_1 <| an i77r11.eq_1 <| itE
theorem e77 : type_of% q77.down := q77.down
def q78 := PLift.up <| an f78.eq_1 <| an (bdE b78.eq_1) <| an (rgE f78r0.eq_1) <| an (rgE f78r1.eq_1) <| an (rgE f78r2.eq_1) <| an (rgE f78r3.eq_1) <| an i78r0.eq_1 <| an i78r1.eq_1 <| an i78r2.eq_1 <| an i78r3.eq_1 <| itE
theorem e78 : type_of% q78.down := q78.down
def q79 := PLift.up <| an f79.eq_1 <| an (bdE b79.eq_1) <| an (rgE f79r0.eq_1) <| an (rgE f79r1.eq_1) <| an (rgE f79r2.eq_1) <| an (rgE f79r3.eq_1) <| an (rgE f79r4.eq_1) <| an (rgE f79r5.eq_1) <| an (rgE f79r6.eq_1) <| an (rgE f79r7.eq_1) <| an (bdE f79l0.eq_1) <| an (rgE f79r8.eq_1) <| an i79r0.eq_1 <| an i79r1.eq_1 <| an i79r2.eq_1 <| an i79r3.eq_1 <| an i79r4.eq_1 <| an i79r5.eq_1 <| an i79r6.eq_1 <| an i79r7.eq_1 <| an i79r8.eq_1 <| itE
theorem e79 : type_of% q79.down := q79.down
def q80 := PLift.up <| an f80.eq_1 <| an (bdE b80.eq_1) <| an (rgE f80r0.eq_1) <| an (rgE f80r1.eq_1) <| an i80r0.eq_1 <| an i80r1.eq_1 <| itE
theorem e80 : type_of% q80.down := q80.down
def q81 := PLift.up <| an f81.eq_1 <| an (bdE b81.eq_1) <| an (rgE f81r0.eq_1) <| an (rgE f81r1.eq_1) <| an i81r0.eq_1 <| an i81r1.eq_1 <| itE
theorem e81 : type_of% q81.down := q81.down
def q82 := PLift.up <| an f82.eq_1 <| an (bdE b82.eq_1) <| an (rgE f82r0.eq_1) <| an (rgE f82r1.eq_1) <| an (rgE f82r2.eq_1) <| an (rgE f82r3.eq_1) <| an (rgE f82r4.eq_1) <| an (rgE f82r5.eq_1) <| an (rgE f82r6.eq_1) <| an (rgE f82r7.eq_1) <| an (rgE f82r8.eq_1) <| an (rgE f82r9.eq_1) <| an (rgE f82r10.eq_1) <| an (bdE f82l0.eq_1) <| an (rgE f82r11.eq_1) <| an i82r0.eq_1 <| an i82r1.eq_1 <| an i82r2.eq_1 <| an i82r3.eq_1 <| an i82r4.eq_1 <| an i82r5.eq_1 <| an i82r6.eq_1 <| an i82r7.eq_1 <| an i82r8.eq_1 <| an i82r9.eq_1 <| an i82r10.eq_1 <| an i82r11.eq_1 <| itE
theorem e82 : type_of% q82.down := q82.down
def q83 := PLift.up <| an f83.eq_1 <| an (bdE b83.eq_1) <| an (rgE f83r0.eq_1) <| an (rgE f83r1.eq_1) <| an i83r0.eq_1 <| an i83r1.eq_1 <| itE
theorem e83 : type_of% q83.down := q83.down
def q86 := PLift.up <| an f86.eq_1 <| an (bdE b86.eq_1) <| an (rgE f86r0.eq_1) <| an (rgE f86r1.eq_1) <| an (rgE f86r2.eq_1) <| an (rgE f86r3.eq_1) <| an (rgE f86r4.eq_1) <| an (rgE f86r5.eq_1) <| an (rgE f86r6.eq_1) <| an (rgE f86r7.eq_1) <| an (rgE f86r8.eq_1) <| an (rgE f86r9.eq_1) <| an (rgE f86r10.eq_1) <| an (rgE f86r11.eq_1) <| an (rgE f86r12.eq_1) <| an (rgE f86r13.eq_1) <| an (rgE f86r14.eq_1) <| an (rgE f86r15.eq_1) <| an (rgE f86r16.eq_1) <| an (bdE f86l0.eq_1) <| an (rgE f86r17.eq_1) <| an (bdE f86l1.eq_1) <| an (rgE f86r18.eq_1) <| an (bdE f86l2.eq_1) <| an (rgE f86r19.eq_1) <| an i86r0.eq_1 <| an i86r1.eq_1 <| an i86r2.eq_1 <| an i86r3.eq_1 <| an i86r4.eq_1 <| an i86r5.eq_1 <| an i86r6.eq_1 <| an i86r7.eq_1 <| an i86r8.eq_1 <| an i86r9.eq_1 <| an i86r10.eq_1 <| an i86r11.eq_1 <| an i86r12.eq_1 <| an i86r13.eq_1 <| an i86r14.eq_1 <| an i86r15.eq_1 <| an i86r16.eq_1 <| an i86r17.eq_1 <| an i86r18.eq_1 <| an i86r19.eq_1 <| itE
theorem e86 : type_of% q86.down := q86.down
def q87 := PLift.up <| an f87.eq_1 <| an (bdE b87.eq_1) <| an (rgE f87r0.eq_1) <| an (rgE f87r1.eq_1) <| an i87r0.eq_1 <| an i87r1.eq_1 <| itE
theorem e87 : type_of% q87.down := q87.down
def q88 := PLift.up <| an f88.eq_1 <| an (bdE b88.eq_1) <| an (rgE f88r0.eq_1) <| an (rgE f88r1.eq_1) <| an i88r0.eq_1 <| an i88r1.eq_1 <| itE
theorem e88 : type_of% q88.down := q88.down
def q89 := PLift.up <| an f89.eq_1 <| an (bdE b89.eq_1) <| an (rgE f89r0.eq_1) <| an (rgE f89r1.eq_1) <| an (rgE f89r2.eq_1) <| an (rgE f89r3.eq_1) <| an (rgE f89r4.eq_1) <| an (rgE f89r5.eq_1) <| an (rgE f89r6.eq_1) <| an (rgE f89r7.eq_1) <| an (rgE f89r8.eq_1) <| an (rgE f89r9.eq_1) <| an (bdE f89l0.eq_1) <| an (rgE f89r10.eq_1) <| an i89r0.eq_1 <| an i89r1.eq_1 <| an i89r2.eq_1 <| an i89r3.eq_1 <| an i89r4.eq_1 <| an i89r5.eq_1 <| an i89r6.eq_1 <| an i89r7.eq_1 <| an i89r8.eq_1 <| an i89r9.eq_1 <| an i89r10.eq_1 <| itE
theorem e89 : type_of% q89.down := q89.down
def q90 := PLift.up <| an f90.eq_1 <| an (bdE b90.eq_1) <| an (rgE f90r0.eq_1) <| an (rgE f90r1.eq_1) <| an i90r0.eq_1 <| an i90r1.eq_1 <| itE
theorem e90 : type_of% q90.down := q90.down
def q91 := PLift.up <| an f91.eq_1 <| an (bdE b91.eq_1) <| an (rgE f91r0.eq_1) <| an (rgE f91r1.eq_1) <| an i91r0.eq_1 <| an i91r1.eq_1 <| itE
theorem e91 : type_of% q91.down := q91.down
def q92 := PLift.up <| an f92.eq_1 <| an (bdE b92.eq_1) <| an (rgE f92r0.eq_1) <| an (rgE f92r1.eq_1) <| an i92r0.eq_1 <| an i92r1.eq_1 <| itE
theorem e92 : type_of% q92.down := q92.down
def q93 := PLift.up <| an f93.eq_1 <| an (bdE b93.eq_1) <| an (rgE f93r0.eq_1) <| an (rgE f93r1.eq_1) <| an i93r0.eq_1 <| an i93r1.eq_1 <| itE
theorem e93 : type_of% q93.down := q93.down
def q94 := PLift.up <| an f94.eq_1 <| an (bdE b94.eq_1) <| an (rgE f94r0.eq_1) <| an (rgE f94r1.eq_1) <| an (rgE f94r2.eq_1) <| an (rgE f94r3.eq_1) <| an (rgE f94r4.eq_1) <| an (rgE f94r5.eq_1) <| an (rgE f94r6.eq_1) <| an (rgE f94r7.eq_1) <| an (bdE f94l0.eq_1) <| an (rgE f94r8.eq_1) <| an i94r0.eq_1 <| an i94r1.eq_1 <| an i94r2.eq_1 <| an i94r3.eq_1 <| an i94r4.eq_1 <| an i94r5.eq_1 <| an i94r6.eq_1 <| an i94r7.eq_1 <| an i94r8.eq_1 <| itE
theorem e94 : type_of% q94.down := q94.down
def q95 := PLift.up <| an f95.eq_1 <| an (bdE b95.eq_1) <| an (rgE f95r0.eq_1) <| an (rgE f95r1.eq_1) <| an (rgE f95r2.eq_1) <| an (rgE f95r3.eq_1) <| an (rgE f95r4.eq_1) <| an (rgE f95r5.eq_1) <| an (bdE f95l0.eq_1) <| an (rgE f95r6.eq_1) <| an i95r0.eq_1 <| an i95r1.eq_1 <| an i95r2.eq_1 <| an i95r3.eq_1 <| an i95r4.eq_1 <| an i95r5.eq_1 <| an i95r6.eq_1 <| itE
theorem e95 : type_of% q95.down := q95.down
def q96 := PLift.up <| an f96.eq_1 <| an (bdE b96.eq_1) <| an (rgE f96r0.eq_1) <| an (rgE f96r1.eq_1) <| an i96r0.eq_1 <| an i96r1.eq_1 <| itE
theorem e96 : type_of% q96.down := q96.down
def q97 := PLift.up <| an f97.eq_1 <| an (bdE b97.eq_1) <| an (rgE f97r0.eq_1) <| an (rgE f97r1.eq_1) <| an (rgE f97r2.eq_1) <| an (rgE f97r3.eq_1) <| an i97r0.eq_1 <| an i97r1.eq_1 <| an i97r2.eq_1 <| an i97r3.eq_1 <| itE
theorem e97 : type_of% q97.down := q97.down
def q98 := PLift.up <| an f98.eq_1 <| an (bdE b98.eq_1) <| an (rgE f98r0.eq_1) <| an (rgE f98r1.eq_1) <| an (rgE f98r2.eq_1) <| an (rgE f98r3.eq_1) <| an (rgE f98r4.eq_1) <| an (bdE f98l0.eq_1) <| an i98r0.eq_1 <| an i98r1.eq_1 <| an i98r2.eq_1 <| an i98r3.eq_1 <| an i98r4.eq_1 <| itE
theorem e98 : type_of% q98.down := q98.down
def q99 := PLift.up <| an f99.eq_1 <| an (bdE b99.eq_1) <| an (rgE f99r0.eq_1) <| an (rgE f99r1.eq_1) <| an (rgE f99r2.eq_1) <| an (rgE f99r3.eq_1) <| an (rgE f99r4.eq_1) <| an (rgE f99r5.eq_1) <| an (rgE f99r6.eq_1) <| an (bdE f99l0.eq_1) <| an (rgE f99r7.eq_1) <| an i99r0.eq_1 <| an i99r1.eq_1 <| an i99r2.eq_1 <| an i99r3.eq_1 <| an i99r4.eq_1 <| an i99r5.eq_1 <| an i99r6.eq_1 <| an i99r7.eq_1 <| itE
theorem e99 : type_of% q99.down := q99.down
def q100 := PLift.up <| an f100.eq_1 <| an (bdE b100.eq_1) <| an (rgE f100r0.eq_1) <| an (rgE f100r1.eq_1) <| an (rgE f100r2.eq_1) <| an (rgE f100r3.eq_1) <| an (rgE f100r4.eq_1) <| an (rgE f100r5.eq_1) <| an (rgE f100r6.eq_1) <| an (bdE f100l0.eq_1) <| an (rgE f100r7.eq_1) <| an i100r0.eq_1 <| an i100r1.eq_1 <| an i100r2.eq_1 <| an i100r3.eq_1 <| an i100r4.eq_1 <| an i100r5.eq_1 <| an i100r6.eq_1 <| an i100r7.eq_1 <| itE
theorem e100 : type_of% q100.down := q100.down
end Zc27
end
section
set_option linter.unusedSimpArgs false
set_option linter.unusedVariables false
set_option linter.unusedSimpArgs false
set_option maxHeartbeats 4000000
namespace Zc27
open Go Zv Zs

structure Cn where
  name : ByteArray
  flds : List Int
structure Dt where
  name : ByteArray
  cons : List Cn

abbrev eI (n : Int) : D := .int .i64 n
abbrev eIs (l : List Int) : D := .lst (l.map eI)
abbrev eC (c : Cn) : D := .agg [.str c.name, .lst (c.flds.map eI)]
abbrev eCs (l : List Cn) : D := .lst (l.map eC)
abbrev eD (d : Dt) : D := .agg [.str d.name, .lst (d.cons.map eC)]
abbrev eDs (l : List Dt) : D := .lst (l.map eD)

theorem iaC {l : List Cn} {n : Nat} {x : Cn} (hx : l[n]? = some x) : ia 2 (.d (.lst (l.map eC))) (.d (.int .i64 (n : Int))) = some (.fp (eC x) 0) := ia_map (f := eC) .i64 hx rfl
theorem iaD {l : List Dt} {n : Nat} {x : Dt} (hx : l[n]? = some x) : ia 2 (.d (.lst (l.map eD))) (.d (.int .i64 (n : Int))) = some (.fp (eD x) 0) := ia_map (f := eD) .i64 hx rfl
theorem iaI {l : List Int} {n : Nat} {x : Int} (hx : l[n]? = some x) : ia 1 (.d (.lst (l.map eI))) (.d (.int .i64 (n : Int))) = some (.fp (eI x) 0) := ia_map (f := eI) .i64 hx rfl
def isT (d : List Dt) (t : Int) : Bool := decide (0 ≤ t) && decide (t ≤ d.length)

theorem exists_ok (d : List Dt) (t : Int) (h : Hp) : callW tab 66 [.d (eDs d), .d (eI t)] h = some (.d (.bool (isT d t)), h) := by
  refine call_wp (fn := f66) rfl rfl ?_
  (simp only [e66, isT, wz, opX, intBin, ↓reduceIte, simprocAttr] <;> repeat' (first | refine wpG_s ?_ ?_ | refine wpC_s ?_ ?_) <;> intro hgo <;> (try simp only [dq] at hgo) <;> simp only [hgo, e66, isT, wz, opX, intBin, ↓reduceIte, simprocAttr])
theorem isType_ok (d : List Dt) (t : Int) (h : Hp) : callW tab 96 [.d (eDs d), .d (eI t)] h = some (.d (.bool (isT d t)), h) := by
  refine call_wp (fn := f96) rfl rfl ?_
  (simp only [e96, isT, wz, opX, intBin, ↓reduceIte, simprocAttr] <;> repeat' (first | refine wpG_s ?_ ?_ | refine wpC_s ?_ ?_) <;> intro hgo <;> (try simp only [dq] at hgo) <;> simp only [hgo, e96, isT, wz, opX, intBin, ↓reduceIte, simprocAttr])
  trace_state
  -- wz, opX, intBin, ↓reduceIte, simprocAttr

def consOf (d : List Dt) (t : Int) : List Cn := if 1 ≤ t then ((d[(t - 1).toNat]?).map Dt.cons).getD [] else []
theorem consOf_nat (d : List Dt) (n : Nat) : consOf d ((n : Int) + 1) = ((d[n]?).map Dt.cons).getD [] := by
  unfold consOf
  rw [if_pos (by omega), show ((n : Int) + 1 - 1).toNat = n by omega]
theorem consOf_at {d : List Dt} {n : Nat} {y : Dt} (hy : d[n]? = some y) : consOf d ((n : Int) + 1) = y.cons := by rw [consOf_nat, hy]; rfl
theorem lt_of_get {α : Type} {l : List α} {n : Nat} {x : α} (h : l[n]? = some x) : n < l.length := (List.getElem?_eq_some_iff.1 h).1
theorem get_of_lt {α : Type} {l : List α} {n : Nat} (h : n < l.length) : ∃ x, l[n]? = some x := ⟨l[n], List.getElem?_eq_getElem h⟩
theorem wrap_sub1 {n : Nat} (h : n < 2 ^ 62) : IntKind.i64.wrap ((n : Int) + 1 - 1) = (n : Int) := by rw [wrap_ok (by omega) (by omega)]; omega
/-- A type: below one, above the table, or one of the table. -/
theorem tcase (d : List Dt) (t : Int) : t < 1 ∨ (d.length : Int) < t ∨ ∃ n : Nat, ∃ y, t = (n : Int) + 1 ∧ d[n]? = some y := by
  by_cases h0 : t < 1
  · exact .inl h0
  · by_cases h1 : (d.length : Int) < t
    · exact .inr (.inl h1)
    · obtain ⟨y, hy⟩ := get_of_lt (l := d) (n := (t - 1).toNat) (by omega)
      exact .inr (.inr ⟨(t - 1).toNat, y, by omega, hy⟩)

theorem idxFC (l : List Cn) (cv : V) (p : Cn → Bool) (h : Hp) (hl : l.length < 2 ^ 60) (hcv : norm cv = cv) (hc : ∀ c, c ∈ l → cW tab cv [.d (eC c)] h = some (.d (.bool (p c)), h)) :
    callW tab 99 [.d (.lst (l.map eC)), cv] h = some (.d (eI (idxZ p l)), h) := by
  refine call_wp (fn := f99) rfl rfl ?_
  have hloop := loop_find (T := tab) (a := f99l0) (l := l) (p := p) (f := fun n => [(0, .d (.lst (l.map eC))), (1, cv), (7, int l.length), (8, int n)]) (h := h)
      (by intro n x hx hlt hp; have hcall := hc x (List.mem_of_getElem? hx); all_goals (apply wq_ex.1; (simp only [hlt, hp, e99, iaC hx, hcall, wrap_succ (show n < 2 ^ 62 by omega), wz, opX, intBin, ↓reduceIte, simprocAttr] <;> repeat' (first | refine wpG_s ?_ ?_ | refine wpC_s ?_ ?_) <;> intro hgo <;> (try simp only [dq] at hgo) <;> simp only [hgo, hlt, hp, e99, iaC hx, hcall, wrap_succ (show n < 2 ^ 62 by omega), wz, opX, intBin, ↓reduceIte, simprocAttr])))
      (by intro n x hx hlt hp; have hcall := hc x (List.mem_of_getElem? hx); all_goals (apply wq_ex.1; (simp only [hlt, hp, e99, iaC hx, hcall, wrap_succ (show n < 2 ^ 62 by omega), wz, opX, intBin, ↓reduceIte, simprocAttr] <;> repeat' (first | refine wpG_s ?_ ?_ | refine wpC_s ?_ ?_) <;> intro hgo <;> (try simp only [dq] at hgo) <;> simp only [hgo, hlt, hp, e99, iaC hx, hcall, wrap_succ (show n < 2 ^ 62 by omega), wz, opX, intBin, ↓reduceIte, simprocAttr]) <;> rfl))
      (by apply wq_ex.1; (simp only [e99, wz, opX, intBin, ↓reduceIte, simprocAttr] <;> repeat' (first | refine wpG_s ?_ ?_ | refine wpC_s ?_ ?_) <;> intro hgo <;> (try simp only [dq] at hgo) <;> simp only [hgo, e99, wz, opX, intBin, ↓reduceIte, simprocAttr]) <;> rfl)
      (by intro n x; simp) (by simp)
  simp only [int, Zv.bool, Int.cast_ofNat_Int] at hloop
  (simp only [e99, hcv, wq_of hloop, wz, opX, intBin, ↓reduceIte, simprocAttr] <;> repeat' (first | refine wpG_s ?_ ?_ | refine wpC_s ?_ ?_) <;> intro hgo <;> (try simp only [dq] at hgo) <;> simp only [hgo, e99, hcv, wq_of hloop, wz, opX, intBin, ↓reduceIte, simprocAttr])
  unfold idxZ
  cases fst? p 0 l with
  | none => (simp only [e99, wz, opX, intBin, ↓reduceIte, simprocAttr] <;> repeat' (first | refine wpG_s ?_ ?_ | refine wpC_s ?_ ?_) <;> intro hgo <;> (try simp only [dq] at hgo) <;> simp only [hgo, e99, wz, opX, intBin, ↓reduceIte, simprocAttr])
  | some n => (simp only [e99, wz, opX, intBin, ↓reduceIte, simprocAttr] <;> repeat' (first | refine wpG_s ?_ ?_ | refine wpC_s ?_ ?_) <;> intro hgo <;> (try simp only [dq] at hgo) <;> simp only [hgo, e99, wz, opX, intBin, ↓reduceIte, simprocAttr])
theorem conFC (l : List Cn) (cv : V) (p : Cn → Bool) (h : Hp) (hl : l.length < 2 ^ 60) (hcv : norm cv = cv) (hc : ∀ c, c ∈ l → cW tab cv [.d (eC c)] h = some (.d (.bool (p c)), h)) :
    callW tab 87 [.d (.lst (l.map eC)), cv] h = some (.d (.bool (l.any p)), h) := by
  refine call_wp (fn := f87) rfl rfl ?_
  have hi := idxFC l cv p h hl hcv hc
  (simp only [e87, hcv, hi, idxZ_nn, Bool.decide_eq_true, wz, opX, intBin, ↓reduceIte, simprocAttr] <;> repeat' (first | refine wpG_s ?_ ?_ | refine wpC_s ?_ ?_) <;> intro hgo <;> (try simp only [dq] at hgo) <;> simp only [hgo, e87, hcv, hi, idxZ_nn, Bool.decide_eq_true, wz, opX, intBin, ↓reduceIte, simprocAttr])

theorem idxFT (l : List Int) (cv : V) (p : Int → Bool) (h : Hp) (hl : l.length < 2 ^ 60) (hcv : norm cv = cv) (hc : ∀ c, c ∈ l → cW tab cv [.d (eI c)] h = some (.d (.bool (p c)), h)) :
    callW tab 68 [.d (.lst (l.map eI)), cv] h = some (.d (eI (idxZ p l)), h) := by
  refine call_wp (fn := f68) rfl rfl ?_
  have hloop := loop_find (T := tab) (a := f68l0) (l := l) (p := p) (f := fun n => [(0, .d (.lst (l.map eI))), (1, cv), (7, int l.length), (8, int n)]) (h := h)
      (by intro n x hx hlt hp; have hcall := hc x (List.mem_of_getElem? hx); all_goals (apply wq_ex.1; (simp only [hlt, hp, e68, iaI hx, hcall, wrap_succ (show n < 2 ^ 62 by omega), wz, opX, intBin, ↓reduceIte, simprocAttr] <;> repeat' (first | refine wpG_s ?_ ?_ | refine wpC_s ?_ ?_) <;> intro hgo <;> (try simp only [dq] at hgo) <;> simp only [hgo, hlt, hp, e68, iaI hx, hcall, wrap_succ (show n < 2 ^ 62 by omega), wz, opX, intBin, ↓reduceIte, simprocAttr])))
      (by intro n x hx hlt hp; have hcall := hc x (List.mem_of_getElem? hx); all_goals (apply wq_ex.1; (simp only [hlt, hp, e68, iaI hx, hcall, wrap_succ (show n < 2 ^ 62 by omega), wz, opX, intBin, ↓reduceIte, simprocAttr] <;> repeat' (first | refine wpG_s ?_ ?_ | refine wpC_s ?_ ?_) <;> intro hgo <;> (try simp only [dq] at hgo) <;> simp only [hgo, hlt, hp, e68, iaI hx, hcall, wrap_succ (show n < 2 ^ 62 by omega), wz, opX, intBin, ↓reduceIte, simprocAttr]) <;> rfl))
      (by apply wq_ex.1; (simp only [e68, wz, opX, intBin, ↓reduceIte, simprocAttr] <;> repeat' (first | refine wpG_s ?_ ?_ | refine wpC_s ?_ ?_) <;> intro hgo <;> (try simp only [dq] at hgo) <;> simp only [hgo, e68, wz, opX, intBin, ↓reduceIte, simprocAttr]) <;> rfl)
      (by intro n x; simp) (by simp)
  simp only [int, Zv.bool, Int.cast_ofNat_Int] at hloop
  (simp only [e68, hcv, wq_of hloop, wz, opX, intBin, ↓reduceIte, simprocAttr] <;> repeat' (first | refine wpG_s ?_ ?_ | refine wpC_s ?_ ?_) <;> intro hgo <;> (try simp only [dq] at hgo) <;> simp only [hgo, e68, hcv, wq_of hloop, wz, opX, intBin, ↓reduceIte, simprocAttr])
  unfold idxZ
  cases fst? p 0 l with
  | none => (simp only [e68, wz, opX, intBin, ↓reduceIte, simprocAttr] <;> repeat' (first | refine wpG_s ?_ ?_ | refine wpC_s ?_ ?_) <;> intro hgo <;> (try simp only [dq] at hgo) <;> simp only [hgo, e68, wz, opX, intBin, ↓reduceIte, simprocAttr])
  | some n => (simp only [e68, wz, opX, intBin, ↓reduceIte, simprocAttr] <;> repeat' (first | refine wpG_s ?_ ?_ | refine wpC_s ?_ ?_) <;> intro hgo <;> (try simp only [dq] at hgo) <;> simp only [hgo, e68, wz, opX, intBin, ↓reduceIte, simprocAttr])
theorem conFT (l : List Int) (cv : V) (p : Int → Bool) (h : Hp) (hl : l.length < 2 ^ 60) (hcv : norm cv = cv) (hc : ∀ c, c ∈ l → cW tab cv [.d (eI c)] h = some (.d (.bool (p c)), h)) :
    callW tab 34 [.d (.lst (l.map eI)), cv] h = some (.d (.bool (l.any p)), h) := by
  refine call_wp (fn := f34) rfl rfl ?_
  have hi := idxFT l cv p h hl hcv hc
  (simp only [e34, hcv, hi, idxZ_nn, Bool.decide_eq_true, wz, opX, intBin, ↓reduceIte, simprocAttr] <;> repeat' (first | refine wpG_s ?_ ?_ | refine wpC_s ?_ ?_) <;> intro hgo <;> (try simp only [dq] at hgo) <;> simp only [hgo, e34, hcv, hi, idxZ_nn, Bool.decide_eq_true, wz, opX, intBin, ↓reduceIte, simprocAttr])
end Zc27
end
section
set_option linter.unusedSimpArgs false
set_option linter.unusedVariables false
set_option linter.unusedSimpArgs false
set_option maxHeartbeats 4000000
namespace Zc27
open Go Zv Zs

/-- A table within bounds. -/
structure Bd (d : List Dt) : Prop where
  len : d.length ≤ 100
  cons : ∀ y, y ∈ d → y.cons.length ≤ 30
  flds : ∀ y, y ∈ d → ∀ c, c ∈ y.cons → c.flds.length ≤ 20
theorem Bd.at {d : List Dt} (B : Bd d) {m : Nat} {y : Dt} (hy : d[m]? = some y) : m < 100 ∧ m < d.length ∧ y.cons.length ≤ 30 := by
  have := lt_of_get hy
  have := B.len
  exact ⟨by omega, by omega, B.cons y (List.mem_of_getElem? hy)⟩
theorem Bd.cat {d : List Dt} (B : Bd d) {m k : Nat} {y : Dt} {c : Cn} (hy : d[m]? = some y) (hc : y.cons[k]? = some c) : k < 30 ∧ c.flds.length ≤ 20 := by
  have := (B.at hy).2.2
  have := lt_of_get hc
  exact ⟨by omega, B.flds y (List.mem_of_getElem? hy) c (List.mem_of_getElem? hc)⟩
theorem consOf_lo {d : List Dt} {t : Int} (h : t < 1) : consOf d t = [] := by unfold consOf; rw [if_neg (by omega)]
theorem consOf_hi {d : List Dt} {t : Int} (h : (d.length : Int) < t) : consOf d t = [] := by
  unfold consOf
  split
  · rw [List.getElem?_eq_none (by omega)]; rfl
  · rfl
abbrev sInt : ByteArray := ⟨#[73, 110, 116]⟩
end Zc27
end
section
set_option linter.unusedSimpArgs false
set_option linter.unusedVariables false
set_option linter.unusedSimpArgs false
set_option maxHeartbeats 4000000
namespace Zc27
open Go Zv Zs

theorem okEs_map {α : Type} {E : Nat → ET} {t : ET} {enc : α → D} (H : ∀ x, ok E t x → ∃ a, x = enc a) : ∀ {l : List D}, okEs E t l → ∃ xs : List α, l = xs.map enc
  | [], _ => ⟨[], rfl⟩
  | x :: l, h => by
    simp only [okEs] at h
    obtain ⟨a, rfl⟩ := H x h.1
    obtain ⟨xs, rfl⟩ := okEs_map H h.2
    exact ⟨a :: xs, rfl⟩
theorem okI {x : D} (h : ok (EE es) (.one (.i .i64)) x) : ∃ a, x = eI a := by
  obtain ⟨n, rfl, _⟩ := ok_i h; exact ⟨n, rfl⟩
theorem okC {x : D} (h : ok (EE es) (.st [.s, .l 2]) x) : ∃ a, x = eC a := by
  obtain ⟨l, rfl, h1⟩ := ok_st h
  obtain ⟨y, r, rfl, ha, h1⟩ := okCs_cons h1
  obtain ⟨z, r, rfl, hb, h1⟩ := okCs_cons h1
  obtain rfl := okCs_nil h1
  obtain ⟨s, rfl, _⟩ := ok_s ha
  obtain ⟨l, rfl, _, h2⟩ := ok_l hb
  obtain ⟨xs, rfl⟩ := okEs_map (fun _ => okI) h2
  exact ⟨⟨s, xs⟩, rfl⟩
theorem okD {x : D} (h : ok (EE es) (.st [.s, .l 1]) x) : ∃ a, x = eD a := by
  obtain ⟨l, rfl, h1⟩ := ok_st h
  obtain ⟨y, r, rfl, ha, h1⟩ := okCs_cons h1
  obtain ⟨z, r, rfl, hb, h1⟩ := okCs_cons h1
  obtain rfl := okCs_nil h1
  obtain ⟨s, rfl, _⟩ := ok_s ha
  obtain ⟨l, rfl, _, h2⟩ := ok_l hb
  obtain ⟨xs, rfl⟩ := okEs_map (fun _ => okC) h2
  exact ⟨⟨s, xs⟩, rfl⟩
/-- A table whose names are no longer than memory. -/
def Nm (d : List Dt) : Prop := ∀ y, y ∈ d → y.name.size < 2 ^ 60 ∧ ∀ c, c ∈ y.cons → c.name.size < 2 ^ 60
end Zc27
end
section
set_option linter.unusedSimpArgs false
set_option linter.unusedVariables false
set_option linter.unusedSimpArgs false
set_option maxHeartbeats 4000000
namespace Zc27
open Go Zv Zs

def manyS (d : List Dt) : Bool := decide (64 < d.length) || d.any fun y => decide (16 < y.cons.length) || y.cons.any fun c => decide (6 < c.flds.length)
theorem ofNat_lt_lit (a b : Nat) : ((a : Int) < (b : Int)) = (a < b) := by simp
theorem many1_ok (c : Cn) (h : Hp) : callW tab 88 [.d (eC c)] h = some (.d (.bool (decide (6 < c.flds.length))), h) := by
  refine call_wp (fn := f88) rfl rfl ?_
  have e : ((6 : Int) < (c.flds.length : Int)) = (6 < c.flds.length) := ofNat_lt_lit 6 _
  (simp only [e88, e, wz, opX, intBin, ↓reduceIte, simprocAttr] <;> repeat' (first | refine wpG_s ?_ ?_ | refine wpC_s ?_ ?_) <;> intro hgo <;> (try simp only [dq] at hgo) <;> simp only [hgo, e88, e, wz, opX, intBin, ↓reduceIte, simprocAttr])
theorem many_ok {d : List Dt} (B : Bd d) (h : Hp) : callW tab 62 [.d (eDs d)] h = some (.d (.bool (manyS d)), h) := by
  refine call_wp (fn := f62) rfl rfl ?_
  have hbl := B.len
  have e : ((64 : Int) < (d.length : Int)) = (64 < d.length) := ofNat_lt_lit 64 _
  by_cases h0 : 64 < d.length
  · (simp only [e62, manyS, e, h0, Bool.true_or, wz, opX, intBin, ↓reduceIte, simprocAttr] <;> repeat' (first | refine wpG_s ?_ ?_ | refine wpC_s ?_ ?_) <;> intro hgo <;> (try simp only [dq] at hgo) <;> simp only [hgo, e62, manyS, e, h0, Bool.true_or, wz, opX, intBin, ↓reduceIte, simprocAttr])
  · skip
    obtain ⟨hloopq, hloop⟩ := loop_anyq (T := tab) (a := f62l0) (l := d) (p := (fun y => decide (16 < y.cons.length) || y.cons.any fun c => decide (6 < c.flds.length))) (f := fun n => [(8, .d (eDs d)), (9, int d.length), (10, int n)]) (h := h)
        (by intro q n x hx hlt hp; have b := B.at hx; have hc := fun h => conFC x.cons (.clo 88 []) (fun c => decide (6 < c.flds.length)) h (by omega) rfl (fun c _ => many1_ok c h); have e2 : ((16 : Int) < (x.cons.length : Int)) = (16 < x.cons.length) := ofNat_lt_lit 16 _; by_cases h16 : 16 < x.cons.length; all_goals simp only [h16, decide_true, decide_false, Bool.true_or, Bool.false_or, Bool.true_eq_false] at hp; all_goals ((simp only [hlt, hp, e62, iaD hx, hc, e2, h16, wrap_succ (show n < 2 ^ 62 by omega), wz, opX, intBin, ↓reduceIte, simprocAttr] <;> repeat' (first | refine wpG_s ?_ ?_ | refine wpC_s ?_ ?_) <;> intro hgo <;> (try simp only [dq] at hgo) <;> simp only [hgo, hlt, hp, e62, iaD hx, hc, e2, h16, wrap_succ (show n < 2 ^ 62 by omega), wz, opX, intBin, ↓reduceIte, simprocAttr]) <;> (first | exact ⟨_, rfl⟩ | exact ⟨_, rfl, rfl⟩ | exact ⟨_, rfl, rfl, rfl⟩)))
        (by intro q n x hx hlt hp; have b := B.at hx; have hc := fun h => conFC x.cons (.clo 88 []) (fun c => decide (6 < c.flds.length)) h (by omega) rfl (fun c _ => many1_ok c h); have e2 : ((16 : Int) < (x.cons.length : Int)) = (16 < x.cons.length) := ofNat_lt_lit 16 _; by_cases h16 : 16 < x.cons.length; all_goals simp only [h16, decide_true, decide_false, Bool.true_or, Bool.false_or, Bool.true_eq_false] at hp; all_goals ((simp only [hlt, hp, e62, iaD hx, hc, e2, h16, wrap_succ (show n < 2 ^ 62 by omega), wz, opX, intBin, ↓reduceIte, simprocAttr] <;> repeat' (first | refine wpG_s ?_ ?_ | refine wpC_s ?_ ?_) <;> intro hgo <;> (try simp only [dq] at hgo) <;> simp only [hgo, hlt, hp, e62, iaD hx, hc, e2, h16, wrap_succ (show n < 2 ^ 62 by omega), wz, opX, intBin, ↓reduceIte, simprocAttr]) <;> (first | exact ⟨_, rfl⟩ | exact ⟨_, rfl, rfl⟩ | exact ⟨_, rfl, rfl, rfl⟩)))
        (by intro q; (simp only [e62, wz, opX, intBin, ↓reduceIte, simprocAttr] <;> repeat' (first | refine wpG_s ?_ ?_ | refine wpC_s ?_ ?_) <;> intro hgo <;> (try simp only [dq] at hgo) <;> simp only [hgo, e62, wz, opX, intBin, ↓reduceIte, simprocAttr]) <;> (first | exact ⟨_, rfl⟩ | exact ⟨_, rfl, rfl⟩ | exact ⟨_, rfl, rfl, rfl⟩))
        (by simp) (by simp)
    simp only [int, Zv.bool, Int.cast_ofNat_Int] at hloop
    (simp only [e62, manyS, e, h0, wq_of hloop, Bool.false_or, wz, opX, intBin, ↓reduceIte, simprocAttr] <;> repeat' (first | refine wpG_s ?_ ?_ | refine wpC_s ?_ ?_) <;> intro hgo <;> (try simp only [dq] at hgo) <;> simp only [hgo, e62, manyS, e, h0, wq_of hloop, Bool.false_or, wz, opX, intBin, ↓reduceIte, simprocAttr])
    cases d.any (fun y => decide (16 < y.cons.length) || y.cons.any fun c => decide (6 < c.flds.length)) <;> (simp only [e62, wz, opX, intBin, ↓reduceIte, simprocAttr] <;> repeat' (first | refine wpG_s ?_ ?_ | refine wpC_s ?_ ?_) <;> intro hgo <;> (try simp only [dq] at hgo) <;> simp only [hgo, e62, wz, opX, intBin, ↓reduceIte, simprocAttr])
theorem rmany_ok {d : List Dt} (B : Bd d) (h : Hp) : callW tab 71 [.d (eDs d)] h = some (.d (.bool (manyS d)), h) := by
  refine call_wp (fn := f71) rfl rfl ?_
  have hbl := B.len
  have e : ((64 : Int) < (d.length : Int)) = (64 < d.length) := ofNat_lt_lit 64 _
  by_cases h0 : 64 < d.length
  · (simp only [e71, manyS, e, h0, Bool.true_or, wz, opX, intBin, ↓reduceIte, simprocAttr] <;> repeat' (first | refine wpG_s ?_ ?_ | refine wpC_s ?_ ?_) <;> intro hgo <;> (try simp only [dq] at hgo) <;> simp only [hgo, e71, manyS, e, h0, Bool.true_or, wz, opX, intBin, ↓reduceIte, simprocAttr])
  · have inner : ∀ (m : Nat) (y : Dt), d[m]? = some y → ex tab (.loop f71l0) [(0, .d (eDs d)), (3, .d (.int .i64 m)), (4, .d (.int .i64 0))] h = some (if (y.cons.any fun c => decide (6 < c.flds.length)) = true then (.ret, [(2, .d (.bool true))], h) else (.exit 2, [(0, .d (eDs d)), (3, .d (.int .i64 m)), (4, .d (.int .i64 y.cons.length)), (28, .d (.bool false))], h)) := by
      intro m y hy
      have b := B.at hy
      have hloop := loop_any (T := tab) (a := f71l0) (l := y.cons) (p := (fun c => decide (6 < c.flds.length))) (f := fun n => [(0, .d (eDs d)), (3, .d (.int .i64 m)), (4, int n)]) (h := h)
          (by intro n x hx hlt hp; have e6 : ((6 : Int) < (x.flds.length : Int)) = (6 < x.flds.length) := ofNat_lt_lit 6 _; simp only [decide_eq_true_eq, decide_eq_false_iff_not] at hp; all_goals (apply wq_ex.1; (simp only [hlt, hp, e71, iaD hy, iaC hx, e6, wrap_succ (show n < 2 ^ 62 by omega), wz, opX, intBin, ↓reduceIte, simprocAttr] <;> repeat' (first | refine wpG_s ?_ ?_ | refine wpC_s ?_ ?_) <;> intro hgo <;> (try simp only [dq] at hgo) <;> simp only [hgo, hlt, hp, e71, iaD hy, iaC hx, e6, wrap_succ (show n < 2 ^ 62 by omega), wz, opX, intBin, ↓reduceIte, simprocAttr])))
          (by intro n x hx hlt hp; have e6 : ((6 : Int) < (x.flds.length : Int)) = (6 < x.flds.length) := ofNat_lt_lit 6 _; simp only [decide_eq_true_eq, decide_eq_false_iff_not] at hp; all_goals (apply wq_ex.1; (simp only [hlt, hp, e71, iaD hy, iaC hx, e6, wrap_succ (show n < 2 ^ 62 by omega), wz, opX, intBin, ↓reduceIte, simprocAttr] <;> repeat' (first | refine wpG_s ?_ ?_ | refine wpC_s ?_ ?_) <;> intro hgo <;> (try simp only [dq] at hgo) <;> simp only [hgo, hlt, hp, e71, iaD hy, iaC hx, e6, wrap_succ (show n < 2 ^ 62 by omega), wz, opX, intBin, ↓reduceIte, simprocAttr]) <;> rfl))
          (by apply wq_ex.1; (simp only [e71, iaD hy, wz, opX, intBin, ↓reduceIte, simprocAttr] <;> repeat' (first | refine wpG_s ?_ ?_ | refine wpC_s ?_ ?_) <;> intro hgo <;> (try simp only [dq] at hgo) <;> simp only [hgo, e71, iaD hy, wz, opX, intBin, ↓reduceIte, simprocAttr]) <;> rfl)
          (by simp) (by simp)
      simp only [int, Zv.bool, Int.cast_ofNat_Int] at hloop
      exact hloop
    have hloop := loop_any (T := tab) (a := f71l1) (l := d) (p := (fun y => decide (16 < y.cons.length) || y.cons.any fun c => decide (6 < c.flds.length))) (f := fun n => [(0, .d (eDs d)), (3, int n)]) (h := h)
        (by intro n x hx hlt hp; have b := B.at hx; have hin := inner n x hx; have e2 : ((16 : Int) < (x.cons.length : Int)) = (16 < x.cons.length) := ofNat_lt_lit 16 _; by_cases h16 : 16 < x.cons.length; all_goals simp only [h16, decide_true, decide_false, Bool.true_or, Bool.false_or, Bool.true_eq_false] at hp; all_goals (try simp only [hp, if_true, if_false, Bool.false_eq_true] at hin); all_goals (apply wq_ex.1; (simp only [hlt, hp, e71, iaD hx, wq_of hin, e2, h16, wrap_succ (show n < 2 ^ 62 by omega), wz, opX, intBin, ↓reduceIte, simprocAttr] <;> repeat' (first | refine wpG_s ?_ ?_ | refine wpC_s ?_ ?_) <;> intro hgo <;> (try simp only [dq] at hgo) <;> simp only [hgo, hlt, hp, e71, iaD hx, wq_of hin, e2, h16, wrap_succ (show n < 2 ^ 62 by omega), wz, opX, intBin, ↓reduceIte, simprocAttr])))
        (by intro n x hx hlt hp; have b := B.at hx; have hin := inner n x hx; have e2 : ((16 : Int) < (x.cons.length : Int)) = (16 < x.cons.length) := ofNat_lt_lit 16 _; by_cases h16 : 16 < x.cons.length; all_goals simp only [h16, decide_true, decide_false, Bool.true_or, Bool.false_or, Bool.true_eq_false] at hp; all_goals (try simp only [hp, if_true, if_false, Bool.false_eq_true] at hin); all_goals (apply wq_ex.1; (simp only [hlt, hp, e71, iaD hx, wq_of hin, e2, h16, wrap_succ (show n < 2 ^ 62 by omega), wz, opX, intBin, ↓reduceIte, simprocAttr] <;> repeat' (first | refine wpG_s ?_ ?_ | refine wpC_s ?_ ?_) <;> intro hgo <;> (try simp only [dq] at hgo) <;> simp only [hgo, hlt, hp, e71, iaD hx, wq_of hin, e2, h16, wrap_succ (show n < 2 ^ 62 by omega), wz, opX, intBin, ↓reduceIte, simprocAttr]) <;> rfl))
        (by apply wq_ex.1; (simp only [e71, wz, opX, intBin, ↓reduceIte, simprocAttr] <;> repeat' (first | refine wpG_s ?_ ?_ | refine wpC_s ?_ ?_) <;> intro hgo <;> (try simp only [dq] at hgo) <;> simp only [hgo, e71, wz, opX, intBin, ↓reduceIte, simprocAttr]) <;> rfl)
        (by simp) (by simp)
    simp only [int, Zv.bool, Int.cast_ofNat_Int] at hloop
    (simp only [e71, manyS, e, h0, wq_of hloop, Bool.false_or, wz, opX, intBin, ↓reduceIte, simprocAttr] <;> repeat' (first | refine wpG_s ?_ ?_ | refine wpC_s ?_ ?_) <;> intro hgo <;> (try simp only [dq] at hgo) <;> simp only [hgo, e71, manyS, e, h0, wq_of hloop, Bool.false_or, wz, opX, intBin, ↓reduceIte, simprocAttr])
    cases d.any (fun y => decide (16 < y.cons.length) || y.cons.any fun c => decide (6 < c.flds.length)) <;> (simp only [e71, wz, opX, intBin, ↓reduceIte, simprocAttr] <;> repeat' (first | refine wpG_s ?_ ?_ | refine wpC_s ?_ ?_) <;> intro hgo <;> (try simp only [dq] at hgo) <;> simp only [hgo, e71, wz, opX, intBin, ↓reduceIte, simprocAttr])
end Zc27
end
section
set_option linter.unusedSimpArgs false
set_option linter.unusedVariables false
set_option linter.unusedSimpArgs false
set_option maxHeartbeats 4000000
namespace Zc27
open Go Zv Zs

def up (c : UInt8) : Bool := decide ((65 : Int) ≤ (c.toNat : Int)) && decide ((c.toNat : Int) ≤ 90)
def other (c : UInt8) : Bool := (decide ((97 : Int) ≤ (c.toNat : Int)) && decide ((c.toNat : Int) ≤ 122)) || (decide ((48 : Int) ≤ (c.toNat : Int)) && decide ((c.toNat : Int) ≤ 57)) || decide ((c.toNat : Int) = 95)
/-- Is a character wrong at its place? -/
def wrong (q : UInt8 × Nat) : Bool := !up q.1 && (decide (q.2 = 0) || !other q.1)
def nameS (s : ByteArray) : Bool := !s.data.toList.zipIdx.any wrong && decide (1 ≤ s.size) && decide (s.size ≤ 32)
theorem size_list (s : ByteArray) : s.data.toList.length = s.size := by rw [Array.length_toList]; rfl
theorem nat_eq0 (n : Nat) : ((n : Int) = 0) = (n = 0) := by simp

theorem rname_ok' (s : ByteArray) (hs : s.size < 2 ^ 60) (h : Hp) : callW tab 94 [.d (.str s)] h = some (.d (.bool (nameS s)), h) := by
  refine call_wp (fn := f94) rfl rfl ?_
  have hsz := size_list s
  have hloop := loop_any (T := tab) (a := f94l0) (l := s.data.toList.zipIdx) (p := wrong) (f := fun n => [(0, .d (.str s)), (3, int n)]) (h := h)
      (by intro n x hx hlt hp; obtain ⟨c, i⟩ := x; have hx2 := List.getElem?_zipIdx .. ▸ hx; simp only [Nat.zero_add, Option.map_eq_some_iff, Prod.mk.injEq] at hx2; obtain ⟨c', hc, rfl, rfl⟩ := hx2; have hlt' : n < s.size := (by simpa [hsz] using hlt); simp only [wrong, up, other] at hp; all_goals (apply wq_ex.1; (simp only [hlt, hp, e94, ixS_at .i64 hc, hlt', ibeq, nat_eq0, wrap_succ (show n < 2 ^ 62 by omega), wz, opX, intBin, ↓reduceIte, simprocAttr] <;> repeat' (first | refine wpG_s ?_ ?_ | refine wpC_s ?_ ?_) <;> intro hgo <;> (try simp only [dq] at hgo) <;> simp only [hgo, hlt, hp, e94, ixS_at .i64 hc, hlt', ibeq, nat_eq0, wrap_succ (show n < 2 ^ 62 by omega), wz, opX, intBin, ↓reduceIte, simprocAttr]) <;> (first | done | rfl | (exfalso; simp_all))))
      (by intro n x hx hlt hp; obtain ⟨c, i⟩ := x; have hx2 := List.getElem?_zipIdx .. ▸ hx; simp only [Nat.zero_add, Option.map_eq_some_iff, Prod.mk.injEq] at hx2; obtain ⟨c', hc, rfl, rfl⟩ := hx2; have hlt' : n < s.size := (by simpa [hsz] using hlt); simp only [wrong, up, other] at hp; all_goals (apply wq_ex.1; (simp only [hlt, hp, e94, ixS_at .i64 hc, hlt', ibeq, nat_eq0, wrap_succ (show n < 2 ^ 62 by omega), wz, opX, intBin, ↓reduceIte, simprocAttr] <;> repeat' (first | refine wpG_s ?_ ?_ | refine wpC_s ?_ ?_) <;> intro hgo <;> (try simp only [dq] at hgo) <;> simp only [hgo, hlt, hp, e94, ixS_at .i64 hc, hlt', ibeq, nat_eq0, wrap_succ (show n < 2 ^ 62 by omega), wz, opX, intBin, ↓reduceIte, simprocAttr]) <;> (first | done | rfl | (exfalso; simp_all)) <;> rfl))
      (by apply wq_ex.1; (simp only [e94, hsz, List.length_zipIdx, wz, opX, intBin, ↓reduceIte, simprocAttr] <;> repeat' (first | refine wpG_s ?_ ?_ | refine wpC_s ?_ ?_) <;> intro hgo <;> (try simp only [dq] at hgo) <;> simp only [hgo, e94, hsz, List.length_zipIdx, wz, opX, intBin, ↓reduceIte, simprocAttr]) <;> rfl)
      (by simp) (by simp)
  simp only [int, Zv.bool, Int.cast_ofNat_Int] at hloop
  have e1 : ((1 : Int) ≤ (s.size : Int)) = (1 ≤ s.size) := by apply propext; omega
  have e2 : ((s.size : Int) ≤ 32) = (s.size ≤ 32) := by apply propext; omega
  (simp only [e94, nameS, wq_of hloop, wz, opX, intBin, ↓reduceIte, simprocAttr] <;> repeat' (first | refine wpG_s ?_ ?_ | refine wpC_s ?_ ?_) <;> intro hgo <;> (try simp only [dq] at hgo) <;> simp only [hgo, e94, nameS, wq_of hloop, wz, opX, intBin, ↓reduceIte, simprocAttr])
  cases s.data.toList.zipIdx.any wrong
  · (simp only [e94, e1, e2, wz, opX, intBin, ↓reduceIte, simprocAttr] <;> repeat' (first | refine wpG_s ?_ ?_ | refine wpC_s ?_ ?_) <;> intro hgo <;> (try simp only [dq] at hgo) <;> simp only [hgo, e94, e1, e2, wz, opX, intBin, ↓reduceIte, simprocAttr])
  · (simp only [e94, wz, opX, intBin, ↓reduceIte, simprocAttr] <;> repeat' (first | refine wpG_s ?_ ?_ | refine wpC_s ?_ ?_) <;> intro hgo <;> (try simp only [dq] at hgo) <;> simp only [hgo, e94, wz, opX, intBin, ↓reduceIte, simprocAttr])

theorem any_up (n : Nat) : ∀ l : List UInt8, (l.zipIdx (n + 1)).any wrong = l.any fun c => !up c && !other c
  | [] => rfl
  | c :: l => by
    rw [List.zipIdx_cons, List.any_cons, List.any_cons, any_up (n + 1) l]
    simp [wrong]
theorem any_up0 (l : List UInt8) (c : UInt8) (h : up c = true) : (c :: l).zipIdx.any wrong = (c :: l).any fun c => !up c && !other c := by
  rw [List.zipIdx_cons, List.any_cons, List.any_cons, any_up 0 l]
  simp [wrong, h]
theorem any_up1 (l : List UInt8) (c : UInt8) (h : up c = false) : (c :: l).zipIdx.any wrong = true := by
  rw [List.zipIdx_cons, List.any_cons]
  simp [wrong, h]
theorem size_zero {s : ByteArray} (h : s.size = 0) : s = ⟨#[]⟩ := by
  have := size_list s
  rw [h] at this
  have h2 : s.data.toList = [] := List.length_eq_zero_iff.1 this
  cases s with
  | mk d =>
    congr
    exact Array.toList_inj.1 (by simpa using h2)

theorem pname_ok (s : ByteArray) (hs : s.size < 2 ^ 60) (h : Hp) : callW tab 89 [.d (.str s)] h = some (.d (.bool (nameS s)), h) := by
  refine call_wp (fn := f89) rfl rfl ?_
  have hsz := size_list s
  by_cases h0 : s = ⟨#[]⟩
  · subst h0
    (simp only [e89, wz, opX, intBin, ↓reduceIte, simprocAttr] <;> repeat' (first | refine wpG_s ?_ ?_ | refine wpC_s ?_ ?_) <;> intro hgo <;> (try simp only [dq] at hgo) <;> simp only [hgo, e89, wz, opX, intBin, ↓reduceIte, simprocAttr])
    decide
  · by_cases h1 : (32 : Int) < s.size
    · have h2 : ¬ s.size ≤ 32 := by omega
      (simp only [e89, h0, h1, nameS, h2, Bool.and_false, wz, opX, intBin, ↓reduceIte, simprocAttr] <;> repeat' (first | refine wpG_s ?_ ?_ | refine wpC_s ?_ ?_) <;> intro hgo <;> (try simp only [dq] at hgo) <;> simp only [hgo, e89, h0, h1, nameS, h2, Bool.and_false, wz, opX, intBin, ↓reduceIte, simprocAttr])
    · obtain ⟨c, l, hl⟩ : ∃ c l, s.data.toList = c :: l := by
        cases hq : s.data.toList with
        | nil => rw [hq] at hsz; exact absurd (size_zero (by simpa using hsz.symm)) h0
        | cons c l => exact ⟨c, l, rfl⟩
      have hx0 : ixS (.d (.str s)) (.d (.int .i64 0)) = some (.d (.int .u8 c.toNat)) := ixS_at (n := 0) .i64 (by rw [hl]; rfl)
      have hn : nameS s = !s.data.toList.zipIdx.any wrong := by
        have a : 1 ≤ s.size := by rw [← hsz, hl]; simp
        have b : s.size ≤ 32 := by omega
        simp [nameS, a, b]
      rw [hn, hl]
      cases hu : up c with
      | false =>
        rw [any_up1 l c hu]
        simp only [up, Bool.and_eq_false_iff, decide_eq_false_iff_not] at hu
        (simp only [e89, h0, h1, hx0, wz, opX, intBin, ↓reduceIte, simprocAttr] <;> repeat' (first | refine wpG_s ?_ ?_ | refine wpC_s ?_ ?_) <;> intro hgo <;> (try simp only [dq] at hgo) <;> simp only [hgo, e89, h0, h1, hx0, wz, opX, intBin, ↓reduceIte, simprocAttr])
        all_goals (exfalso; omega)
      | true =>
        rw [any_up0 l c hu]
        simp only [up, Bool.and_eq_true, decide_eq_true_eq] at hu
        have c1 : ¬ (c.toNat : Int) < 65 := by omega
        have c2 : ¬ (90 : Int) < (c.toNat : Int) := by omega
        have hloop := loop_any (T := tab) (a := f89l0) (l := s.data.toList) (p := (fun c => !up c && !other c)) (f := fun n => [(0, .d (.str s)), (23, int s.size), (24, int n)]) (h := h)
            (by intro n x hx hlt hp; have hlt' : n < s.size := (by omega); simp only [up, other] at hp; all_goals (apply wq_ex.1; (simp only [hlt, hp, e89, ixS_at .i64 hx, hlt', ibeq, wrap_succ (show n < 2 ^ 62 by omega), wz, opX, intBin, ↓reduceIte, simprocAttr] <;> repeat' (first | refine wpG_s ?_ ?_ | refine wpC_s ?_ ?_) <;> intro hgo <;> (try simp only [dq] at hgo) <;> simp only [hgo, hlt, hp, e89, ixS_at .i64 hx, hlt', ibeq, wrap_succ (show n < 2 ^ 62 by omega), wz, opX, intBin, ↓reduceIte, simprocAttr]) <;> (first | done | rfl | (exfalso; simp_all))))
            (by intro n x hx hlt hp; have hlt' : n < s.size := (by omega); simp only [up, other] at hp; all_goals (apply wq_ex.1; (simp only [hlt, hp, e89, ixS_at .i64 hx, hlt', ibeq, wrap_succ (show n < 2 ^ 62 by omega), wz, opX, intBin, ↓reduceIte, simprocAttr] <;> repeat' (first | refine wpG_s ?_ ?_ | refine wpC_s ?_ ?_) <;> intro hgo <;> (try simp only [dq] at hgo) <;> simp only [hgo, hlt, hp, e89, ixS_at .i64 hx, hlt', ibeq, wrap_succ (show n < 2 ^ 62 by omega), wz, opX, intBin, ↓reduceIte, simprocAttr]) <;> (first | done | rfl | (exfalso; simp_all)) <;> rfl))
            (by apply wq_ex.1; (simp only [e89, hsz, wz, opX, intBin, ↓reduceIte, simprocAttr] <;> repeat' (first | refine wpG_s ?_ ?_ | refine wpC_s ?_ ?_) <;> intro hgo <;> (try simp only [dq] at hgo) <;> simp only [hgo, e89, hsz, wz, opX, intBin, ↓reduceIte, simprocAttr]) <;> rfl)
            (by simp) (by simp)
        simp only [int, Zv.bool, Int.cast_ofNat_Int] at hloop
        (simp only [e89, h0, h1, hx0, c1, c2, wq_of hloop, wz, opX, intBin, ↓reduceIte, simprocAttr] <;> repeat' (first | refine wpG_s ?_ ?_ | refine wpC_s ?_ ?_) <;> intro hgo <;> (try simp only [dq] at hgo) <;> simp only [hgo, e89, h0, h1, hx0, c1, c2, wq_of hloop, wz, opX, intBin, ↓reduceIte, simprocAttr])
        rw [hl]
        cases (c :: l).any fun c => !up c && !other c <;> (simp only [e89, wz, opX, intBin, ↓reduceIte, simprocAttr] <;> repeat' (first | refine wpG_s ?_ ?_ | refine wpC_s ?_ ?_) <;> intro hgo <;> (try simp only [dq] at hgo) <;> simp only [hgo, e89, wz, opX, intBin, ↓reduceIte, simprocAttr])
end Zc27
end
section
set_option linter.unusedSimpArgs false
set_option linter.unusedVariables false
set_option linter.unusedSimpArgs false
set_option maxHeartbeats 4000000
namespace Zc27
open Go Zv Zs

abbrev sBool : ByteArray := ⟨#[66, 111, 111, 108]⟩
abbrev sFalse : ByteArray := ⟨#[70, 97, 108, 115, 101]⟩
abbrev sTrue : ByteArray := ⟨#[84, 114, 117, 101]⟩
def boolS (y : Dt) : Bool := decide (y.name = sBool) && match y.cons with
  | [f, t] => decide (f.name = sFalse) && decide (t.name = sTrue) && decide (f.flds.length = 0) && decide (t.flds.length = 0)
  | _ => false
def badS (y : Dt) : Bool := !nameS y.name || decide (y.cons.length = 0) || y.cons.any fun c => !nameS c.name
def formedS (d : List Dt) : Bool := match d with
  | [] => false
  | y :: _ => boolS y && !d.any badS
theorem iaD0 {l : List Dt} {x : Dt} (hx : l[0]? = some x) : ia 2 (.d (.lst (l.map eD))) (.d (.int .i64 0)) = some (.fp (eD x) 0) := iaD hx
theorem iaC0 {l : List Cn} {x : Cn} (hx : l[0]? = some x) : ia 2 (.d (.lst (l.map eC))) (.d (.int .i64 0)) = some (.fp (eC x) 0) := iaC hx
theorem iaC1 {l : List Cn} {x : Cn} (hx : l[1]? = some x) : ia 2 (.d (.lst (l.map eC))) (.d (.int .i64 1)) = some (.fp (eC x) 0) := iaC (n := 1) hx

theorem formed1_ok (c : Cn) (hc : c.name.size < 2 ^ 60) (h : Hp) : callW tab 90 [.d (eC c)] h = some (.d (.bool (!nameS c.name)), h) := by
  refine call_wp (fn := f90) rfl rfl ?_
  (simp only [e90, pname_ok c.name hc, wz, opX, intBin, ↓reduceIte, simprocAttr] <;> repeat' (first | refine wpG_s ?_ ?_ | refine wpC_s ?_ ?_) <;> intro hgo <;> (try simp only [dq] at hgo) <;> simp only [hgo, e90, pname_ok c.name hc, wz, opX, intBin, ↓reduceIte, simprocAttr])
theorem pformed_ok {d : List Dt} (B : Bd d) (N : Nm d) (h : Hp) : callW tab 63 [.d (eDs d)] h = some (.d (.bool (formedS d)), h) := by
  refine call_wp (fn := f63) rfl rfl ?_
  have hbl := B.len
  cases d with
  | nil => (simp only [e63, formedS, Int.cast_ofNat_Int, wz, opX, intBin, ↓reduceIte, simprocAttr] <;> repeat' (first | refine wpG_s ?_ ?_ | refine wpC_s ?_ ?_) <;> intro hgo <;> (try simp only [dq] at hgo) <;> simp only [hgo, e63, formedS, Int.cast_ofNat_Int, wz, opX, intBin, ↓reduceIte, simprocAttr])
  | cons y ds =>
    have e0 : (((y :: ds).length : Int) == 0) = false := by simp; omega
    have hy : (y :: ds)[0]? = some y := rfl
    have h3 := N y List.mem_cons_self
    generalize hd : y :: ds = d at *
    have hF : formedS d = (boolS y && !d.any badS) := by rw [← hd]; rfl
    by_cases h1 : y.name = sBool
    · by_cases h2 : y.cons.length = 2
      · obtain ⟨f, t, hft⟩ : ∃ f t, y.cons = [f, t] := by
          cases hq : y.cons with
          | nil => rw [hq] at h2; cases h2
          | cons f r => cases r with
            | nil => rw [hq] at h2; cases h2
            | cons t r => cases r with
              | nil => exact ⟨f, t, rfl⟩
              | cons x r => rw [hq] at h2; simp at h2
        have hB : boolS y = (decide (f.name = sFalse) && decide (t.name = sTrue) && decide (f.flds.length = 0) && decide (t.flds.length = 0)) := by
          unfold boolS; rw [hft]; simp [h1]
        have b0 := iaC0 (l := y.cons) (x := f) (by rw [hft]; rfl)
        have b1 := iaC1 (l := y.cons) (x := t) (by rw [hft]; rfl)
        have e2 : ((y.cons.length : Int) != 2) = false := by rw [h2]; rfl
        have bf := B.flds y (by rw [← hd]; exact List.mem_cons_self) f (by rw [hft]; simp)
        have bt := B.flds y (by rw [← hd]; exact List.mem_cons_self) t (by rw [hft]; simp)
        have ew : IntKind.i64.wrap ((f.flds.length : Int) + (t.flds.length : Int)) = (f.flds.length : Int) + (t.flds.length : Int) := wrap_ok (by omega) (by omega)
        by_cases k1 : f.name = sFalse
        · by_cases k2 : t.name = sTrue
          · by_cases k3 : (0 : Int) < (f.flds.length : Int) + (t.flds.length : Int)
            · have : boolS y = false := by
                rw [hB]; by_cases z1 : f.flds.length = 0 <;> by_cases z2 : t.flds.length = 0 <;> first | (exfalso; omega) | simp [z1, z2]
              (simp only [e63, iaD0 hy, e0, h1, e2, b0, b1, k1, k2, ew, k3, hF, this, wz, opX, intBin, ↓reduceIte, simprocAttr] <;> repeat' (first | refine wpG_s ?_ ?_ | refine wpC_s ?_ ?_) <;> intro hgo <;> (try simp only [dq] at hgo) <;> simp only [hgo, e63, iaD0 hy, e0, h1, e2, b0, b1, k1, k2, ew, k3, hF, this, wz, opX, intBin, ↓reduceIte, simprocAttr])
            · have z1 : f.flds.length = 0 := by omega
              have z2 : t.flds.length = 0 := by omega
              have : boolS y = true := by rw [hB]; simp [k1, k2, z1, z2]
              obtain ⟨hloopq, hloop⟩ := loop_anyq (T := tab) (a := f63l0) (l := d) (p := badS) (f := fun n => [(55, .d (eDs d)), (56, int d.length), (57, int n)]) (h := ⟨h.objs, h.next + 1 + 1⟩)
                  (by intro q n x hx hlt hp; have b := B.at hx; have hN := N x (List.mem_of_getElem? hx); have hcf := fun h => conFC x.cons (.clo 90 []) (fun c => !nameS c.name) h (by omega) rfl (fun c hc => formed1_ok c (hN.2 c hc) h); have hnm := fun h => pname_ok x.name hN.1 h; simp only [badS] at hp; have ez : ((x.cons.length : Int) == 0) = decide (x.cons.length = 0) := (by rw [ibeq]; simp); cases hn : nameS x.name; all_goals by_cases hz : x.cons.length = 0; all_goals simp only [hn, hz, decide_true, decide_false, Bool.true_or, Bool.false_or, Bool.not_true, Bool.not_false, Bool.true_eq_false] at hp; all_goals ((simp only [hlt, hp, e63, iaD hx, hcf, hnm, hn, hz, ez, wrap_succ (show n < 2 ^ 62 by omega), wz, opX, intBin, ↓reduceIte, simprocAttr] <;> repeat' (first | refine wpG_s ?_ ?_ | refine wpC_s ?_ ?_) <;> intro hgo <;> (try simp only [dq] at hgo) <;> simp only [hgo, hlt, hp, e63, iaD hx, hcf, hnm, hn, hz, ez, wrap_succ (show n < 2 ^ 62 by omega), wz, opX, intBin, ↓reduceIte, simprocAttr]) <;> (first | exact ⟨_, rfl⟩ | exact ⟨_, rfl, rfl⟩ | exact ⟨_, rfl, rfl, rfl⟩)))
                  (by intro q n x hx hlt hp; have b := B.at hx; have hN := N x (List.mem_of_getElem? hx); have hcf := fun h => conFC x.cons (.clo 90 []) (fun c => !nameS c.name) h (by omega) rfl (fun c hc => formed1_ok c (hN.2 c hc) h); have hnm := fun h => pname_ok x.name hN.1 h; simp only [badS] at hp; have ez : ((x.cons.length : Int) == 0) = decide (x.cons.length = 0) := (by rw [ibeq]; simp); cases hn : nameS x.name; all_goals by_cases hz : x.cons.length = 0; all_goals simp only [hn, hz, decide_true, decide_false, Bool.true_or, Bool.false_or, Bool.not_true, Bool.not_false, Bool.true_eq_false] at hp; all_goals ((simp only [hlt, hp, e63, iaD hx, hcf, hnm, hn, hz, ez, wrap_succ (show n < 2 ^ 62 by omega), wz, opX, intBin, ↓reduceIte, simprocAttr] <;> repeat' (first | refine wpG_s ?_ ?_ | refine wpC_s ?_ ?_) <;> intro hgo <;> (try simp only [dq] at hgo) <;> simp only [hgo, hlt, hp, e63, iaD hx, hcf, hnm, hn, hz, ez, wrap_succ (show n < 2 ^ 62 by omega), wz, opX, intBin, ↓reduceIte, simprocAttr]) <;> (first | exact ⟨_, rfl⟩ | exact ⟨_, rfl, rfl⟩ | exact ⟨_, rfl, rfl, rfl⟩)))
                  (by intro q; (simp only [e63, wz, opX, intBin, ↓reduceIte, simprocAttr] <;> repeat' (first | refine wpG_s ?_ ?_ | refine wpC_s ?_ ?_) <;> intro hgo <;> (try simp only [dq] at hgo) <;> simp only [hgo, e63, wz, opX, intBin, ↓reduceIte, simprocAttr]) <;> (first | exact ⟨_, rfl⟩ | exact ⟨_, rfl, rfl⟩ | exact ⟨_, rfl, rfl, rfl⟩))
                  (by simp) (by simp)
              simp only [int, Zv.bool, Int.cast_ofNat_Int] at hloop
              (simp only [e63, iaD0 hy, e0, h1, e2, b0, b1, k1, k2, ew, k3, hF, this, wq_of hloop, wz, opX, intBin, ↓reduceIte, simprocAttr] <;> repeat' (first | refine wpG_s ?_ ?_ | refine wpC_s ?_ ?_) <;> intro hgo <;> (try simp only [dq] at hgo) <;> simp only [hgo, e63, iaD0 hy, e0, h1, e2, b0, b1, k1, k2, ew, k3, hF, this, wq_of hloop, wz, opX, intBin, ↓reduceIte, simprocAttr])
              cases d.any badS <;> (simp only [e63, wz, opX, intBin, ↓reduceIte, simprocAttr] <;> repeat' (first | refine wpG_s ?_ ?_ | refine wpC_s ?_ ?_) <;> intro hgo <;> (try simp only [dq] at hgo) <;> simp only [hgo, e63, wz, opX, intBin, ↓reduceIte, simprocAttr])
          · have : boolS y = false := by rw [hB]; simp [k2]
            (simp only [e63, iaD0 hy, e0, h1, e2, b0, b1, k1, k2, hF, this, wz, opX, intBin, ↓reduceIte, simprocAttr] <;> repeat' (first | refine wpG_s ?_ ?_ | refine wpC_s ?_ ?_) <;> intro hgo <;> (try simp only [dq] at hgo) <;> simp only [hgo, e63, iaD0 hy, e0, h1, e2, b0, b1, k1, k2, hF, this, wz, opX, intBin, ↓reduceIte, simprocAttr])
        · have : boolS y = false := by rw [hB]; simp [k1]
          (simp only [e63, iaD0 hy, e0, h1, e2, b0, b1, k1, hF, this, wz, opX, intBin, ↓reduceIte, simprocAttr] <;> repeat' (first | refine wpG_s ?_ ?_ | refine wpC_s ?_ ?_) <;> intro hgo <;> (try simp only [dq] at hgo) <;> simp only [hgo, e63, iaD0 hy, e0, h1, e2, b0, b1, k1, hF, this, wz, opX, intBin, ↓reduceIte, simprocAttr])
      · have : boolS y = false := by
          unfold boolS
          split
          · rename_i hq; rw [hq] at h2; exact absurd rfl h2
          · simp
        have e2 : ((y.cons.length : Int) != 2) = true := by simp; omega
        (simp only [e63, iaD0 hy, e0, h1, e2, hF, this, wz, opX, intBin, ↓reduceIte, simprocAttr] <;> repeat' (first | refine wpG_s ?_ ?_ | refine wpC_s ?_ ?_) <;> intro hgo <;> (try simp only [dq] at hgo) <;> simp only [hgo, e63, iaD0 hy, e0, h1, e2, hF, this, wz, opX, intBin, ↓reduceIte, simprocAttr])
    · have : boolS y = false := by unfold boolS; simp [h1]
      (simp only [e63, iaD0 hy, e0, h1, hF, this, wz, opX, intBin, ↓reduceIte, simprocAttr] <;> repeat' (first | refine wpG_s ?_ ?_ | refine wpC_s ?_ ?_) <;> intro hgo <;> (try simp only [dq] at hgo) <;> simp only [hgo, e63, iaD0 hy, e0, h1, hF, this, wz, opX, intBin, ↓reduceIte, simprocAttr])

theorem rformed_ok {d : List Dt} (B : Bd d) (N : Nm d) (h : Hp) : callW tab 72 [.d (eDs d)] h = some (.d (.bool (formedS d)), h) := by
  refine call_wp (fn := f72) rfl rfl ?_
  have hbl := B.len
  cases d with
  | nil => (simp only [e72, formedS, Int.cast_ofNat_Int, wz, opX, intBin, ↓reduceIte, simprocAttr] <;> repeat' (first | refine wpG_s ?_ ?_ | refine wpC_s ?_ ?_) <;> intro hgo <;> (try simp only [dq] at hgo) <;> simp only [hgo, e72, formedS, Int.cast_ofNat_Int, wz, opX, intBin, ↓reduceIte, simprocAttr])
  | cons y ds =>
    have e0 : (((y :: ds).length : Int) == 0) = false := by simp; omega
    have hy : (y :: ds)[0]? = some y := rfl
    have h3 := N y List.mem_cons_self
    generalize hd : y :: ds = d at *
    have hF : formedS d = (boolS y && !d.any badS) := by rw [← hd]; rfl
    by_cases h1 : y.name = sBool
    · by_cases h2 : y.cons.length = 2
      · obtain ⟨f, t, hft⟩ : ∃ f t, y.cons = [f, t] := by
          cases hq : y.cons with
          | nil => rw [hq] at h2; cases h2
          | cons f r => cases r with
            | nil => rw [hq] at h2; cases h2
            | cons t r => cases r with
              | nil => exact ⟨f, t, rfl⟩
              | cons x r => rw [hq] at h2; simp at h2
        have hB : boolS y = (decide (f.name = sFalse) && decide (t.name = sTrue) && decide (f.flds.length = 0) && decide (t.flds.length = 0)) := by
          unfold boolS; rw [hft]; simp [h1]
        have b0 := iaC0 (l := y.cons) (x := f) (by rw [hft]; rfl)
        have b1 := iaC1 (l := y.cons) (x := t) (by rw [hft]; rfl)
        have e2 : ((y.cons.length : Int) != 2) = false := by rw [h2]; rfl
        by_cases k1 : f.name = sFalse
        · by_cases k2 : t.name = sTrue
          · by_cases k3 : (0 : Int) < (f.flds.length : Int)
            · have : boolS y = false := by
                rw [hB]; have z1 : ¬ f.flds.length = 0 := by omega
                simp [z1]
              (simp only [e72, iaD0 hy, e0, h1, e2, b0, b1, k1, k2, k3, hF, this, wz, opX, intBin, ↓reduceIte, simprocAttr] <;> repeat' (first | refine wpG_s ?_ ?_ | refine wpC_s ?_ ?_) <;> intro hgo <;> (try simp only [dq] at hgo) <;> simp only [hgo, e72, iaD0 hy, e0, h1, e2, b0, b1, k1, k2, k3, hF, this, wz, opX, intBin, ↓reduceIte, simprocAttr])
            · by_cases k4 : (0 : Int) < (t.flds.length : Int)
              · have : boolS y = false := by
                  rw [hB]; have z1 : ¬ t.flds.length = 0 := by omega
                  simp [z1]
                (simp only [e72, iaD0 hy, e0, h1, e2, b0, b1, k1, k2, k3, k4, hF, this, wz, opX, intBin, ↓reduceIte, simprocAttr] <;> repeat' (first | refine wpG_s ?_ ?_ | refine wpC_s ?_ ?_) <;> intro hgo <;> (try simp only [dq] at hgo) <;> simp only [hgo, e72, iaD0 hy, e0, h1, e2, b0, b1, k1, k2, k3, k4, hF, this, wz, opX, intBin, ↓reduceIte, simprocAttr])
              · have z1 : f.flds.length = 0 := by omega
                have z2 : t.flds.length = 0 := by omega
                have : boolS y = true := by rw [hB]; simp [k1, k2, z1, z2]
                have inner : ∀ (m : Nat) (x : Dt), d[m]? = some x → ex tab (.loop f72l0) [(0, .d (eDs d)), (5, .d (.int .i64 m)), (6, .d (.int .i64 0))] ⟨h.objs, h.next + 1 + 1⟩ = some (if (x.cons.any fun c => !nameS c.name) = true then (.ret, [(2, .d (.bool false))], ⟨h.objs, h.next + 1 + 1⟩) else (.exit 2, [(0, .d (eDs d)), (5, .d (.int .i64 m)), (6, .d (.int .i64 x.cons.length)), (86, .d (.bool false))], ⟨h.objs, h.next + 1 + 1⟩)) := by
                  intro m z hz
                  have b := B.at hz
                  have hN := N z (List.mem_of_getElem? hz)
                  have hloop := loop_any (T := tab) (a := f72l0) (l := z.cons) (p := (fun c => !nameS c.name)) (f := fun n => [(0, .d (eDs d)), (5, .d (.int .i64 m)), (6, int n)]) (h := ⟨h.objs, h.next + 1 + 1⟩)
                      (by intro n x hx hlt hp; have hcf := rname_ok' x.name (hN.2 x (List.mem_of_getElem? hx)) ⟨h.objs, h.next + 1 + 1⟩; simp only [Bool.not_eq_true', Bool.not_eq_false'] at hp; all_goals (apply wq_ex.1; (simp only [hlt, hp, e72, iaD hz, iaC hx, hcf, wrap_succ (show n < 2 ^ 62 by omega), wz, opX, intBin, ↓reduceIte, simprocAttr] <;> repeat' (first | refine wpG_s ?_ ?_ | refine wpC_s ?_ ?_) <;> intro hgo <;> (try simp only [dq] at hgo) <;> simp only [hgo, hlt, hp, e72, iaD hz, iaC hx, hcf, wrap_succ (show n < 2 ^ 62 by omega), wz, opX, intBin, ↓reduceIte, simprocAttr])))
                      (by intro n x hx hlt hp; have hcf := rname_ok' x.name (hN.2 x (List.mem_of_getElem? hx)) ⟨h.objs, h.next + 1 + 1⟩; simp only [Bool.not_eq_true', Bool.not_eq_false'] at hp; all_goals (apply wq_ex.1; (simp only [hlt, hp, e72, iaD hz, iaC hx, hcf, wrap_succ (show n < 2 ^ 62 by omega), wz, opX, intBin, ↓reduceIte, simprocAttr] <;> repeat' (first | refine wpG_s ?_ ?_ | refine wpC_s ?_ ?_) <;> intro hgo <;> (try simp only [dq] at hgo) <;> simp only [hgo, hlt, hp, e72, iaD hz, iaC hx, hcf, wrap_succ (show n < 2 ^ 62 by omega), wz, opX, intBin, ↓reduceIte, simprocAttr]) <;> rfl))
                      (by apply wq_ex.1; (simp only [e72, iaD hz, wz, opX, intBin, ↓reduceIte, simprocAttr] <;> repeat' (first | refine wpG_s ?_ ?_ | refine wpC_s ?_ ?_) <;> intro hgo <;> (try simp only [dq] at hgo) <;> simp only [hgo, e72, iaD hz, wz, opX, intBin, ↓reduceIte, simprocAttr]) <;> rfl)
                      (by simp) (by simp)
                  simp only [int, Zv.bool, Int.cast_ofNat_Int] at hloop
                  exact hloop
                have hloop := loop_any (T := tab) (a := f72l1) (l := d) (p := badS) (f := fun n => [(0, .d (eDs d)), (5, int n)]) (h := ⟨h.objs, h.next + 1 + 1⟩)
                    (by intro n x hx hlt hp; have b := B.at hx; have hN := N x (List.mem_of_getElem? hx); have hin := inner n x hx; have hnm := rname_ok' x.name hN.1 ⟨h.objs, h.next + 1 + 1⟩; simp only [badS] at hp; have ez : ((x.cons.length : Int) == 0) = decide (x.cons.length = 0) := (by rw [ibeq]; simp); cases hn : nameS x.name; all_goals by_cases hz : x.cons.length = 0; all_goals simp only [hn, hz, decide_true, decide_false, Bool.true_or, Bool.false_or, Bool.not_true, Bool.not_false, Bool.true_eq_false] at hp; all_goals (try simp only [hp, if_true, if_false, Bool.false_eq_true] at hin); all_goals (apply wq_ex.1; (simp only [hlt, hp, e72, iaD hx, wq_of hin, hnm, hn, hz, ez, wrap_succ (show n < 2 ^ 62 by omega), wz, opX, intBin, ↓reduceIte, simprocAttr] <;> repeat' (first | refine wpG_s ?_ ?_ | refine wpC_s ?_ ?_) <;> intro hgo <;> (try simp only [dq] at hgo) <;> simp only [hgo, hlt, hp, e72, iaD hx, wq_of hin, hnm, hn, hz, ez, wrap_succ (show n < 2 ^ 62 by omega), wz, opX, intBin, ↓reduceIte, simprocAttr])))
                    (by intro n x hx hlt hp; have b := B.at hx; have hN := N x (List.mem_of_getElem? hx); have hin := inner n x hx; have hnm := rname_ok' x.name hN.1 ⟨h.objs, h.next + 1 + 1⟩; simp only [badS] at hp; have ez : ((x.cons.length : Int) == 0) = decide (x.cons.length = 0) := (by rw [ibeq]; simp); cases hn : nameS x.name; all_goals by_cases hz : x.cons.length = 0; all_goals simp only [hn, hz, decide_true, decide_false, Bool.true_or, Bool.false_or, Bool.not_true, Bool.not_false, Bool.true_eq_false] at hp; all_goals (try simp only [hp, if_true, if_false, Bool.false_eq_true] at hin); all_goals (apply wq_ex.1; (simp only [hlt, hp, e72, iaD hx, wq_of hin, hnm, hn, hz, ez, wrap_succ (show n < 2 ^ 62 by omega), wz, opX, intBin, ↓reduceIte, simprocAttr] <;> repeat' (first | refine wpG_s ?_ ?_ | refine wpC_s ?_ ?_) <;> intro hgo <;> (try simp only [dq] at hgo) <;> simp only [hgo, hlt, hp, e72, iaD hx, wq_of hin, hnm, hn, hz, ez, wrap_succ (show n < 2 ^ 62 by omega), wz, opX, intBin, ↓reduceIte, simprocAttr]) <;> rfl))
                    (by apply wq_ex.1; (simp only [e72, wz, opX, intBin, ↓reduceIte, simprocAttr] <;> repeat' (first | refine wpG_s ?_ ?_ | refine wpC_s ?_ ?_) <;> intro hgo <;> (try simp only [dq] at hgo) <;> simp only [hgo, e72, wz, opX, intBin, ↓reduceIte, simprocAttr]) <;> rfl)
                    (by simp) (by simp)
                simp only [int, Zv.bool, Int.cast_ofNat_Int] at hloop
                (simp only [e72, iaD0 hy, e0, h1, e2, b0, b1, k1, k2, k3, k4, hF, this, wq_of hloop, wz, opX, intBin, ↓reduceIte, simprocAttr] <;> repeat' (first | refine wpG_s ?_ ?_ | refine wpC_s ?_ ?_) <;> intro hgo <;> (try simp only [dq] at hgo) <;> simp only [hgo, e72, iaD0 hy, e0, h1, e2, b0, b1, k1, k2, k3, k4, hF, this, wq_of hloop, wz, opX, intBin, ↓reduceIte, simprocAttr])
                cases d.any badS <;> (simp only [e72, wz, opX, intBin, ↓reduceIte, simprocAttr] <;> repeat' (first | refine wpG_s ?_ ?_ | refine wpC_s ?_ ?_) <;> intro hgo <;> (try simp only [dq] at hgo) <;> simp only [hgo, e72, wz, opX, intBin, ↓reduceIte, simprocAttr])
          · have : boolS y = false := by rw [hB]; simp [k2]
            (simp only [e72, iaD0 hy, e0, h1, e2, b0, b1, k1, k2, hF, this, wz, opX, intBin, ↓reduceIte, simprocAttr] <;> repeat' (first | refine wpG_s ?_ ?_ | refine wpC_s ?_ ?_) <;> intro hgo <;> (try simp only [dq] at hgo) <;> simp only [hgo, e72, iaD0 hy, e0, h1, e2, b0, b1, k1, k2, hF, this, wz, opX, intBin, ↓reduceIte, simprocAttr])
        · have : boolS y = false := by rw [hB]; simp [k1]
          (simp only [e72, iaD0 hy, e0, h1, e2, b0, b1, k1, hF, this, wz, opX, intBin, ↓reduceIte, simprocAttr] <;> repeat' (first | refine wpG_s ?_ ?_ | refine wpC_s ?_ ?_) <;> intro hgo <;> (try simp only [dq] at hgo) <;> simp only [hgo, e72, iaD0 hy, e0, h1, e2, b0, b1, k1, hF, this, wz, opX, intBin, ↓reduceIte, simprocAttr])
      · have : boolS y = false := by
          unfold boolS
          split
          · rename_i hq; rw [hq] at h2; exact absurd rfl h2
          · simp
        have e2 : ((y.cons.length : Int) != 2) = true := by simp; omega
        (simp only [e72, iaD0 hy, e0, h1, e2, hF, this, wz, opX, intBin, ↓reduceIte, simprocAttr] <;> repeat' (first | refine wpG_s ?_ ?_ | refine wpC_s ?_ ?_) <;> intro hgo <;> (try simp only [dq] at hgo) <;> simp only [hgo, e72, iaD0 hy, e0, h1, e2, hF, this, wz, opX, intBin, ↓reduceIte, simprocAttr])
    · have : boolS y = false := by unfold boolS; simp [h1]
      (simp only [e72, iaD0 hy, e0, h1, hF, this, wz, opX, intBin, ↓reduceIte, simprocAttr] <;> repeat' (first | refine wpG_s ?_ ?_ | refine wpC_s ?_ ?_) <;> intro hgo <;> (try simp only [dq] at hgo) <;> simp only [hgo, e72, iaD0 hy, e0, h1, hF, this, wz, opX, intBin, ↓reduceIte, simprocAttr])
end Zc27
end
section
set_option linter.unusedSimpArgs false
set_option linter.unusedVariables false
set_option linter.unusedSimpArgs false
set_option maxHeartbeats 4000000
namespace Zc27
open Go Zv Zs

instance decMem (s : ByteArray) (l : List ByteArray) : Decidable (s ∈ l) := decidable_of_iff (l.any (fun x => decide (x = s)) = true) (by simp)
def tyN (d : List Dt) (n : Nat) : List ByteArray := sInt :: (d.take n).map Dt.name
def coN (d : List Dt) (n : Nat) : List ByteArray := (d.take n).flatMap fun y => y.cons.map Cn.name
def coK (d : List Dt) (n : Nat) (y : Dt) (k : Nat) : List ByteArray := coN d n ++ (y.cons.take k).map Cn.name
def twiceS (d : List Dt) : Bool := !(decide (tyN d d.length).Nodup && decide (coN d d.length).Nodup)
theorem tyN_succ {d : List Dt} {n : Nat} {y : Dt} (hy : d[n]? = some y) : tyN d (n + 1) = tyN d n ++ [y.name] := by
  obtain ⟨hlt, rfl⟩ := List.getElem?_eq_some_iff.1 hy
  unfold tyN; rw [List.take_succ_eq_append_getElem hlt, List.map_append]; rfl
theorem coN_succ {d : List Dt} {n : Nat} {y : Dt} (hy : d[n]? = some y) : coN d (n + 1) = coN d n ++ y.cons.map Cn.name := by
  obtain ⟨hlt, rfl⟩ := List.getElem?_eq_some_iff.1 hy
  unfold coN; rw [List.take_succ_eq_append_getElem hlt, List.flatMap_append]; simp
theorem coK_zero (d : List Dt) (n : Nat) (y : Dt) : coK d n y 0 = coN d n := by simp [coK]
theorem coK_succ {d : List Dt} {n : Nat} {y : Dt} {k : Nat} {c : Cn} (hc : y.cons[k]? = some c) : coK d n y (k + 1) = coK d n y k ++ [c.name] := by
  obtain ⟨hlt, rfl⟩ := List.getElem?_eq_some_iff.1 hc
  unfold coK; rw [List.take_succ_eq_append_getElem hlt, List.map_append, List.append_assoc]; rfl
theorem coK_all {d : List Dt} {n : Nat} {y : Dt} (hy : d[n]? = some y) : coK d n y y.cons.length = coN d (n + 1) := by
  rw [coN_succ hy]; simp [coK]
theorem tyN_pre (d : List Dt) (n : Nat) : tyN d n <+: tyN d d.length := by
  unfold tyN
  rw [List.take_length]
  refine ⟨(d.drop n).map Dt.name, ?_⟩
  rw [List.cons_append, ← List.map_append, List.take_append_drop]
theorem coN_pre (d : List Dt) (n : Nat) : coN d n <+: coN d d.length := by
  unfold coN
  rw [List.take_length]
  refine ⟨(d.drop n).flatMap fun y => y.cons.map Cn.name, ?_⟩
  rw [← List.flatMap_append, List.take_append_drop]
theorem coK_pre {d : List Dt} {n : Nat} {y : Dt} (hy : d[n]? = some y) (k : Nat) : coK d n y k <+: coN d d.length := by
  refine List.IsPrefix.trans ?_ (coN_pre d (n + 1))
  rw [coN_succ hy]
  refine ⟨(y.cons.drop k).map Cn.name, ?_⟩
  unfold coK
  rw [List.append_assoc, ← List.map_append, List.take_append_drop]
theorem nd_add {l : List ByteArray} {s : ByteArray} (h : l.Nodup) (hs : s ∉ l) : (l ++ [s]).Nodup := by
  rw [List.nodup_append]
  exact ⟨h, by simp, fun a ha b hb => by rintro rfl; simp at hb; exact hs (hb ▸ ha)⟩
theorem nd_not {l m : List ByteArray} {s : ByteArray} (hs : s ∈ l) (h : l ++ [s] <+: m) : ¬ m.Nodup := by
  intro hm
  have := h.sublist.nodup hm
  rw [List.nodup_append] at this
  exact this.2.2 s hs s (by simp) rfl
theorem twice_t1 {d : List Dt} {n : Nat} {y : Dt} (hy : d[n]? = some y) (h : y.name ∈ tyN d n) : twiceS d = true := by
  have := nd_not h (tyN_succ hy ▸ tyN_pre d (n + 1))
  simp [twiceS, this]
theorem twice_t2 {d : List Dt} {n k : Nat} {y : Dt} {c : Cn} (hy : d[n]? = some y) (hc : y.cons[k]? = some c) (h : c.name ∈ coK d n y k) : twiceS d = true := by
  have := nd_not h (coK_succ (d := d) (n := n) hc ▸ coK_pre hy (k + 1))
  simp [twiceS, this]
theorem twice_f {d : List Dt} (h1 : (tyN d d.length).Nodup) (h2 : (coN d d.length).Nodup) : twiceS d = false := by
  simp [twiceS, h1, h2]

/-! ### The program: two maps -/
def kvS (l : List ByteArray) : List (D × V) := l.map fun s => (.str s, .d (.bool true))
theorem kvS_find (s : ByteArray) : ∀ l : List ByteArray, findK .s (.str s) (kvS l) = some (if s ∈ l then some (.d (.bool true)) else none)
  | [] => rfl
  | x :: l => by
    unfold kvS
    rw [List.map_cons]
    by_cases h : s = x
    · subst h; simp [findK, keyEq]
    · simp only [findK, keyEq, h, decide_false, List.mem_cons, false_or]
      exact kvS_find s l
theorem kvS_put (s : ByteArray) : ∀ l : List ByteArray, s ∉ l → putK .s (.str s) (.d (.bool true)) (kvS l) = some (kvS (l ++ [s]))
  | [], _ => rfl
  | x :: l, hs => by
    have h : ¬ s = x := fun e => hs (e ▸ List.mem_cons_self)
    have ih := kvS_put s l (fun e => hs (List.mem_cons_of_mem x e))
    unfold kvS at ih ⊢
    rw [List.map_cons]
    simp only [putK, keyEq, h, decide_false, ih, Option.map_some, List.cons_append, List.map_cons]
section
variable (h : Hp)
def HM (T C : List ByteArray) (q : Nat) : Hp := ⟨(h.next + 1, .mp (kvS C)) :: (h.next, .mp (kvS T)) :: h.objs, q⟩
theorem HM_T (T C q) (s : ByteArray) : lk .s (.d (.bool false)) false (HM h T C q) (.map h.next) (.d (.str s)) = some (.d (.bool (decide (s ∈ T)))) := by
  have : (HM h T C q).get h.next = some (.mp (kvS T)) := by
    unfold Hp.get HM; rw [look_tl _ _ (by omega), look_hd]
  unfold lk
  simp only [entries, this, Option.bind_some, kvS_find, Option.map_some]
  by_cases hs : s ∈ T <;> simp [hs]
theorem HM_C (T C q) (s : ByteArray) : lk .s (.d (.bool false)) false (HM h T C q) (.map (h.next + 1)) (.d (.str s)) = some (.d (.bool (decide (s ∈ C)))) := by
  have : (HM h T C q).get (h.next + 1) = some (.mp (kvS C)) := by
    unfold Hp.get HM; rw [look_hd]
  unfold lk
  simp only [entries, this, Option.bind_some, kvS_find, Option.map_some]
  by_cases hs : s ∈ C <;> simp [hs]
theorem HM_Tp (T C q) {s : ByteArray} (hs : s ∉ T) : mu .s (HM h T C q) (.map h.next) (.d (.str s)) (.d (.bool true)) = some (HM h (T ++ [s]) C q) := by
  have : (HM h T C q).get h.next = some (.mp (kvS T)) := by
    unfold Hp.get HM; rw [look_tl _ _ (by omega), look_hd]
  unfold mu
  simp only [this, stor_d, if_true, norm_d, kvS_put s T hs, Option.map_some]
  unfold Hp.set HM
  simp [upd]
theorem HM_Cp (T C q) {s : ByteArray} (hs : s ∉ C) : mu .s (HM h T C q) (.map (h.next + 1)) (.d (.str s)) (.d (.bool true)) = some (HM h T (C ++ [s]) q) := by
  have : (HM h T C q).get (h.next + 1) = some (.mp (kvS C)) := by
    unfold Hp.get HM; rw [look_hd]
  unfold mu
  simp only [this, stor_d, if_true, norm_d, kvS_put s C hs, Option.map_some]
  unfold Hp.set HM
  simp [upd]
end
theorem HM_next (h : Hp) (T C q) : (HM h T C q).next = q := rfl
theorem HM_up (h : Hp) (T C q) : (⟨(HM h T C q).objs, q + 1⟩ : Hp) = HM h T C (q + 1) := rfl
theorem HM_fin (h : Hp) (T C q) (x : D) : finS h (HM h T C q) [.d x] = some (.d x, h) := finS1cc ..

theorem ptwice_ok {d : List Dt} (B : Bd d) (h : Hp) : callW tab 64 [.d (eDs d)] h = some (.d (.bool (twiceS d)), h) := by
  refine call_wp (fn := f64) rfl rfl ?_
  have hbl := B.len
  have hmu0 : mu .s ⟨(h.next, .mp []) :: h.objs, h.next + 1⟩ (.map h.next) (.d (.str sInt)) (.d (.bool true)) = some ⟨(h.next, .mp (kvS (tyN d 0))) :: h.objs, h.next + 1⟩ := by
    simp [mu, Hp.get, Zv.look, putK, stor, norm_d, Hp.set, upd, kvS, tyN]
  have hH : (⟨(h.next + 1, .mp []) :: (h.next, .mp (kvS (tyN d 0))) :: h.objs, h.next + 1 + 1⟩ : Hp) = HM h (tyN d 0) (coN d 0) (h.next + 2) := rfl
  (simp only [e64, hmu0, hH, wz, opX, intBin, ↓reduceIte, simprocAttr] <;> repeat' (first | refine wpG_s ?_ ?_ | refine wpC_s ?_ ?_) <;> intro hgo <;> (try simp only [dq] at hgo) <;> simp only [hgo, e64, hmu0, hH, wz, opX, intBin, ↓reduceIte, simprocAttr])
  have inner : ∀ (m : Nat) (y : Dt) (q : Nat), d[m]? = some y → (coN d m).Nodup → wp tab (.loop f64l0) [(3, .map h.next), (4, .map (h.next + 1)), (12, .d (eDs d)), (13, .d (.int .i64 d.length)), (14, .d (.int .i64 m)), (26, .d (eCs y.cons)), (27, .d (.int .i64 y.cons.length)), (28, .d (.int .i64 0))] (HM h (tyN d (m + 1)) (coN d m) q)
      (fun o => ∃ T C q', (o = (.ret, [(2, .d (.bool true))], HM h T C q') ∧ twiceS d = true) ∨ (o = (.exit 2, [(3, .map h.next), (4, .map (h.next + 1)), (12, .d (eDs d)), (13, .d (.int .i64 d.length)), (14, .d (.int .i64 m)), (26, .d (eCs y.cons)), (27, .d (.int .i64 y.cons.length)), (28, .d (.int .i64 y.cons.length)), (29, .d (.bool false))], HM h (tyN d (m + 1)) (coN d (m + 1)) q') ∧ (coN d (m + 1)).Nodup)) := by
    intro m y q hy hnd
    have b := B.at hy
    refine loop_wp y.cons.length (fun k e h' => (∃ q, h' = HM h (tyN d (m + 1)) (coK d m y k) q) ∧ e = [(3, .map h.next), (4, .map (h.next + 1)), (12, .d (eDs d)), (13, .d (.int .i64 d.length)), (14, .d (.int .i64 m)), (26, .d (eCs y.cons)), (27, .d (.int .i64 y.cons.length)), (28, .d (.int .i64 k))] ∧ (coK d m y k).Nodup) _ ?_ ?_ y.cons.length 0 _ _ (by omega) ⟨⟨q, by rw [coK_zero]⟩, rfl, by rw [coK_zero]; exact hnd⟩
    · rintro k e h' hk ⟨⟨q, rfl⟩, rfl, hn⟩
      obtain ⟨c, hc⟩ := get_of_lt hk
      have hw := wrap_succ (show k < 2 ^ 62 by omega)
      by_cases hm : c.name ∈ coK d m y k
      · have ht := twice_t2 hy hc hm
        (simp only [e64, hk, iaC hc, HM_next, HM_up, HM_C, hm, ht, wz, opX, intBin, ↓reduceIte, simprocAttr] <;> repeat' (first | refine wpG_s ?_ ?_ | refine wpC_s ?_ ?_) <;> intro hgo <;> (try simp only [dq] at hgo) <;> simp only [hgo, e64, hk, iaC hc, HM_next, HM_up, HM_C, hm, ht, wz, opX, intBin, ↓reduceIte, simprocAttr])
        exact ⟨_, _, _, rfl⟩
      · have hp := fun q => HM_Cp h (tyN d (m + 1)) (coK d m y k) q hm
        (simp only [e64, hk, iaC hc, HM_next, HM_up, HM_C, hm, hp, hw, wz, opX, intBin, ↓reduceIte, simprocAttr] <;> repeat' (first | refine wpG_s ?_ ?_ | refine wpC_s ?_ ?_) <;> intro hgo <;> (try simp only [dq] at hgo) <;> simp only [hgo, e64, hk, iaC hc, HM_next, HM_up, HM_C, hm, hp, hw, wz, opX, intBin, ↓reduceIte, simprocAttr])
        exact ⟨⟨_, by rw [coK_succ hc]⟩, by rw [coK_succ hc]; exact nd_add hn hm⟩
    · rintro e h' ⟨⟨q, rfl⟩, rfl, hn⟩
      (simp only [e64, wz, opX, intBin, ↓reduceIte, simprocAttr] <;> repeat' (first | refine wpG_s ?_ ?_ | refine wpC_s ?_ ?_) <;> intro hgo <;> (try simp only [dq] at hgo) <;> simp only [hgo, e64, wz, opX, intBin, ↓reduceIte, simprocAttr])
      rw [coK_all hy] at hn ⊢
      exact ⟨[], [], _, rfl, hn⟩
  refine loop_wp d.length (fun k e h' => (∃ q, h' = HM h (tyN d k) (coN d k) q) ∧ e = [(3, .map h.next), (4, .map (h.next + 1)), (12, .d (eDs d)), (13, .d (.int .i64 d.length)), (14, .d (.int .i64 k))] ∧ (tyN d k).Nodup ∧ (coN d k).Nodup) _ ?_ ?_ d.length 0 _ _ (by omega) ⟨⟨_, rfl⟩, rfl, by simp [tyN], by simp [coN]⟩
  · rintro k e h' hk ⟨⟨q, rfl⟩, rfl, hn1, hn2⟩
    obtain ⟨y, hy⟩ := get_of_lt hk
    have hw := wrap_succ (show k < 2 ^ 62 by omega)
    by_cases hm : y.name ∈ tyN d k
    · have ht := twice_t1 hy hm
      (simp only [e64, hk, iaD hy, HM_next, HM_up, HM_T, hm, ht, HM_fin, wz, opX, intBin, ↓reduceIte, simprocAttr] <;> repeat' (first | refine wpG_s ?_ ?_ | refine wpC_s ?_ ?_) <;> intro hgo <;> (try simp only [dq] at hgo) <;> simp only [hgo, e64, hk, iaD hy, HM_next, HM_up, HM_T, hm, ht, HM_fin, wz, opX, intBin, ↓reduceIte, simprocAttr])
    · have hp := fun q => HM_Tp h (tyN d k) (coN d k) q hm
      (simp only [e64, hk, iaD hy, HM_next, HM_up, HM_T, hm, hp, wz, opX, intBin, ↓reduceIte, simprocAttr] <;> repeat' (first | refine wpG_s ?_ ?_ | refine wpC_s ?_ ?_) <;> intro hgo <;> (try simp only [dq] at hgo) <;> simp only [hgo, e64, hk, iaD hy, HM_next, HM_up, HM_T, hm, hp, wz, opX, intBin, ↓reduceIte, simprocAttr])
      rw [← tyN_succ hy]
      refine wq_mono (inner k y _ hy hn2) ?_
      rintro o ⟨T, C, q', ⟨rfl, ht⟩ | ⟨rfl, hn3⟩⟩
      · (simp only [e64, ht, HM_fin, wz, opX, intBin, ↓reduceIte, simprocAttr] <;> repeat' (first | refine wpG_s ?_ ?_ | refine wpC_s ?_ ?_) <;> intro hgo <;> (try simp only [dq] at hgo) <;> simp only [hgo, e64, ht, HM_fin, wz, opX, intBin, ↓reduceIte, simprocAttr])
      · (simp only [e64, hw, wz, opX, intBin, ↓reduceIte, simprocAttr] <;> repeat' (first | refine wpG_s ?_ ?_ | refine wpC_s ?_ ?_) <;> intro hgo <;> (try simp only [dq] at hgo) <;> simp only [hgo, e64, hw, wz, opX, intBin, ↓reduceIte, simprocAttr])
        exact ⟨⟨_, rfl⟩, by rw [tyN_succ hy]; exact nd_add hn1 hm, hn3⟩
  · rintro e h' ⟨⟨q, rfl⟩, rfl, hn1, hn2⟩
    (simp only [e64, HM_fin, twice_f hn1 hn2, wz, opX, intBin, ↓reduceIte, simprocAttr] <;> repeat' (first | refine wpG_s ?_ ?_ | refine wpC_s ?_ ?_) <;> intro hgo <;> (try simp only [dq] at hgo) <;> simp only [hgo, e64, HM_fin, twice_f hn1 hn2, wz, opX, intBin, ↓reduceIte, simprocAttr])
end Zc27
end
section
set_option linter.unusedSimpArgs false
set_option linter.unusedVariables false
set_option linter.unusedSimpArgs false
set_option maxHeartbeats 4000000
namespace Zc27
open Go Zv Zs

abbrev eS (s : ByteArray) : D := .str s
/-- A slice of strings, as it is read. -/
structure SlS (h : Hp) (v : V) (l : List ByteArray) : Prop where
  len : lenL v = some (.d (.int .i64 l.length))
  at_ : ∀ (n : Nat) (x : ByteArray), l[n]? = some x → ∃ a, ia 1 v (.d (.int .i64 (n : Int))) = some a ∧ ld false 1 h a = some (.d (.str x))
theorem SlS.own {h : Hp} {n : Nat} {l : List ByteArray} (hr : h.row n l.length = some (1, (l.map eS).map .d)) : SlS h (.own n 1 l.length 0 l.length) l := by
  refine ⟨lenL_own .., fun k x hx => ⟨.ptr n l.length k 0, ?_, ?_⟩⟩
  · have := lt_of_get hx
    simp [ia, ixOf_nat, this]
  · rw [ld_one, hr]
    simp [hx, V.cells, D.cells]
theorem SlS.nil (h : Hp) : SlS h (.d (.lst [])) [] := ⟨rfl, fun n x hx => by simp at hx⟩
theorem in_ok {h : Hp} {v : V} {l : List ByteArray} (S : SlS h v l) (hl : l.length < 2 ^ 60) (s : ByteArray) : callW tab 95 [v, .d (.str s)] h = some (.d (.bool (decide (s ∈ l))), h) := by
  have e : decide (s ∈ l) = l.any fun x => decide (x = s) := by
    cases hq : l.any fun x => decide (x = s) with
    | true => rw [decide_eq_true_eq]; simpa using hq
    | false =>
      rw [decide_eq_false_iff_not]
      intro hm
      have : l.any (fun x => decide (x = s)) = true := List.any_eq_true.2 ⟨s, hm, by simp⟩
      rw [hq] at this; cases this
  rw [e]
  refine call_wp (fn := f95) rfl rfl ?_
  have hloop := loop_any (T := tab) (a := f95l0) (l := l) (p := (fun x => decide (x = s))) (f := fun n => [(0, v), (1, .d (.str s)), (5, int n)]) (h := h)
      (by intro n x hx hlt hp; obtain ⟨a, ha, hla⟩ := S.at_ n x hx; simp only [decide_eq_true_eq, decide_eq_false_iff_not] at hp; all_goals (apply wq_ex.1; (simp only [hlt, hp, e95, S.len, ha, hla, wrap_succ (show n < 2 ^ 62 by omega), wz, opX, intBin, ↓reduceIte, simprocAttr] <;> repeat' (first | refine wpG_s ?_ ?_ | refine wpC_s ?_ ?_) <;> intro hgo <;> (try simp only [dq] at hgo) <;> simp only [hgo, hlt, hp, e95, S.len, ha, hla, wrap_succ (show n < 2 ^ 62 by omega), wz, opX, intBin, ↓reduceIte, simprocAttr])))
      (by intro n x hx hlt hp; obtain ⟨a, ha, hla⟩ := S.at_ n x hx; simp only [decide_eq_true_eq, decide_eq_false_iff_not] at hp; all_goals (apply wq_ex.1; (simp only [hlt, hp, e95, S.len, ha, hla, wrap_succ (show n < 2 ^ 62 by omega), wz, opX, intBin, ↓reduceIte, simprocAttr] <;> repeat' (first | refine wpG_s ?_ ?_ | refine wpC_s ?_ ?_) <;> intro hgo <;> (try simp only [dq] at hgo) <;> simp only [hgo, hlt, hp, e95, S.len, ha, hla, wrap_succ (show n < 2 ^ 62 by omega), wz, opX, intBin, ↓reduceIte, simprocAttr]) <;> rfl))
      (by apply wq_ex.1; (simp only [e95, S.len, wz, opX, intBin, ↓reduceIte, simprocAttr] <;> repeat' (first | refine wpG_s ?_ ?_ | refine wpC_s ?_ ?_) <;> intro hgo <;> (try simp only [dq] at hgo) <;> simp only [hgo, e95, S.len, wz, opX, intBin, ↓reduceIte, simprocAttr]) <;> rfl)
      (by simp) (by simp)
  simp only [int, Zv.bool, Int.cast_ofNat_Int] at hloop
  (simp only [e95, wq_of hloop, wz, opX, intBin, ↓reduceIte, simprocAttr] <;> repeat' (first | refine wpG_s ?_ ?_ | refine wpC_s ?_ ?_) <;> intro hgo <;> (try simp only [dq] at hgo) <;> simp only [hgo, e95, wq_of hloop, wz, opX, intBin, ↓reduceIte, simprocAttr])
  cases l.any fun x => decide (x = s) <;> (simp only [e95, wz, opX, intBin, ↓reduceIte, simprocAttr] <;> repeat' (first | refine wpG_s ?_ ?_ | refine wpC_s ?_ ?_) <;> intro hgo <;> (try simp only [dq] at hgo) <;> simp only [hgo, e95, wz, opX, intBin, ↓reduceIte, simprocAttr])

section
variable (h : Hp)
def tV (T : List ByteArray) : V := .own h.next 1 T.length 0 T.length
def cV (C : List ByteArray) : V := if C = [] then .tl [] (some true) else .own (h.next + 1) 1 C.length 0 C.length
def cT (C : List ByteArray) : List (Nat × Ob) := if C = [] then [] else [(h.next + 1, .arr 1 ((C.map eS).map .d))]
def cQ (C : List ByteArray) : Nat := if C = [] then h.next + 1 else h.next + 2
def HS (T C : List ByteArray) : Hp := ⟨cT h C ++ (h.next, .arr 1 ((T.map eS).map .d)) :: h.objs, cQ h C⟩
theorem HS_T (T C) : (HS h T C).row h.next T.length = some (1, (T.map eS).map .d) := by
  refine row_look ?_ (by simp)
  unfold HS cT
  split
  · exact look_hd ..
  · show look ((h.next + 1, _) :: (h.next, _) :: h.objs) h.next = _
    rw [look_tl _ _ (by omega), look_hd]
theorem HS_C (T C) (hc : C ≠ []) : (HS h T C).row (h.next + 1) C.length = some (1, (C.map eS).map .d) := by
  refine row_look ?_ (by simp)
  unfold HS cT
  rw [if_neg hc]
  exact look_hd ..
theorem HS_sT (T C) : SlS (HS h T C) (tV h T) T := SlS.own (HS_T h T C)
theorem HS_sC (T C) : SlS (HS h T C) (norm (cV h C)) C := by
  unfold cV
  split
  · rename_i h0; subst h0; exact SlS.nil _
  · rename_i h0; exact SlS.own (HS_C h T C h0)
theorem tV_norm (T) : norm (tV h T) = tV h T := rfl
theorem cell_s (l : List ByteArray) : allV 1 ((l.map eS).map V.d) = true := by
  simp [allV, V.cells, D.cells]
theorem HS_aT (T C) (s : ByteArray) (hT : T ≠ []) (hl : T.length < 2 ^ 20) : app 1 16 (HS h T C) (tV h T) (.tl [.d (.str s)] (some false)) = some (tV h (T ++ [s]), HS h (T ++ [s]) C) := by
  unfold app
  have hx : allV 1 [V.d (.str s)] = true := cell_s [s]
  have hr := HS_T h T C
  simp only [elems, Option.bind_some, List.map_cons, List.map_nil, norm_d, hx, if_true, tV]
  have hlen : T.length + 1 ≤ 2 ^ 21 := by omega
  simp only [hr, Option.bind_some, List.length_map, Nat.zero_add, Nat.le_refl, and_self, if_true, List.isEmpty_cons, Bool.false_eq_true, if_false, List.length_cons, List.length_nil, List.length_append]
  rw [if_neg (by omega), if_pos (by unfold roomB; omega), List.take_of_length_le (by simp)]
  congr 2
  unfold HS cT Hp.set
  split
  · simp [upd]
  · simp [upd]
theorem HS_aC (T C) (s : ByteArray) (hl : C.length < 2 ^ 20) : app 1 16 (HS h T C) (cV h C) (.tl [.d (.str s)] (some false)) = some (cV h (C ++ [s]), HS h T (C ++ [s])) := by
  have hx : allV 1 [V.d (.str s)] = true := cell_s [s]
  have hne : C ++ [s] ≠ [] := by simp
  by_cases h0 : C = []
  · subst h0
    unfold app
    simp only [elems, Option.bind_some, List.map_cons, List.map_nil, norm_d, hx, if_true]
    simp [cV, HS, cT, cQ, Hp.alloc, allV, roomB]
  · have e1 : cV h C = .own (h.next + 1) 1 C.length 0 C.length := by unfold cV; rw [if_neg h0]
    have e2 : cV h (C ++ [s]) = .own (h.next + 1) 1 (C.length + 1) 0 (C.length + 1) := by unfold cV; rw [if_neg hne]; simp
    have hr := HS_C h T C h0
    rw [e1, e2]
    unfold app
    simp only [elems, Option.bind_some, List.map_cons, List.map_nil, norm_d, hx, if_true]
    simp only [hr, Option.bind_some, List.length_map, Nat.zero_add, Nat.le_refl, and_self, if_true, List.isEmpty_cons, Bool.false_eq_true, if_false, List.length_cons, List.length_nil]
    rw [if_neg (by omega), if_pos (by unfold roomB; omega), List.take_of_length_le (by simp)]
    congr 2
    unfold HS cT cQ Hp.set
    rw [if_neg h0, if_neg hne, if_neg h0, if_neg hne]
    simp [upd]
theorem HS_fin (T C) (x : D) : finS h (HS h T C) [.d x] = some (.d x, h) := by
  refine finS_suf (vs := [x]) ?_
  unfold HS cT
  split
  · exact suf_one _ _
  · exact suf_two _ _ _
end

theorem rtwice_ok {d : List Dt} (B : Bd d) (h : Hp) : callW tab 73 [.d (eDs d)] h = some (.d (.bool (twiceS d)), h) := by
  refine call_wp (fn := f73) rfl rfl ?_
  have hbl := B.len
  have ha0 : app 1 16 h (.tl [] (some true)) (.tl [.d (.str sInt)] (some false)) = some (tV h (tyN d 0), HS h (tyN d 0) (coN d 0)) := by
    unfold app
    have hx : allV 1 [V.d (.str sInt)] = true := cell_s [sInt]
    simp only [elems, Option.bind_some, List.map_cons, List.map_nil, norm_d, hx, if_true]
    simp [tyN, coN, tV, HS, cT, cQ, Hp.alloc, allV, roomB]
  have hc0 : (.tl [] (some true) : V) = cV h (coN d 0) := rfl
  have tl : ∀ n, (tyN d n).length ≤ 101 := by intro n; unfold tyN; simp; omega
  have tn : ∀ n, tyN d n ≠ [] := by intro n; simp [tyN]
  have cl : ∀ n y k, d[n]? = some y → (coK d n y k).length ≤ 3030 := by
    intro n y k hy
    have b := B.at hy
    have h1 : (coN d n).length ≤ n * 30 := by
      clear hy b
      induction n with
      | zero => simp [coN]
      | succ n ih =>
        by_cases hlt : n < d.length
        · obtain ⟨z, hz⟩ := get_of_lt hlt
          have b := B.at hz
          rw [coN_succ hz, List.length_append, List.length_map]
          omega
        · have : coN d (n + 1) = coN d n := by unfold coN; rw [List.take_of_length_le (by omega), List.take_of_length_le (by omega)]
          rw [this]; omega
    unfold coK
    rw [List.length_append, List.length_map, List.length_take]
    omega
  have inner : ∀ (m : Nat) (y : Dt), d[m]? = some y → (coN d m).Nodup → wp tab (.loop f73l0) [(0, .d (eDs d)), (3, tV h (tyN d (m + 1))), (4, cV h (coN d m)), (5, .d (.int .i64 m)), (6, .d (.int .i64 0))] (HS h (tyN d (m + 1)) (coN d m))
      (fun o => ∃ T C, (o = (.ret, [(2, .d (.bool true))], HS h T C) ∧ twiceS d = true) ∨ (o = (.exit 2, [(0, .d (eDs d)), (3, tV h (tyN d (m + 1))), (4, cV h (coN d (m + 1))), (5, .d (.int .i64 m)), (6, .d (.int .i64 y.cons.length)), (38, .d (.bool false))], HS h (tyN d (m + 1)) (coN d (m + 1))) ∧ (coN d (m + 1)).Nodup)) := by
    intro m y hy hnd
    have b := B.at hy
    refine loop_wp y.cons.length (fun k e h' => h' = HS h (tyN d (m + 1)) (coK d m y k) ∧ e = [(0, .d (eDs d)), (3, tV h (tyN d (m + 1))), (4, cV h (coK d m y k)), (5, .d (.int .i64 m)), (6, .d (.int .i64 k))] ∧ (coK d m y k).Nodup) _ ?_ ?_ y.cons.length 0 _ _ (by omega) ⟨by rw [coK_zero], by rw [coK_zero]; rfl, by rw [coK_zero]; exact hnd⟩
    · rintro k e h' hk ⟨rfl, rfl, hn⟩
      obtain ⟨c, hc⟩ := get_of_lt hk
      have hw := wrap_succ (show k < 2 ^ 62 by omega)
      have bl := cl m y k hy
      have hin := in_ok (HS_sC h (tyN d (m + 1)) (coK d m y k)) (by omega) c.name
      by_cases hm : c.name ∈ coK d m y k
      · have ht := twice_t2 hy hc hm
        (simp only [e73, hk, iaD hy, iaC hc, hin, hm, ht, wz, opX, intBin, ↓reduceIte, simprocAttr] <;> repeat' (first | refine wpG_s ?_ ?_ | refine wpC_s ?_ ?_) <;> intro hgo <;> (try simp only [dq] at hgo) <;> simp only [hgo, e73, hk, iaD hy, iaC hc, hin, hm, ht, wz, opX, intBin, ↓reduceIte, simprocAttr])
        exact ⟨_, _, rfl⟩
      · have hp := HS_aC h (tyN d (m + 1)) (coK d m y k) c.name (by omega)
        rw [← coK_succ hc] at hp
        (simp only [e73, hk, iaD hy, iaC hc, hin, hm, hp, hw, wz, opX, intBin, ↓reduceIte, simprocAttr] <;> repeat' (first | refine wpG_s ?_ ?_ | refine wpC_s ?_ ?_) <;> intro hgo <;> (try simp only [dq] at hgo) <;> simp only [hgo, e73, hk, iaD hy, iaC hc, hin, hm, hp, hw, wz, opX, intBin, ↓reduceIte, simprocAttr])
        rw [coK_succ hc]; exact nd_add hn hm
    · rintro e h' ⟨rfl, rfl, hn⟩
      rw [coK_all hy] at hn
      (simp only [e73, iaD hy, coK_all hy, wz, opX, intBin, ↓reduceIte, simprocAttr] <;> repeat' (first | refine wpG_s ?_ ?_ | refine wpC_s ?_ ?_) <;> intro hgo <;> (try simp only [dq] at hgo) <;> simp only [hgo, e73, iaD hy, coK_all hy, wz, opX, intBin, ↓reduceIte, simprocAttr])
      exact ⟨[], [], hn⟩
  (simp only [e73, ha0, wz, opX, intBin, ↓reduceIte, simprocAttr] <;> repeat' (first | refine wpG_s ?_ ?_ | refine wpC_s ?_ ?_) <;> intro hgo <;> (try simp only [dq] at hgo) <;> simp only [hgo, e73, ha0, wz, opX, intBin, ↓reduceIte, simprocAttr])
  refine loop_wp d.length (fun k e h' => h' = HS h (tyN d k) (coN d k) ∧ e = [(0, .d (eDs d)), (3, tV h (tyN d k)), (4, cV h (coN d k)), (5, .d (.int .i64 k))] ∧ (tyN d k).Nodup ∧ (coN d k).Nodup) _ ?_ ?_ d.length 0 _ _ (by omega) ⟨rfl, rfl, by simp [tyN], by simp [coN]⟩
  · rintro k e h' hk ⟨rfl, rfl, hn1, hn2⟩
    obtain ⟨y, hy⟩ := get_of_lt hk
    have hw := wrap_succ (show k < 2 ^ 62 by omega)
    have bl := tl k
    have hin := in_ok (HS_sT h (tyN d k) (coN d k)) (by omega) y.name
    by_cases hm : y.name ∈ tyN d k
    · have ht := twice_t1 hy hm
      (simp only [e73, hk, iaD hy, tV_norm, hin, hm, ht, HS_fin, wz, opX, intBin, ↓reduceIte, simprocAttr] <;> repeat' (first | refine wpG_s ?_ ?_ | refine wpC_s ?_ ?_) <;> intro hgo <;> (try simp only [dq] at hgo) <;> simp only [hgo, e73, hk, iaD hy, tV_norm, hin, hm, ht, HS_fin, wz, opX, intBin, ↓reduceIte, simprocAttr])
    · have hp := HS_aT h (tyN d k) (coN d k) y.name (tn k) (by omega)
      rw [← tyN_succ hy] at hp
      (simp only [e73, hk, iaD hy, tV_norm, hin, hm, hp, wz, opX, intBin, ↓reduceIte, simprocAttr] <;> repeat' (first | refine wpG_s ?_ ?_ | refine wpC_s ?_ ?_) <;> intro hgo <;> (try simp only [dq] at hgo) <;> simp only [hgo, e73, hk, iaD hy, tV_norm, hin, hm, hp, wz, opX, intBin, ↓reduceIte, simprocAttr])
      refine wq_mono (inner k y hy hn2) ?_
      rintro o ⟨T, C, ⟨rfl, ht⟩ | ⟨rfl, hn3⟩⟩
      · (simp only [e73, ht, HS_fin, wz, opX, intBin, ↓reduceIte, simprocAttr] <;> repeat' (first | refine wpG_s ?_ ?_ | refine wpC_s ?_ ?_) <;> intro hgo <;> (try simp only [dq] at hgo) <;> simp only [hgo, e73, ht, HS_fin, wz, opX, intBin, ↓reduceIte, simprocAttr])
      · (simp only [e73, hw, wz, opX, intBin, ↓reduceIte, simprocAttr] <;> repeat' (first | refine wpG_s ?_ ?_ | refine wpC_s ?_ ?_) <;> intro hgo <;> (try simp only [dq] at hgo) <;> simp only [hgo, e73, hw, wz, opX, intBin, ↓reduceIte, simprocAttr])
        exact ⟨by rw [tyN_succ hy]; exact nd_add hn1 hm, hn3⟩
  · rintro e h' ⟨rfl, rfl, hn1, hn2⟩
    (simp only [e73, HS_fin, twice_f hn1 hn2, wz, opX, intBin, ↓reduceIte, simprocAttr] <;> repeat' (first | refine wpG_s ?_ ?_ | refine wpC_s ?_ ?_) <;> intro hgo <;> (try simp only [dq] at hgo) <;> simp only [hgo, e73, HS_fin, twice_f hn1 hn2, wz, opX, intBin, ↓reduceIte, simprocAttr])
end Zc27
end
section
set_option linter.unusedSimpArgs false
set_option linter.unusedVariables false
set_option linter.unusedSimpArgs false
set_option maxHeartbeats 4000000
namespace Zc27
open Go Zv Zs

def mk (M : List Bool) (f : Int) : Bool := M.getD f.toNat false
def allD (M : List Bool) (c : Cn) : Bool := c.flds.all (mk M)
def stp (d : List Dt) (M : List Bool) (i : Nat) : List Bool := match d[i]? with
  | some y => if y.cons.any (allD M) = true then M.set (i + 1) true else M
  | none => M
def passN (d : List Dt) (M : List Bool) : Nat → List Bool
  | 0 => M
  | n + 1 => stp d (passN d M n) n
def pass (d : List Dt) (M : List Bool) : List Bool := passN d M d.length
def iter (d : List Dt) (M : List Bool) : Nat → List Bool
  | 0 => M
  | n + 1 => pass d (iter d M n)
def cnt (M : List Bool) : Nat := M.countP id
def marks (d : List Dt) : List Bool := true :: List.replicate d.length false
def finiteS (d : List Dt) : Bool := (iter d (marks d) (d.length + 1)).all id

theorem set_cnt : ∀ (M : List Bool) (k : Nat), M.set k true = M ∨ cnt M < cnt (M.set k true)
  | [], _ => .inl rfl
  | b :: M, 0 => by
    cases b with
    | true => exact .inl rfl
    | false => right; simp [cnt]
  | b :: M, k + 1 => by
    rcases set_cnt M k with h | h
    · left; rw [List.set_cons_succ, h]
    · right
      unfold cnt at h ⊢
      rw [List.set_cons_succ, List.countP_cons, List.countP_cons]
      omega
theorem set_true {M : List Bool} {k : Nat} (h : M[k]? = some true) : M.set k true = M := by
  obtain ⟨hlt, h⟩ := List.getElem?_eq_some_iff.1 h
  rw [← h]; exact List.set_getElem_self hlt
theorem set_false {M : List Bool} {k : Nat} (h : M[k]? = some false) : M.set k false = M := by
  obtain ⟨hlt, h⟩ := List.getElem?_eq_some_iff.1 h
  rw [← h]; exact List.set_getElem_self hlt
theorem set_grow {M : List Bool} {k : Nat} (h : M[k]? = some false) : cnt M < cnt (M.set k true) := by
  rcases set_cnt M k with h1 | h1
  · have hlt := lt_of_get h
    have : (M.set k true)[k]? = some true := by simp [hlt]
    rw [h1, h] at this; cases this
  · exact h1
theorem stp_at {d : List Dt} {M : List Bool} {i : Nat} {y : Dt} (hy : d[i]? = some y) : stp d M i = if y.cons.any (allD M) = true then M.set (i + 1) true else M := by
  unfold stp; rw [hy]
theorem stp_len (d : List Dt) (M : List Bool) (i : Nat) : (stp d M i).length = M.length := by
  unfold stp
  split
  · split
    · exact List.length_set
    · rfl
  · rfl
theorem stp_cnt (d : List Dt) (M : List Bool) (i : Nat) : stp d M i = M ∨ cnt M < cnt (stp d M i) := by
  unfold stp
  split
  · split
    · exact set_cnt M (i + 1)
    · exact .inl rfl
  · exact .inl rfl
theorem passN_len (d : List Dt) (M : List Bool) : ∀ n, (passN d M n).length = M.length
  | 0 => rfl
  | n + 1 => by rw [passN, stp_len, passN_len d M n]
theorem passN_cnt (d : List Dt) (M : List Bool) : ∀ n, passN d M n = M ∨ cnt M < cnt (passN d M n)
  | 0 => .inl rfl
  | n + 1 => by
    rw [passN]
    rcases passN_cnt d M n with h | h <;> rcases stp_cnt d (passN d M n) n with k | k
    · left; rw [k, h]
    · right; rw [h] at k ⊢; exact k
    · right; rw [k]; exact h
    · right; omega
theorem iter_len (d : List Dt) (M : List Bool) : ∀ n, (iter d M n).length = M.length
  | 0 => rfl
  | n + 1 => by rw [iter, pass, passN_len, iter_len d M n]
theorem cnt_le (M : List Bool) : cnt M ≤ M.length := List.countP_le_length
theorem iter_cnt (d : List Dt) : ∀ n, pass d (iter d (marks d) n) = iter d (marks d) n ∨ n + 1 < cnt (iter d (marks d) (n + 1))
  | 0 => by
    rcases passN_cnt d (marks d) d.length with h | h
    · exact .inl h
    · right
      have : 1 ≤ cnt (marks d) := by unfold cnt marks; rw [List.countP_cons]; simp
      show 1 < cnt (pass d (marks d))
      unfold pass; omega
  | n + 1 => by
    rcases iter_cnt d n with h | h
    · left
      show pass d (pass d (iter d (marks d) n)) = pass d (iter d (marks d) n)
      rw [h, h]
    · rcases passN_cnt d (iter d (marks d) (n + 1)) d.length with k | k
      · exact .inl k
      · right
        show n + 1 + 1 < cnt (pass d (iter d (marks d) (n + 1)))
        unfold pass; omega
theorem iter_fix (d : List Dt) : pass d (iter d (marks d) (d.length + 1)) = iter d (marks d) (d.length + 1) := by
  rcases iter_cnt d (d.length + 1) with h | h
  · exact h
  · have h1 := cnt_le (iter d (marks d) (d.length + 1 + 1))
    have h2 : (marks d).length = d.length + 1 := by simp [marks]
    rw [iter_len, h2] at h1
    omega
theorem iter_more {d : List Dt} {M : List Bool} {j : Nat} (h : pass d (iter d M j) = iter d M j) : ∀ k, iter d M (j + k) = iter d M j
  | 0 => rfl
  | k + 1 => by
    show pass d (iter d M (j + k)) = _
    rw [iter_more h k, h]
/-- However often: what does not change any more is the same. -/
theorem fix_eq {d : List Dt} {j : Nat} (h : pass d (iter d (marks d) j) = iter d (marks d) j) : iter d (marks d) j = iter d (marks d) (d.length + 1) := by
  by_cases hj : j ≤ d.length + 1
  · have := iter_more h (d.length + 1 - j)
    rw [show j + (d.length + 1 - j) = d.length + 1 by omega] at this
    exact this.symm
  · have := iter_more (iter_fix d) (j - (d.length + 1))
    rw [show d.length + 1 + (j - (d.length + 1)) = j by omega] at this
    exact this

/-- All fields are types. -/
def typedS (d : List Dt) : Bool := d.all fun y => y.cons.all fun c => c.flds.all (isT d)
theorem typed_at {d : List Dt} (h : typedS d = true) {y : Dt} {c : Cn} {f : Int} (hy : y ∈ d) (hc : c ∈ y.cons) (hf : f ∈ c.flds) : ∃ n : Nat, f = n ∧ n < d.length + 1 := by
  have := List.all_eq_true.1 (List.all_eq_true.1 (List.all_eq_true.1 h y hy) c hc) f hf
  simp only [isT, Bool.and_eq_true, decide_eq_true_eq] at this
  exact ⟨f.toNat, by omega, by omega⟩

abbrev bV (b : Bool) : V := .d (.bool b)
theorem ia_own {es n tot len j : Nat} (k : IntKind) (h : j < len) : ia es (.own n es tot 0 len) (.d (.int k (j : Int))) = some (.ptr n tot j 0) := by
  simp [ia, ixOf_nat, h]
theorem ld_bit {H : Hp} {a : Nat} {M : List Bool} {j L : Nat} {b : Bool} (hr : H.row a L = some (1, M.map bV)) (hb : M[j]? = some b) : ld false 1 H (.ptr a L j 0) = some (bV b) := by
  rw [ld_one, hr]
  simp [hb, V.cells, D.cells]
theorem mk_at {M : List Bool} {n : Nat} {b : Bool} (h : M[n]? = some b) : mk M (n : Int) = b := by
  unfold mk
  rw [Int.toNat_natCast, List.getD_eq_getElem?_getD, h]; rfl
theorem fold_and {α : Type} (p : α → Bool) : ∀ (l : List α) (b : Bool), l.foldl (fun b x => if b = true then p x else false) b = (b && l.all p)
  | [], b => by simp
  | x :: l, b => by
    rw [List.foldl_cons, fold_and p l, List.all_cons]
    cases b <;> simp

section
variable (h : Hp)
def HQ (M : List Bool) : Hp := ⟨(h.next, .arr 1 (M.map bV)) :: h.objs, h.next + 1⟩
theorem HQ_row (M : List Bool) {L : Nat} (hL : M.length = L) : (HQ h M).row h.next L = some (1, M.map bV) := row_look (look_hd ..) (by simp [hL])
theorem HQ_st (M : List Bool) {L j : Nat} (hL : M.length = L) (b : Bool) (hj : j < L) : st 1 (HQ h M) (.ptr h.next L j 0) (.d (.bool b)) = some (HQ h (M.set j b)) := by
  unfold st
  have : (M.map bV)[j]? = some (bV (M[j]'(by omega))) := by simp [show j < M.length by omega]
  simp only [HQ_row h M hL, Option.bind_some, this]
  rw [if_pos (by simp [stor, V.cells, D.cells]), if_pos (by simp)]
  unfold HQ Hp.set
  simp [upd, List.map_set]
theorem HQ_fin (M : List Bool) (x : D) : finS h (HQ h M) [.d x] = some (.d x, h) := finS1c ..
end

theorem ref_fold (M : List Bool) (i : Nat) (hi : i < M.length) (cs : List Cn) :
    cs.foldl (fun M c => M.set i (if mk M (i : Int) = true then true else allD M c)) M = if cs.any (allD M) = true then M.set i true else M := by
  have hget := List.getElem?_eq_getElem hi
  by_cases hb : M[i] = true
  · rw [hb] at hget
    have : ∀ cs : List Cn, cs.foldl (fun M c => M.set i (if mk M (i : Int) = true then true else allD M c)) M = M := by
      intro cs
      induction cs with
      | nil => rfl
      | cons c cs ih => rw [List.foldl_cons, mk_at hget, if_pos rfl, set_true hget]; exact ih
    rw [this, set_true hget]; simp
  · have hb : M[i] = false := by simpa using hb
    rw [hb] at hget
    have h2 : ∀ cs : List Cn, cs.foldl (fun M c => M.set i (if mk M (i : Int) = true then true else allD M c)) (M.set i true) = M.set i true := by
      intro cs
      have hg2 : (M.set i true)[i]? = some true := by simp [hi]
      induction cs with
      | nil => rfl
      | cons c cs ih => rw [List.foldl_cons, mk_at hg2, if_pos rfl, set_true hg2]; exact ih
    induction cs with
    | nil => simp
    | cons c cs ih =>
      rw [List.foldl_cons, mk_at hget, List.any_cons]
      cases hc : allD M c with
      | true => simp only [Bool.false_eq_true, if_false, Bool.true_or, if_true]; exact h2 cs
      | false => simp only [Bool.false_eq_true, if_false, Bool.false_or, set_false hget]; exact ih

theorem rfinite_ok {d : List Dt} (B : Bd d) (Ty : typedS d = true) (h : Hp) : callW tab 75 [.d (eDs d)] h = some (.d (.bool (finiteS d)), h) := by
  refine call_wp (fn := f75) rfl rfl ?_
  have hbl := B.len
  have hw0 := wrap_succ (show d.length < 2 ^ 62 by omega)
  have hmk : mkslO (.d (.bool false)) 1 1 h (.d (.int .i64 ((d.length + 1 : Nat) : Int))) = some (.own h.next 1 (d.length + 1) 0 (d.length + 1), HQ h (List.replicate (d.length + 1) false)) := by
    simp only [mkslO, ixOf_nat, Option.bind_some]
    rw [if_pos (by unfold roomB; omega)]
    simp [HQ, Hp.alloc]
  have hi0 : ia 1 (.own h.next 1 (d.length + 1) 0 (d.length + 1)) (.d (.int .i64 0)) = some (.ptr h.next (d.length + 1) 0 0) := ia_own (j := 0) .i64 (by omega)
  have hs0 : st 1 (HQ h (List.replicate (d.length + 1) false)) (.ptr h.next (d.length + 1) 0 0) (.d (.bool true)) = some (HQ h (marks d)) := by
    rw [HQ_st h _ (by simp) true (by omega)]; rfl
  let ow : V := .own h.next 1 (d.length + 1) 0 (d.length + 1)
  -- all fields of a constructor
  have l0 : ∀ (M : List Bool) (r i k : Nat) (y : Dt) (c : Cn), M.length = d.length + 1 → d[i]? = some y → y.cons[k]? = some c →
      ex tab (.loop f75l0) [(0, .d (eDs d)), (3, .own h.next 1 (d.length + 1) 0 (d.length + 1)), (4, .d (.int .i64 r)), (5, .d (.int .i64 i)), (6, .d (.int .i64 k)), (7, .d (.bool true)), (8, .d (eIs c.flds)), (9, .d (.int .i64 0))] (HQ h M) =
        some (.exit 6, [(0, .d (eDs d)), (3, .own h.next 1 (d.length + 1) 0 (d.length + 1)), (4, .d (.int .i64 r)), (5, .d (.int .i64 i)), (6, .d (.int .i64 k)), (7, .d (.bool (allD M c))), (8, .d (eIs c.flds)), (9, .d (.int .i64 c.flds.length)), (51, .d (.bool false))], HQ h M) := by
    intro M r i k y c hM hy hc
    have bc := B.cat hy hc
    have := loop_fold (T := tab) (a := f75l0) (l := c.flds) (fun j s => [(0, .d (eDs d)), (3, .own h.next 1 (d.length + 1) 0 (d.length + 1)), (4, .d (.int .i64 r)), (5, .d (.int .i64 i)), (6, .d (.int .i64 k)), (7, .d (.bool s)), (8, .d (eIs c.flds)), (9, int j)]) (fun _ _ => HQ h M) (fun _ _ => True)
      (fun s f => if s = true then mk M f else false) (fun s => (.exit 6, [(0, .d (eDs d)), (3, .own h.next 1 (d.length + 1) 0 (d.length + 1)), (4, .d (.int .i64 r)), (5, .d (.int .i64 i)), (6, .d (.int .i64 k)), (7, .d (.bool s)), (8, .d (eIs c.flds)), (9, .d (.int .i64 c.flds.length)), (51, .d (.bool false))], HQ h M))
      (by
        intro j s x hx hlt _
        refine ⟨?_, trivial⟩
        obtain ⟨n, rfl, hn⟩ := typed_at Ty (List.mem_of_getElem? hy) (List.mem_of_getElem? hc) (List.mem_of_getElem? hx)
        obtain ⟨b, hb⟩ := get_of_lt (l := M) (n := n) (by omega)
        apply wq_ex.1
        have hl := ld_bit (HQ_row h M hM) hb
        have hio := ia_own (es := 1) (n := h.next) (tot := d.length + 1) .i64 hn
        cases s <;> (simp only [e75, hlt, iaI hx, hio, hl, mk_at hb, wrap_succ (show j < 2 ^ 62 by omega), wz, opX, intBin, ↓reduceIte, simprocAttr] <;> repeat' (first | refine wpG_s ?_ ?_ | refine wpC_s ?_ ?_) <;> intro hgo <;> (try simp only [dq] at hgo) <;> simp only [hgo, e75, hlt, iaI hx, hio, hl, mk_at hb, wrap_succ (show j < 2 ^ 62 by omega), wz, opX, intBin, ↓reduceIte, simprocAttr]))
      (by
        intro s _
        apply wq_ex.1
        (simp only [e75, wz, opX, intBin, ↓reduceIte, simprocAttr] <;> repeat' (first | refine wpG_s ?_ ?_ | refine wpC_s ?_ ?_) <;> intro hgo <;> (try simp only [dq] at hgo) <;> simp only [hgo, e75, wz, opX, intBin, ↓reduceIte, simprocAttr]))
      (by intro s; simp) true trivial
    rw [fold_and, Bool.true_and] at this
    simp only [int, Int.cast_ofNat_Int] at this
    exact this
  -- all constructors of a type
  have l1 : ∀ (M : List Bool) (r i : Nat) (y : Dt), M.length = d.length + 1 → d[i]? = some y →
      ex tab (.loop f75l1) [(0, .d (eDs d)), (3, .own h.next 1 (d.length + 1) 0 (d.length + 1)), (4, .d (.int .i64 r)), (5, .d (.int .i64 i)), (6, .d (.int .i64 0))] (HQ h M) =
        some (.exit 4, [(0, .d (eDs d)), (3, .own h.next 1 (d.length + 1) 0 (d.length + 1)), (4, .d (.int .i64 r)), (5, .d (.int .i64 i)), (6, .d (.int .i64 y.cons.length)), (36, .d (.bool false))], HQ h (stp d M i)) := by
    intro M r i y hM hy
    have b := B.at hy
    have hw1 := wrap_succ (show i < 2 ^ 62 by omega)
    have hi1 := ia_own (es := 1) (n := h.next) (tot := d.length + 1) (j := i + 1) (len := d.length + 1) .i64 (by omega)
    have := loop_fold (T := tab) (a := f75l1) (l := y.cons) (fun j _ => [(0, .d (eDs d)), (3, .own h.next 1 (d.length + 1) 0 (d.length + 1)), (4, .d (.int .i64 r)), (5, .d (.int .i64 i)), (6, int j)]) (fun _ s => HQ h s) (fun _ s => s.length = d.length + 1)
      (fun M c => M.set (i + 1) (if mk M ((i + 1 : Nat) : Int) = true then true else allD M c)) (fun s => (.exit 4, [(0, .d (eDs d)), (3, .own h.next 1 (d.length + 1) 0 (d.length + 1)), (4, .d (.int .i64 r)), (5, .d (.int .i64 i)), (6, .d (.int .i64 y.cons.length)), (36, .d (.bool false))], HQ h s))
      (by
        intro j s x hx hlt hs
        refine ⟨?_, by rw [List.length_set]; exact hs⟩
        obtain ⟨b, hb⟩ := get_of_lt (l := s) (n := i + 1) (by omega)
        have hl := ld_bit (HQ_row h s hs) hb
        have hin := l0 s r i j y x hs hy hx
        have hst := fun b => HQ_st h s (j := i + 1) hs b (by omega)
        apply wq_ex.1
        (simp only [e75, hlt, iaD hy, iaC hx, wq_of hin, hw1, hi1, hl, hst, mk_at hb, wrap_succ (show j < 2 ^ 62 by omega), wz, opX, intBin, ↓reduceIte, simprocAttr] <;> repeat' (first | refine wpG_s ?_ ?_ | refine wpC_s ?_ ?_) <;> intro hgo <;> (try simp only [dq] at hgo) <;> simp only [hgo, e75, hlt, iaD hy, iaC hx, wq_of hin, hw1, hi1, hl, hst, mk_at hb, wrap_succ (show j < 2 ^ 62 by omega), wz, opX, intBin, ↓reduceIte, simprocAttr]))
      (by
        intro s _
        apply wq_ex.1
        (simp only [e75, iaD hy, wz, opX, intBin, ↓reduceIte, simprocAttr] <;> repeat' (first | refine wpG_s ?_ ?_ | refine wpC_s ?_ ?_) <;> intro hgo <;> (try simp only [dq] at hgo) <;> simp only [hgo, e75, iaD hy, wz, opX, intBin, ↓reduceIte, simprocAttr]))
      (by intro s; simp) M hM
    rw [ref_fold M (i + 1) (by omega), ← stp_at hy] at this
    simp only [int, Int.cast_ofNat_Int] at this
    exact this
  -- a pass
  have l2 : ∀ (M : List Bool) (r : Nat), M.length = d.length + 1 →
      wp tab (.loop f75l2) [(0, .d (eDs d)), (3, .own h.next 1 (d.length + 1) 0 (d.length + 1)), (4, .d (.int .i64 r)), (5, .d (.int .i64 0))] (HQ h M)
        (fun o => o = (.exit 2, [(0, .d (eDs d)), (3, .own h.next 1 (d.length + 1) 0 (d.length + 1)), (4, .d (.int .i64 r)), (5, .d (.int .i64 d.length)), (26, .d (.bool false))], HQ h (pass d M))) := by
    intro M r hM
    refine loop_wp d.length (fun i e h' => h' = HQ h (passN d M i) ∧ e = [(0, .d (eDs d)), (3, .own h.next 1 (d.length + 1) 0 (d.length + 1)), (4, .d (.int .i64 r)), (5, .d (.int .i64 i))]) _ ?_ ?_ d.length 0 _ _ (by omega) ⟨rfl, rfl⟩
    · rintro i e h' hi ⟨rfl, rfl⟩
      obtain ⟨y, hy⟩ := get_of_lt hi
      have hin := l1 (passN d M i) r i y (by rw [passN_len]; exact hM) hy
      (simp only [e75, hi, wq_of hin, wrap_succ (show i < 2 ^ 62 by omega), wz, opX, intBin, ↓reduceIte, simprocAttr] <;> repeat' (first | refine wpG_s ?_ ?_ | refine wpC_s ?_ ?_) <;> intro hgo <;> (try simp only [dq] at hgo) <;> simp only [hgo, e75, hi, wq_of hin, wrap_succ (show i < 2 ^ 62 by omega), wz, opX, intBin, ↓reduceIte, simprocAttr])
      rfl
    · rintro e h' ⟨rfl, rfl⟩
      (simp only [e75, wz, opX, intBin, ↓reduceIte, simprocAttr] <;> repeat' (first | refine wpG_s ?_ ?_ | refine wpC_s ?_ ?_) <;> intro hgo <;> (try simp only [dq] at hgo) <;> simp only [hgo, e75, wz, opX, intBin, ↓reduceIte, simprocAttr])
      rfl
  (simp only [e75, hw0, hmk, hi0, hs0, wz, opX, intBin, ↓reduceIte, simprocAttr] <;> repeat' (first | refine wpG_s ?_ ?_ | refine wpC_s ?_ ?_) <;> intro hgo <;> (try simp only [dq] at hgo) <;> simp only [hgo, e75, hw0, hmk, hi0, hs0, wz, opX, intBin, ↓reduceIte, simprocAttr])
  refine loop_wp (d.length + 1) (fun r e h' => h' = HQ h (iter d (marks d) r) ∧ e = [(0, .d (eDs d)), (3, .own h.next 1 (d.length + 1) 0 (d.length + 1)), (4, .d (.int .i64 r))]) _ ?_ ?_ (d.length + 1) 0 _ _ (by omega) ⟨rfl, rfl⟩
  · rintro r e h' hr ⟨rfl, rfl⟩
    have hr' : r ≤ d.length := by omega
    (simp only [e75, hr', wz, opX, intBin, ↓reduceIte, simprocAttr] <;> repeat' (first | refine wpG_s ?_ ?_ | refine wpC_s ?_ ?_) <;> intro hgo <;> (try simp only [dq] at hgo) <;> simp only [hgo, e75, hr', wz, opX, intBin, ↓reduceIte, simprocAttr])
    refine wq_mono (l2 _ r (by rw [iter_len]; simp [marks])) ?_
    rintro o rfl
    (simp only [e75, wrap_succ (show r < 2 ^ 62 by omega), wz, opX, intBin, ↓reduceIte, simprocAttr] <;> repeat' (first | refine wpG_s ?_ ?_ | refine wpC_s ?_ ?_) <;> intro hgo <;> (try simp only [dq] at hgo) <;> simp only [hgo, e75, wrap_succ (show r < 2 ^ 62 by omega), wz, opX, intBin, ↓reduceIte, simprocAttr])
    rfl
  · rintro e h' ⟨rfl, rfl⟩
    have hr' : ¬ d.length + 1 ≤ d.length := by omega
    have hlen : (iter d (marks d) (d.length + 1)).length = d.length + 1 := by rw [iter_len]; simp [marks]
    (simp only [e75, hr', wz, opX, intBin, ↓reduceIte, simprocAttr] <;> repeat' (first | refine wpG_s ?_ ?_ | refine wpC_s ?_ ?_) <;> intro hgo <;> (try simp only [dq] at hgo) <;> simp only [hgo, e75, hr', wz, opX, intBin, ↓reduceIte, simprocAttr])
    have hloop := loop_any (T := tab) (a := f75l4) (l := iter d (marks d) (d.length + 1)) (p := (fun b => !b)) (f := fun n => [(3, .own h.next 1 (d.length + 1) 0 (d.length + 1)), (10, int n)]) (h := HQ h (iter d (marks d) (d.length + 1)))
        (by intro n x hx hlt hp; have hl := ld_bit (HQ_row h _ hlen) hx; have hlt' : n < d.length + 1 := (by omega); have hio := ia_own (es := 1) (n := h.next) (tot := d.length + 1) .i64 hlt'; simp only [Bool.not_eq_true', Bool.not_eq_false'] at hp; all_goals (apply wq_ex.1; (simp only [hlt, hp, e75, hlt', hio, hl, wrap_succ (show n < 2 ^ 62 by omega), wz, opX, intBin, ↓reduceIte, simprocAttr] <;> repeat' (first | refine wpG_s ?_ ?_ | refine wpC_s ?_ ?_) <;> intro hgo <;> (try simp only [dq] at hgo) <;> simp only [hgo, hlt, hp, e75, hlt', hio, hl, wrap_succ (show n < 2 ^ 62 by omega), wz, opX, intBin, ↓reduceIte, simprocAttr])))
        (by intro n x hx hlt hp; have hl := ld_bit (HQ_row h _ hlen) hx; have hlt' : n < d.length + 1 := (by omega); have hio := ia_own (es := 1) (n := h.next) (tot := d.length + 1) .i64 hlt'; simp only [Bool.not_eq_true', Bool.not_eq_false'] at hp; all_goals (apply wq_ex.1; (simp only [hlt, hp, e75, hlt', hio, hl, wrap_succ (show n < 2 ^ 62 by omega), wz, opX, intBin, ↓reduceIte, simprocAttr] <;> repeat' (first | refine wpG_s ?_ ?_ | refine wpC_s ?_ ?_) <;> intro hgo <;> (try simp only [dq] at hgo) <;> simp only [hgo, hlt, hp, e75, hlt', hio, hl, wrap_succ (show n < 2 ^ 62 by omega), wz, opX, intBin, ↓reduceIte, simprocAttr]) <;> rfl))
        (by apply wq_ex.1; (simp only [e75, hlen, wz, opX, intBin, ↓reduceIte, simprocAttr] <;> repeat' (first | refine wpG_s ?_ ?_ | refine wpC_s ?_ ?_) <;> intro hgo <;> (try simp only [dq] at hgo) <;> simp only [hgo, e75, hlen, wz, opX, intBin, ↓reduceIte, simprocAttr]) <;> rfl)
        (by simp) (by simp)
    simp only [int, Zv.bool, Int.cast_ofNat_Int] at hloop
    (simp only [e75, wq_of hloop, wz, opX, intBin, ↓reduceIte, simprocAttr] <;> repeat' (first | refine wpG_s ?_ ?_ | refine wpC_s ?_ ?_) <;> intro hgo <;> (try simp only [dq] at hgo) <;> simp only [hgo, e75, wq_of hloop, wz, opX, intBin, ↓reduceIte, simprocAttr])
    have : ∀ l : List Bool, (l.any fun b => !b) = !l.all id := by
      intro l; induction l with
      | nil => rfl
      | cons b l ih => rw [List.any_cons, List.all_cons, ih]; cases b <;> simp
    rw [this]
    unfold finiteS
    cases (iter d (marks d) (d.length + 1)).all id <;> (simp only [e75, HQ_fin, wz, opX, intBin, ↓reduceIte, simprocAttr] <;> repeat' (first | refine wpG_s ?_ ?_ | refine wpC_s ?_ ?_) <;> intro hgo <;> (try simp only [dq] at hgo) <;> simp only [hgo, e75, HQ_fin, wz, opX, intBin, ↓reduceIte, simprocAttr])
end Zc27
end
section
set_option linter.unusedSimpArgs false
set_option linter.unusedVariables false
set_option linter.unusedSimpArgs false
set_option maxHeartbeats 4000000
namespace Zc27
open Go Zv Zs

/-- The marks, behind the variable that holds them. -/
structure RM (H : Hp) (b a L : Nat) (M : List Bool) : Prop where
  len : M.length = L
  box : H.row b 1 = some (1, [.own a 1 L 0 L])
  row : H.row a L = some (1, M.map bV)
theorem RM.up {H : Hp} {b a L : Nat} {M : List Bool} (R : RM H b a L M) (q : Nat) : RM ⟨H.objs, q⟩ b a L M := ⟨R.len, R.box, R.row⟩

theorem fin11_ok {H : Hp} {b a L n : Nat} {M : List Bool} (R : RM H b a L M) (hn : n < L) : callW tab 92 [.d (eI n), .ptr b 1 0 0] H = some (.d (.bool (!mk M n)), H) := by
  refine call_wp (fn := f92) rfl rfl ?_
  obtain ⟨x, hx⟩ := get_of_lt (l := M) (n := n) (by rw [R.len]; exact hn)
  (simp only [e92, R.box, ia_own (es := 1) (n := a) (tot := L) .i64 hn, ld_bit R.row hx, mk_at hx, wz, opX, intBin, ↓reduceIte, simprocAttr] <;> repeat' (first | refine wpG_s ?_ ?_ | refine wpC_s ?_ ?_) <;> intro hgo <;> (try simp only [dq] at hgo) <;> simp only [hgo, e92, R.box, ia_own (es := 1) (n := a) (tot := L) .i64 hn, ld_bit R.row hx, mk_at hx, wz, opX, intBin, ↓reduceIte, simprocAttr])
theorem fin1_ok {H : Hp} {b a L : Nat} {M : List Bool} (R : RM H b a L M) (c : Cn) (hc : c.flds.length < 2 ^ 60) (hf : ∀ f, f ∈ c.flds → ∃ n : Nat, f = n ∧ n < L) : callW tab 91 [.d (eC c), .ptr b 1 0 0] H = some (.d (.bool (allD M c)), H) := by
  refine call_wp (fn := f91) rfl rfl ?_
  have hcont := conFT c.flds (.clo 92 [.ptr b 1 0 0]) (fun f => !mk M f) ⟨H.objs, H.next + 1⟩ hc rfl
    (fun f hfm => by obtain ⟨n, rfl, hn⟩ := hf f hfm; exact fin11_ok (R.up _) hn)
  have e : (!c.flds.any fun f => !mk M f) = allD M c := by
    unfold allD
    have : ∀ l : List Int, (!l.any fun f => !mk M f) = l.all (mk M) := by
      intro l; induction l with
      | nil => rfl
      | cons b l ih => rw [List.any_cons, List.all_cons, ← ih]; cases mk M b <;> simp
    exact this _
  (simp only [e91, hcont, e, wz, opX, intBin, ↓reduceIte, simprocAttr] <;> repeat' (first | refine wpG_s ?_ ?_ | refine wpC_s ?_ ?_) <;> intro hgo <;> (try simp only [dq] at hgo) <;> simp only [hgo, e91, hcont, e, wz, opX, intBin, ↓reduceIte, simprocAttr])

theorem indB {h : Hp} {a L : Nat} {M : List Bool} (hr : h.row a L = some (1, M.map bV)) (hL : M.length = L) (hl : L < 2 ^ 60) (b : Bool) : callW tab 100 [.own a 1 L 0 L, .d (.bool b)] h = some (.d (eI (idxZ (fun x => b == x) M)), h) := by
  refine call_wp (fn := f100) rfl rfl ?_
  have hloop := loop_find (T := tab) (a := f100l0) (l := M) (p := (fun x => b == x)) (f := fun n => [(0, .own a 1 L 0 L), (1, .d (.bool b)), (7, int L), (8, int n)]) (h := h)
      (by intro n x hx hlt hp; have hlt' : n < L := (by omega); have hio := ia_own (es := 1) (n := a) (tot := L) .i64 hlt'; have hl := ld_bit hr hx; all_goals (apply wq_ex.1; (simp only [hlt, hp, e100, hlt', hio, hl, wrap_succ (show n < 2 ^ 62 by omega), wz, opX, intBin, ↓reduceIte, simprocAttr] <;> repeat' (first | refine wpG_s ?_ ?_ | refine wpC_s ?_ ?_) <;> intro hgo <;> (try simp only [dq] at hgo) <;> simp only [hgo, hlt, hp, e100, hlt', hio, hl, wrap_succ (show n < 2 ^ 62 by omega), wz, opX, intBin, ↓reduceIte, simprocAttr])))
      (by intro n x hx hlt hp; have hlt' : n < L := (by omega); have hio := ia_own (es := 1) (n := a) (tot := L) .i64 hlt'; have hl := ld_bit hr hx; all_goals (apply wq_ex.1; (simp only [hlt, hp, e100, hlt', hio, hl, wrap_succ (show n < 2 ^ 62 by omega), wz, opX, intBin, ↓reduceIte, simprocAttr] <;> repeat' (first | refine wpG_s ?_ ?_ | refine wpC_s ?_ ?_) <;> intro hgo <;> (try simp only [dq] at hgo) <;> simp only [hgo, hlt, hp, e100, hlt', hio, hl, wrap_succ (show n < 2 ^ 62 by omega), wz, opX, intBin, ↓reduceIte, simprocAttr]) <;> rfl))
      (by apply wq_ex.1; (simp only [e100, hL, wz, opX, intBin, ↓reduceIte, simprocAttr] <;> repeat' (first | refine wpG_s ?_ ?_ | refine wpC_s ?_ ?_) <;> intro hgo <;> (try simp only [dq] at hgo) <;> simp only [hgo, e100, hL, wz, opX, intBin, ↓reduceIte, simprocAttr]) <;> rfl)
      (by intro n x; simp) (by simp)
  simp only [int, Zv.bool, Int.cast_ofNat_Int] at hloop
  (simp only [e100, wq_of hloop, wz, opX, intBin, ↓reduceIte, simprocAttr] <;> repeat' (first | refine wpG_s ?_ ?_ | refine wpC_s ?_ ?_) <;> intro hgo <;> (try simp only [dq] at hgo) <;> simp only [hgo, e100, wq_of hloop, wz, opX, intBin, ↓reduceIte, simprocAttr])
  unfold idxZ
  cases fst? (fun x => b == x) 0 M with
  | none => (simp only [e100, wz, opX, intBin, ↓reduceIte, simprocAttr] <;> repeat' (first | refine wpG_s ?_ ?_ | refine wpC_s ?_ ?_) <;> intro hgo <;> (try simp only [dq] at hgo) <;> simp only [hgo, e100, wz, opX, intBin, ↓reduceIte, simprocAttr])
  | some n => (simp only [e100, wz, opX, intBin, ↓reduceIte, simprocAttr] <;> repeat' (first | refine wpG_s ?_ ?_ | refine wpC_s ?_ ?_) <;> intro hgo <;> (try simp only [dq] at hgo) <;> simp only [hgo, e100, wz, opX, intBin, ↓reduceIte, simprocAttr])
theorem containsB {h : Hp} {a L : Nat} {M : List Bool} (hr : h.row a L = some (1, M.map bV)) (hL : M.length = L) (hl : L < 2 ^ 60) (b : Bool) : callW tab 93 [.own a 1 L 0 L, .d (.bool b)] h = some (.d (.bool (M.any fun x => b == x)), h) := by
  refine call_wp (fn := f93) rfl rfl ?_
  (simp only [e93, indB hr hL hl b, idxZ_nn, Bool.decide_eq_true, wz, opX, intBin, ↓reduceIte, simprocAttr] <;> repeat' (first | refine wpG_s ?_ ?_ | refine wpC_s ?_ ?_) <;> intro hgo <;> (try simp only [dq] at hgo) <;> simp only [hgo, e93, indB hr hL hl b, idxZ_nn, Bool.decide_eq_true, wz, opX, intBin, ↓reduceIte, simprocAttr])

section
variable (h : Hp) (L : Nat)
def HP (M : List Bool) : Hp := ⟨(h.next + 1, .arr 1 [.own h.next 1 L 0 L]) :: (h.next, .arr 1 (M.map bV)) :: h.objs, h.next + 2⟩
theorem HP_R (M : List Bool) (hL : M.length = L) : RM (HP h L M) (h.next + 1) h.next L M := by
  refine ⟨hL, row_look (look_hd ..) rfl, row_look ?_ (by simp [hL])⟩
  unfold HP
  rw [look_tl _ _ (by omega), look_hd]
theorem HP_st (M : List Bool) {j : Nat} (hL : M.length = L) (b : Bool) (hj : j < L) : st 1 (HP h L M) (.ptr h.next L j 0) (.d (.bool b)) = some (HP h L (M.set j b)) := by
  unfold st
  have : (M.map bV)[j]? = some (bV (M[j]'(by omega))) := by simp [show j < M.length by omega]
  simp only [(HP_R h L M hL).row, Option.bind_some, this]
  rw [if_pos (by simp [stor, V.cells, D.cells]), if_pos (by simp)]
  unfold HP Hp.set
  simp [upd, List.map_set]
theorem HP_fin (M : List Bool) (x : D) : finS h (HP h L M) [.d x] = some (.d x, h) := finS1cc ..
end
theorem pfinite_ok {d : List Dt} (B : Bd d) (Ty : typedS d = true) (h : Hp) : callW tab 67 [.d (eDs d)] h = some (.d (.bool (finiteS d)), h) := by
  refine call_wp (fn := f67) rfl rfl ?_
  have hbl := B.len
  have hw0 := wrap_succ (show d.length < 2 ^ 62 by omega)
  have hmk : mkslO (.d (.bool false)) 1 1 h (.d (.int .i64 ((d.length + 1 : Nat) : Int))) = some (.own h.next 1 (d.length + 1) 0 (d.length + 1), ⟨(h.next, .arr 1 ((List.replicate (d.length + 1) false).map bV)) :: h.objs, h.next + 1⟩) := by
    simp only [mkslO, ixOf_nat, Option.bind_some]
    rw [if_pos (by unfold roomB; omega)]
    simp [Hp.alloc]
  have hH : (⟨(h.next + 1, .arr 1 [.own h.next 1 (d.length + 1) 0 (d.length + 1)]) :: (h.next, .arr 1 ((List.replicate (d.length + 1) false).map bV)) :: h.objs, h.next + 1 + 1⟩ : Hp) = HP h (d.length + 1) (List.replicate (d.length + 1) false) := rfl
  have hR0 := (HP_R h (d.length + 1) (List.replicate (d.length + 1) false) (by simp)).box
  have hi0 : ia 1 (.own h.next 1 (d.length + 1) 0 (d.length + 1)) (.d (.int .i64 0)) = some (.ptr h.next (d.length + 1) 0 0) := ia_own (j := 0) .i64 (by omega)
  have hs0 : st 1 (HP h (d.length + 1) (List.replicate (d.length + 1) false)) (.ptr h.next (d.length + 1) 0 0) (.d (.bool true)) = some (HP h (d.length + 1) (marks d)) := by
    rw [HP_st h _ _ (by simp) true (by omega)]; rfl
  -- a pass
  have l0 : ∀ (M : List Bool), M.length = d.length + 1 →
      wp tab (.loop f67l0) [(0, .d (eDs d)), (3, .ptr (h.next + 1) 1 0 0), (4, .d (.bool false)), (15, .d (.int .i64 d.length)), (16, .d (.int .i64 0))] (HP h (d.length + 1) M)
        (fun o => ∃ b, o = (.exit 2, [(0, .d (eDs d)), (3, .ptr (h.next + 1) 1 0 0), (4, .d (.bool b)), (15, .d (.int .i64 d.length)), (16, .d (.int .i64 d.length)), (17, .d (.bool false))], HP h (d.length + 1) (pass d M)) ∧ (b = false → pass d M = M) ∧ (b = true → cnt M < cnt (pass d M))) := by
    intro M hM
    refine loop_wp d.length (fun i e h' => ∃ b, h' = HP h (d.length + 1) (passN d M i) ∧ e = [(0, .d (eDs d)), (3, .ptr (h.next + 1) 1 0 0), (4, .d (.bool b)), (15, .d (.int .i64 d.length)), (16, .d (.int .i64 i))] ∧ (b = false → passN d M i = M) ∧ (b = true → cnt M < cnt (passN d M i))) _ ?_ ?_ d.length 0 _ _ (by omega) ⟨false, rfl, rfl, fun _ => rfl, fun h => by cases h⟩
    · rintro i e h' hi ⟨b, rfl, rfl, hb0, hb1⟩
      obtain ⟨y, hy⟩ := get_of_lt hi
      have by_ := B.at hy
      have hlen : (passN d M i).length = d.length + 1 := by rw [passN_len]; exact hM
      have R := HP_R h (d.length + 1) (passN d M i) hlen
      have hcont := conFC y.cons (.clo 91 [.ptr (h.next + 1) 1 0 0]) (allD (passN d M i)) (HP h (d.length + 1) (passN d M i)) (by omega) rfl
        (fun c hc => fin1_ok R c (by have := B.flds y (List.mem_of_getElem? hy) c hc; omega) (fun f hf => typed_at Ty (List.mem_of_getElem? hy) hc hf))
      have hw := wrap_succ (show i < 2 ^ 62 by omega)
      obtain ⟨x, hx⟩ := get_of_lt (l := passN d M i) (n := i + 1) (by omega)
      have hi1 := ia_own (es := 1) (n := h.next) (tot := d.length + 1) (j := i + 1) (len := d.length + 1) .i64 (by omega)
      have hl := ld_bit R.row hx
      have hst := HP_st h (d.length + 1) (passN d M i) (j := i + 1) hlen true (by omega)
      have hs := stp_at (M := passN d M i) hy
      have hbx := R.box
      cases hr : y.cons.any (allD (passN d M i)) with
      | false =>
        rw [hr, if_neg (by simp)] at hs
        (simp only [e67, hi, iaD hy, hcont, hr, hw, wz, opX, intBin, ↓reduceIte, simprocAttr] <;> repeat' (first | refine wpG_s ?_ ?_ | refine wpC_s ?_ ?_) <;> intro hgo <;> (try simp only [dq] at hgo) <;> simp only [hgo, e67, hi, iaD hy, hcont, hr, hw, wz, opX, intBin, ↓reduceIte, simprocAttr])
        refine ⟨b, ?_, rfl, ?_, ?_⟩
        · rw [passN, hs]
        · rw [passN, hs]; exact hb0
        · rw [passN, hs]; exact hb1
      | true =>
        rw [hr, if_pos rfl] at hs
        cases x with
        | true =>
          rw [set_true hx] at hs
          (simp only [e67, hi, iaD hy, hcont, hr, hw, hbx, hi1, hl, wz, opX, intBin, ↓reduceIte, simprocAttr] <;> repeat' (first | refine wpG_s ?_ ?_ | refine wpC_s ?_ ?_) <;> intro hgo <;> (try simp only [dq] at hgo) <;> simp only [hgo, e67, hi, iaD hy, hcont, hr, hw, hbx, hi1, hl, wz, opX, intBin, ↓reduceIte, simprocAttr])
          refine ⟨b, ?_, rfl, ?_, ?_⟩
          · rw [passN, hs]
          · rw [passN, hs]; exact hb0
          · rw [passN, hs]; exact hb1
        | false =>
          (simp only [e67, hi, iaD hy, hcont, hr, hw, hbx, hi1, hl, hst, wz, opX, intBin, ↓reduceIte, simprocAttr] <;> repeat' (first | refine wpG_s ?_ ?_ | refine wpC_s ?_ ?_) <;> intro hgo <;> (try simp only [dq] at hgo) <;> simp only [hgo, e67, hi, iaD hy, hcont, hr, hw, hbx, hi1, hl, hst, wz, opX, intBin, ↓reduceIte, simprocAttr])
          refine ⟨true, ?_, rfl, (fun h => by cases h), fun _ => ?_⟩
          · rw [passN, hs]
          · rw [passN, hs]
            have := set_grow hx
            rcases passN_cnt d M i with k | k
            · rw [k] at this ⊢; exact this
            · omega
    · rintro e h' ⟨b, rfl, rfl, hb0, hb1⟩
      (simp only [e67, wz, opX, intBin, ↓reduceIte, simprocAttr] <;> repeat' (first | refine wpG_s ?_ ?_ | refine wpC_s ?_ ?_) <;> intro hgo <;> (try simp only [dq] at hgo) <;> simp only [hgo, e67, wz, opX, intBin, ↓reduceIte, simprocAttr])
      exact ⟨b, ⟨rfl, rfl⟩, hb0, hb1⟩
  -- the passes
  have l1 : ∀ (k : Nat) (M : List Bool) (b : Bool) (r : Env), M.length = d.length + 1 → (∃ j, M = iter d (marks d) j) → (b = true → d.length + 2 ≤ cnt M + k) → (b = false → pass d M = M) →
      wp tab (.loop f67l1) ((0, .d (eDs d)) :: (3, .ptr (h.next + 1) 1 0 0) :: (4, .d (.bool b)) :: r) (HP h (d.length + 1) M)
        (fun o => o = (.exit 0, [(0, .d (eDs d)), (3, .ptr (h.next + 1) 1 0 0), (13, .d (.bool false))], HP h (d.length + 1) (iter d (marks d) (d.length + 1)))) := by
    intro k
    induction k with
    | zero =>
      intro M b r hM hj hk hb
      cases b with
      | true => have := hk rfl; have := cnt_le M; omega
      | false =>
        obtain ⟨j, rfl⟩ := hj
        rw [wq_loop, fix_eq (hb rfl)]
        (simp only [e67, wz, opX, intBin, ↓reduceIte, simprocAttr] <;> repeat' (first | refine wpG_s ?_ ?_ | refine wpC_s ?_ ?_) <;> intro hgo <;> (try simp only [dq] at hgo) <;> simp only [hgo, e67, wz, opX, intBin, ↓reduceIte, simprocAttr])
    | succ k ih =>
      intro M b r hM hj hk hb
      cases b with
      | false =>
        obtain ⟨j, rfl⟩ := hj
        rw [wq_loop, fix_eq (hb rfl)]
        (simp only [e67, wz, opX, intBin, ↓reduceIte, simprocAttr] <;> repeat' (first | refine wpG_s ?_ ?_ | refine wpC_s ?_ ?_) <;> intro hgo <;> (try simp only [dq] at hgo) <;> simp only [hgo, e67, wz, opX, intBin, ↓reduceIte, simprocAttr])
      | true =>
        rw [wq_loop]
        (simp only [e67, wz, opX, intBin, ↓reduceIte, simprocAttr] <;> repeat' (first | refine wpG_s ?_ ?_ | refine wpC_s ?_ ?_) <;> intro hgo <;> (try simp only [dq] at hgo) <;> simp only [hgo, e67, wz, opX, intBin, ↓reduceIte, simprocAttr])
        refine wq_mono (l0 M hM) ?_
        rintro o ⟨b, rfl, h0, h1⟩
        (simp only [e67, wz, opX, intBin, ↓reduceIte, simprocAttr] <;> repeat' (first | refine wpG_s ?_ ?_ | refine wpC_s ?_ ?_) <;> intro hgo <;> (try simp only [dq] at hgo) <;> simp only [hgo, e67, wz, opX, intBin, ↓reduceIte, simprocAttr])
        obtain ⟨j, rfl⟩ := hj
        refine ih (pass d (iter d (marks d) j)) b _ (by rw [pass, passN_len]; exact hM) ⟨j + 1, rfl⟩ (fun hb => ?_) (fun hb => ?_)
        · have := hk rfl; have := h1 hb; omega
        · have := h0 hb; rw [this, this]
  (simp only [e67, hw0, hmk, hH, hR0, hi0, hs0, wz, opX, intBin, ↓reduceIte, simprocAttr] <;> repeat' (first | refine wpG_s ?_ ?_ | refine wpC_s ?_ ?_) <;> intro hgo <;> (try simp only [dq] at hgo) <;> simp only [hgo, e67, hw0, hmk, hH, hR0, hi0, hs0, wz, opX, intBin, ↓reduceIte, simprocAttr])
  refine wq_mono (l1 (d.length + 2) (marks d) true _ (by simp [marks]) ⟨0, rfl⟩ (fun _ => by omega) (fun h => by cases h)) ?_
  rintro o rfl
  have hlen : (iter d (marks d) (d.length + 1)).length = d.length + 1 := by rw [iter_len]; simp [marks]
  have R := HP_R h (d.length + 1) (iter d (marks d) (d.length + 1)) hlen
  have hcB := containsB R.row hlen (by omega) false
  have e : (!(iter d (marks d) (d.length + 1)).any fun x => false == x) = finiteS d := by
    unfold finiteS
    have : ∀ l : List Bool, (!l.any fun b => false == b) = l.all id := by
      intro l; induction l with
      | nil => rfl
      | cons b l ih => rw [List.any_cons, List.all_cons, ← ih]; cases b <;> simp
    exact this _
  (simp only [e67, R.box, hcB, e, HP_fin, wz, opX, intBin, ↓reduceIte, simprocAttr] <;> repeat' (first | refine wpG_s ?_ ?_ | refine wpC_s ?_ ?_) <;> intro hgo <;> (try simp only [dq] at hgo) <;> simp only [hgo, e67, R.box, hcB, e, HP_fin, wz, opX, intBin, ↓reduceIte, simprocAttr])
end Zc27
end
