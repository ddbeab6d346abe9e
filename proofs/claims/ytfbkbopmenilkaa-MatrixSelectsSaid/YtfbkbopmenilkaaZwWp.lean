/-
  What a run comes to, as a condition on what follows: a part of the code in front, the rest behind it.
-/
import Derived.Test.YtfbkbopmenilkaaZwStep
set_option linter.unusedSimpArgs false
namespace Zs
open Go Zv

/-- The code ends, with something that Q says. -/
def wp (T : Tab) (c : AC) (e : Env) (h : Hp) (Q : Out → Prop) : Prop := ∃ o, ex T c e h = some o ∧ Q o
def seqQ (T : Tab) (b : AC) (Q : Out → Prop) (o : Out) : Prop := match o.1 with
  | .norm => wp T b o.2.1 o.2.2 Q
  | _ => Q o
def blkQ (id : Nat) (Q : Out → Prop) (o : Out) : Prop := Q (if o.1 = .exit id then .norm else o.1, o.2)
def donQ (fn : AF) (h : Hp) (R : Option (V × Hp) → Prop) (o : Out) : Prop := R (done fn h o)
/-- Items, and then what K says of their end. -/
def wpI (cf : Cf) (its : List It) (e : Env) (h : Hp) (K : Env → Hp → Prop) : Prop := ∃ s, itsX cf its e h = some s ∧ K s.1 s.2
def regQ (kp : Option (List Nat)) (Q : Out → Prop) (e : Env) (h : Hp) : Prop := Q (.norm, keepE kp e, h)
/-- A value that is there, and then the other items. -/
def wpO (cf : Cf) (dst : Option Nat) (e : Env) (r : List It) (K : Env → Hp → Prop) : Option (V × Hp) → Prop
  | none => False
  | some s => wpI cf r (e.putO dst s.1) s.2 K
def wpG (cf : Cf) (dst : Option Nat) (op : AOp) (e : Env) (h : Hp) (r : List It) (K : Env → Hp → Prop) : Option Bool → Prop
  | none => False
  | some true => wpO cf dst e r K (opX cf e h op)
  | some false => wpI cf r (e.putO dst (.tup [])) h K
def wpC (T : Tab) (a b : AC) (e : Env) (h : Hp) (Q : Out → Prop) : Option Bool → Prop
  | none => False
  | some true => wp T a e h Q
  | some false => wp T b e h Q
def wpE (cf : Cf) (r : List It) (K : Env → Hp → Prop) : Option (Env × Hp) → Prop
  | none => False
  | some s => wpI cf r s.1 s.2 K

theorem call_wp {T : Tab} {f : Nat} {fn : AF} {vs : List V} {h : Hp} {r : V × Hp} (hT : T f = some fn) (hn : vs.length = fn.np) (H : wp T fn.body (args 0 vs) h (donQ fn h (· = some r))) (hf : f < RB := by decide) : callW T f vs h = some r := by
  obtain ⟨o, h1, h2⟩ := H
  cases hp : isPr fn.body with
  | none => rw [callW_fn hT hn h hp hf, h1]; exact h2
  | some k =>
    have hb : fn.body = .exit k := by unfold isPr at hp; split at hp <;> first | (cases hp; assumption) | cases hp
    rw [hb] at h1; cases h1; cases h2
theorem call_wpE {T : Tab} {f : Nat} {fn : AF} {vs : List V} {h : Hp} {R : V × Hp → Prop} (hT : T f = some fn) (hn : vs.length = fn.np) (H : wp T fn.body (args 0 vs) h (donQ fn h (fun q => ∃ r, q = some r ∧ R r))) (hf : f < RB := by decide) : ∃ r, callW T f vs h = some r ∧ R r := by
  obtain ⟨o, h1, r, h2, h3⟩ := H
  cases hp : isPr fn.body with
  | none => exact ⟨r, by rw [callW_fn hT hn h hp hf, h1]; exact h2, h3⟩
  | some k =>
    have hb : fn.body = .exit k := by unfold isPr at hp; split at hp <;> first | (cases hp; assumption) | cases hp
    rw [hb] at h1; cases h1; cases h2
theorem wq_of {T : Tab} {c : AC} {e : Env} {h : Hp} {o : Out} (H : ex T c e h = some o) (Q : Out → Prop) : wp T c e h Q = Q o := by
  apply propext
  constructor
  · rintro ⟨o', h1, h2⟩; rw [H] at h1; cases h1; exact h2
  · intro hq; exact ⟨o, H, hq⟩
theorem wq_ex {T : Tab} {c : AC} {e : Env} {h : Hp} {o : Out} : wp T c e h (· = o) ↔ ex T c e h = some o :=
  ⟨fun ⟨_, h1, h2⟩ => h2 ▸ h1, fun H => ⟨o, H, rfl⟩⟩
theorem wq_mono {T : Tab} {c : AC} {e : Env} {h : Hp} {P Q : Out → Prop} (H : wp T c e h P) (k : ∀ o, P o → Q o) : wp T c e h Q := by
  obtain ⟨o, h1, h2⟩ := H; exact ⟨o, h1, k o h2⟩

theorem wq_skip (T : Tab) (e : Env) (h : Hp) (Q : Out → Prop) : wp T .skip e h Q = Q (.norm, e, h) := wq_of rfl Q
theorem wq_exit (T : Tab) (i : Nat) (e : Env) (h : Hp) (Q : Out → Prop) : wp T (.exit i) e h Q = Q (.exit i, e, h) := wq_of rfl Q
theorem wq_ret (T : Tab) (e : Env) (h : Hp) (Q : Out → Prop) : wp T .ret e h Q = Q (.ret, e, h) := wq_of rfl Q
theorem wq_seq (T : Tab) (a b : AC) (e : Env) (h : Hp) (Q : Out → Prop) : wp T (.seq a b) e h Q = wp T a e h (seqQ T b Q) := by
  apply propext
  unfold wp
  rw [ex_seq]
  cases ex T a e h with
  | none => simp
  | some o =>
    obtain ⟨x, e', h'⟩ := o
    cases x <;> simp [nxt, seqQ, wp]
theorem wq_blk (T : Tab) (id : Nat) (a : AC) (e : Env) (h : Hp) (Q : Out → Prop) : wp T (.blk id a) e h Q = wp T a e h (blkQ id Q) := by
  apply propext
  unfold wp
  rw [ex_blk]
  cases ex T a e h with
  | none => simp
  | some o => simp [blkQ]
theorem wq_cond (T : Tab) (c : Opd) (a b : AC) (e : Env) (h : Hp) (Q : Out → Prop) : wp T (.cond c a b) e h Q = wpC T a b e h Q (condB (e.ev c)) := by
  apply propext
  unfold wp
  rw [ex_cond]
  cases condB (e.ev c) with
  | none => simp [wpC]
  | some t => cases t <;> simp [wpC, wp]
theorem wpC_t (T : Tab) (a b : AC) (e : Env) (h : Hp) (Q : Out → Prop) : wpC T a b e h Q (some true) = wp T a e h Q := rfl
theorem wpC_f (T : Tab) (a b : AC) (e : Env) (h : Hp) (Q : Out → Prop) : wpC T a b e h Q (some false) = wp T b e h Q := rfl
theorem wpC_b (T : Tab) (a b : AC) (e : Env) (h : Hp) (Q : Out → Prop) (c : Bool) : wpC T a b e h Q (some c) = if c = true then wp T a e h Q else wp T b e h Q := by
  cases c <;> rfl
theorem wq_reg (T : Tab) (its : List It) (kp : Option (List Nat)) (e : Env) (h : Hp) (Q : Out → Prop) : wp T (.reg its kp) e h Q = wpI (cW T) its e h (regQ kp Q) := by
  apply propext
  unfold wp wpI
  rw [ex_reg]
  cases itsX (cW T) its e h with
  | none => simp
  | some o => simp [regQ]
theorem wpI_nil (cf : Cf) (e : Env) (h : Hp) (K : Env → Hp → Prop) : wpI cf [] e h K = K e h := by
  apply propext
  simp [wpI, its_nil]
theorem wpI_o (cf : Cf) (dst : Option Nat) (op : AOp) (r : List It) (e : Env) (h : Hp) (K : Env → Hp → Prop) : wpI cf (.o dst op none :: r) e h K = wpO cf dst e r K (opX cf e h op) := by
  apply propext
  unfold wpI
  rw [its_cons, it_o]
  cases opX cf e h op with
  | none => simp [wpO]
  | some s => simp [wpO, wpI]
theorem wpI_g (cf : Cf) (dst : Option Nat) (op : AOp) (t : Nat) (b : Bool) (r : List It) (e : Env) (h : Hp) (K : Env → Hp → Prop) : wpI cf (.o dst op (some (t, b)) :: r) e h K = wpG cf dst op e h r K (wantV (e.get t) b) := by
  apply propext
  unfold wpI
  rw [its_cons, it_g, want_some]
  cases wantV (e.get t) b with
  | none => simp [wpG]
  | some w =>
    cases w with
    | false => simp [wpG, wpI]
    | true =>
      simp only [wpG]
      generalize opX cf e h op = q
      cases q with
      | none => simp [wpO]
      | some s => simp [wpO, wpI]
theorem wpI_frz (cf : Cf) (t : Nat) (r : List It) (e : Env) (h : Hp) (K : Env → Hp → Prop) : wpI cf (.frz t :: r) e h K = wpO cf (some t) e r K (Zv.frz h (e.get t)) := by
  apply propext
  unfold wpI
  rw [its_cons, it_frz]
  cases Zv.frz h (e.get t) with
  | none => simp [wpO]
  | some s => simp [wpO, wpI, Env.putO, Env.put]
theorem wpI_kill (cf : Cf) (t : Nat) (r : List It) (e : Env) (h : Hp) (K : Env → Hp → Prop) : wpI cf (.kill t :: r) e h K = wpE cf r K (killX t e h (e.get t)) := by
  apply propext
  unfold wpI
  rw [its_cons, it_kill]
  cases killX t e h (e.get t) with
  | none => simp [wpE]
  | some s => simp [wpE, wpI]
theorem wpE_some (cf : Cf) (r : List It) (K : Env → Hp → Prop) (e : Env) (h : Hp) : wpE cf r K (some (e, h)) = wpI cf r e h K := rfl
theorem wpO_some (cf : Cf) (t : Nat) (e : Env) (r : List It) (K : Env → Hp → Prop) (v : V) (h : Hp) : wpO cf (some t) e r K (some (v, h)) = wpI cf r ((t, v) :: e) h K := rfl
theorem wpO_none (cf : Cf) (e : Env) (r : List It) (K : Env → Hp → Prop) (v : V) (h : Hp) : wpO cf none e r K (some (v, h)) = wpI cf r e h K := rfl
theorem wpG_t (cf : Cf) (dst : Option Nat) (op : AOp) (e : Env) (h : Hp) (r : List It) (K : Env → Hp → Prop) : wpG cf dst op e h r K (some true) = wpO cf dst e r K (opX cf e h op) := rfl
theorem wpG_f (cf : Cf) (t : Nat) (op : AOp) (e : Env) (h : Hp) (r : List It) (K : Env → Hp → Prop) : wpG cf (some t) op e h r K (some false) = wpI cf r ((t, .tup []) :: e) h K := rfl
theorem wpG_fn (cf : Cf) (op : AOp) (e : Env) (h : Hp) (r : List It) (K : Env → Hp → Prop) : wpG cf none op e h r K (some false) = wpI cf r e h K := rfl
theorem wpG_b (cf : Cf) (t : Nat) (op : AOp) (e : Env) (h : Hp) (r : List It) (K : Env → Hp → Prop) (c : Bool) : wpG cf (some t) op e h r K (some c) = if c = true then wpO cf (some t) e r K (opX cf e h op) else wpI cf r ((t, .tup []) :: e) h K := by
  cases c <;> rfl
theorem wpG_bn (cf : Cf) (op : AOp) (e : Env) (h : Hp) (r : List It) (K : Env → Hp → Prop) (c : Bool) : wpG cf none op e h r K (some c) = if c = true then wpO cf none e r K (opX cf e h op) else wpI cf r e h K := by
  cases c <;> rfl
theorem wantV_bt (c : Bool) : wantV (.d (.bool c)) true = some c := by cases c <;> rfl
theorem wantV_bf (c : Bool) : wantV (.d (.bool c)) false = some (!c) := by cases c <;> rfl
theorem regQ_eq (kp : List Nat) (Q : Out → Prop) (e : Env) (h : Hp) : regQ (some kp) Q e h = Q (.norm, e.keep kp, h) := rfl
theorem seqQ_n (T : Tab) (b : AC) (Q : Out → Prop) (e : Env) (h : Hp) : seqQ T b Q (.norm, e, h) = wp T b e h Q := rfl
theorem seqQ_e (T : Tab) (b : AC) (Q : Out → Prop) (i : Nat) (e : Env) (h : Hp) : seqQ T b Q (.exit i, e, h) = Q (.exit i, e, h) := rfl
theorem seqQ_r (T : Tab) (b : AC) (Q : Out → Prop) (e : Env) (h : Hp) : seqQ T b Q (.ret, e, h) = Q (.ret, e, h) := rfl
theorem blkQ_n (id : Nat) (Q : Out → Prop) (e : Env) (h : Hp) : blkQ id Q (.norm, e, h) = Q (.norm, e, h) := rfl
theorem blkQ_r (id : Nat) (Q : Out → Prop) (e : Env) (h : Hp) : blkQ id Q (.ret, e, h) = Q (.ret, e, h) := rfl
theorem blkQ_e (id i : Nat) (Q : Out → Prop) (e : Env) (h : Hp) : blkQ id Q (.exit i, e, h) = if i = id then Q (.norm, e, h) else Q (.exit i, e, h) := by
  unfold blkQ
  by_cases hi : i = id
  · subst hi; simp
  · rw [if_neg hi, if_neg (by simpa using hi)]
theorem donQ_n (fn : AF) (h : Hp) (R : Option (V × Hp) → Prop) (e : Env) (h' : Hp) : donQ fn h R (.norm, e, h') = R (finish fn h e h') := rfl
theorem donQ_r (fn : AF) (h : Hp) (R : Option (V × Hp) → Prop) (e : Env) (h' : Hp) : donQ fn h R (.ret, e, h') = R (finish fn h e h') := rfl
/-- The end of a function that hands on nothing of its own. -/
def finS (h : Hp) (h' : Hp) (vs : List V) : Option (V × Hp) := if sufOk h.objs h'.objs = true then (vs.mapM (back1 h' h.next)).map fun l => (resV l, h) else none
theorem fin_s (np : Nat) (res : List (Nat × Option (Bool × Nat))) (b : AC) (h : Hp) (e : Env) (h' : Hp) : finish ⟨np, res, true, b⟩ h e h' = (resL e h' res).bind (finS h h') := rfl
theorem fin_l (np : Nat) (res : List (Nat × Option (Bool × Nat))) (b : AC) (h : Hp) (e : Env) (h' : Hp) : finish ⟨np, res, false, b⟩ h e h' = (resL e h' res).bind fun vs => some (resV vs, h') := rfl
theorem resL_nil (e : Env) (h : Hp) : resL e h [] = some [] := rfl
theorem resL_t (e : Env) (h : Hp) (t : Nat) (r : List (Nat × Option (Bool × Nat))) : resL e h ((t, none) :: r) = (resL e h r).map (e.get t :: ·) := rfl
theorem resL_c (e : Env) (h : Hp) (t sz : Nat) (ag : Bool) (r : List (Nat × Option (Bool × Nat))) : resL e h ((t, some (ag, sz)) :: r) = (ld ag sz h (e.get t)).bind fun v => (resL e h r).map (v :: ·) := rfl
theorem finS_same {h h' : Hp} (hh : h'.objs = h.objs) (vs : List D) : finS h h' (vs.map .d) = some (resV (vs.map .d), h) := by
  unfold finS
  rw [if_pos (by rw [hh]; exact suf_refl _)]
  have : (vs.map V.d).mapM (back1 h' h.next) = some (vs.map V.d) := by
    induction vs with
    | nil => rfl
    | cons x l ih => rw [List.map_cons, List.mapM_cons, back_d, ih]; rfl
  rw [this]; rfl
theorem finS1 (h : Hp) (x : D) : finS h h [.d x] = some (.d x, h) := finS_same rfl [x]
theorem finS2 (h : Hp) (x y : D) : finS h h [.d x, .d y] = some (.tup [.d x, .d y], h) := finS_same rfl [x, y]
theorem finS3 (h : Hp) (x y z : D) : finS h h [.d x, .d y, .d z] = some (.tup [.d x, .d y, .d z], h) := finS_same rfl [x, y, z]
theorem finS1' (h : Hp) (n : Nat) (x : D) : finS h ⟨h.objs, n⟩ [.d x] = some (.d x, h) := finS_same (h := h) (h' := ⟨h.objs, n⟩) rfl [x]
theorem finS2' (h : Hp) (n : Nat) (x y : D) : finS h ⟨h.objs, n⟩ [.d x, .d y] = some (.tup [.d x, .d y], h) := finS_same (h := h) (h' := ⟨h.objs, n⟩) rfl [x, y]
theorem finS3' (h : Hp) (n : Nat) (x y z : D) : finS h ⟨h.objs, n⟩ [.d x, .d y, .d z] = some (.tup [.d x, .d y, .d z], h) := finS_same (h := h) (h' := ⟨h.objs, n⟩) rfl [x, y, z]

theorem partD_t (o sz : Nat) (l : List D) : partD true o sz l = if o + sz ≤ l.length then some (.agg ((l.drop o).take sz)) else none := rfl
theorem un_not (b : Bool) : un .not (.d (.bool b)) = some (.d (.bool (!b))) := rfl
theorem na_t (bs : List Bool) (v : V) (vs : List V) : normArgs (true :: bs) (v :: vs) = norm v :: normArgs bs vs := rfl
theorem na_f (bs : List Bool) (v : V) (vs : List V) : normArgs (false :: bs) (v :: vs) = v :: normArgs bs vs := rfl
theorem na_n (vs : List V) : normArgs [] vs = vs := rfl
theorem nat_neg (n : Nat) : ((n : Int) < 0) = False := by simp
theorem nat_nn (n : Nat) : ((0 : Int) ≤ (n : Int)) = True := by simp
theorem bin_s_eq (a b : ByteArray) : bin .eql (.d (.str a)) (.d (.str b)) = some (.d (.bool (decide (a = b)))) := rfl
theorem bin_s_ne (a b : ByteArray) : bin .neq (.d (.str a)) (.d (.str b)) = some (.d (.bool (!decide (a = b)))) := rfl
theorem lenS_str (s : ByteArray) : lenS (.d (.str s)) = some (.d (.int .i64 (s.size : Int))) := rfl
theorem ixS_at {s : ByteArray} {n : Nat} {c : UInt8} (k : IntKind) (h : s.data.toList[n]? = some c) : ixS (.d (.str s)) (.d (.int k (n : Int))) = some (.d (.int .u8 c.toNat)) := by
  have hlt : n < s.size := by
    have := (List.getElem?_eq_some_iff.1 h).1
    simpa using this
  have hg : s[n] = c := by
    have := (List.getElem?_eq_some_iff.1 h).2
    rw [← this]; rfl
  simp [ixS, ixOf_nat, hlt, hg]
theorem resV_nil : resV [] = .tup [] := rfl
theorem conv_i (k j : IntKind) (n : Int) : conv k (.d (.int j n)) = some (.d (.int k (k.wrap n))) := rfl
theorem ibeq (a b : Int) : (a == b) = decide (a = b) := rfl
theorem ibne (a b : Int) : (a != b) = !decide (a = b) := rfl
theorem norm_tl0 (nl : Option Bool) : norm (.tl [] nl) = .d (.lst []) := rfl
theorem un_neg (k : IntKind) (n : Int) : un .neg (.d (.int k n)) = some (.d (.int k (k.wrap (0 - n)))) := rfl
theorem binB_eq (a b : Bool) : binB .eql (.d (.bool a)) (.d (.bool b)) = some (.d (.bool (a == b))) := rfl
theorem binB_ne (a b : Bool) : binB .neq (.d (.bool a)) (.d (.bool b)) = some (.d (.bool (!(a == b)))) := rfl
theorem row_hd (n es : Nat) (els : List V) (r : List (Nat × Ob)) (nx tot : Nat) : Hp.row ⟨(n, .arr es els) :: r, nx⟩ n tot = if els.length = tot then some (es, els) else none := by
  rw [row_cons, if_pos rfl]
theorem set_hd (n : Nat) (o : Ob) (r : List (Nat × Ob)) (nx : Nat) (x : Ob) : Hp.set ⟨(n, o) :: r, nx⟩ n x = ⟨(n, x) :: r, nx⟩ := by
  rw [set_cons, if_pos rfl]
theorem alloc_eq (h : Hp) (o : Ob) : h.alloc o = ⟨(h.next, o) :: h.objs, h.next + 1⟩ := rfl


theorem wpG_s {cf : Cf} {dst : Option Nat} {op : AOp} {e : Env} {h : Hp} {r : List It} {K : Env → Hp → Prop} {c : Bool} (h1 : c = true → wpG cf dst op e h r K (some true)) (h2 : c = false → wpG cf dst op e h r K (some false)) : wpG cf dst op e h r K (some c) := by
  cases c
  · exact h2 rfl
  · exact h1 rfl
theorem wpC_s {T : Tab} {a b : AC} {e : Env} {h : Hp} {Q : Out → Prop} {c : Bool} (h1 : c = true → wpC T a b e h Q (some true)) (h2 : c = false → wpC T a b e h Q (some false)) : wpC T a b e h Q (some c) := by
  cases c
  · exact h2 rfl
  · exact h1 rfl

theorem finS_nil (h : Hp) (nl : Option Bool) : finS h h [.tl [] nl] = some (.d (.lst []), h) := by
  unfold finS; rw [if_pos (suf_refl _)]; rfl
theorem nat1_0 (n : Nat) : ((n : Int) + 1 == 0) = false := by simp; omega
theorem nat1_lt1 (n : Nat) : ((n : Int) + 1 < 1) = False := by simp; omega
theorem nat1_lt0 (n : Nat) : ((n : Int) + 1 < 0) = False := by simp; omega
theorem nat1_ge0 (n : Nat) : (0 ≤ (n : Int) + 1) = True := by simp; omega
theorem nat1_ge1 (n : Nat) : (1 ≤ (n : Int) + 1) = True := by simp; omega
theorem ld_one (sz : Nat) (h : Hp) (n tot i off : Nat) : ld false sz h (.ptr n tot i off) = (h.row n tot).bind fun r => (r.2[i]?).bind fun e => e.cells[off]? := by
  simp [ld, partV]
theorem st_hd (es n : Nat) (z : V) (l : List (Nat × Ob)) (nx : Nat) (x : V) : st es ⟨(n, .arr es [z]) :: l, nx⟩ (.ptr n 1 0 0) x = if stor x = true ∧ x.cells.length = es then some ⟨(n, .arr es [x]) :: l, nx⟩ else none := by
  simp [st, row_hd, set_hd]
theorem finS1m (l : List (Nat × Ob)) (n m : Nat) (x : D) : finS ⟨l, n⟩ ⟨l, m⟩ [.d x] = some (.d x, ⟨l, n⟩) := finS_same (h := ⟨l, n⟩) (h' := ⟨l, m⟩) rfl [x]
theorem finS2m (l : List (Nat × Ob)) (n m : Nat) (x y : D) : finS ⟨l, n⟩ ⟨l, m⟩ [.d x, .d y] = some (.tup [.d x, .d y], ⟨l, n⟩) := finS_same (h := ⟨l, n⟩) (h' := ⟨l, m⟩) rfl [x, y]
theorem finS3m (l : List (Nat × Ob)) (n m : Nat) (x y z : D) : finS ⟨l, n⟩ ⟨l, m⟩ [.d x, .d y, .d z] = some (.tup [.d x, .d y, .d z], ⟨l, n⟩) := finS_same (h := ⟨l, n⟩) (h' := ⟨l, m⟩) rfl [x, y, z]
theorem finS_suf {h h' : Hp} (hh : sufOk h.objs h'.objs = true) (vs : List D) : finS h h' (vs.map .d) = some (resV (vs.map .d), h) := by
  unfold finS
  rw [if_pos hh]
  have : (vs.map V.d).mapM (back1 h' h.next) = some (vs.map V.d) := by
    induction vs with
    | nil => rfl
    | cons x l ih => rw [List.map_cons, List.mapM_cons, back_d, ih]; rfl
  rw [this]; rfl
theorem finS1c (h : Hp) (o : Nat × Ob) (m : Nat) (x : D) : finS h ⟨o :: h.objs, m⟩ [.d x] = some (.d x, h) := finS_suf (h' := ⟨o :: h.objs, m⟩) (suf_one _ _) [x]
theorem finS2c (h : Hp) (o : Nat × Ob) (m : Nat) (x y : D) : finS h ⟨o :: h.objs, m⟩ [.d x, .d y] = some (.tup [.d x, .d y], h) := finS_suf (h' := ⟨o :: h.objs, m⟩) (suf_one _ _) [x, y]
theorem finS3c (h : Hp) (o : Nat × Ob) (m : Nat) (x y z : D) : finS h ⟨o :: h.objs, m⟩ [.d x, .d y, .d z] = some (.tup [.d x, .d y, .d z], h) := finS_suf (h' := ⟨o :: h.objs, m⟩) (suf_one _ _) [x, y, z]
theorem finS1cc (h : Hp) (o q : Nat × Ob) (m : Nat) (x : D) : finS h ⟨o :: q :: h.objs, m⟩ [.d x] = some (.d x, h) := finS_suf (h' := ⟨o :: q :: h.objs, m⟩) (suf_two _ _ _) [x]
theorem st_2 (es n : Nat) (o : Ob) (z : V) (l : List (Nat × Ob)) (nx : Nat) (x : V) : st es ⟨(n + 1, o) :: (n, .arr es [z]) :: l, nx⟩ (.ptr n 1 0 0) x = if stor x = true ∧ x.cells.length = es then some ⟨(n + 1, o) :: (n, .arr es [x]) :: l, nx⟩ else none := by
  have hr : Hp.row ⟨(n + 1, o) :: (n, .arr es [z]) :: l, nx⟩ n 1 = some (es, [z]) := by
    unfold Hp.row Hp.get; simp [Zv.look]
  have hs : ∀ y, Hp.set ⟨(n + 1, o) :: (n, .arr es [z]) :: l, nx⟩ n y = ⟨(n + 1, o) :: (n, y) :: l, nx⟩ := by
    intro y; unfold Hp.set; simp [upd]
  simp [st, hr, hs]
theorem frz_2 (n es nx : Nat) (o : Ob) (x : D) (l : List (Nat × Ob)) (off : Nat) : Zv.frz ⟨(n + 1, o) :: (n, .arr es [.d x]) :: l, nx⟩ (.ptr n 1 0 off) = some (.fp x off, ⟨(n + 1, o) :: l, nx⟩) := by
  have hr : Hp.row ⟨(n + 1, o) :: (n, .arr es [.d x]) :: l, nx⟩ n 1 = some (es, [.d x]) := by
    unfold Hp.row Hp.get; simp [Zv.look]
  simp only [Zv.frz, hr, Option.bind_some, List.getElem?_cons_zero, Option.map_some, toD]
  simp [Hp.kill, del]
theorem kill_2 (n : Nat) (o p : Ob) (l : List (Nat × Ob)) (nx : Nat) : Hp.kill ⟨(n + 1, o) :: (n, p) :: l, nx⟩ n = ⟨(n + 1, o) :: l, nx⟩ := by
  unfold Hp.kill; simp [del]
theorem ld_whole (es n : Nat) (l : List D) (r : List (Nat × Ob)) (nx : Nat) : ld true es ⟨(n, .arr es [.d (.agg l)]) :: r, nx⟩ (.ptr n 1 0 0) = some (.d (.agg l)) := by
  simp [ld, row_hd]
theorem ld_whole2 (es n : Nat) (o : Ob) (l : List D) (r : List (Nat × Ob)) (nx : Nat) : ld true es ⟨(n + 1, o) :: (n, .arr es [.d (.agg l)]) :: r, nx⟩ (.ptr n 1 0 0) = some (.d (.agg l)) := by
  have hr : Hp.row ⟨(n + 1, o) :: (n, .arr es [.d (.agg l)]) :: r, nx⟩ n 1 = some (es, [.d (.agg l)]) := by
    unfold Hp.row Hp.get; simp [Zv.look]
  simp [ld, hr]
/-- Lists and truth values. -/
theorem wsl : (type_of% @List.map_cons.{0, 0}) ∧ (type_of% @List.map_nil.{0, 0}) ∧ (type_of% @List.cons_append.{0}) ∧ (type_of% @List.nil_append.{0}) ∧ (type_of% @List.append_nil.{0}) ∧ (type_of% @List.getElem?_cons_zero.{0}) ∧ (type_of% @List.getElem?_cons_succ.{0}) ∧ (type_of% @List.length_cons.{0}) ∧ (type_of% @List.length_nil.{0}) ∧ (type_of% @List.length_map.{0, 0}) ∧ (type_of% @List.length_append.{0}) ∧ (type_of% @List.all_cons.{0}) ∧ (type_of% @List.all_nil.{0}) ∧ (type_of% @List.take_zero.{0}) ∧ (type_of% @List.take_succ_cons.{0}) ∧ (type_of% @List.drop_zero.{0}) ∧ (type_of% @List.drop_succ_cons.{0}) ∧ (type_of% @Option.map_some.{0, 0}) ∧ (type_of% @Option.bind_some.{0, 0}) ∧ (type_of% @Option.map_none.{0, 0}) ∧ (type_of% @Option.bind_none.{0, 0}) ∧ (type_of% @beq_self_eq_true.{0}) ∧ (type_of% @bne_self_eq_false.{0}) ∧ (type_of% @Option.some.injEq.{0}) ∧ (type_of% @Prod.mk.injEq.{0, 0}) ∧ (type_of% @gt_iff_lt.{0}) ∧ (type_of% @ge_iff_le.{0}) ∧ (type_of% @if_true.{1}) ∧ (type_of% @if_false.{1}) ∧ (type_of% @ite_self.{1}) ∧ (type_of% @ne_eq.{1}) ∧ (type_of% @eq_self.{1}) ∧ (type_of% @Bool.and_self) ∧ (type_of% @and_self) ∧ (type_of% @true_and) ∧ (type_of% @and_true) ∧ (type_of% @Bool.not_true) ∧ (type_of% @Bool.not_false) ∧ (type_of% @Bool.not_eq_true') ∧ (type_of% @decide_eq_true_eq) ∧ (type_of% @decide_eq_false_iff_not) ∧ (type_of% @Nat.zero_add) ∧ (type_of% @Nat.add_zero) ∧ (type_of% @Nat.succ_ne_zero) ∧ (type_of% @Bool.false_eq_true) ∧ (type_of% @not_true_eq_false) ∧ (type_of% @not_false_eq_true) ∧ (type_of% @Bool.false_and) ∧ (type_of% @Bool.true_and) ∧ (type_of% @and_false) ∧ (type_of% @false_and) ∧ (type_of% @Bool.true_eq_false) ∧ (type_of% @or_false) ∧ (type_of% @false_or) ∧ (type_of% @true_or) ∧ (type_of% @or_true) ∧ (type_of% @Int.cast_ofNat_Int) ∧ (type_of% @Int.ofNat_lt) ∧ (type_of% @Int.ofNat_le) ∧ (type_of% @Nat.lt_irrefl) ∧ (type_of% @decide_true) ∧ (type_of% @decide_false) :=
  ⟨@List.map_cons.{0, 0}, @List.map_nil.{0, 0}, @List.cons_append.{0}, @List.nil_append.{0}, @List.append_nil.{0}, @List.getElem?_cons_zero.{0}, @List.getElem?_cons_succ.{0}, @List.length_cons.{0}, @List.length_nil.{0}, @List.length_map.{0, 0}, @List.length_append.{0}, @List.all_cons.{0}, @List.all_nil.{0}, @List.take_zero.{0}, @List.take_succ_cons.{0}, @List.drop_zero.{0}, @List.drop_succ_cons.{0}, @Option.map_some.{0, 0}, @Option.bind_some.{0, 0}, @Option.map_none.{0, 0}, @Option.bind_none.{0, 0}, @beq_self_eq_true.{0}, @bne_self_eq_false.{0}, @Option.some.injEq.{0}, @Prod.mk.injEq.{0, 0}, @gt_iff_lt.{0}, @ge_iff_le.{0}, @if_true.{1}, @if_false.{1}, @ite_self.{1}, @ne_eq.{1}, @eq_self.{1}, @Bool.and_self, @and_self, @true_and, @and_true, @Bool.not_true, @Bool.not_false, @Bool.not_eq_true', @decide_eq_true_eq, @decide_eq_false_iff_not, @Nat.zero_add, @Nat.add_zero, @Nat.succ_ne_zero, @Bool.false_eq_true, @not_true_eq_false, @not_false_eq_true, @Bool.false_and, @Bool.true_and, @and_false, @false_and, @Bool.true_eq_false, @or_false, @false_or, @true_or, @or_true, @Int.cast_ofNat_Int, @Int.ofNat_lt, @Int.ofNat_le, @Nat.lt_irrefl, @decide_true, @decide_false⟩
/-- All steps. -/
theorem ws : (type_of% @wq_seq) ∧ (type_of% @wq_blk) ∧ (type_of% @wq_cond) ∧ (type_of% @wpC_t) ∧ (type_of% @wpC_f) ∧ (type_of% @wq_skip) ∧ (type_of% @wq_exit) ∧ (type_of% @wq_ret) ∧ (type_of% @wpI_nil) ∧ (type_of% @wpI_o) ∧ (type_of% @wpI_g) ∧ (type_of% @wpI_frz) ∧ (type_of% @wpI_kill) ∧ (type_of% @wpE_some) ∧ (type_of% @wpO_some) ∧ (type_of% @wpO_none) ∧ (type_of% @wpG_t) ∧ (type_of% @wpG_f) ∧ (type_of% @wpG_fn) ∧ (type_of% @wantV_bt) ∧ (type_of% @wantV_bf) ∧ (type_of% @wantV_t) ∧ (type_of% @regQ_eq) ∧ (type_of% @seqQ_n) ∧ (type_of% @seqQ_e) ∧ (type_of% @seqQ_r) ∧ (type_of% @blkQ_n) ∧ (type_of% @blkQ_r) ∧ (type_of% @blkQ_e) ∧ (type_of% @donQ_n) ∧ (type_of% @donQ_r) ∧ (type_of% @fin_s) ∧ (type_of% @finS1) ∧ (type_of% @finS2) ∧ (type_of% @finS3) ∧ (type_of% @finS1') ∧ (type_of% @finS2') ∧ (type_of% @finS3') ∧ (type_of% @fin_l) ∧ (type_of% @resL_nil) ∧ (type_of% @resL_t) ∧ (type_of% @resL_c) ∧ (type_of% @resV_one) ∧ (type_of% @resV_two) ∧ (type_of% @resV_three) ∧ (type_of% @ev_t) ∧ (type_of% @ev_c) ∧ (type_of% @get_cons) ∧ (type_of% @get_nil) ∧ (type_of% @pv_some) ∧ (type_of% @bin_i) ∧ (type_of% @condB_b) ∧ (type_of% @keep_cons) ∧ (type_of% @keep_nil) ∧ (type_of% @args_cons) ∧ (type_of% @args_nil) ∧ (type_of% @na_t) ∧ (type_of% @na_f) ∧ (type_of% @na_n) ∧ (type_of% @norm_d) ∧ (type_of% @norm_ptr) ∧ (type_of% @norm_own) ∧ (type_of% @norm_map) ∧ (type_of% @norm_clo0) ∧ (type_of% @cW_clo) ∧ (type_of% @fa_fp) ∧ (type_of% @ld_fp) ∧ (type_of% @ldf_fp) ∧ (type_of% @partD_one) ∧ (type_of% @partD_t) ∧ (type_of% @cells_agg) ∧ (type_of% @cells_int) ∧ (type_of% @cells_bool) ∧ (type_of% @cells_str) ∧ (type_of% @cells_lst) ∧ (type_of% @lenL_lst) ∧ (type_of% @lenL_own) ∧ (type_of% @lenL_tl) ∧ (type_of% @ext_tup) ∧ (type_of% @pick_b) ∧ (type_of% @un_not) ∧ (type_of% @norm_tl0) ∧ (type_of% @conv_i) ∧ (type_of% @quiet_refl) ∧ (type_of% @st_2) ∧ (type_of% @frz_2) ∧ (type_of% @kill_2) ∧ (type_of% @resV_nil) ∧ (type_of% @nat1_0) ∧ (type_of% @nat1_lt1) ∧ (type_of% @nat1_lt0) ∧ (type_of% @nat1_ge0) ∧ (type_of% @nat1_ge1) ∧ (type_of% @ld_one) ∧ (type_of% @ld_whole) ∧ (type_of% @ld_whole2) ∧ (type_of% @st_hd) ∧ (type_of% @finS1m) ∧ (type_of% @finS2m) ∧ (type_of% @finS3m) ∧ (type_of% @finS1c) ∧ (type_of% @finS2c) ∧ (type_of% @finS3c) ∧ (type_of% @finS1cc) ∧ (type_of% @finS_nil) ∧ (type_of% @bin_s_eq) ∧ (type_of% @bin_s_ne) ∧ (type_of% @lenS_str) ∧ (type_of% @un_neg) ∧ (type_of% @nat_neg) ∧ (type_of% @nat_nn) ∧ (type_of% @binB_eq) ∧ (type_of% @binB_ne) ∧ (type_of% @nilck_ptr) ∧ (type_of% @nilck_fp) ∧ (type_of% @fa_ptr) ∧ (type_of% @partV_one) ∧ (type_of% @stor_d) ∧ (type_of% @stor_own) ∧ (type_of% @stor_ptr) ∧ (type_of% @stor_tl) ∧ (type_of% @stor_agg) ∧ (type_of% @stor_clo) ∧ (type_of% @stor_map) ∧ (type_of% @vcells_d) ∧ (type_of% @vcells_agg) ∧ (type_of% @vcells_own) ∧ (type_of% @vcells_ptr) ∧ (type_of% @vcells_tl) ∧ (type_of% @vcells_clo) ∧ (type_of% @vcells_map) ∧ (type_of% @lay_nil) ∧ (type_of% @lay_cons) ∧ (type_of% @mkAgg1) ∧ (type_of% @mkAgg2) ∧ (type_of% @mkAgg3) ∧ (type_of% @mkAgg4) ∧ (type_of% @mkAgg5) ∧ (type_of% @mkAgg6) ∧ (type_of% @mkAgg_own) ∧ (type_of% @mkAgg_ptr) ∧ (type_of% @mkAgg_tl) ∧ (type_of% @mkAgg_map) ∧ (type_of% @mkAgg_clo) ∧ (type_of% @mkAgg_d_own) ∧ (type_of% @mkAgg_dd_own) ∧ (type_of% @mkAgg_d_tl) ∧ (type_of% @mkAgg_dd_tl) ∧ (type_of% @killX_ptr) ∧ (type_of% @killX_own) ∧ (type_of% @killX_fp) ∧ (type_of% @killX_d) ∧ (type_of% @killX_undef) ∧ (type_of% @killX_tup) ∧ (type_of% @kill_hd) ∧ (type_of% @frz_hd) ∧ (type_of% @set_hd) ∧ (type_of% @row_hd) ∧ (type_of% @alloc_mk) ∧ (type_of% @alloc_eq) ∧ (type_of% @nilBin_ptr) ∧ (type_of% @nilBin_nil) ∧ (type_of% @V.d.injEq) ∧ (type_of% @D.bool.injEq) ∧ (type_of% @D.int.injEq) ∧ (type_of% @D.lst.injEq) ∧ (type_of% @D.agg.injEq) ∧ (type_of% @D.str.injEq) :=
  ⟨@wq_seq, @wq_blk, @wq_cond, @wpC_t, @wpC_f, @wq_skip, @wq_exit, @wq_ret, @wpI_nil, @wpI_o, @wpI_g, @wpI_frz, @wpI_kill, @wpE_some, @wpO_some, @wpO_none, @wpG_t, @wpG_f, @wpG_fn, @wantV_bt, @wantV_bf, @wantV_t, @regQ_eq, @seqQ_n, @seqQ_e, @seqQ_r, @blkQ_n, @blkQ_r, @blkQ_e, @donQ_n, @donQ_r, @fin_s, @finS1, @finS2, @finS3, @finS1', @finS2', @finS3', @fin_l, @resL_nil, @resL_t, @resL_c, @resV_one, @resV_two, @resV_three, @ev_t, @ev_c, @get_cons, @get_nil, @pv_some, @bin_i, @condB_b, @keep_cons, @keep_nil, @args_cons, @args_nil, @na_t, @na_f, @na_n, @norm_d, @norm_ptr, @norm_own, @norm_map, @norm_clo0, @cW_clo, @fa_fp, @ld_fp, @ldf_fp, @partD_one, @partD_t, @cells_agg, @cells_int, @cells_bool, @cells_str, @cells_lst, @lenL_lst, @lenL_own, @lenL_tl, @ext_tup, @pick_b, @un_not, @norm_tl0, @conv_i, @quiet_refl, @st_2, @frz_2, @kill_2, @resV_nil, @nat1_0, @nat1_lt1, @nat1_lt0, @nat1_ge0, @nat1_ge1, @ld_one, @ld_whole, @ld_whole2, @st_hd, @finS1m, @finS2m, @finS3m, @finS1c, @finS2c, @finS3c, @finS1cc, @finS_nil, @bin_s_eq, @bin_s_ne, @lenS_str, @un_neg, @nat_neg, @nat_nn, @binB_eq, @binB_ne, @nilck_ptr, @nilck_fp, @fa_ptr, @partV_one, @stor_d, @stor_own, @stor_ptr, @stor_tl, @stor_agg, @stor_clo, @stor_map, @vcells_d, @vcells_agg, @vcells_own, @vcells_ptr, @vcells_tl, @vcells_clo, @vcells_map, @lay_nil, @lay_cons, @mkAgg1, @mkAgg2, @mkAgg3, @mkAgg4, @mkAgg5, @mkAgg6, @mkAgg_own, @mkAgg_ptr, @mkAgg_tl, @mkAgg_map, @mkAgg_clo, @mkAgg_d_own, @mkAgg_dd_own, @mkAgg_d_tl, @mkAgg_dd_tl, @killX_ptr, @killX_own, @killX_fp, @killX_d, @killX_undef, @killX_tup, @kill_hd, @frz_hd, @set_hd, @row_hd, @alloc_mk, @alloc_eq, @nilBin_ptr, @nilBin_nil, @V.d.injEq, @D.bool.injEq, @D.int.injEq, @D.lst.injEq, @D.agg.injEq, @D.str.injEq⟩

/-! ### Loops over a list -/
/-- A loop that goes through a list and may leave it early. -/
def runL {α S : Type} (stp : Nat → S → α → Out ⊕ S) (fin : S → Out) : Nat → List α → S → Out
  | _, [], s => fin s
  | n, x :: l, s => match stp n s x with
    | .inl o => o
    | .inr s' => runL stp fin (n + 1) l s'
theorem loop_gen {T : Tab} {a : AC} {α S : Type} (l : List α) (env : Nat → S → Env) (hp : Nat → S → Hp) (I : Nat → S → Prop) (stp : Nat → S → α → Out ⊕ S) (fin : S → Out)
    (h1 : ∀ n s x, l[n]? = some x → I n s → match stp n s x with
      | .inl o => ex T a (env n s) (hp n s) = some o ∧ o.1 ≠ .norm
      | .inr s' => ex T a (env n s) (hp n s) = some (.norm, env (n + 1) s', hp (n + 1) s') ∧ I (n + 1) s')
    (h2 : ∀ s, I l.length s → ex T a (env l.length s) (hp l.length s) = some (fin s) ∧ (fin s).1 ≠ .norm) :
    ∀ (k n : Nat) (s : S), n + k = l.length → I n s → ex T (.loop a) (env n s) (hp n s) = some (runL stp fin n (l.drop n) s) := by
  have stop : ∀ {e : Env} {h : Hp} {o : Out}, ex T a e h = some o → o.1 ≠ .norm → ex T (.loop a) e h = some o := by
    intro e h o H ho
    rw [ex_loop, H, Option.bind_some]
    obtain ⟨x, e', h'⟩ := o
    cases x with
    | norm => exact absurd rfl ho
    | exit i => rfl
    | ret => rfl
  intro k
  induction k with
  | zero =>
    intro n s hn hI
    have : n = l.length := by omega
    subst this
    rw [List.drop_length]
    exact stop (h2 s hI).1 (h2 s hI).2
  | succ k ih =>
    intro n s hn hI
    have hlt : n < l.length := by omega
    have hd : l.drop n = l[n] :: l.drop (n + 1) := List.drop_eq_getElem_cons hlt
    rw [hd]
    have hs := h1 n s l[n] (List.getElem?_eq_getElem hlt) hI
    show _ = some (match stp n s l[n] with | .inl o => o | .inr s' => runL stp fin (n + 1) (l.drop (n + 1)) s')
    cases hq : stp n s l[n] with
    | inl o => rw [hq] at hs; exact stop hs.1 hs.2
    | inr s' =>
      rw [hq] at hs
      rw [ex_loop, hs.1, Option.bind_some, nxt_n]
      exact ih (n + 1) s' (by omega) hs.2

/-- A loop that looks for an element. -/
theorem loop_any {T : Tab} {a : AC} {α : Type} {l : List α} {p : α → Bool} {f : Nat → Env} {h : Hp} {o oN : Out}
    (hs : ∀ n x, l[n]? = some x → n < l.length → p x = false → ex T a (f n) h = some (.norm, f (n + 1), h))
    (hx : ∀ n x, l[n]? = some x → n < l.length → p x = true → ex T a (f n) h = some o)
    (hN : ex T a (f l.length) h = some oN) (ho : o.1 ≠ .norm) (hoN : oN.1 ≠ .norm) :
    ex T (.loop a) (f 0) h = some (if l.any p = true then o else oN) := by
  have := loop_gen (T := T) (a := a) l (fun n (_ : Unit) => f n) (fun _ _ => h) (fun _ _ => True) (fun _ _ x => if p x = true then .inl o else .inr ()) (fun _ => oN)
    (by
      intro n s x hn _
      have hlt : n < l.length := by
        rw [List.getElem?_eq_some_iff] at hn; exact hn.1
      cases hp : p x with
      | true => exact ⟨hx n x hn hlt hp, ho⟩
      | false => exact ⟨hs n x hn hlt hp, trivial⟩)
    (fun _ _ => ⟨hN, hoN⟩) l.length 0 () (by omega) trivial
  rw [this, List.drop_zero]
  congr 1
  clear this hs hx hN
  have : ∀ (m : List α) (n : Nat), runL (fun _ (_ : Unit) x => if p x = true then .inl o else .inr ()) (fun _ => oN) n m () = if m.any p = true then o else oN := by
    intro m
    induction m with
    | nil => intro n; rfl
    | cons x m ih =>
      intro n
      cases hp : p x with
      | true => simp [runL, hp]
      | false => simp only [runL, hp, Bool.false_eq_true, if_false, List.any_cons, Bool.false_or]; exact ih _
  exact this l 0

/-- The first element where something holds, with its place. -/
def fst? {α : Type} (p : α → Bool) : Nat → List α → Option (Nat × α)
  | _, [] => none
  | n, x :: l => if p x = true then some (n, x) else fst? p (n + 1) l
theorem fst_some {α : Type} {p : α → Bool} : ∀ {l : List α} {k n : Nat} {x : α}, fst? p k l = some (n, x) → k ≤ n ∧ l[n - k]? = some x ∧ p x = true ∧ ∀ m y, k ≤ m → m < n → l[m - k]? = some y → p y = false
  | [], _, _, _, h => by cases h
  | a :: l, k, n, x, h => by
    unfold fst? at h
    by_cases hp : p a = true
    · rw [if_pos hp] at h
      cases h
      exact ⟨Nat.le_refl _, by simp, hp, fun m y h1 h2 => by omega⟩
    · rw [if_neg hp] at h
      obtain ⟨h1, h2, h3, h4⟩ := fst_some h
      have e : n - k = (n - (k + 1)) + 1 := by omega
      refine ⟨by omega, by rw [e]; exact h2, h3, fun m y k1 k2 k3 => ?_⟩
      by_cases hm : m = k
      · subst hm
        simp at k3
        subst k3
        simpa using hp
      · refine h4 m y (by omega) k2 ?_
        have e : m - k = (m - (k + 1)) + 1 := by omega
        rw [e] at k3
        simpa using k3
theorem fst_none {α : Type} {p : α → Bool} : ∀ {l : List α} {k : Nat}, fst? p k l = none ↔ l.any p = false
  | [], _ => by simp [fst?]
  | a :: l, k => by
    unfold fst?
    by_cases hp : p a = true
    · rw [if_pos hp]; simp [hp]
    · rw [if_neg hp, fst_none]; simp [hp]
/-- A loop that looks for the place of an element. -/
theorem loop_find {T : Tab} {a : AC} {α : Type} {l : List α} {p : α → Bool} {f : Nat → Env} {h : Hp} {o : Nat → α → Out} {oN : Out}
    (hs : ∀ n x, l[n]? = some x → n < l.length → p x = false → ex T a (f n) h = some (.norm, f (n + 1), h))
    (hx : ∀ n x, l[n]? = some x → n < l.length → p x = true → ex T a (f n) h = some (o n x))
    (hN : ex T a (f l.length) h = some oN) (ho : ∀ n x, (o n x).1 ≠ .norm) (hoN : oN.1 ≠ .norm) :
    ex T (.loop a) (f 0) h = some (match fst? p 0 l with | some (n, x) => o n x | none => oN) := by
  have := loop_gen (T := T) (a := a) l (fun n (_ : Unit) => f n) (fun _ _ => h) (fun _ _ => True) (fun n _ x => if p x = true then .inl (o n x) else .inr ()) (fun _ => oN)
    (by
      intro n s x hn _
      have hlt : n < l.length := by
        rw [List.getElem?_eq_some_iff] at hn; exact hn.1
      cases hp : p x with
      | true => exact ⟨hx n x hn hlt hp, ho n x⟩
      | false => exact ⟨hs n x hn hlt hp, trivial⟩)
    (fun _ _ => ⟨hN, hoN⟩) l.length 0 () (by omega) trivial
  rw [this, List.drop_zero]
  congr 1
  clear this hs hx hN
  have : ∀ (m : List α) (n : Nat), runL (fun n (_ : Unit) x => if p x = true then .inl (o n x) else .inr ()) (fun _ => oN) n m () = match fst? p n m with | some (n, x) => o n x | none => oN := by
    intro m
    induction m with
    | nil => intro n; rfl
    | cons x m ih =>
      intro n
      cases hp : p x with
      | true => simp [runL, fst?, hp]
      | false =>
        simp only [runL, fst?, hp, Bool.false_eq_true, if_false]
        exact ih _
  exact this l 0

/-- A loop that goes through a list to the end. -/
theorem loop_fold {T : Tab} {a : AC} {α S : Type} {l : List α} (env : Nat → S → Env) (hp : Nat → S → Hp) (I : Nat → S → Prop) (stp : S → α → S) (fin : S → Out)
    (h1 : ∀ n s x, l[n]? = some x → n < l.length → I n s → ex T a (env n s) (hp n s) = some (.norm, env (n + 1) (stp s x), hp (n + 1) (stp s x)) ∧ I (n + 1) (stp s x))
    (h2 : ∀ s, I l.length s → ex T a (env l.length s) (hp l.length s) = some (fin s)) (h3 : ∀ s, (fin s).1 ≠ .norm) (s : S) (hI : I 0 s) :
    ex T (.loop a) (env 0 s) (hp 0 s) = some (fin (l.foldl stp s)) := by
  have := loop_gen (T := T) (a := a) l env hp I (fun _ s x => .inr (stp s x)) fin
    (by
      intro n s x hn hI
      have hlt : n < l.length := by
        rw [List.getElem?_eq_some_iff] at hn; exact hn.1
      exact h1 n s x hn hlt hI)
    (fun s hs => ⟨h2 s hs, h3 s⟩) l.length 0 s (by omega) hI
  rw [this, List.drop_zero]
  congr 1
  clear this h1 h2 hI
  have : ∀ (m : List α) (n : Nat) (s : S), runL (fun _ s x => .inr (stp s x)) fin n m s = fin (m.foldl stp s) := by
    intro m
    induction m with
    | nil => intro n s; rfl
    | cons x m ih => intro n s; exact ih (n + 1) (stp s x)
  exact this l 0 s

theorem ia_map {α : Type} {f : α → D} {es : Nat} {l : List α} {n : Nat} {x : α} (k : IntKind) (hx : l[n]? = some x) (hc : (f x).cells.length = es) : ia es (.d (.lst (l.map f))) (.d (.int k (n : Int))) = some (.fp (f x) 0) :=
  ia_at k (by rw [List.getElem?_map, hx]; rfl) hc

/-- The place of the first element where something holds, or -1. -/
def idxZ {α : Type} (p : α → Bool) (l : List α) : Int := match fst? p 0 l with
  | some (n, _) => n
  | none => -1
theorem idxZ_nn {α : Type} (p : α → Bool) (l : List α) : (0 ≤ idxZ p l) = (l.any p = true) := by
  unfold idxZ
  cases hq : fst? p 0 l with
  | none =>
    rw [fst_none] at hq
    simp only [hq, Bool.false_eq_true]
    simp
  | some y =>
    obtain ⟨n, x⟩ := y
    have : l.any p = true := by
      by_cases ha : l.any p = true
      · exact ha
      · rw [fst_none.2 (by simpa using ha)] at hq; cases hq
    simp only [this]
    simp

theorem fst_ite {α β : Type} {p : α → Bool} {l : List α} (F : Int → β) (G : β) : (match fst? p 0 l with | some (n, _) => F (n : Int) | none => G) = if l.any p = true then F (idxZ p l) else G := by
  unfold idxZ
  cases hq : fst? p 0 l with
  | none => rw [fst_none] at hq; simp [hq]
  | some y =>
    have : l.any p = true := by
      by_cases ha : l.any p = true
      · exact ha
      · rw [fst_none.2 (by simpa using ha)] at hq; cases hq
    simp [this]
theorem fst_of_any {α : Type} {p : α → Bool} {l : List α} (h : l.any p = true) : ∃ n x, fst? p 0 l = some (n, x) := by
  cases hq : fst? p 0 l with
  | none => rw [fst_none, h] at hq; cases hq
  | some y => exact ⟨y.1, y.2, rfl⟩

/-- Folds over the first elements. -/
def foldT {α S : Type} (stp : S → α → S) (s : S) (l : List α) (n : Nat) : S := (l.take n).foldl stp s
theorem foldT_zero {α S : Type} (stp : S → α → S) (s : S) (l : List α) : foldT stp s l 0 = s := rfl
theorem foldT_succ {α S : Type} {stp : S → α → S} {s : S} {l : List α} {n : Nat} {x : α} (h : l[n]? = some x) : foldT stp s l (n + 1) = stp (foldT stp s l n) x := by
  unfold foldT
  obtain ⟨hlt, rfl⟩ := List.getElem?_eq_some_iff.1 h
  rw [List.take_succ_eq_append_getElem hlt, List.foldl_append]; rfl
theorem foldT_all {α S : Type} (stp : S → α → S) (s : S) (l : List α) : foldT stp s l l.length = l.foldl stp s := by
  unfold foldT; rw [List.take_length]
theorem look_hd (n : Nat) (o : Ob) (r : List (Nat × Ob)) : look ((n, o) :: r) n = some o := if_pos rfl
theorem look_tl {m n : Nat} (o : Ob) (r : List (Nat × Ob)) (h : n ≠ m) : look ((m, o) :: r) n = look r n := if_neg h
theorem row_look {h : Hp} {n es tot : Nat} {els : List V} (H : look h.objs n = some (.arr es els)) (hl : els.length = tot) : h.row n tot = some (es, els) := by
  unfold Hp.row Hp.get
  rw [H]
  simp [hl]

/-- A loop of which only something is known. -/
theorem loop_wp {T : Tab} {a : AC} (N : Nat) (J : Nat → Env → Hp → Prop) (Q : Out → Prop)
    (hs : ∀ n e h, n < N → J n e h → wp T a e h (fun o => (o.1 = .norm ∧ J (n + 1) o.2.1 o.2.2) ∨ (o.1 ≠ .norm ∧ Q o)))
    (hN : ∀ e h, J N e h → wp T a e h (fun o => o.1 ≠ .norm ∧ Q o)) :
    ∀ (k n : Nat) (e : Env) (h : Hp), n + k = N → J n e h → wp T (.loop a) e h Q := by
  intro k
  induction k with
  | zero =>
    intro n e h hn hJ
    have : n = N := by omega
    subst this
    obtain ⟨o, h1, h2, h3⟩ := hN e h hJ
    refine ⟨o, ?_, h3⟩
    rw [ex_loop, h1, Option.bind_some]
    obtain ⟨x, e', h'⟩ := o
    cases x with
    | norm => exact absurd rfl h2
    | exit i => rfl
    | ret => rfl
  | succ k ih =>
    intro n e h hn hJ
    obtain ⟨o, h1, h2⟩ := hs n e h (by omega) hJ
    obtain ⟨x, e', h'⟩ := o
    rcases h2 with ⟨h2, h3⟩ | ⟨h2, h3⟩
    · cases h2
      obtain ⟨q, k1, k2⟩ := ih (n + 1) e' h' (by omega) h3
      refine ⟨q, ?_, k2⟩
      rw [ex_loop, h1, Option.bind_some, nxt_n]
      exact k1
    · refine ⟨(x, e', h'), ?_, h3⟩
      rw [ex_loop, h1, Option.bind_some]
      cases x with
      | norm => exact absurd rfl h2
      | exit i => rfl
      | ret => rfl
/-- A loop that looks for an element; it may make objects that are gone behind a round. -/
theorem loop_anyq {T : Tab} {a : AC} {α : Type} {l : List α} {p : α → Bool} {f : Nat → Env} {h : Hp} {x1 x2 : Ex} {e1 e2 : Env}
    (hs : ∀ q n x, l[n]? = some x → n < l.length → p x = false → wp T a (f n) ⟨h.objs, q⟩ (fun o => ∃ q', o = (.norm, f (n + 1), ⟨h.objs, q'⟩)))
    (hx : ∀ q n x, l[n]? = some x → n < l.length → p x = true → wp T a (f n) ⟨h.objs, q⟩ (fun o => ∃ q', o = (x1, e1, ⟨h.objs, q'⟩)))
    (hN : ∀ q, wp T a (f l.length) ⟨h.objs, q⟩ (fun o => ∃ q', o = (x2, e2, ⟨h.objs, q'⟩))) (ho : x1 ≠ .norm) (hoN : x2 ≠ .norm) :
    ∃ q', ex T (.loop a) (f 0) h = some (if l.any p = true then (x1, e1, ⟨h.objs, q'⟩) else (x2, e2, ⟨h.objs, q'⟩)) := by
  obtain ⟨o, h1, q, h2⟩ : wp T (.loop a) (f 0) h (fun o => ∃ q', o = if l.any p = true then (x1, e1, ⟨h.objs, q'⟩) else (x2, e2, ⟨h.objs, q'⟩)) := by
    refine loop_wp l.length (fun n e h' => (∃ q, h' = ⟨h.objs, q⟩) ∧ e = f n ∧ ∀ i x, i < n → l[i]? = some x → p x = false) _ ?_ ?_ l.length 0 _ _ (by omega) ⟨⟨h.next, rfl⟩, rfl, fun i x hi => by omega⟩
    · rintro n e h' hn ⟨⟨q, rfl⟩, rfl, hk⟩
      have hx' : l[n]? = some l[n] := List.getElem?_eq_getElem hn
      cases hp : p l[n] with
      | true =>
        obtain ⟨o, hq, q', rfl⟩ := hx q n _ hx' hn hp
        have : l.any p = true := List.any_eq_true.2 ⟨_, List.getElem_mem hn, hp⟩
        rw [this]
        exact ⟨_, hq, .inr ⟨ho, q', rfl⟩⟩
      | false =>
        obtain ⟨o, hq, q', rfl⟩ := hs q n _ hx' hn hp
        refine ⟨_, hq, .inl ⟨rfl, ⟨q', rfl⟩, rfl, fun i x hi hxi => ?_⟩⟩
        by_cases hij : i = n
        · subst hij; rw [hx'] at hxi; cases hxi; exact hp
        · exact hk i x (by omega) hxi
    · rintro e h' ⟨⟨q, rfl⟩, rfl, hk⟩
      have : l.any p = false := by
        rw [← Bool.not_eq_true, List.any_eq_true]
        rintro ⟨x, hx, hp⟩
        obtain ⟨i, hi1, hi2⟩ := List.getElem_of_mem hx
        rw [hk i x hi1 (by rw [List.getElem?_eq_getElem hi1, hi2])] at hp
        cases hp
      rw [this]
      obtain ⟨o, hq, q', rfl⟩ := hN q
      exact ⟨_, hq, hoN, q', rfl⟩
  exact ⟨q, by rw [h1, h2]⟩
/-- The same, and the names only grow. -/
theorem loop_anyr {T : Tab} {a : AC} {α : Type} {l : List α} {p : α → Bool} {f : Nat → Env} {h : Hp} {x1 x2 : Ex} {e1 e2 : Env}
    (hs : ∀ q n x, l[n]? = some x → n < l.length → p x = false → wp T a (f n) ⟨h.objs, q⟩ (fun o => ∃ q', o = (.norm, f (n + 1), ⟨h.objs, q'⟩) ∧ q ≤ q'))
    (hx : ∀ q n x, l[n]? = some x → n < l.length → p x = true → wp T a (f n) ⟨h.objs, q⟩ (fun o => ∃ q', o = (x1, e1, ⟨h.objs, q'⟩) ∧ q ≤ q'))
    (hN : ∀ q, wp T a (f l.length) ⟨h.objs, q⟩ (fun o => ∃ q', o = (x2, e2, ⟨h.objs, q'⟩) ∧ q ≤ q')) (ho : x1 ≠ .norm) (hoN : x2 ≠ .norm) :
    ∃ q', h.next ≤ q' ∧ ex T (.loop a) (f 0) h = some (if l.any p = true then (x1, e1, ⟨h.objs, q'⟩) else (x2, e2, ⟨h.objs, q'⟩)) := by
  obtain ⟨o, h1, q, hqq, h2⟩ : wp T (.loop a) (f 0) h (fun o => ∃ q', h.next ≤ q' ∧ o = if l.any p = true then (x1, e1, ⟨h.objs, q'⟩) else (x2, e2, ⟨h.objs, q'⟩)) := by
    refine loop_wp l.length (fun n e h' => (∃ q, h.next ≤ q ∧ h' = ⟨h.objs, q⟩) ∧ e = f n ∧ ∀ i x, i < n → l[i]? = some x → p x = false) _ ?_ ?_ l.length 0 _ _ (by omega) ⟨⟨h.next, Nat.le_refl _, rfl⟩, rfl, fun i x hi => by omega⟩
    · rintro n e h' hn ⟨⟨q, hqn, rfl⟩, rfl, hk⟩
      have hx' : l[n]? = some l[n] := List.getElem?_eq_getElem hn
      cases hp : p l[n] with
      | true =>
        obtain ⟨o, hq, q', rfl, hle⟩ := hx q n _ hx' hn hp
        have : l.any p = true := List.any_eq_true.2 ⟨_, List.getElem_mem hn, hp⟩
        rw [this]
        exact ⟨_, hq, .inr ⟨ho, q', Nat.le_trans hqn hle, rfl⟩⟩
      | false =>
        obtain ⟨o, hq, q', rfl, hle⟩ := hs q n _ hx' hn hp
        refine ⟨_, hq, .inl ⟨rfl, ⟨q', Nat.le_trans hqn hle, rfl⟩, rfl, fun i x hi hxi => ?_⟩⟩
        by_cases hij : i = n
        · subst hij; rw [hx'] at hxi; cases hxi; exact hp
        · exact hk i x (by omega) hxi
    · rintro e h' ⟨⟨q, hqn, rfl⟩, rfl, hk⟩
      have : l.any p = false := by
        rw [← Bool.not_eq_true, List.any_eq_true]
        rintro ⟨x, hx, hp⟩
        obtain ⟨i, hi1, hi2⟩ := List.getElem_of_mem hx
        rw [hk i x hi1 (by rw [List.getElem?_eq_getElem hi1, hi2])] at hp
        cases hp
      rw [this]
      obtain ⟨o, hq, q', rfl, hle⟩ := hN q
      exact ⟨_, hq, hoN, q', Nat.le_trans hqn hle, rfl⟩
  exact ⟨q, hqq, by rw [h1, h2]⟩
/-- A loop that goes through a list and never leaves it early. -/
theorem loop_all {T : Tab} {a : AC} {α : Type} {l : List α} {f : Nat → Env} {h : Hp} {oN : Out}
    (hs : ∀ n x, l[n]? = some x → n < l.length → ex T a (f n) h = some (.norm, f (n + 1), h))
    (hN : ex T a (f l.length) h = some oN) (hoN : oN.1 ≠ .norm) : ex T (.loop a) (f 0) h = some oN := by
  have := loop_any (T := T) (a := a) (l := l) (p := fun _ => false) (f := f) (h := h) (o := oN) (oN := oN) (fun n x hx hlt _ => hs n x hx hlt) (fun n x _ _ hp => by cases hp) hN hoN hoN
  simpa using this
theorem wq_loop (T : Tab) (a : AC) (e : Env) (h : Hp) (Q : Out → Prop) : wp T (.loop a) e h Q = wp T a e h (seqQ T (.loop a) Q) := by
  rw [← wq_seq]
  apply propext
  unfold wp
  rw [ex_loop, ex_seq]

end Zs
