/-
  Parts of the proof.
-/
import Derived.Calls
section
set_option linter.unusedSimpArgs false
set_option linter.unusedVariables false
namespace Zv
open Go

/-- Pure data: a slice is the list of its elements, a struct the list of its cells. -/
inductive D where
  | bool (b : Bool)
  | int (k : IntKind) (n : Int)
  | str (s : ByteArray)
  | nilp
  | nilf
  | nilm
  | lst (l : List D)
  | agg (l : List D)
  deriving Inhabited

def D.cells : D → List D
  | .agg l => l
  | x => [x]

/-- Values of the run. -/
inductive V where
  | d (x : D)
  | tl (l : List V) (nl : Option Bool)
  | own (n es tot off len : Nat)
  | ptr (n tot i off : Nat)
  | fp (x : D) (off : Nat)
  | clo (f : Nat) (caps : List V)
  | agg (l : List V)
  | tup (l : List V)
  | map (n : Nat)
  | yld (n : Nat)
  | ub
  | undef
  | ifc (t : Nat) (x : D)
  | nif
  | pan (t : Nat) (x : D)
  deriving Inhabited

/-- How a piece of code is left. -/
inductive Ex where
  | norm
  | exit (id : Nat)
  | ret
  | pan
  deriving DecidableEq, Inhabited

/-- Can a variable hold it? -/
def stor : V → Bool
  | .undef => false
  | .tup _ => false
  | .ifc _ _ => false
  | .nif => false
  | .pan _ _ => false
  | _ => true

mutual
def toD : V → Option D
  | .d x => some x
  | .tl l _ => (toDs l).map .lst
  | .agg l => (toDs l).map .agg
  | _ => none
def toDs : List V → Option (List D)
  | [] => some []
  | v :: r => match toD v, toDs r with
    | some x, some xs => some (x :: xs)
    | _, _ => none
end

def norm (v : V) : V := match toD v with
  | some x => .d x
  | none => v

def V.cells : V → List V
  | .d x => x.cells.map .d
  | .agg l => l
  | v => [v]

def asD : List V → Option (List D)
  | [] => some []
  | .d x :: r => (asD r).map fun l => x :: l
  | _ => none

def mkAgg (cs : List V) : V := match asD cs with
  | some ds => .d (.agg ds)
  | none => .agg cs

/-- An object: a row of elements of es cells each, a map, or the record of a range over a function: the number of its code, the variables as they were, how the last round was left (norm: a round is on). -/
inductive Ob where
  | arr (es : Nat) (els : List V)
  | mp (kvs : List (D × V))
  | lp (b : Nat) (e : List (Nat × V)) (s : Option Ex)
  deriving Inhabited

structure Hp where
  objs : List (Nat × Ob)
  next : Nat
  deriving Inhabited

def look : List (Nat × Ob) → Nat → Option Ob
  | [], _ => none
  | (m, o) :: r, n => if n = m then some o else look r n

def upd : List (Nat × Ob) → Nat → Ob → List (Nat × Ob)
  | [], _, _ => []
  | (m, o) :: r, n, x => if n = m then (m, x) :: r else (m, o) :: upd r n x

def del : List (Nat × Ob) → Nat → List (Nat × Ob)
  | [], _ => []
  | (m, o) :: r, n => if n = m then r else (m, o) :: del r n

def Hp.get (h : Hp) (n : Nat) : Option Ob := look h.objs n
def Hp.set (h : Hp) (n : Nat) (o : Ob) : Hp := { h with objs := upd h.objs n o }
def Hp.kill (h : Hp) (n : Nat) : Hp := { h with objs := del h.objs n }
def Hp.alloc (h : Hp) (o : Ob) : Hp := ⟨(h.next, o) :: h.objs, h.next + 1⟩

/-- The elements of a live row. -/
def Hp.row (h : Hp) (n tot : Nat) : Option (Nat × List V) :=
  match h.get n with
  | some (.arr es els) => if els.length = tot then some (es, els) else none
  | _ => none

abbrev Env := List (Nat × V)
def Env.get : Env → Nat → V
  | [], _ => .undef
  | (t, v) :: r, n => if n = t then v else Env.get r n
def Env.put (e : Env) (t : Nat) (v : V) : Env := (t, v) :: e
def Env.putO (e : Env) (t : Option Nat) (v : V) : Env := match t with
  | some t => e.put t v
  | none => e
def Env.keep (e : Env) (l : List Nat) : Env := l.map fun t => (t, e.get t)

inductive Opd where
  | t (n : Nat)
  | c (v : V)
  deriving Inhabited

def Env.ev (e : Env) : Opd → V
  | .t n => e.get n
  | .c v => v

def int (n : Int) : V := .d (.int .i64 n)
def bool (b : Bool) : V := .d (.bool b)

/-! ## Pure operations -/

def intBin (op : BinOp) (k : IntKind) (a b : Int) : Option V :=
  match op with
  | .add => some (.d (.int k (k.wrap (a + b))))
  | .sub => some (.d (.int k (k.wrap (a - b))))
  | .mul => some (.d (.int k (k.wrap (a * b))))
  | .quo => if b = 0 then none else some (.d (.int k (k.wrap (a.tdiv b))))
  | .rem => if b = 0 then none else some (.d (.int k (a.tmod b)))
  | .eql => some (.d (.bool (a == b)))
  | .neq => some (.d (.bool (a != b)))
  | .lss => some (.d (.bool (decide (a < b))))
  | .leq => some (.d (.bool (decide (a ≤ b))))
  | .gtr => some (.d (.bool (decide (a > b))))
  | .geq => some (.d (.bool (decide (a ≥ b))))
  | _ => none

def strBin (op : BinOp) (a b : ByteArray) : Option V :=
  match op with
  | .add => if a.size + b.size ≤ 2 ^ 62 then some (.d (.str (a ++ b))) else none
  | .eql => some (.d (.bool (decide (a = b))))
  | .neq => some (.d (.bool (!decide (a = b))))
  | .lss => some (.d (.bool (Op.bytesLess a.toList b.toList)))
  | _ => none

/-- The kinds of types that have a nil. -/
inductive NK where
  | p | f | m | s | i
  deriving DecidableEq, Inhabited

/-- Is a value nil? (where it is known) -/
def isNil : NK → V → Option Bool
  | .p, .d .nilp => some true
  | .p, .ptr _ _ _ _ => some false
  | .p, .fp _ _ => some false
  | .f, .d .nilf => some true
  | .f, .clo _ _ => some false
  | .f, .yld _ => some false
  | .m, .d .nilm => some true
  | .m, .map _ => some false
  | .s, .tl [] nl => nl
  | .s, .tl (_ :: _) _ => some false
  | .s, .own _ _ _ _ _ => some false
  | .s, .d (.lst (_ :: _)) => some false
  | .i, .nif => some true
  | .i, .ifc _ _ => some false
  | _, _ => none

/-- The kinds of keys. -/
inductive KK where
  | i | s | b
  deriving DecidableEq, Inhabited
def keyEq : KK → D → D → Option Bool
  | .i, .int k a, .int k' b => if k = k' then some (a == b) else none
  | .s, .str a, .str b => some (decide (a = b))
  | .b, .bool a, .bool b => some (a == b)
  | _, _, _ => none

/-- Scalars of a struct, one by one. -/
def D.eqs : List KK → List D → List D → Option Bool
  | [], [], [] => some true
  | k :: ks, a :: r, b :: s => match keyEq k a b, D.eqs ks r s with
    | some x, some y => some (x && y)
    | _, _ => none
  | _, _, _ => none

def bin (op : BinOp) : V → V → Option V
  | .d (.int k a), .d (.int k' b) => if k = k' then intBin op k a b else none
  | .d (.str a), .d (.str b) => strBin op a b
  | _, _ => none

/-- Comparison of bools. -/
def binB (op : BinOp) : V → V → Option V
  | .d (.bool a), .d (.bool b) => match op with
    | .eql => some (.d (.bool (a == b)))
    | .neq => some (.d (.bool (!(a == b))))
    | _ => none
  | _, _ => none

/-- Where it is not known whether a slice is nil: a bool that is not known. -/
def ubOf : NK → V → Option V
  | .s, .d (.lst []) => some .ub
  | .s, .tl [] none => some .ub
  | _, _ => none
/-- Comparison with the constant nil. -/
def nilBin (k : NK) (op : BinOp) (x : V) : Option V :=
  match op, isNil k x with
  | .eql, some b => some (.d (.bool b))
  | .neq, some b => some (.d (.bool (!b)))
  | .eql, none => ubOf k x
  | .neq, none => ubOf k x
  | _, _ => none

/-- Comparison of structs of scalars. -/
def aggBin (ks : List KK) (op : BinOp) : V → V → Option V
  | .d (.agg a), .d (.agg b) => match op, D.eqs ks a b with
    | .eql, some x => some (.d (.bool x))
    | .neq, some x => some (.d (.bool (!x)))
    | _, _ => none
  | _, _ => none

def un (op : UnOp) : V → Option V
  | .d (.bool b) => match op with
    | .not => some (.d (.bool (!b)))
    | _ => none
  | .d (.int k n) => match op with
    | .neg => some (.d (.int k (k.wrap (0 - n))))
    | _ => none
  | _ => none

def pick (c a b : V) : Option V := match c with
  | .d (.bool c) => some (if c = true then a else b)
  | _ => none

def conv (k : IntKind) : V → Option V
  | .d (.int _ n) => some (.d (.int k (k.wrap n)))
  | _ => none

/-- What is no nil pointer or function. -/
def nilck : V → Option V
  | .ptr n tot i off => some (.ptr n tot i off)
  | .fp x off => some (.fp x off)
  | .clo f caps => some (.clo f caps)
  | _ => none

/-- len of a string -/
def lenS : V → Option V
  | .d (.str s) => some (int s.size)
  | _ => none
/-- len of a slice -/
def lenL : V → Option V
  | .d (.lst l) => some (int l.length)
  | .tl l _ => some (int l.length)
  | .own _ _ _ _ len => some (int len)
  | _ => none

def ixOf : V → Option Nat
  | .d (.int _ i) => if 0 ≤ i then some i.toNat else none
  | _ => none

/-- &x[i] of a slice whose elements have es cells. -/
def ia (es : Nat) (x i : V) : Option V :=
  match x with
  | .d (.lst l) => (ixOf i).bind fun j => (l[j]?).bind fun x => if x.cells.length = es then some (.fp x 0) else none
  | .tl l _ => (ixOf i).bind fun j => (l[j]?).bind fun v => (toD v).bind fun x => if x.cells.length = es then some (.fp x 0) else none
  | .own n e tot off len => (ixOf i).bind fun j => if j < len ∧ e = es then some (.ptr n tot (off + j) 0) else none
  | _ => none

/-- s[i] of a string. -/
def ixS : V → V → Option V
  | .d (.str s), i => (ixOf i).bind fun j => if h : j < s.size then some (.d (.int .u8 (s[j]'h).toNat)) else none
  | _, _ => none

def fa (off : Nat) : V → Option V
  | .fp x o => some (.fp x (o + off))
  | .ptr n tot i o => some (.ptr n tot i (o + off))
  | _ => none

def partD (ag : Bool) (off sz : Nat) (l : List D) : Option D :=
  if ag = true then (if off + sz ≤ l.length then some (.agg ((l.drop off).take sz)) else none) else l[off]?
def partV (ag : Bool) (off sz : Nat) (l : List V) : Option V :=
  if ag = true then (if off + sz ≤ l.length then some (mkAgg ((l.drop off).take sz)) else none) else l[off]?

def fld (ag : Bool) (off sz : Nat) : V → Option V
  | .d (.agg l) => (partD ag off sz l).map .d
  | .agg l => partV ag off sz l
  | _ => none

def bnd (dflt : Nat) : Option V → Option Nat
  | none => some dflt
  | some v => ixOf v

/-- s[lo:hi] of a string -/
def slcS (x : V) (lo hi : Option V) : Option V :=
  match x with
  | .d (.str s) => (bnd s.size hi).bind fun h => (bnd 0 lo).bind fun l => if l ≤ h ∧ h ≤ s.size then some (.d (.str (s.extract l h))) else none
  | _ => none

def allD (es : Nat) (l : List D) : Bool := l.all fun x => x.cells.length == es
def allV (es : Nat) (l : List V) : Bool := l.all fun x => x.cells.length == es

/-- x[lo:hi] of a slice -/
def slc (es : Nat) (x : V) (lo hi : Option V) : Option V :=
  match x with
  | .d (.lst xs) => (bnd xs.length hi).bind fun h => (bnd 0 lo).bind fun l => if l ≤ h ∧ h ≤ xs.length ∧ allD es xs = true then some (.d (.lst ((xs.take h).drop l))) else none
  | .tl xs nl => (bnd xs.length hi).bind fun h => (bnd 0 lo).bind fun l => if l ≤ h ∧ h = xs.length ∧ allV es xs = true then some (.tl (xs.drop l) nl) else none
  | .own n e tot off len => (bnd len hi).bind fun h => (bnd 0 lo).bind fun l => if l ≤ h ∧ h ≤ len ∧ e = es then some (.own n e tot (off + l) (h - l)) else none
  | _ => none

/-- x[lo:hi:hi] of a slice -/
def slc3 (es : Nat) (x : V) (lo hi mx : Option V) : Option V :=
  match x with
  | .d (.lst xs) => (bnd xs.length hi).bind fun h => (bnd 0 lo).bind fun l => (bnd xs.length mx).bind fun m => if l ≤ h ∧ h ≤ xs.length ∧ m = h ∧ allD es xs = true then some (.tl (((xs.take h).drop l).map .d) none) else none
  | .tl xs nl => (bnd xs.length hi).bind fun h => (bnd 0 lo).bind fun l => (bnd xs.length mx).bind fun m => if l ≤ h ∧ h ≤ xs.length ∧ m = h ∧ allV es xs = true then some (.tl ((xs.take h).drop l) nl) else none
  | _ => none

def ext (i : Nat) : V → Option V
  | .tup l => l[i]?
  | _ => none

/-- A struct: cells, over which parts are laid. -/
def lay : List V → List (Nat × Nat × V) → Option (List V)
  | cs, [] => some cs
  | cs, (off, sz, v) :: r => if stor v = true ∧ v.cells.length = sz ∧ off + sz ≤ cs.length then lay (cs.take off ++ v.cells ++ cs.drop (off + sz)) r else none

/-! ## Operations on the heap -/

def ld (ag : Bool) (sz : Nat) (h : Hp) : V → Option V
  | .fp x off => (partD ag off sz x.cells).map .d
  | .ptr n tot i off => (h.row n tot).bind fun r => (r.2[i]?).bind fun e =>
      if ag = true ∧ off = 0 ∧ sz = r.1 then (match e with
        | .d (.agg _) => some e
        | .agg _ => some e
        | _ => partV ag off sz e.cells)
      else partV ag off sz e.cells
  | _ => none

def st (sz : Nat) (h : Hp) (a x : V) : Option Hp :=
  match a with
  | .ptr n tot i off => (h.row n tot).bind fun r => (r.2[i]?).bind fun e =>
      if stor x = true ∧ x.cells.length = sz then
        (if off = 0 ∧ sz = r.1 then some (h.set n (.arr r.1 (r.2.set i x)))
        else if off + sz ≤ e.cells.length ∧ r.1 ≠ 1 then some (h.set n (.arr r.1 (r.2.set i (mkAgg (e.cells.take off ++ x.cells ++ e.cells.drop (off + sz)))))) else none)
      else none
  | _ => none

/-- The elements of a slice. -/
def elems (h : Hp) : V → Option (List V)
  | .d (.lst l) => some (l.map .d)
  | .tl l _ => some l
  | .own n _ tot off len => (h.row n tot).bind fun r => if off + len ≤ r.2.length then some ((r.2.drop off).take len) else none
  | _ => none

def roomB : Nat := 2 ^ 47

/-- append(s, xs...) of elements of es cells and by bytes. -/
def app (es by_ : Nat) (h : Hp) (s x : V) : Option (V × Hp) :=
  (elems h x).bind fun xs0 =>
    let xs := xs0.map norm
    if allV es xs0 = true then
    match s with
    | .tl l nl => if xs.isEmpty then some (.tl l nl, h) else
        if (l.length + xs.length) * by_ ≤ roomB ∧ allV es l = true then some (.own h.next es (l.length + xs.length) 0 (l.length + xs.length), h.alloc (.arr es (l ++ xs))) else none
    | .own n e tot off len => (h.row n tot).bind fun r =>
        if r.1 = es ∧ e = es ∧ off + len ≤ r.2.length then
          (if xs.isEmpty then some (s, h) else
           if off + len + xs.length ≤ tot then some (.own n es tot off (len + xs.length), h.set n (.arr es (r.2.take (off + len) ++ xs ++ r.2.drop (off + len + xs.length)))) else
           if (len + xs.length) * by_ ≤ roomB then
             (if off = 0 then some (.own n es (len + xs.length) 0 (len + xs.length), h.set n (.arr es (r.2.take len ++ xs)))
              else some (.own h.next es (len + xs.length) 0 (len + xs.length), (h.kill n).alloc (.arr es ((r.2.drop off).take len ++ xs))))
           else none)
        else none
    | .d (.lst l) => if xs.isEmpty then some (.d (.lst l), h) else none
    | _ => none
    else none

/-- append onto a tight row, of data alone: what comes is data. -/
def elems0 : V → Option (List V)
  | .d (.lst l) => some (l.map .d)
  | .tl l _ => some l
  | _ => none
def appd (es by_ : Nat) (s x : V) : Option V := match s with
  | .tl l nl => (elems0 x).bind fun xs =>
      if allV es xs = true then
        (if (xs.map norm).isEmpty then (toD (.tl l nl)).map .d
         else if (l.length + (xs.map norm).length) * by_ ≤ roomB ∧ allV es l = true then (toDs (l ++ xs.map norm)).map fun ds => .d (.lst ds) else none)
      else none
  | _ => none

/-- copy(d, s) -/
def cpy (es : Nat) (h : Hp) (s x : V) : Option (V × Hp) :=
  (elems h x).bind fun xs => if allV es xs = true then
    (match s with
    | .own n e tot off len => (h.row n tot).bind fun r =>
        if off + len ≤ r.2.length ∧ r.1 = es ∧ e = es then
          some (int ((min xs.length len : Nat) : Int), h.set n (.arr r.1 (r.2.take off ++ xs.take (min xs.length len) ++ r.2.drop (off + min xs.length len))))
        else none
    | .tl [] _ => some (int 0, h)
    | _ => none) else none

def mkslO (z : V) (es by_ : Nat) (h : Hp) (n : V) : Option (V × Hp) :=
  (ixOf n).bind fun k => if k * by_ ≤ roomB ∧ k < 2 ^ 62 then some (.own h.next es k 0 k, h.alloc (.arr es (List.replicate k z))) else none
def mkslT (z : V) (by_ : Nat) (n : V) : Option V :=
  (ixOf n).bind fun k => if k * by_ ≤ roomB ∧ k < 2 ^ 62 then some (.tl (List.replicate k z) (some false)) else none

def findK (kk : KK) (k : D) : List (D × V) → Option (Option V)
  | [] => some none
  | (q, v) :: r => match keyEq kk k q with
    | some true => some (some v)
    | some false => findK kk k r
    | none => none
def putK (kk : KK) (k : D) (x : V) : List (D × V) → Option (List (D × V))
  | [] => some [(k, x)]
  | (q, v) :: r => match keyEq kk k q with
    | some true => some ((k, x) :: r)
    | some false => (putK kk k x r).map fun s => (q, v) :: s
    | none => none
def entries (h : Hp) : V → Option (List (D × V))
  | .map n => match h.get n with
    | some (.mp kvs) => some kvs
    | _ => none
  | .d .nilm => some []
  | _ => none
def lk (kk : KK) (z : V) (ok : Bool) (h : Hp) (m k : V) : Option V :=
  match k with
  | .d k => (entries h m).bind fun kvs => (findK kk k kvs).map fun r =>
      if ok = true then .tup [r.getD z, .d (.bool r.isSome)] else r.getD z
  | _ => none
def mu (kk : KK) (h : Hp) (m k x : V) : Option Hp :=
  match m, k with
  | .map n, .d k => match h.get n with
    | some (.mp kvs) => if stor x = true then (putK kk k (norm x) kvs).map fun s => h.set n (.mp s) else none
    | _ => none
  | _, _ => none

/-- cap of a tight row -/
def capT : V → Option V
  | .tl l _ => some (int l.length)
  | _ => none
/-- append(nothing, make(..)...) -/
def appz (z : V) (es by_ : Nat) (h : Hp) (s n : V) : Option (V × Hp) := match s with
  | .tl [] nl => (ixOf n).bind fun k => if k * by_ ≤ roomB ∧ k < 2 ^ 62 then (if k = 0 then some (.tl [] nl, h) else some (.own h.next es k 0 k, h.alloc (.arr es (List.replicate k z)))) else none
  | _ => none

/-! ## Operations, regions, code -/

inductive AOp where
  | mv (x : Opd)
  | pick (c a b : Opd)
  | alloc (es : Nat) (z : V)
  | box (es : Nat) (x : Opd)
  | build (z : List V) (parts : List (Nat × Nat × Opd))
  | bsl (es : Nat) (xs : List Opd)
  | bslO (es : Nat) (xs : List Opd)
  | ld (ag : Bool) (sz : Nat) (a : Opd)
  | st (sz : Nat) (a x : Opd)
  | nilck (x : Opd)
  | bin (op : BinOp) (x y : Opd)
  | binB (op : BinOp) (x y : Opd)
  | nilBin (k : NK) (op : BinOp) (x : Opd)
  | aggBin (ks : List KK) (op : BinOp) (x y : Opd)
  | un (op : UnOp) (x : Opd)
  | conv (k : IntKind) (x : Opd)
  | mkf (f : Nat) (caps : List Opd)
  | mkmap
  | mksl (z : V) (es by_ : Nat) (n : Opd)
  | mkslT (z : V) (by_ : Nat) (n : Opd)
  | slcS (x : Opd) (lo hi : Option Opd)
  | slc (es : Nat) (x : Opd) (lo hi : Option Opd)
  | slc3 (es : Nat) (x : Opd) (lo hi mx : Option Opd)
  | fa (off : Nat) (x : Opd)
  | fld (ag : Bool) (off sz : Nat) (x : Opd)
  | ia (es : Nat) (x i : Opd)
  | ixS (x i : Opd)
  | lk (kk : KK) (z : V) (ok : Bool) (m k : Opd)
  | mu (kk : KK) (m k x : Opd)
  | lenS (x : Opd)
  | lenL (x : Opd)
  | lenM (x : Opd)
  | app (es by_ : Nat) (s x : Opd)
  | cpy (es : Nat) (s x : Opd)
  | ext (i : Nat) (x : Opd)
  | call (f : Opd) (nm : List Bool) (xs : List Opd)
  | ldf (ag : Bool) (sz : Nat) (a : Opd)
  | appn (es by_ : Nat) (s x : Opd)
  | appf (es by_ : Nat) (s x : Opd)
  | appd (es by_ : Nat) (s x : Opd)
  | appz (z : V) (es by_ : Nat) (s n : Opd)
  | capT (x : Opd)
  | stuck
  | ldk (k : Opd) (ag : Bool) (sz : Nat) (a : Opd)
  | callk (k f : Opd) (nm : List Bool) (xs : List Opd)
  | callz (k f : Opd) (nm : List Bool) (xs : List Opd)
  | calln (f : Opd) (nm : List Bool) (xs : List Opd)
  | callf (f : Opd) (nm : List Bool) (xs : List Opd)
  | stk (k : Opd) (sz : Nat) (a x : Opd)
  | mkif (t : Nat) (x : Opd)
  | tas (t : Nat) (x : Opd)
  | pnc (x : Opd)
  deriving Inhabited

abbrev Cf := V → List V → Hp → Option (V × Hp)

def normArgs : List Bool → List V → List V
  | b :: bs, v :: vs => (if b = true then norm v else v) :: normArgs bs vs
  | [], vs => vs
  | _, [] => []

def pureV (h : Hp) (x : Option V) : Option (V × Hp) := x.map fun v => (v, h)

/-- len of a map -/
def lenM (h : Hp) (x : V) : Option V := (entries h x).map fun kvs => int kvs.length

mutual
def D.beq : D → D → Bool
  | .bool a, .bool b => a == b
  | .int k a, .int k' b => decide (k = k') && a == b
  | .str a, .str b => decide (a = b)
  | .nilp, .nilp => true
  | .nilf, .nilf => true
  | .nilm, .nilm => true
  | .lst a, .lst b => D.beqs a b
  | .agg a, .agg b => D.beqs a b
  | _, _ => false
def D.beqs : List D → List D → Bool
  | [], [] => true
  | a :: r, b :: s => D.beq a b && D.beqs r s
  | _, _ => false
end

mutual
def V.beq : V → V → Bool
  | .d a, .d b => D.beq a b
  | .tl a n, .tl b m => V.beqs a b && n == m
  | .own a b c e f, .own a' b' c' e' f' => a == a' && b == b' && c == c' && e == e' && f == f'
  | .ptr a b c e, .ptr a' b' c' e' => a == a' && b == b' && c == c' && e == e'
  | .fp x o, .fp y p => D.beq x y && o == p
  | .clo f a, .clo g b => f == g && V.beqs a b
  | .agg a, .agg b => V.beqs a b
  | .tup a, .tup b => V.beqs a b
  | .map a, .map b => a == b
  | .yld a, .yld b => a == b
  | .ub, .ub => true
  | .undef, .undef => true
  | .ifc t a, .ifc u b => t == u && D.beq a b
  | .nif, .nif => true
  | .pan t a, .pan u b => t == u && D.beq a b
  | _, _ => false
def V.beqs : List V → List V → Bool
  | [], [] => true
  | a :: r, b :: s => V.beq a b && V.beqs r s
  | _, _ => false
end

def kvsBeq : List (D × V) → List (D × V) → Bool
  | [], [] => true
  | (a, v) :: r, (b, w) :: s => D.beq a b && V.beq v w && kvsBeq r s
  | _, _ => false
def envBeq : List (Nat × V) → List (Nat × V) → Bool
  | [], [] => true
  | (a, v) :: r, (b, w) :: s => a == b && V.beq v w && envBeq r s
  | _, _ => false
def Ob.beq : Ob → Ob → Bool
  | .arr e l, .arr f m => e == f && V.beqs l m
  | .mp a, .mp b => kvsBeq a b
  | .lp a e s, .lp b f t => a == b && envBeq e f && decide (s = t)
  | _, _ => false
def objsBeq : List (Nat × Ob) → List (Nat × Ob) → Bool
  | [], [] => true
  | (n, a) :: r, (m, b) :: s => n == m && Ob.beq a b && objsBeq r s
  | _, _ => false

/-- Loads through what stays as it is. -/
def ldf (ag : Bool) (sz : Nat) (h : Hp) (a : V) : Option V := match a with
  | .fp _ _ => ld ag sz h a
  | _ => none
/-- A load out of the object that a variable leads to. -/
def ldk (ag : Bool) (sz : Nat) (h : Hp) (k a : V) : Option V := match k, a with
  | .ptr n _ _ _, .ptr m _ _ _ => if n = m then ld ag sz h a else none
  | _, _ => none
/-- Is the object that a value leads to, if it does to one, as it was? -/
def sameAt (h h' : Hp) : V → Bool
  | .ptr n _ _ _ => match h.get n, h'.get n with
    | some a, some b => Ob.beq a b
    | _, _ => false
  | _ => true
/-- append onto a tight row. -/
def appn (es by_ : Nat) (h : Hp) (s x : V) : Option (V × Hp) := match s with
  | .tl _ _ => app es by_ h s x
  | _ => none
/-- The panic that a result is. -/
def isPan : V → Option (Nat × D)
  | .pan t x => some (t, x)
  | _ => none
/-- What is no panic. -/
def np : Option (V × Hp) → Option (V × Hp)
  | some (.pan _ _, _) => none
  | r => r
def mkif (t : Nat) (x : V) : Option V := (toD x).map (.ifc t)
def tas (t : Nat) : V → Option V
  | .ifc u y => if u = t then some (.tup [.d y, .d (.bool true)]) else none
  | _ => none
def pnc : V → Option V
  | .ifc t y => some (.pan t y)
  | _ => none
/-- A call that leaves the heap as it is. -/
def quiet (h : Hp) (r : V × Hp) : Option (V × Hp) := if objsBeq h.objs r.2.objs = true ∧ h.next = r.2.next then some (r.1, h) else none

/-- A row that is held no more, as data. -/
def frz (h : Hp) : V → Option (V × Hp)
  | .own n _ tot off len => (h.row n tot).bind fun r => if off + len ≤ r.2.length then (toDs ((r.2.drop off).take len)).map fun l => (.d (.lst l), h.kill n) else none
  | .ptr n tot i off => (h.row n tot).bind fun r => (r.2[i]?).map fun e => match toD e with
    | some x => (.fp x off, h.kill n)
    | none => (.ptr n tot i off, h)
  | v => (toD v).map fun x => (.d x, h)

/-- Values of a list, frozen one after the other. -/
def frzs : List V → Hp → Option (List D × Hp)
  | [], h => some ([], h)
  | v :: r, h => (frz h v).bind fun q => match q.1 with
    | .d x => (frzs r q.2).map fun s => (x :: s.1, s.2)
    | _ => none
/-- A variable that is held no more, with the rows that it holds, as data. -/
def fzd (h : Hp) : V → Option (V × Hp)
  | .ptr n tot i off => (h.row n tot).bind fun r => (r.2[i]?).bind fun e => match e with
    | .d x => some (.fp x off, h.kill n)
    | .agg l => (frzs l h).bind fun s => if sameAt h s.2 (.ptr n tot i off) = true then some (.fp (.agg s.1) off, s.2.kill n) else none
    | _ => none
  | _ => none

def opX (cf : Cf) (e : Env) (h : Hp) : AOp → Option (V × Hp)
  | .mv x => some (e.ev x, h)
  | .pick c a b => pureV h (pick (e.ev c) (e.ev a) (e.ev b))
  | .alloc es z => some (.ptr h.next 1 0 0, h.alloc (.arr es [z]))
  | .box es x => if stor (e.ev x) = true ∧ (e.ev x).cells.length = es then some (.ptr h.next 1 0 0, h.alloc (.arr es [e.ev x])) else none
  | .build z ps => pureV h ((lay z (ps.map fun p => (p.1, p.2.1, e.ev p.2.2))).map mkAgg)
  | .bsl es xs => if (xs.map e.ev).all (fun v => stor v && v.cells.length == es) then some (.tl (xs.map fun x => norm (e.ev x)) (some false), h) else none
  | .bslO es xs => if (xs.map e.ev).all (fun v => stor v && v.cells.length == es) then some (.own h.next es xs.length 0 xs.length, h.alloc (.arr es (xs.map fun x => norm (e.ev x)))) else none
  | .ld ag sz a => pureV h (ld ag sz h (e.ev a))
  | .st sz a x => (st sz h (e.ev a) (e.ev x)).map fun h' => (.tup [], h')
  | .nilck x => pureV h (nilck (e.ev x))
  | .bin op x y => pureV h (bin op (e.ev x) (e.ev y))
  | .binB op x y => pureV h (binB op (e.ev x) (e.ev y))
  | .nilBin k op x => pureV h (nilBin k op (e.ev x))
  | .aggBin ks op x y => pureV h (aggBin ks op (e.ev x) (e.ev y))
  | .un op x => pureV h (un op (e.ev x))
  | .conv k x => pureV h (conv k (e.ev x))
  | .mkf f caps => some (.clo f (caps.map e.ev), h)
  | .mkmap => some (.map h.next, h.alloc (.mp []))
  | .mksl z es b n => mkslO z es b h (e.ev n)
  | .mkslT z b n => pureV h (mkslT z b (e.ev n))
  | .slcS x lo hi => pureV h (slcS (e.ev x) (lo.map e.ev) (hi.map e.ev))
  | .slc es x lo hi => pureV h (slc es (e.ev x) (lo.map e.ev) (hi.map e.ev))
  | .slc3 es x lo hi mx => pureV h (slc3 es (e.ev x) (lo.map e.ev) (hi.map e.ev) (mx.map e.ev))
  | .fa off x => pureV h (fa off (e.ev x))
  | .fld ag off sz x => pureV h (fld ag off sz (e.ev x))
  | .ia es x i => pureV h (ia es (e.ev x) (e.ev i))
  | .ixS x i => pureV h (ixS (e.ev x) (e.ev i))
  | .lk kk z ok m k => pureV h (lk kk z ok h (e.ev m) (e.ev k))
  | .mu kk m k x => (mu kk h (e.ev m) (e.ev k) (e.ev x)).map fun h' => (.tup [], h')
  | .lenS x => pureV h (lenS (e.ev x))
  | .lenL x => pureV h (lenL (e.ev x))
  | .lenM x => pureV h (lenM h (e.ev x))
  | .app es b s x => app es b h (e.ev s) (e.ev x)
  | .cpy es s x => cpy es h (e.ev s) (e.ev x)
  | .ext i x => pureV h (ext i (e.ev x))
  | .call f nm xs => cf (e.ev f) (normArgs nm (xs.map e.ev)) h
  | .ldf ag sz a => pureV h (ldf ag sz h (e.ev a))
  | .appn es b s x => appn es b h (e.ev s) (e.ev x)
  | .appf es b s x => (app es b h (e.ev s) (e.ev x)).bind fun r => frz r.2 r.1
  | .appd es b s x => pureV h (appd es b (e.ev s) (e.ev x))
  | .appz z es b s n => appz z es b h (e.ev s) (e.ev n)
  | .capT x => pureV h (capT (e.ev x))
  | .stuck => none
  | .ldk k ag sz a => pureV h (ldk ag sz h (e.ev k) (e.ev a))
  | .callk k f nm xs => (cf (e.ev f) (normArgs nm (xs.map e.ev)) h).bind fun r => if sameAt h r.2 (e.ev k) = true then some r else none
  | .callz k f nm xs => (cf (e.ev f) (normArgs nm (xs.map e.ev)) h).bind fun r => (frz r.2 r.1).bind fun q => if sameAt h q.2 (e.ev k) = true then some q else none
  | .calln f nm xs => (np (cf (e.ev f) (normArgs nm (xs.map e.ev)) h)).bind (quiet h)
  | .callf f nm xs => (cf (e.ev f) (normArgs nm (xs.map e.ev)) h).bind fun r => frz r.2 r.1
  | .stk k sz a x => (st sz h (e.ev a) (e.ev x)).bind fun h' => if sameAt h h' (e.ev k) = true then some (.tup [], h') else none
  | .mkif t x => pureV h (mkif t (e.ev x))
  | .tas t x => pureV h (tas t (e.ev x))
  | .pnc x => pureV h (pnc (e.ev x))

/-- Deep reading as data: through rows from name n0 on. -/
def deep (h : Hp) (n0 : Nat) : Nat → V → Option D
  | 0, _ => none
  | k + 1, v => match v with
    | .d x => some x
    | .tl l _ => (l.mapM (deep h n0 k)).map .lst
    | .agg l => (l.mapM (deep h n0 k)).map .agg
    | .own n _ tot off len => if n0 ≤ n then (h.row n tot).bind fun r => if off + len ≤ r.2.length then (((r.2.drop off).take len).mapM (deep h n0 k)).map .lst else none else none
    | _ => none

inductive It where
  | o (dst : Option Nat) (op : AOp) (g : Option (Nat × Bool))
  | frz (t : Nat)
  | fzd (t : Nat)
  | kill (t : Nat)
  deriving Inhabited

/-- Is a guarded operation wanted? -/
def want (e : Env) : Option (Nat × Bool) → Option Bool
  | none => some true
  | some (t, b) => match e.get t with
    | .d (.bool c) => some (c == b)
    | .tup [] => some false
    | _ => none

def itX (cf : Cf) (e : Env) (h : Hp) : It → Option (Env × Hp)
  | .o dst op g => (want e g).bind fun w =>
      if w = true then (np (opX cf e h op)).map fun r => (e.putO dst r.1, r.2) else some (e.putO dst (.tup []), h)
  | .frz t => (frz h (e.get t)).map fun r => (e.put t r.1, r.2)
  | .fzd t => (fzd h (e.get t)).map fun r => (e.put t r.1, r.2)
  | .kill t => match e.get t with
      | .ptr n _ _ _ => some (e.put t .undef, h.kill n)
      | .own n _ _ _ _ => some (e.put t .undef, h.kill n)
      | _ => some (e.put t .undef, h)

def itsX (cf : Cf) : List It → Env → Hp → Option (Env × Hp)
  | [], e, h => some (e, h)
  | i :: r, e, h => (itX cf e h i).bind fun s => itsX cf r s.1 s.2

/-- What may panic. -/
def opP : AOp → Bool
  | .call _ _ _ => true
  | .callk (.t _) _ _ _ => true
  | .pnc _ => true
  | _ => false
/-- The panic that an operation's result is. -/
def panF (op : AOp) (v : V) : Option (Option (Nat × D)) := match isPan v with
  | none => some none
  | some p => if opP op = true then some (some p) else none
/-- One item, with the panic that it ends in. -/
def itP (cf : Cf) (e : Env) (h : Hp) : It → Option (Option (Nat × D) × Env × Hp)
  | .o dst op g => (want e g).bind fun w =>
      if w = true then (opX cf e h op).bind fun r => (panF op r.1).map fun p => (p, e.putO dst r.1, r.2) else some (none, e.putO dst (.tup []), h)
  | .frz t => (itX cf e h (.frz t)).map fun s => (none, s.1, s.2)
  | .fzd t => (itX cf e h (.fzd t)).map fun s => (none, s.1, s.2)
  | .kill t => (itX cf e h (.kill t)).map fun s => (none, s.1, s.2)
/-- Items, up to a panic. -/
def itsP (cf : Cf) : List It → Env → Hp → Option (Option (Nat × D) × Env × Hp)
  | [], e, h => some (none, e, h)
  | i :: r, e, h => (itP cf e h i).bind fun s => match s.1 with
      | some p => some (some p, e, s.2.2)
      | none => itsP cf r s.2.1 s.2.2

inductive AC where
  | skip
  | reg (its : List It) (keep : Option (List Nat))
  | seq (a b : AC)
  | cond (c : Opd) (a b : AC)
  | blk (id : Nat) (a : AC)
  | loop (a : AC)
  | exit (id : Nat)
  | ret
  | rng (g : Opd) (b : Nat)
  | amb (p : AC) (c : Opd) (a b r : AC)
  | dfr (its : List It) (keep : Option (List Nat)) (f : Opd) (xs : List Opd) (rest : AC)
  | rcv (d d2 : Nat) (keep : Option (List Nat)) (rest : AC)
  deriving Inhabited

abbrev Out := Ex × Env × Hp
abbrev Bf := Env → Hp → Option Out

def keepE : Option (List Nat) → Env → Env
  | none, e => e
  | some l, e => e.keep l

/-- Where a panic is noted. -/
def PK : Nat := 1000000007
/-- What items set. -/
def dstsI : List It → List Nat
  | [] => []
  | .o (some d) _ _ :: r => d :: dstsI r
  | .o none _ _ :: r => dstsI r
  | .frz _ :: r => dstsI r
  | .fzd _ :: r => dstsI r
  | .kill _ :: r => dstsI r
/-- What is known behind a panic: what was known ahead of the region, but for what its items set. -/
def keepP (its : List It) (kp : Option (List Nat)) (e : Env) : Env := match kp with
  | none => []
  | some l => (l.filter fun t => !(dstsI its).contains t).map fun t => (t, e.get t)
/-- Behind a region's items. -/
def regE (its : List It) (kp : Option (List Nat)) (e : Env) (r : Option (Nat × D) × Env × Hp) : Out := match r.1 with
  | some p => (.pan, (PK, .pan p.1 p.2) :: keepP its kp e, r.2.2)
  | none => (.norm, keepE kp r.2.1, r.2.2)

def condB : V → Option Bool
  | .d (.bool b) => some b
  | _ => none

/-- What follows, where nothing has left the code. -/
def nxt (k : Bf) (o : Out) : Option Out := match o.1 with
  | .norm => k o.2.1 o.2.2
  | _ => some o

/-- What both ways come to: the same, but for whether an empty slice is nil. -/
def joinV (a b : V) : Option V := if V.beq a b = true then some a else match a, b with
  | .tl [] _, .tl [] _ => some (.tl [] none)
  | _, _ => none
def joinE : List (Nat × V) → List (Nat × V) → Option (List (Nat × V))
  | [], [] => some []
  | (t, a) :: r, (u, b) :: s => if t = u then (joinV a b).bind fun v => (joinE r s).map ((t, v) :: ·) else none
  | _, _ => none
def outJoin (o q : Out) : Option Out := if o.1 = q.1 ∧ o.1 ≠ .pan ∧ objsBeq o.2.2.objs q.2.2.objs = true ∧ o.2.2.next = q.2.2.next then (joinE o.2.1 q.2.1).map fun e => (o.1, e, o.2.2) else none

/-- A test that may be of an unknown bool, and what follows it: both ways end alike. -/
def ambB (c : Opd) (A B R : Bf) : Bf := fun e h => match e.ev c with
  | .ub => ((A e h).bind (nxt R)).bind fun o => ((B e h).bind (nxt R)).bind fun q => outJoin o q
  | v => (condB v).bind fun t => if t = true then (A e h).bind (nxt R) else (B e h).bind (nxt R)

def isClo : V → Bool
  | .clo _ _ => true
  | _ => false

/-- Behind a range over a function: how it is left. -/
def rngEnd (e : Env) (h : Hp) (n : Nat) : Option Out := match h.get n with
  | some (.lp _ _ none) => some (.norm, e, h.kill n)
  | some (.lp _ _ (some (.exit i))) => some (.exit i, e, h.kill n)
  | some (.lp _ _ (some .ret)) => some (.ret, e, h.kill n)
  | _ => none

def exec (lp : Bf → Bf) (cf : Cf) : AC → Bf
  | .skip, e, h => some (.norm, e, h)
  | .reg its kp, e, h => (itsP cf its e h).map (regE its kp e)
  | .seq a b, e, h => (exec lp cf a e h).bind (nxt (exec lp cf b))
  | .cond c a b, e, h => (condB (e.ev c)).bind fun t => if t = true then exec lp cf a e h else exec lp cf b e h
  | .blk id a, e, h => (exec lp cf a e h).map fun o => (if o.1 = .exit id then .norm else o.1, o.2)
  | .loop a, e, h => lp (exec lp cf a) e h
  | .exit id, e, h => some (.exit id, e, h)
  | .ret, e, h => some (.ret, e, h)
  | .amb p c a b r, e, h => (exec lp cf p e h).bind (nxt (ambB c (exec lp cf a) (exec lp cf b) (exec lp cf r)))
  | .rng g b, e, h => if isClo (e.ev g) = true then (np (cf (e.ev g) [.yld h.next] (h.alloc (.lp b e none)))).bind fun r => rngEnd e r.2 h.next else none
  | .dfr _ _ _ _ _, _, _ => none
  | .rcv _ _ _ _, _, _ => none

def loopN (f : Bf) : Nat → Bf
  | 0, _, _ => none
  | n + 1, e, h => (f e h).bind (nxt (loopN f n))

structure AF where
  np : Nat
  res : List (Nat × Option (Bool × Nat))
  scp : Bool
  body : AC
  deriving Inhabited

/-- Does a value lead to old objects alone? -/
def old (n0 : Nat) : V → Bool
  | .ptr n _ _ _ => decide (n < n0)
  | .own n _ _ _ _ => decide (n < n0)
  | .map n => decide (n < n0)
  | .yld n => decide (n < n0)
  | _ => false

def back1 (h : Hp) (n0 : Nat) (v : V) : Option V :=
  match deep h n0 8 v with
  | some x => some (.d x)
  | none => if old n0 v = true then some v else none

def resV : List V → V
  | [v] => v
  | l => .tup l

/-- The heap ends in the one that was there before. -/
def sufOk (base l : List (Nat × Ob)) : Bool := objsBeq base (l.drop (l.length - base.length))

/-- The results: variables, or what lies where a variable leads to. -/
def resL (e : Env) (h : Hp) : List (Nat × Option (Bool × Nat)) → Option (List V)
  | [] => some []
  | (t, none) :: r => (resL e h r).map (e.get t :: ·)
  | (t, some (ag, sz)) :: r => (ld ag sz h (e.get t)).bind fun v => (resL e h r).map (v :: ·)

def finish (fn : AF) (h0 : Hp) (e : Env) (h : Hp) : Option (V × Hp) :=
  (resL e h fn.res).bind fun vs =>
  if fn.scp = true then
    (if sufOk h0.objs h.objs = true then (vs.mapM (back1 h h0.next)).map fun l => (resV l, h0) else none)
  else some (resV vs, h)

/-- A function that panics: its new objects are gone. -/
def finP (fn : AF) (h0 : Hp) (e : Env) (h : Hp) : Option (V × Hp) := match e with
  | (_, .pan t y) :: _ => if fn.scp = true then (if sufOk h0.objs h.objs = true then some (.pan t y, h0) else none) else some (.pan t y, h)
  | _ => none

def args : Nat → List V → Env
  | _, [] => []
  | i, v :: r => (i, v) :: args (i + 1) r

abbrev Tab := Nat → Option AF

/-- The strings of a list, one behind the other, with one between them. -/
def joinL : List ByteArray → ByteArray → ByteArray
  | [], _ => ⟨#[]⟩
  | [x], _ => x
  | x :: y :: r, s => x ++ s ++ joinL (y :: r) s
def strsD : List D → Option (List ByteArray)
  | [] => some []
  | .str s :: r => (strsD r).map (s :: ·)
  | _ :: _ => none
/-- Functions that are given by what they return, not by code: of data, data. 0: strings.Join. -/
def prim : Nat → List D → Option D
  | 0, [.lst l, .str s] => (strsD l).bind fun xs => if xs.length ≤ 1048576 ∧ (joinL xs s).size ≤ 281474976710656 then some (.str (joinL xs s)) else none
  | _, _ => none
def primC (k : Nat) (vs : List V) (h : Hp) : Option (V × Hp) := (vs.mapM (deep h 0 8)).bind fun ds => (prim k ds).map fun y => (.d y, h)
/-- A body that is no code bears the function's number. -/
def isPr : AC → Option Nat
  | .exit k => some k
  | _ => none

/-- The number of the call of a yield; where the rounds' code lies in a table. -/
def YF : Nat := 1000000000
def RB : Nat := 1000000

def binds : List Nat → List V → Env → Env
  | p :: ps, v :: vs, e => binds ps vs ((p, v) :: e)
  | _, _, e => e

/-- Behind a round: what is noted, what yield hands back. -/
def rndEnd (n : Nat) (o : Out) : Option (V × Hp) := match o.2.2.get n with
  | some (.lp b e (some .norm)) => if o.1 = .pan then none else some (bool (decide (o.1 = .norm)), o.2.2.set n (.lp b e (if o.1 = .norm then none else some o.1)))
  | _ => none

/-- A round of the loop with record n. -/
def rnd (T : Tab) (lp : Bf → Bf) (cf : Cf) (n : Nat) (vs : List V) (h : Hp) : Option (V × Hp) := match h.get n with
  | some (.lp b e none) => (T (RB + b)).bind fun fn => match fn.body with
    | .seq asg bdy => if vs.length = fn.np then (exec lp cf asg (binds (fn.res.map (·.1)) vs e) h).bind fun o => match o.1, o.2.2.get n with
        | .norm, some (.lp b' e' none) => (exec lp cf bdy o.2.1 (o.2.2.set n (.lp b' e' (some .norm)))).bind (rndEnd n)
        | _, _ => none
      else none
    | _ => none
  | _ => none

/-! Deferred calls. -/
abbrev Pn := Option (Nat × D)
abbrev Cd := V → List V → Pn → Hp → Option (Pn × Hp)
def ifcOf : Pn → V
  | none => .nif
  | some p => .ifc p.1 p.2
/-- Code without a range over a function. -/
def noRng : AC → Bool
  | .seq a b => noRng a && noRng b
  | .cond _ a b => noRng a && noRng b
  | .blk _ a => noRng a
  | .loop a => noRng a
  | .rng _ _ => false
  | .amb p _ a b r => noRng p && noRng a && noRng b && noRng r
  | _ => true
def noDfr : AC → Bool
  | .seq _ b => noDfr b
  | .dfr _ _ _ _ _ => false
  | _ => true
/-- Behind a deferred function's code. -/
def dEnd (fn : AF) (h0 : Hp) (p : Pn) (o : Out) : Option (Pn × Hp) := match o.1 with
  | .norm => (finish fn h0 o.2.1 o.2.2).map fun r => (p, r.2)
  | .ret => (finish fn h0 o.2.1 o.2.2).map fun r => (p, r.2)
  | _ => none
/-- A deferred call, where the frame below panics or not: does it still, and the heap. -/
def dcall (T : Tab) (lp : Bf → Bf) (cf : Cf) : Cd := fun f vs p h => match f with
  | .clo fid caps => if fid < RB then (T fid).bind fun fn => if (vs ++ caps).length = fn.np then (match fn.body with
      | .rcv d d2 kp rest => if noRng rest = true then (exec lp cf rest (keepE kp ((d2, ifcOf p) :: (d, ifcOf p) :: args 0 (vs ++ caps))) h).bind (dEnd fn h none) else none
      | b => if noRng b = true ∧ noDfr b = true then (exec lp cf b (args 0 (vs ++ caps)) h).bind (dEnd fn h p) else none) else none else none
  | _ => none
/-- Behind the code that follows a defer statement. -/
def dfrEnd (cd : Cd) (f : V) (vs : List V) (o : Out) : Option Out := match o with
  | (.norm, e, h) => (cd f vs none h).bind fun r => match r.1 with
      | none => some (.ret, e, r.2)
      | some _ => none
  | (.ret, e, h) => (cd f vs none h).bind fun r => match r.1 with
      | none => some (.ret, e, r.2)
      | some _ => none
  | (.pan, (_, .pan t y) :: e, h) => (cd f vs (some (t, y)) h).map fun r => match r.1 with
      | none => (.ret, e, r.2)
      | some p => (.pan, (PK, .pan p.1 p.2) :: e, r.2)
  | _ => none
/-- The code of a function, with its defer statements. -/
def bodyX (lp : Bf → Bf) (cf : Cf) (cd : Cd) : AC → Bf
  | .seq a b, e, h => (exec lp cf a e h).bind (nxt (bodyX lp cf cd b))
  | .dfr its kp f xs rest, e, h => (itsP cf its e h).bind fun s => match s.1 with
      | some _ => none
      | none => (bodyX lp cf cd rest (keepE kp s.2.1) s.2.2).bind (dfrEnd cd (s.2.1.ev f) (xs.map s.2.1.ev))
  | .skip, e, h => exec lp cf .skip e h
  | .reg its kp, e, h => exec lp cf (.reg its kp) e h
  | .cond c a b, e, h => exec lp cf (.cond c a b) e h
  | .blk i a, e, h => exec lp cf (.blk i a) e h
  | .loop a, e, h => exec lp cf (.loop a) e h
  | .exit i, e, h => exec lp cf (.exit i) e h
  | .ret, e, h => exec lp cf .ret e h
  | .rng g b, e, h => exec lp cf (.rng g b) e h
  | .amb p c a b r, e, h => exec lp cf (.amb p c a b r) e h
  | .rcv d d2 kp r, e, h => exec lp cf (.rcv d d2 kp r) e h
/-- Behind a function's code. -/
def bEnd (fn : AF) (h0 : Hp) (o : Out) : Option (V × Hp) := match o.1 with
  | .exit _ => none
  | .pan => finP fn h0 o.2.1 o.2.2
  | _ => finish fn h0 o.2.1 o.2.2

def body (T : Tab) (lp : Bf → Bf) (cf : Cf) (f : Nat) (vs : List V) (h : Hp) : Option (V × Hp) :=
  if f = YF then (match vs with
    | .yld n :: r => rnd T lp cf n r h
    | _ => none) else
  if f < RB then (T f).bind fun fn => if vs.length = fn.np then (match isPr fn.body with
    | some k => primC k vs h
    | none => (bodyX lp cf (dcall T lp cf) fn.body (args 0 vs) h).bind (bEnd fn h)) else none
  else none

def callee : (Nat → List V → Hp → Option (V × Hp)) → Cf
  | c, .clo f caps, vs, h => if f = YF then none else c f (vs ++ caps) h
  | c, .yld n, vs, h => c YF (.yld n :: vs) h
  | _, _, _, _ => none

def callK (T : Tab) : Nat → Nat → List V → Hp → Option (V × Hp)
  | 0, _, _, _ => none
  | k + 1, f, vs, h => body T (fun b => loopN b k) (callee (callK T k)) f vs h

/-! Short words for the tables of a claim. -/
def It.m (d s : Nat) : It := .o (some d) (.mv (.t s)) none
def It.u (d : Nat) (op : AOp) : It := .o (some d) op none
def It.g (d : Nat) (op : AOp) (t : Nat) (b : Bool) : It := .o (some d) op (some (t, b))
def Opd.f (n : Nat) : Opd := .c (.clo n [])
def Opd.i (n : Int) : Opd := .c (.d (.int .i64 n))
def Opd.b (b : Bool) : Opd := .c (.d (.bool b))

end Zv
end
