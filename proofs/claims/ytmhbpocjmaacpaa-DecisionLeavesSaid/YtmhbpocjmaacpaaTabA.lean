/-
  Parts of the proof.
-/
import Derived.Calls
set_option linter.unusedSimpArgs false
set_option linter.unusedVariables false
section
namespace Zv
open Go
inductive D where
 |bool (b:Bool)
 |int (k:IntKind) (n:Int)
 |str (s:ByteArray)
 |nilp
 |nilf
 |nilm
 |lst (l:List D)
 |agg (l:List D)
 deriving Inhabited
def D.cells:D→List D
 | .agg l=>l
 |x=>[x]
inductive V where
 |d (x:D)
 |tl (l:List V) (nl:Option Bool)
 |own (n es tot off len:Nat)
 |ptr (n tot i off:Nat)
 |fp (x:D) (off:Nat)
 |clo (f:Nat) (caps:List V)
 |agg (l:List V)
 |tup (l:List V)
 |map (n:Nat)
 |yld (n:Nat)
 |ub
 |undef
 deriving Inhabited
inductive Ex where
 |norm
 |exit (id:Nat)
 |ret
 deriving DecidableEq,Inhabited
def stor:V→Bool
 | .undef=>false
 | .tup _=>false
 |_=>true
mutual
def toD:V→Option D
 | .d x=>some x
 | .tl l _=>(toDs l).map .lst
 | .agg l=>(toDs l).map .agg
 |_=>none
def toDs:List V→Option (List D)
 | []=>some []
 |v::r=>match toD v,toDs r with
  |some x,some xs=>some (x::xs)
  |_,_=>none
end
def norm (v:V):V:=match toD v with
 |some x=>.d x
 |none=>v
def V.cells:V→List V
 | .d x=>x.cells.map .d
 | .agg l=>l
 |v=>[v]
def asD:List V→Option (List D)
 | []=>some []
 | .d x::r=>(asD r).map fun l=>x::l
 |_=>none
def mkAgg (cs:List V):V:=match asD cs with
 |some ds=>.d (.agg ds)
 |none=>.agg cs
inductive Ob where
 |arr (es:Nat) (els:List V)
 |mp (kvs:List (D × V))
 |lp (b:Nat) (e:List (Nat × V)) (s:Option Ex)
 deriving Inhabited
structure Hp where
 objs:List (Nat × Ob)
 next:Nat
 deriving Inhabited
def look:List (Nat × Ob)→Nat→Option Ob
 | [],_=>none
 | (m,o)::r,n=>if n=m then some o else look r n
def upd:List (Nat × Ob)→Nat→Ob→List (Nat × Ob)
 | [],_,_=>[]
 | (m,o)::r,n,x=>if n=m then (m,x)::r else (m,o)::upd r n x
def del:List (Nat × Ob)→Nat→List (Nat × Ob)
 | [],_=>[]
 | (m,o)::r,n=>if n=m then r else (m,o)::del r n
def Hp.get (h:Hp) (n:Nat):Option Ob:=look h.objs n
def Hp.set (h:Hp) (n:Nat) (o:Ob):Hp:={ h with objs:=upd h.objs n o }
def Hp.kill (h:Hp) (n:Nat):Hp:={ h with objs:=del h.objs n }
def Hp.alloc (h:Hp) (o:Ob):Hp:=⟨(h.next,o)::h.objs,h.next+1⟩
def Hp.row (h:Hp) (n tot:Nat):Option (Nat × List V):=
 match h.get n with
 |some (.arr es els)=>if els.length=tot then some (es,els) else none
 |_=>none
abbrev Env:=List (Nat × V)
def Env.get:Env→Nat→V
 | [],_=>.undef
 | (t,v)::r,n=>if n=t then v else Env.get r n
def Env.put (e:Env) (t:Nat) (v:V):Env:=(t,v)::e
def Env.putO (e:Env) (t:Option Nat) (v:V):Env:=match t with
 |some t=>e.put t v
 |none=>e
def Env.keep (e:Env) (l:List Nat):Env:=l.map fun t=>(t,e.get t)
inductive Opd where
 |t (n:Nat)
 |c (v:V)
 deriving Inhabited
def Env.ev (e:Env):Opd→V
 | .t n=>e.get n
 | .c v=>v
def int (n:Int):V:=.d (.int .i64 n)
def bool (b:Bool):V:=.d (.bool b)
def intBin (op:BinOp) (k:IntKind) (a b:Int):Option V:=
 match op with
 | .add=>some (.d (.int k (k.wrap (a+b))))
 | .sub=>some (.d (.int k (k.wrap (a - b))))
 | .mul=>some (.d (.int k (k.wrap (a*b))))
 | .quo=>if b=0 then none else some (.d (.int k (k.wrap (a.tdiv b))))
 | .rem=>if b=0 then none else some (.d (.int k (a.tmod b)))
 | .eql=>some (.d (.bool (a == b)))
 | .neq=>some (.d (.bool (a != b)))
 | .lss=>some (.d (.bool (decide (a<b))))
 | .leq=>some (.d (.bool (decide (a≤b))))
 | .gtr=>some (.d (.bool (decide (a > b))))
 | .geq=>some (.d (.bool (decide (a ≥ b))))
 |_=>none
def strBin (op:BinOp) (a b:ByteArray):Option V:=
 match op with
 | .add=>if a.size+b.size≤2 ^ 62 then some (.d (.str (a++b))) else none
 | .eql=>some (.d (.bool (decide (a=b))))
 | .neq=>some (.d (.bool (!decide (a=b))))
 | .lss=>some (.d (.bool (Op.bytesLess a.toList b.toList)))
 |_=>none
inductive NK where
 |p | f | m | s
 deriving DecidableEq,Inhabited
def isNil:NK→V→Option Bool
 | .p,.d .nilp=>some true
 | .p,.ptr _ _ _ _=>some false
 | .p,.fp _ _=>some false
 | .f,.d .nilf=>some true
 | .f,.clo _ _=>some false
 | .f,.yld _=>some false
 | .m,.d .nilm=>some true
 | .m,.map _=>some false
 | .s,.tl [] nl=>nl
 | .s,.tl (_::_) _=>some false
 | .s,.own _ _ _ _ _=>some false
 | .s,.d (.lst (_::_))=>some false
 |_,_=>none
inductive KK where
 |i | s | b
 deriving DecidableEq,Inhabited
def keyEq:KK→D→D→Option Bool
 | .i,.int k a,.int k' b=>if k=k' then some (a == b) else none
 | .s,.str a,.str b=>some (decide (a=b))
 | .b,.bool a,.bool b=>some (a == b)
 |_,_,_=>none
def D.eqs:List KK→List D→List D→Option Bool
 | [],[],[]=>some true
 |k::ks,a::r,b::s=>match keyEq k a b,D.eqs ks r s with
  |some x,some y=>some (x && y)
  |_,_=>none
 |_,_,_=>none
def bin (op:BinOp):V→V→Option V
 | .d (.int k a),.d (.int k' b)=>if k=k' then intBin op k a b else none
 | .d (.str a),.d (.str b)=>strBin op a b
 |_,_=>none
def binB (op:BinOp):V→V→Option V
 | .d (.bool a),.d (.bool b)=>match op with
  | .eql=>some (.d (.bool (a == b)))
  | .neq=>some (.d (.bool (!(a == b))))
  |_=>none
 |_,_=>none
def ubOf:NK→V→Option V
 | .s,.d (.lst [])=>some .ub
 | .s,.tl [] none=>some .ub
 |_,_=>none
def nilBin (k:NK) (op:BinOp) (x:V):Option V:=
 match op,isNil k x with
 | .eql,some b=>some (.d (.bool b))
 | .neq,some b=>some (.d (.bool (!b)))
 | .eql,none=>ubOf k x
 | .neq,none=>ubOf k x
 |_,_=>none
def aggBin (ks:List KK) (op:BinOp):V→V→Option V
 | .d (.agg a),.d (.agg b)=>match op,D.eqs ks a b with
  | .eql,some x=>some (.d (.bool x))
  | .neq,some x=>some (.d (.bool (!x)))
  |_,_=>none
 |_,_=>none
def un (op:UnOp):V→Option V
 | .d (.bool b)=>match op with
  | .not=>some (.d (.bool (!b)))
  |_=>none
 | .d (.int k n)=>match op with
  | .neg=>some (.d (.int k (k.wrap (0 - n))))
  |_=>none
 |_=>none
def pick (c a b:V):Option V:=match c with
 | .d (.bool c)=>some (if c=true then a else b)
 |_=>none
def conv (k:IntKind):V→Option V
 | .d (.int _ n)=>some (.d (.int k (k.wrap n)))
 |_=>none
def nilck:V→Option V
 | .ptr n tot i off=>some (.ptr n tot i off)
 | .fp x off=>some (.fp x off)
 | .clo f caps=>some (.clo f caps)
 |_=>none
def lenS:V→Option V
 | .d (.str s)=>some (int s.size)
 |_=>none
def lenL:V→Option V
 | .d (.lst l)=>some (int l.length)
 | .tl l _=>some (int l.length)
 | .own _ _ _ _ len=>some (int len)
 |_=>none
def ixOf:V→Option Nat
 | .d (.int _ i)=>if 0≤i then some i.toNat else none
 |_=>none
def ia (es:Nat) (x i:V):Option V:=
 match x with
 | .d (.lst l)=>(ixOf i).bind fun j=>(l[j]?).bind fun x=>if x.cells.length=es then some (.fp x 0) else none
 | .tl l _=>(ixOf i).bind fun j=>(l[j]?).bind fun v=>(toD v).bind fun x=>if x.cells.length=es then some (.fp x 0) else none
 | .own n e tot off len=>(ixOf i).bind fun j=>if j<len∧e=es then some (.ptr n tot (off+j) 0) else none
 |_=>none
def ixS:V→V→Option V
 | .d (.str s),i=>(ixOf i).bind fun j=>if h:j<s.size then some (.d (.int .u8 (s[j]'h).toNat)) else none
 |_,_=>none
def fa (off:Nat):V→Option V
 | .fp x o=>some (.fp x (o+off))
 | .ptr n tot i o=>some (.ptr n tot i (o+off))
 |_=>none
def partD (ag:Bool) (off sz:Nat) (l:List D):Option D:=
 if ag=true then (if off+sz≤l.length then some (.agg ((l.drop off).take sz)) else none) else l[off]?
def partV (ag:Bool) (off sz:Nat) (l:List V):Option V:=
 if ag=true then (if off+sz≤l.length then some (mkAgg ((l.drop off).take sz)) else none) else l[off]?
def fld (ag:Bool) (off sz:Nat):V→Option V
 | .d (.agg l)=>(partD ag off sz l).map .d
 | .agg l=>partV ag off sz l
 |_=>none
def bnd (dflt:Nat):Option V→Option Nat
 |none=>some dflt
 |some v=>ixOf v
def slcS (x:V) (lo hi:Option V):Option V:=
 match x with
 | .d (.str s)=>(bnd s.size hi).bind fun h=>(bnd 0 lo).bind fun l=>if l≤h∧h≤s.size then some (.d (.str (s.extract l h))) else none
 |_=>none
def allD (es:Nat) (l:List D):Bool:=l.all fun x=>x.cells.length == es
def allV (es:Nat) (l:List V):Bool:=l.all fun x=>x.cells.length == es
def slc (es:Nat) (x:V) (lo hi:Option V):Option V:=
 match x with
 | .d (.lst xs)=>(bnd xs.length hi).bind fun h=>(bnd 0 lo).bind fun l=>if l≤h∧h≤xs.length∧allD es xs=true then some (.d (.lst ((xs.take h).drop l))) else none
 | .tl xs nl=>(bnd xs.length hi).bind fun h=>(bnd 0 lo).bind fun l=>if l≤h∧h=xs.length∧allV es xs=true then some (.tl (xs.drop l) nl) else none
 | .own n e tot off len=>(bnd len hi).bind fun h=>(bnd 0 lo).bind fun l=>if l≤h∧h≤len∧e=es then some (.own n e tot (off+l) (h - l)) else none
 |_=>none
def slc3 (es:Nat) (x:V) (lo hi mx:Option V):Option V:=
 match x with
 | .d (.lst xs)=>(bnd xs.length hi).bind fun h=>(bnd 0 lo).bind fun l=>(bnd xs.length mx).bind fun m=>if l≤h∧h≤xs.length∧m=h∧allD es xs=true then some (.tl (((xs.take h).drop l).map .d) none) else none
 | .tl xs nl=>(bnd xs.length hi).bind fun h=>(bnd 0 lo).bind fun l=>(bnd xs.length mx).bind fun m=>if l≤h∧h≤xs.length∧m=h∧allV es xs=true then some (.tl ((xs.take h).drop l) nl) else none
 |_=>none
def ext (i:Nat):V→Option V
 | .tup l=>l[i]?
 |_=>none
def lay:List V→List (Nat × Nat × V)→Option (List V)
 |cs,[]=>some cs
 |cs,(off,sz,v)::r=>if stor v=true∧v.cells.length=sz∧off+sz≤cs.length then lay (cs.take off++v.cells++cs.drop (off+sz)) r else none
def ld (ag:Bool) (sz:Nat) (h:Hp):V→Option V
 | .fp x off=>(partD ag off sz x.cells).map .d
 | .ptr n tot i off=>(h.row n tot).bind fun r=>(r.2[i]?).bind fun e=>
   if ag=true∧off=0∧sz=r.1 then (match e with
    | .d (.agg _)=>some e
    | .agg _=>some e
    |_=>partV ag off sz e.cells)
   else partV ag off sz e.cells
 |_=>none
def st (sz:Nat) (h:Hp) (a x:V):Option Hp:=
 match a with
 | .ptr n tot i off=>(h.row n tot).bind fun r=>(r.2[i]?).bind fun e=>
   if stor x=true∧x.cells.length=sz then
    (if off=0∧sz=r.1 then some (h.set n (.arr r.1 (r.2.set i x)))
    else if off+sz≤e.cells.length∧r.1≠1 then some (h.set n (.arr r.1 (r.2.set i (mkAgg (e.cells.take off++x.cells++e.cells.drop (off+sz)))))) else none)
   else none
 |_=>none
def elems (h:Hp):V→Option (List V)
 | .d (.lst l)=>some (l.map .d)
 | .tl l _=>some l
 | .own n _ tot off len=>(h.row n tot).bind fun r=>if off+len≤r.2.length then some ((r.2.drop off).take len) else none
 |_=>none
def roomB:Nat:=2 ^ 47
def app (es by_:Nat) (h:Hp) (s x:V):Option (V × Hp):=
  (elems h x).bind fun xs0=>
    let xs:=xs0.map norm
    if allV es xs0=true then
    match s with
    | .tl l nl=>if xs.isEmpty then some (.tl l nl,h) else
        if (l.length+xs.length)*by_≤roomB∧allV es l=true then some (.own h.next es (l.length+xs.length) 0 (l.length+xs.length),h.alloc (.arr es (l++xs))) else none
    | .own n e tot off len=>(h.row n tot).bind fun r=>
        if r.1=es∧e=es∧off+len≤r.2.length then
          (if xs.isEmpty then some (s,h) else
           if off+len+xs.length≤tot then some (.own n es tot off (len+xs.length),h.set n (.arr es (r.2.take (off+len)++xs++r.2.drop (off+len+xs.length)))) else
           if (len+xs.length)*by_≤roomB then
             (if off=0 then some (.own n es (len+xs.length) 0 (len+xs.length),h.set n (.arr es (r.2.take len++xs)))
              else some (.own h.next es (len+xs.length) 0 (len+xs.length),(h.kill n).alloc (.arr es ((r.2.drop off).take len++xs))))
           else none)
        else none
    | .d (.lst l)=>if xs.isEmpty then some (.d (.lst l),h) else none
    |_=>none
    else none
def elems0:V→Option (List V)
 | .d (.lst l)=>some (l.map .d)
 | .tl l _=>some l
 |_=>none
def appd (es by_:Nat) (s x:V):Option V:=match s with
  | .tl l nl=>(elems0 x).bind fun xs=>
      if allV es xs=true then
        (if (xs.map norm).isEmpty then (toD (.tl l nl)).map .d
         else if (l.length+(xs.map norm).length)*by_≤roomB∧allV es l=true then (toDs (l++xs.map norm)).map fun ds=>.d (.lst ds) else none)
      else none
  |_=>none
def cpy (es:Nat) (h:Hp) (s x:V):Option (V × Hp):=
 (elems h x).bind fun xs=>if allV es xs=true then
  (match s with
  | .own n e tot off len=>(h.row n tot).bind fun r=>
    if off+len≤r.2.length∧r.1=es∧e=es then
     some (int ((min xs.length len:Nat):Int),h.set n (.arr r.1 (r.2.take off++xs.take (min xs.length len)++r.2.drop (off+min xs.length len))))
    else none
  | .tl [] _=>some (int 0,h)
  |_=>none) else none
def mkslO (z:V) (es by_:Nat) (h:Hp) (n:V):Option (V × Hp):=
 (ixOf n).bind fun k=>if k*by_≤roomB∧k<2 ^ 62 then some (.own h.next es k 0 k,h.alloc (.arr es (List.replicate k z))) else none
def mkslT (z:V) (by_:Nat) (n:V):Option V:=
 (ixOf n).bind fun k=>if k*by_≤roomB∧k<2 ^ 62 then some (.tl (List.replicate k z) (some false)) else none
def findK (kk:KK) (k:D):List (D × V)→Option (Option V)
 | []=>some none
 | (q,v)::r=>match keyEq kk k q with
  |some true=>some (some v)
  |some false=>findK kk k r
  |none=>none
def putK (kk:KK) (k:D) (x:V):List (D × V)→Option (List (D × V))
 | []=>some [(k,x)]
 | (q,v)::r=>match keyEq kk k q with
  |some true=>some ((k,x)::r)
  |some false=>(putK kk k x r).map fun s=>(q,v)::s
  |none=>none
def entries (h:Hp):V→Option (List (D × V))
 | .map n=>match h.get n with
  |some (.mp kvs)=>some kvs
  |_=>none
 | .d .nilm=>some []
 |_=>none
def lk (kk:KK) (z:V) (ok:Bool) (h:Hp) (m k:V):Option V:=
 match k with
 | .d k=>(entries h m).bind fun kvs=>(findK kk k kvs).map fun r=>
   if ok=true then .tup [r.getD z,.d (.bool r.isSome)] else r.getD z
 |_=>none
def mu (kk:KK) (h:Hp) (m k x:V):Option Hp:=
 match m,k with
 | .map n,.d k=>match h.get n with
  |some (.mp kvs)=>if stor x=true then (putK kk k (norm x) kvs).map fun s=>h.set n (.mp s) else none
  |_=>none
 |_,_=>none
def capT:V→Option V
 | .tl l _=>some (int l.length)
 |_=>none
def appz (z:V) (es by_:Nat) (h:Hp) (s n:V):Option (V × Hp):=match s with
 | .tl [] nl=>(ixOf n).bind fun k=>if k*by_≤roomB∧k<2 ^ 62 then (if k=0 then some (.tl [] nl,h) else some (.own h.next es k 0 k,h.alloc (.arr es (List.replicate k z)))) else none
 |_=>none
inductive AOp where
 |mv (x:Opd)
 |pick (c a b:Opd)
 |alloc (es:Nat) (z:V)
 |box (es:Nat) (x:Opd)
 |build (z:List V) (parts:List (Nat × Nat × Opd))
 |bsl (es:Nat) (xs:List Opd)
 |bslO (es:Nat) (xs:List Opd)
 |ld (ag:Bool) (sz:Nat) (a:Opd)
 |st (sz:Nat) (a x:Opd)
 |nilck (x:Opd)
 |bin (op:BinOp) (x y:Opd)
 |binB (op:BinOp) (x y:Opd)
 |nilBin (k:NK) (op:BinOp) (x:Opd)
 |aggBin (ks:List KK) (op:BinOp) (x y:Opd)
 |un (op:UnOp) (x:Opd)
 |conv (k:IntKind) (x:Opd)
 |mkf (f:Nat) (caps:List Opd)
 |mkmap
 |mksl (z:V) (es by_:Nat) (n:Opd)
 |mkslT (z:V) (by_:Nat) (n:Opd)
 |slcS (x:Opd) (lo hi:Option Opd)
 |slc (es:Nat) (x:Opd) (lo hi:Option Opd)
 |slc3 (es:Nat) (x:Opd) (lo hi mx:Option Opd)
 |fa (off:Nat) (x:Opd)
 |fld (ag:Bool) (off sz:Nat) (x:Opd)
 |ia (es:Nat) (x i:Opd)
 |ixS (x i:Opd)
 |lk (kk:KK) (z:V) (ok:Bool) (m k:Opd)
 |mu (kk:KK) (m k x:Opd)
 |lenS (x:Opd)
 |lenL (x:Opd)
 |lenM (x:Opd)
 |app (es by_:Nat) (s x:Opd)
 |cpy (es:Nat) (s x:Opd)
 |ext (i:Nat) (x:Opd)
 |call (f:Opd) (nm:List Bool) (xs:List Opd)
 |ldf (ag:Bool) (sz:Nat) (a:Opd)
 |appn (es by_:Nat) (s x:Opd)
 |appf (es by_:Nat) (s x:Opd)
 |appd (es by_:Nat) (s x:Opd)
 |appz (z:V) (es by_:Nat) (s n:Opd)
 |capT (x:Opd)
 |stuck
 |ldk (k:Opd) (ag:Bool) (sz:Nat) (a:Opd)
 |callk (k f:Opd) (nm:List Bool) (xs:List Opd)
 |callz (k f:Opd) (nm:List Bool) (xs:List Opd)
 |calln (f:Opd) (nm:List Bool) (xs:List Opd)
 |callf (f:Opd) (nm:List Bool) (xs:List Opd)
 deriving Inhabited
abbrev Cf:=V→List V→Hp→Option (V × Hp)
def normArgs:List Bool→List V→List V
 |b::bs,v::vs=>(if b=true then norm v else v)::normArgs bs vs
 | [],vs=>vs
 |_,[]=>[]
def pureV (h:Hp) (x:Option V):Option (V × Hp):=x.map fun v=>(v,h)
def lenM (h:Hp) (x:V):Option V:=(entries h x).map fun kvs=>int kvs.length
mutual
def D.beq:D→D→Bool
 | .bool a,.bool b=>a == b
 | .int k a,.int k' b=>decide (k=k') && a == b
 | .str a,.str b=>decide (a=b)
 | .nilp,.nilp=>true
 | .nilf,.nilf=>true
 | .nilm,.nilm=>true
 | .lst a,.lst b=>D.beqs a b
 | .agg a,.agg b=>D.beqs a b
 |_,_=>false
def D.beqs:List D→List D→Bool
 | [],[]=>true
 |a::r,b::s=>D.beq a b && D.beqs r s
 |_,_=>false
end
mutual
def V.beq:V→V→Bool
 | .d a,.d b=>D.beq a b
 | .tl a n,.tl b m=>V.beqs a b && n == m
 | .own a b c e f,.own a' b' c' e' f'=>a == a' && b == b' && c == c' && e == e' && f == f'
 | .ptr a b c e,.ptr a' b' c' e'=>a == a' && b == b' && c == c' && e == e'
 | .fp x o,.fp y p=>D.beq x y && o == p
 | .clo f a,.clo g b=>f == g && V.beqs a b
 | .agg a,.agg b=>V.beqs a b
 | .tup a,.tup b=>V.beqs a b
 | .map a,.map b=>a == b
 | .yld a,.yld b=>a == b
 | .ub,.ub=>true
 | .undef,.undef=>true
 |_,_=>false
def V.beqs:List V→List V→Bool
 | [],[]=>true
 |a::r,b::s=>V.beq a b && V.beqs r s
 |_,_=>false
end
def kvsBeq:List (D × V)→List (D × V)→Bool
 | [],[]=>true
 | (a,v)::r,(b,w)::s=>D.beq a b && V.beq v w && kvsBeq r s
 |_,_=>false
def envBeq:List (Nat × V)→List (Nat × V)→Bool
 | [],[]=>true
 | (a,v)::r,(b,w)::s=>a == b && V.beq v w && envBeq r s
 |_,_=>false
def Ob.beq:Ob→Ob→Bool
 | .arr e l,.arr f m=>e == f && V.beqs l m
 | .mp a,.mp b=>kvsBeq a b
 | .lp a e s,.lp b f t=>a == b && envBeq e f && decide (s=t)
 |_,_=>false
def objsBeq:List (Nat × Ob)→List (Nat × Ob)→Bool
 | [],[]=>true
 | (n,a)::r,(m,b)::s=>n == m && Ob.beq a b && objsBeq r s
 |_,_=>false
def ldf (ag:Bool) (sz:Nat) (h:Hp) (a:V):Option V:=match a with
 | .fp _ _=>ld ag sz h a
 |_=>none
def ldk (ag:Bool) (sz:Nat) (h:Hp) (k a:V):Option V:=match k,a with
 | .ptr n _ _ _,.ptr m _ _ _=>if n=m then ld ag sz h a else none
 |_,_=>none
def sameAt (h h':Hp):V→Bool
 | .ptr n _ _ _=>match h.get n,h'.get n with
  |some a,some b=>Ob.beq a b
  |_,_=>false
 |_=>false
def appn (es by_:Nat) (h:Hp) (s x:V):Option (V × Hp):=match s with
 | .tl _ _=>app es by_ h s x
 |_=>none
def quiet (h:Hp) (r:V × Hp):Option (V × Hp):=if objsBeq h.objs r.2.objs=true∧h.next=r.2.next then some (r.1,h) else none
def frz (h:Hp):V→Option (V × Hp)
 | .own n _ tot off len=>(h.row n tot).bind fun r=>if off+len≤r.2.length then (toDs ((r.2.drop off).take len)).map fun l=>(.d (.lst l),h.kill n) else none
 | .ptr n tot i off=>(h.row n tot).bind fun r=>(r.2[i]?).map fun e=>match toD e with
  |some x=>(.fp x off,h.kill n)
  |none=>(.ptr n tot i off,h)
 |v=>(toD v).map fun x=>(.d x,h)
def frzs:List V→Hp→Option (List D × Hp)
 | [],h=>some ([],h)
 |v::r,h=>(frz h v).bind fun q=>match q.1 with
  | .d x=>(frzs r q.2).map fun s=>(x::s.1,s.2)
  |_=>none
def fzd (h:Hp):V→Option (V × Hp)
 | .ptr n tot i off=>(h.row n tot).bind fun r=>(r.2[i]?).bind fun e=>match e with
  | .d x=>some (.fp x off,h.kill n)
  | .agg l=>(frzs l h).bind fun s=>if sameAt h s.2 (.ptr n tot i off)=true then some (.fp (.agg s.1) off,s.2.kill n) else none
  |_=>none
 |_=>none
def opX (cf:Cf) (e:Env) (h:Hp):AOp→Option (V × Hp)
 | .mv x=>some (e.ev x,h)
 | .pick c a b=>pureV h (pick (e.ev c) (e.ev a) (e.ev b))
 | .alloc es z=>some (.ptr h.next 1 0 0,h.alloc (.arr es [z]))
 | .box es x=>if stor (e.ev x)=true∧(e.ev x).cells.length=es then some (.ptr h.next 1 0 0,h.alloc (.arr es [e.ev x])) else none
 | .build z ps=>pureV h ((lay z (ps.map fun p=>(p.1,p.2.1,e.ev p.2.2))).map mkAgg)
 | .bsl es xs=>if (xs.map e.ev).all (fun v=>stor v && v.cells.length == es) then some (.tl (xs.map fun x=>norm (e.ev x)) (some false),h) else none
 | .bslO es xs=>if (xs.map e.ev).all (fun v=>stor v && v.cells.length == es) then some (.own h.next es xs.length 0 xs.length,h.alloc (.arr es (xs.map fun x=>norm (e.ev x)))) else none
 | .ld ag sz a=>pureV h (ld ag sz h (e.ev a))
 | .st sz a x=>(st sz h (e.ev a) (e.ev x)).map fun h'=>(.tup [],h')
 | .nilck x=>pureV h (nilck (e.ev x))
 | .bin op x y=>pureV h (bin op (e.ev x) (e.ev y))
 | .binB op x y=>pureV h (binB op (e.ev x) (e.ev y))
 | .nilBin k op x=>pureV h (nilBin k op (e.ev x))
 | .aggBin ks op x y=>pureV h (aggBin ks op (e.ev x) (e.ev y))
 | .un op x=>pureV h (un op (e.ev x))
 | .conv k x=>pureV h (conv k (e.ev x))
 | .mkf f caps=>some (.clo f (caps.map e.ev),h)
 | .mkmap=>some (.map h.next,h.alloc (.mp []))
 | .mksl z es b n=>mkslO z es b h (e.ev n)
 | .mkslT z b n=>pureV h (mkslT z b (e.ev n))
 | .slcS x lo hi=>pureV h (slcS (e.ev x) (lo.map e.ev) (hi.map e.ev))
 | .slc es x lo hi=>pureV h (slc es (e.ev x) (lo.map e.ev) (hi.map e.ev))
 | .slc3 es x lo hi mx=>pureV h (slc3 es (e.ev x) (lo.map e.ev) (hi.map e.ev) (mx.map e.ev))
 | .fa off x=>pureV h (fa off (e.ev x))
 | .fld ag off sz x=>pureV h (fld ag off sz (e.ev x))
 | .ia es x i=>pureV h (ia es (e.ev x) (e.ev i))
 | .ixS x i=>pureV h (ixS (e.ev x) (e.ev i))
 | .lk kk z ok m k=>pureV h (lk kk z ok h (e.ev m) (e.ev k))
 | .mu kk m k x=>(mu kk h (e.ev m) (e.ev k) (e.ev x)).map fun h'=>(.tup [],h')
 | .lenS x=>pureV h (lenS (e.ev x))
 | .lenL x=>pureV h (lenL (e.ev x))
 | .lenM x=>pureV h (lenM h (e.ev x))
 | .app es b s x=>app es b h (e.ev s) (e.ev x)
 | .cpy es s x=>cpy es h (e.ev s) (e.ev x)
 | .ext i x=>pureV h (ext i (e.ev x))
 | .call f nm xs=>cf (e.ev f) (normArgs nm (xs.map e.ev)) h
 | .ldf ag sz a=>pureV h (ldf ag sz h (e.ev a))
 | .appn es b s x=>appn es b h (e.ev s) (e.ev x)
 | .appf es b s x=>(app es b h (e.ev s) (e.ev x)).bind fun r=>frz r.2 r.1
 | .appd es b s x=>pureV h (appd es b (e.ev s) (e.ev x))
 | .appz z es b s n=>appz z es b h (e.ev s) (e.ev n)
 | .capT x=>pureV h (capT (e.ev x))
 | .stuck=>none
 | .ldk k ag sz a=>pureV h (ldk ag sz h (e.ev k) (e.ev a))
 | .callk k f nm xs=>(cf (e.ev f) (normArgs nm (xs.map e.ev)) h).bind fun r=>if sameAt h r.2 (e.ev k)=true then some r else none
 | .callz k f nm xs=>(cf (e.ev f) (normArgs nm (xs.map e.ev)) h).bind fun r=>(frz r.2 r.1).bind fun q=>if sameAt h q.2 (e.ev k)=true then some q else none
 | .calln f nm xs=>(cf (e.ev f) (normArgs nm (xs.map e.ev)) h).bind (quiet h)
 | .callf f nm xs=>(cf (e.ev f) (normArgs nm (xs.map e.ev)) h).bind fun r=>frz r.2 r.1
def deep (h:Hp) (n0:Nat):Nat→V→Option D
 |0,_=>none
 |k+1,v=>match v with
  | .d x=>some x
  | .tl l _=>(l.mapM (deep h n0 k)).map .lst
  | .agg l=>(l.mapM (deep h n0 k)).map .agg
  | .own n _ tot off len=>if n0≤n then (h.row n tot).bind fun r=>if off+len≤r.2.length then (((r.2.drop off).take len).mapM (deep h n0 k)).map .lst else none else none
  |_=>none
inductive It where
 |o (dst:Option Nat) (op:AOp) (g:Option (Nat × Bool))
 |frz (t:Nat)
 |fzd (t:Nat)
 |kill (t:Nat)
 deriving Inhabited
def want (e:Env):Option (Nat × Bool)→Option Bool
 |none=>some true
 |some (t,b)=>match e.get t with
  | .d (.bool c)=>some (c == b)
  | .tup []=>some false
  |_=>none
def itX (cf:Cf) (e:Env) (h:Hp):It→Option (Env × Hp)
 | .o dst op g=>(want e g).bind fun w=>
   if w=true then (opX cf e h op).map fun r=>(e.putO dst r.1,r.2) else some (e.putO dst (.tup []),h)
 | .frz t=>(frz h (e.get t)).map fun r=>(e.put t r.1,r.2)
 | .fzd t=>(fzd h (e.get t)).map fun r=>(e.put t r.1,r.2)
 | .kill t=>match e.get t with
   | .ptr n _ _ _=>some (e.put t .undef,h.kill n)
   | .own n _ _ _ _=>some (e.put t .undef,h.kill n)
   |_=>some (e.put t .undef,h)
def itsX (cf:Cf):List It→Env→Hp→Option (Env × Hp)
 | [],e,h=>some (e,h)
 |i::r,e,h=>(itX cf e h i).bind fun s=>itsX cf r s.1 s.2
inductive AC where
 |skip
 |reg (its:List It) (keep:Option (List Nat))
 |seq (a b:AC)
 |cond (c:Opd) (a b:AC)
 |blk (id:Nat) (a:AC)
 |loop (a:AC)
 |exit (id:Nat)
 |ret
 |rng (g:Opd) (b:Nat)
 |amb (p:AC) (c:Opd) (a b r:AC)
 deriving Inhabited
abbrev Out:=Ex × Env × Hp
abbrev Bf:=Env→Hp→Option Out
def keepE:Option (List Nat)→Env→Env
 |none,e=>e
 |some l,e=>e.keep l
def condB:V→Option Bool
 | .d (.bool b)=>some b
 |_=>none
def nxt (k:Bf) (o:Out):Option Out:=match o.1 with
 | .norm=>k o.2.1 o.2.2
 |_=>some o
def joinV (a b:V):Option V:=if V.beq a b=true then some a else match a,b with
 | .tl [] _,.tl [] _=>some (.tl [] none)
 |_,_=>none
def joinE:List (Nat × V)→List (Nat × V)→Option (List (Nat × V))
 | [],[]=>some []
 | (t,a)::r,(u,b)::s=>if t=u then (joinV a b).bind fun v=>(joinE r s).map ((t,v) :: ·) else none
 |_,_=>none
def outJoin (o q:Out):Option Out:=if o.1=q.1∧objsBeq o.2.2.objs q.2.2.objs=true∧o.2.2.next=q.2.2.next then (joinE o.2.1 q.2.1).map fun e=>(o.1,e,o.2.2) else none
def ambB (c:Opd) (A B R:Bf):Bf:=fun e h=>match e.ev c with
 | .ub=>((A e h).bind (nxt R)).bind fun o=>((B e h).bind (nxt R)).bind fun q=>outJoin o q
 |v=>(condB v).bind fun t=>if t=true then (A e h).bind (nxt R) else (B e h).bind (nxt R)
def isClo:V→Bool
 | .clo _ _=>true
 |_=>false
def rngEnd (e:Env) (h:Hp) (n:Nat):Option Out:=match h.get n with
 |some (.lp _ _ none)=>some (.norm,e,h.kill n)
 |some (.lp _ _ (some (.exit i)))=>some (.exit i,e,h.kill n)
 |some (.lp _ _ (some .ret))=>some (.ret,e,h.kill n)
 |_=>none
def exec (lp:Bf→Bf) (cf:Cf):AC→Bf
 | .skip,e,h=>some (.norm,e,h)
 | .reg its kp,e,h=>(itsX cf its e h).map fun r=>(.norm,keepE kp r.1,r.2)
 | .seq a b,e,h=>(exec lp cf a e h).bind (nxt (exec lp cf b))
 | .cond c a b,e,h=>(condB (e.ev c)).bind fun t=>if t=true then exec lp cf a e h else exec lp cf b e h
 | .blk id a,e,h=>(exec lp cf a e h).map fun o=>(if o.1=.exit id then .norm else o.1,o.2)
 | .loop a,e,h=>lp (exec lp cf a) e h
 | .exit id,e,h=>some (.exit id,e,h)
 | .ret,e,h=>some (.ret,e,h)
 | .amb p c a b r,e,h=>(exec lp cf p e h).bind (nxt (ambB c (exec lp cf a) (exec lp cf b) (exec lp cf r)))
 | .rng g b,e,h=>if isClo (e.ev g)=true then (cf (e.ev g) [.yld h.next] (h.alloc (.lp b e none))).bind fun r=>rngEnd e r.2 h.next else none
def loopN (f:Bf):Nat→Bf
 |0,_,_=>none
 |n+1,e,h=>(f e h).bind (nxt (loopN f n))
structure AF where
 np:Nat
 res:List (Nat × Option (Bool × Nat))
 scp:Bool
 body:AC
 deriving Inhabited
def old (n0:Nat):V→Bool
 | .ptr n _ _ _=>decide (n<n0)
 | .own n _ _ _ _=>decide (n<n0)
 | .map n=>decide (n<n0)
 | .yld n=>decide (n<n0)
 |_=>false
def back1 (h:Hp) (n0:Nat) (v:V):Option V:=
 match deep h n0 8 v with
 |some x=>some (.d x)
 |none=>if old n0 v=true then some v else none
def resV:List V→V
 | [v]=>v
 |l=>.tup l
def sufOk (base l:List (Nat × Ob)):Bool:=objsBeq base (l.drop (l.length - base.length))
def resL (e:Env) (h:Hp):List (Nat × Option (Bool × Nat))→Option (List V)
 | []=>some []
 | (t,none)::r=>(resL e h r).map (e.get t :: ·)
 | (t,some (ag,sz))::r=>(ld ag sz h (e.get t)).bind fun v=>(resL e h r).map (v :: ·)
def finish (fn:AF) (h0:Hp) (e:Env) (h:Hp):Option (V × Hp):=
 (resL e h fn.res).bind fun vs=>
 if fn.scp=true then
  (if sufOk h0.objs h.objs=true then (vs.mapM (back1 h h0.next)).map fun l=>(resV l,h0) else none)
 else some (resV vs,h)
def args:Nat→List V→Env
 |_,[]=>[]
 |i,v::r=>(i,v)::args (i+1) r
abbrev Tab:=Nat→Option AF
def joinL:List ByteArray→ByteArray→ByteArray
 | [],_=>⟨#[]⟩
 | [x],_=>x
 |x::y::r,s=>x++s++joinL (y::r) s
def strsD:List D→Option (List ByteArray)
 | []=>some []
 | .str s::r=>(strsD r).map (s :: ·)
 |_::_=>none
def prim:Nat→List D→Option D
 |0,[.lst l,.str s]=>(strsD l).bind fun xs=>if xs.length≤1048576∧(joinL xs s).size≤281474976710656 then some (.str (joinL xs s)) else none
 |_,_=>none
def primC (k:Nat) (vs:List V) (h:Hp):Option (V × Hp):=(vs.mapM (deep h 0 8)).bind fun ds=>(prim k ds).map fun y=>(.d y,h)
def isPr:AC→Option Nat
 | .exit k=>some k
 |_=>none
def YF:Nat:=1000000000
def RB:Nat:=1000000
def binds:List Nat→List V→Env→Env
 |p::ps,v::vs,e=>binds ps vs ((p,v)::e)
 |_,_,e=>e
def rndEnd (n:Nat) (o:Out):Option (V × Hp):=match o.2.2.get n with
 |some (.lp b e (some .norm))=>some (bool (decide (o.1=.norm)),o.2.2.set n (.lp b e (if o.1=.norm then none else some o.1)))
 |_=>none
def rnd (T:Tab) (lp:Bf→Bf) (cf:Cf) (n:Nat) (vs:List V) (h:Hp):Option (V × Hp):=match h.get n with
 |some (.lp b e none)=>(T (RB+b)).bind fun fn=>match fn.body with
  | .seq asg bdy=>if vs.length=fn.np then (exec lp cf asg (binds (fn.res.map (·.1)) vs e) h).bind fun o=>match o.1,o.2.2.get n with
    | .norm,some (.lp b' e' none)=>(exec lp cf bdy o.2.1 (o.2.2.set n (.lp b' e' (some .norm)))).bind (rndEnd n)
    |_,_=>none
   else none
  |_=>none
 |_=>none
def body (T:Tab) (lp:Bf→Bf) (cf:Cf) (f:Nat) (vs:List V) (h:Hp):Option (V × Hp):=
 if f=YF then (match vs with
  | .yld n::r=>rnd T lp cf n r h
  |_=>none) else
 if f<RB then (T f).bind fun fn=>if vs.length=fn.np then (match isPr fn.body with
  |some k=>primC k vs h
  |none=>(exec lp cf fn.body (args 0 vs) h).bind fun o=>match o.1 with
   | .exit _=>none
   |_=>finish fn h o.2.1 o.2.2) else none
 else none
def callee:(Nat→List V→Hp→Option (V × Hp))→Cf
 |c,.clo f caps,vs,h=>if f=YF then none else c f (vs++caps) h
 |c,.yld n,vs,h=>c YF (.yld n::vs) h
 |_,_,_,_=>none
def callK (T:Tab):Nat→Nat→List V→Hp→Option (V × Hp)
 |0,_,_,_=>none
 |k+1,f,vs,h=>body T (fun b=>loopN b k) (callee (callK T k)) f vs h
def It.m (d s:Nat):It:=.o (some d) (.mv (.t s)) none
def It.u (d:Nat) (op:AOp):It:=.o (some d) op none
def It.g (d:Nat) (op:AOp) (t:Nat) (b:Bool):It:=.o (some d) op (some (t,b))
def Opd.f (n:Nat):Opd:=.c (.clo n [])
def Opd.i (n:Int):Opd:=.c (.d (.int .i64 n))
def Opd.b (b:Bool):Opd:=.c (.d (.bool b))
end Zv
end
section
namespace Zc28
open Go Zv
def i3r0:List It:=[.u 6 (.mv (.b false))]
def f3r0:AC:=.reg i3r0 (some [0,1,2])
def i3r1:List It:=[.m 11 0,.m 12 1,.m 13 2,.u 14 (.call (.f 9) [true,true,true] [.t 11,.t 12,.t 13]),.u 15 (.un .not (.t 14))]
def f3r1:AC:=.reg i3r1 (some [0,1,2,15])
def i3r2:List It:=[.u 16 (.call (.f 10) [] []),.m 6 16]
def f3r2:AC:=.reg i3r2 (some [6])
def i3r3:List It:=[.m 18 0,.m 19 1,.m 20 2,.u 21 (.call (.f 12) [true] [.t 20]),.u 22 (.call (.f 11) [true,true,true] [.t 18,.t 19,.t 21]),.m 17 22,.u 23 (.ext 0 (.t 17)),.u 24 (.ext 1 (.t 17)),.u 7 (.alloc 1 (.agg [(.tl [] (some true))])),.o none (.st 1 (.t 7) (.t 23)) none,.m 8 24,.frz 7]
def f3r3:AC:=.reg i3r3 (some [0,1,2,7,8])
def i3r4:List It:=[.m 26 0,.m 27 1,.m 28 2,.u 29 (.call (.f 13) [true,true,true] [.t 26,.t 27,.t 28]),.m 25 29,.u 30 (.ext 0 (.t 25)),.u 31 (.ext 1 (.t 25)),.m 9 30,.m 10 31]
def f3r4:AC:=.reg i3r4 (some [7,8,9,10])
def i3r5:List It:=[.u 32 (.ld true 1 (.t 7)),.m 33 9,.u 34 (.call (.f 14) [true,true] [.t 32,.t 33]),.m 35 34,.g 36 (.mv (.t 8)) 35 true,.g 37 (.mv (.t 10)) 35 true,.g 38 (.bin .eql (.t 36) (.t 37)) 35 true,.u 39 (.pick (.t 35) (.t 38) (.b false)),.m 40 39,.g 41 (.call (.f 10) [] []) 40 true,.u 42 (.pick (.t 40) (.t 41) (.b false)),.m 6 42,.kill 7]
def f3r5:AC:=.reg i3r5 (some [6])
def b3:AC:=(.seq f3r0 (.seq (.seq f3r1 (.cond (.t 15) (.seq f3r2 .ret) .skip)) (.seq f3r3 (.seq f3r4 (.seq f3r5 .ret)))))
def f3:AF:=⟨3,[(6,none)],true,b3⟩
def i4r0:List It:=[.u 4 (.mv (.b false))]
def f4r0:AC:=.reg i4r0 (some [0,1])
def i4r1:List It:=[.m 6 0,.u 7 (.call (.f 15) [true] [.t 6]),.u 8 (.un .not (.t 7))]
def f4r1:AC:=.reg i4r1 (some [0,1,8])
def i4r2:List It:=[.u 9 (.call (.f 10) [] []),.m 4 9]
def f4r2:AC:=.reg i4r2 (some [4])
def i4r3:List It:=[.m 10 0,.m 11 1,.u 12 (.call (.f 16) [true,true] [.t 10,.t 11]),.m 5 12]
def f4r3:AC:=.reg i4r3 (some [0,1,5])
def i4r4:List It:=[.m 13 0,.u 14 (.call (.f 19) [true] [.t 13]),.m 15 1,.u 16 (.call (.f 18) [true,true] [.t 14,.t 15]),.m 17 5,.u 18 (.call (.f 17) [true,true,true] [.t 16,.t 17,(.f 20)]),.m 19 18,.g 20 (.call (.f 10) [] []) 19 true,.u 21 (.pick (.t 19) (.t 20) (.b false)),.m 4 21]
def f4r4:AC:=.reg i4r4 (some [4])
def b4:AC:=(.seq f4r0 (.seq (.seq f4r1 (.cond (.t 8) (.seq f4r2 .ret) .skip)) (.seq f4r3 (.seq f4r4 .ret))))
def f4:AF:=⟨2,[(4,none)],true,b4⟩
def i5r0:List It:=[.u 6 (.mv (.b false))]
def f5r0:AC:=.reg i5r0 (some [0,1,2])
def i5r1:List It:=[.m 20 0,.m 21 1,.m 22 2,.u 23 (.call (.f 9) [true,true,true] [.t 20,.t 21,.t 22]),.u 24 (.un .not (.t 23)),.m 25 24,.g 26 (.mv (.t 0)) 25 false,.g 27 (.call (.f 22) [true] [.t 26]) 25 false,.g 28 (.bin .neq (.t 27) (.i 0)) 25 false,.u 29 (.pick (.t 25) (.b true) (.t 28))]
def f5r1:AC:=.reg i5r1 (some [0,1,2,29])
def i5r2:List It:=[.u 30 (.call (.f 10) [] []),.m 6 30]
def f5r2:AC:=.reg i5r2 (some [6])
def i5r3:List It:=[.m 31 2,.u 32 (.call (.f 12) [true] [.t 31]),.m 7 32]
def f5r3:AC:=.reg i5r3 (some [0,1,7])
def i5r4:List It:=[.m 34 0,.m 35 1,.m 36 7,.u 37 (.call (.f 11) [true,true,true] [.t 34,.t 35,.t 36]),.m 33 37,.u 38 (.ext 0 (.t 33)),.u 39 (.ext 1 (.t 33)),.u 8 (.alloc 1 (.agg [(.tl [] (some true))])),.o none (.st 1 (.t 8) (.t 38)) none,.m 9 39,.frz 8]
def f5r4:AC:=.reg i5r4 (some [0,1,7,8,9])
def i5r5:List It:=[.m 41 0,.m 42 1,.m 43 7,.u 44 (.call (.f 23) [true,true,true] [.t 41,.t 42,.t 43]),.m 40 44,.u 45 (.ext 0 (.t 40)),.u 46 (.ext 1 (.t 40)),.m 10 45,.m 11 46]
def f5r5:AC:=.reg i5r5 (some [7,8,9,10,11])
def i5r6:List It:=[.m 47 9,.u 48 (.bin .neq (.t 47) (.i 0))]
def f5r6:AC:=.reg i5r6 (some [7,8,10,11,48])
def i5r7:List It:=[.u 49 (.call (.f 10) [] []),.m 6 49,.kill 8]
def f5r7:AC:=.reg i5r7 (some [6])
def i5r8:List It:=[.m 50 11,.u 51 (.bin .neq (.t 50) (.i 0))]
def f5r8:AC:=.reg i5r8 (some [7,8,10,51])
def i5r9:List It:=[.u 6 (.mv (.b false)),.kill 8]
def f5r9:AC:=.reg i5r9 (some [6])
def i5r10:List It:=[.m 52 7,.u 53 (.lenL (.t 52)),.u 54 (.mksl (.d (.bool false)) 1 1 (.t 53)),.m 12 54]
def f5r10:AC:=.reg i5r10 (some [7,8,10,12])
def i5r11:List It:=[.u 55 (.fa 0 (.t 8)),.u 56 (.ld false 1 (.t 55)),.u 57 (.lenL (.t 56)),.u 58 (.mv (.i 0))]
def f5r11:AC:=.reg i5r11 (some [7,8,10,12,56,57,58])
def i5r12:List It:=[.u 59 (.bin .lss (.t 58) (.t 57))]
def f5r12:AC:=.reg i5r12 (some [7,8,10,12,56,57,58,59])
def i5r13:List It:=[.m 60 58,.u 61 (.ia 5 (.t 56) (.t 58)),.u 62 (.ld true 5 (.t 61)),.u 14 (.alloc 5 (.agg [(.tl [] (some true)),(.d (.bool false)),(.d (.int .i64 0)),(.tl [] (some true)),(.d (.int .i64 0))])),.m 13 60,.o none (.st 5 (.t 14) (.t 62)) none,.frz 14]
def f5r13:AC:=.reg i5r13 (some [7,8,10,12,13,14,56,57,58])
def i5r14:List It:=[.u 63 (.fa 3 (.t 14)),.u 64 (.ld false 1 (.t 63)),.u 65 (.lenL (.t 64)),.u 66 (.bin .gtr (.t 65) (.i 0))]
def f5r14:AC:=.reg i5r14 (some [7,8,10,12,13,14,56,57,58,66])
def i5r15:List It:=[.u 67 (.fa 4 (.t 14)),.u 68 (.ld false 1 (.t 67)),.u 69 (.bin .lss (.t 68) (.i 0)),.m 70 69,.g 71 (.fa 4 (.t 14)) 70 false,.g 72 (.ld false 1 (.t 71)) 70 false,.g 73 (.mv (.t 7)) 70 false,.g 74 (.lenL (.t 73)) 70 false,.g 75 (.bin .geq (.t 72) (.t 74)) 70 false,.u 76 (.pick (.t 70) (.b true) (.t 75))]
def f5r15:AC:=.reg i5r15 (some [7,8,10,12,13,14,56,57,58,76])
def i5r16:List It:=[.u 6 (.mv (.b false)),.kill 8,.kill 14]
def f5r16:AC:=.reg i5r16 (some [6])
def i5r17:List It:=[.m 77 12,.u 78 (.fa 4 (.t 14)),.u 79 (.ld false 1 (.t 78)),.u 80 (.ia 1 (.t 77) (.t 79)),.o none (.st 1 (.t 80) (.b true)) none,.kill 14]
def f5r17:AC:=.reg i5r17 (some [7,8,10,12,13,56,57,58])
def i5r18:List It:=[.u 81 (.ld true 1 (.t 8)),.m 82 13,.u 83 (.call (.f 18) [true,true] [.t 81,.t 82]),.m 15 83]
def f5r18:AC:=.reg i5r18 (some [7,8,10,12,15,56,57,58])
def i5r19:List It:=[.m 84 15,.u 85 (.lenL (.t 84)),.u 86 (.mv (.i 0))]
def f5r19:AC:=.reg i5r19 (some [7,8,10,12,15,56,57,58,85,86])
def i5r20:List It:=[.u 87 (.bin .lss (.t 86) (.t 85))]
def f5r20:AC:=.reg i5r20 (some [7,8,10,12,15,56,57,58,85,86,87])
def i5r21:List It:=[.m 88 86,.m 16 88]
def f5r21:AC:=.reg i5r21 (some [7,8,10,12,15,16,56,57,58,85,86])
def i5r22:List It:=[.m 89 16,.u 90 (.mv (.i 0))]
def f5r22:AC:=.reg i5r22 (some [7,8,10,12,15,16,56,57,58,85,86,89,90])
def i5r23:List It:=[.u 91 (.bin .lss (.t 90) (.t 89))]
def f5r23:AC:=.reg i5r23 (some [7,8,10,12,15,16,56,57,58,85,86,89,90,91])
def i5r24:List It:=[.m 92 90,.m 17 92]
def f5r24:AC:=.reg i5r24 (some [7,8,10,12,15,16,17,56,57,58,85,86,89,90])
def i5r25:List It:=[.m 93 15,.m 94 16,.u 95 (.ia 1 (.t 93) (.t 94)),.u 96 (.ld false 1 (.t 95)),.m 97 15,.m 98 17,.u 99 (.ia 1 (.t 97) (.t 98)),.u 100 (.ld false 1 (.t 99)),.u 101 (.call (.f 21) [true,true] [.t 96,.t 100])]
def f5r25:AC:=.reg i5r25 (some [7,8,10,12,15,16,56,57,58,85,86,89,90,101])
def i5r26:List It:=[.u 6 (.mv (.b false)),.kill 8]
def f5r26:AC:=.reg i5r26 (some [6])
def i5r27:List It:=[.u 102 (.bin .add (.t 90) (.i 1)),.m 90 102]
def f5r27:AC:=.reg i5r27 (some [7,8,10,12,15,16,56,57,58,85,86,89,90])
def f5l0:AC:=(.seq f5r23 (.seq (.cond (.t 91) .skip (.exit 4)) (.seq (.blk 5 (.seq f5r24 (.seq f5r25 (.cond (.t 101) (.seq f5r26 .ret) .skip)))) f5r27)))
def i5r28:List It:=[.u 103 (.bin .add (.t 86) (.i 1)),.m 86 103]
def f5r28:AC:=.reg i5r28 (some [7,8,10,12,15,56,57,58,85,86])
def f5l1:AC:=(.seq f5r20 (.seq (.cond (.t 87) .skip (.exit 2)) (.seq (.blk 3 (.seq f5r21 (.seq f5r22 (.blk 4 (.loop f5l0))))) f5r28)))
def i5r29:List It:=[.u 104 (.bin .add (.t 58) (.i 1)),.m 58 104,.kill 14]
def f5r29:AC:=.reg i5r29 (some [7,8,10,12,56,57,58])
def f5l2:AC:=(.seq f5r12 (.seq (.cond (.t 59) .skip (.exit 0)) (.seq (.blk 1 (.seq f5r13 (.seq (.seq f5r14 (.cond (.t 66) (.exit 1) .skip)) (.seq (.seq f5r15 (.cond (.t 76) (.seq f5r16 .ret) .skip)) (.seq f5r17 (.seq f5r18 (.seq f5r19 (.blk 2 (.loop f5l1))))))))) f5r29)))
def i5r30:List It:=[.m 105 12,.u 106 (.lenL (.t 105)),.u 107 (.mv (.i 0)),.kill 8]
def f5r30:AC:=.reg i5r30 (some [10,105,106,107])
def i5r31:List It:=[.u 108 (.bin .lss (.t 107) (.t 106))]
def f5r31:AC:=.reg i5r31 (some [10,105,106,107,108])
def i5r32:List It:=[.m 109 107,.u 110 (.ia 1 (.t 105) (.t 107)),.u 111 (.ld false 1 (.t 110)),.m 18 109,.m 19 111]
def f5r32:AC:=.reg i5r32 (some [10,18,19,105,106,107])
def i5r33:List It:=[.m 112 19,.m 113 10,.m 114 18,.u 115 (.call (.f 24) [true,true] [.t 113,.t 114]),.u 116 (.binB .eql (.t 112) (.t 115))]
def f5r33:AC:=.reg i5r33 (some [10,105,106,107,116])
def i5r34:List It:=[.u 6 (.mv (.b false))]
def f5r34:AC:=.reg i5r34 (some [6])
def i5r35:List It:=[.u 117 (.bin .add (.t 107) (.i 1)),.m 107 117]
def f5r35:AC:=.reg i5r35 (some [10,105,106,107])
def f5l3:AC:=(.seq f5r31 (.seq (.cond (.t 108) .skip (.exit 6)) (.seq (.blk 7 (.seq f5r32 (.seq f5r33 (.cond (.t 116) (.seq f5r34 .ret) .skip)))) f5r35)))
def i5r36:List It:=[.u 118 (.call (.f 10) [] []),.m 6 118]
def f5r36:AC:=.reg i5r36 (some [6])
def b5:AC:=(.seq f5r0 (.seq (.seq f5r1 (.cond (.t 29) (.seq f5r2 .ret) .skip)) (.seq f5r3 (.seq f5r4 (.seq f5r5 (.seq (.seq f5r6 (.cond (.t 48) (.seq f5r7 .ret) .skip)) (.seq (.seq f5r8 (.cond (.t 51) (.seq f5r9 .ret) .skip)) (.seq f5r10 (.seq (.seq f5r11 (.blk 0 (.loop f5l2))) (.seq (.seq f5r30 (.blk 6 (.loop f5l3))) (.seq f5r36 .ret)))))))))))
def f5:AF:=⟨3,[(6,none)],true,b5⟩
def i6r0:List It:=[.u 4 (.mv (.b false))]
def f6r0:AC:=.reg i6r0 (some [0,1])
def i6r1:List It:=[.m 9 0,.u 10 (.call (.f 15) [true] [.t 9]),.u 11 (.un .not (.t 10)),.m 12 11,.g 13 (.mv (.t 1)) 12 false,.g 14 (.lenL (.t 13)) 12 false,.g 15 (.bin .gtr (.t 14) (.i 8)) 12 false,.u 16 (.pick (.t 12) (.b true) (.t 15))]
def f6r1:AC:=.reg i6r1 (some [0,1,16])
def i6r2:List It:=[.u 17 (.call (.f 10) [] []),.m 4 17]
def f6r2:AC:=.reg i6r2 (some [4])
def i6r3:List It:=[.m 19 0,.u 20 (.call (.f 19) [true] [.t 19]),.m 21 1,.u 22 (.call (.f 25) [true,true] [.t 20,.t 21]),.m 18 22,.u 23 (.ext 0 (.t 18)),.u 24 (.ext 1 (.t 18)),.m 5 23,.m 6 24]
def f6r3:AC:=.reg i6r3 (some [0,1,5,6])
def i6r4:List It:=[.m 26 0,.m 27 1,.u 28 (.call (.f 26) [true,true] [.t 26,.t 27]),.m 25 28,.u 29 (.ext 0 (.t 25)),.u 30 (.ext 1 (.t 25)),.m 7 29,.m 8 30]
def f6r4:AC:=.reg i6r4 (some [5,6,7,8])
def i6r5:List It:=[.m 31 5,.m 32 7,.u 33 (.bin .eql (.t 31) (.t 32)),.m 34 33,.g 35 (.mv (.t 6)) 34 true,.g 36 (.mv (.t 8)) 34 true,.g 37 (.bin .eql (.t 35) (.t 36)) 34 true,.u 38 (.pick (.t 34) (.t 37) (.b false)),.m 39 38,.g 40 (.call (.f 10) [] []) 39 true,.u 41 (.pick (.t 39) (.t 40) (.b false)),.m 4 41]
def f6r5:AC:=.reg i6r5 (some [4])
def b6:AC:=(.seq f6r0 (.seq (.seq f6r1 (.cond (.t 16) (.seq f6r2 .ret) .skip)) (.seq f6r3 (.seq f6r4 (.seq f6r5 .ret)))))
def f6:AF:=⟨2,[(4,none)],true,b6⟩
def i9r0:List It:=[.u 6 (.mv (.b false))]
def f9r0:AC:=.reg i9r0 (some [0,1,2])
def i9r1:List It:=[.m 9 0,.u 10 (.call (.f 27) [true] [.t 9]),.u 11 (.un .not (.t 10)),.m 12 11,.g 13 (.mv (.t 1)) 12 false,.g 14 (.lenL (.t 13)) 12 false,.g 15 (.bin .gtr (.t 14) (.i 4)) 12 false,.u 16 (.pick (.t 12) (.b true) (.t 15)),.m 17 16,.g 18 (.mv (.t 2)) 17 false,.g 19 (.lenL (.t 18)) 17 false,.g 20 (.bin .gtr (.t 19) (.i 6)) 17 false,.u 21 (.pick (.t 17) (.b true) (.t 20))]
def f9r1:AC:=.reg i9r1 (some [2,21])
def i9r2:List It:=[.u 6 (.mv (.b false))]
def f9r2:AC:=.reg i9r2 (some [6])
def i9r3:List It:=[.m 22 2,.u 23 (.lenL (.t 22)),.u 24 (.mv (.i 0))]
def f9r3:AC:=.reg i9r3 (some [22,23,24])
def i9r4:List It:=[.u 25 (.bin .lss (.t 24) (.t 23))]
def f9r4:AC:=.reg i9r4 (some [22,23,24,25])
def i9r5:List It:=[.u 26 (.ia 1 (.t 22) (.t 24)),.u 27 (.ld false 1 (.t 26)),.m 8 27]
def f9r5:AC:=.reg i9r5 (some [8,22,23,24])
def i9r6:List It:=[.m 28 8,.u 29 (.lenL (.t 28)),.u 30 (.bin .gtr (.t 29) (.i 5)),.m 31 30,.g 32 (.mv (.t 8)) 31 false,.g 33 (.call (.f 32) [true,true] [.t 32,(.i 0)]) 31 false,.g 34 (.bin .gtr (.t 33) (.i 12)) 31 false,.u 35 (.pick (.t 31) (.b true) (.t 34))]
def f9r6:AC:=.reg i9r6 (some [22,23,24,35])
def i9r7:List It:=[.u 6 (.mv (.b false))]
def f9r7:AC:=.reg i9r7 (some [6])
def i9r8:List It:=[.u 36 (.bin .add (.t 24) (.i 1)),.m 24 36]
def f9r8:AC:=.reg i9r8 (some [22,23,24])
def f9l0:AC:=(.seq f9r4 (.seq (.cond (.t 25) .skip (.exit 0)) (.seq (.blk 1 (.seq f9r5 (.seq f9r6 (.cond (.t 35) (.seq f9r7 .ret) .skip)))) f9r8)))
def i9r9:List It:=[.u 6 (.mv (.b true))]
def f9r9:AC:=.reg i9r9 (some [6])
def b9:AC:=(.seq f9r0 (.seq (.seq f9r1 (.cond (.t 21) (.seq f9r2 .ret) .skip)) (.seq (.seq f9r3 (.blk 0 (.loop f9l0))) (.seq f9r9 .ret))))
def f9:AF:=⟨3,[(6,none)],true,b9⟩
def i10r0:List It:=[.u 0 (.mv (.b false))]
def f10r0:AC:=.reg i10r0 (some [])
def i10r1:List It:=[.u 10 (.call (.f 33) [] []),.m 1 10]
def f10r1:AC:=.reg i10r1 (some [1])
def i10r2:List It:=[.u 11 (.build [(.d (.int .i64 0)),(.d (.int .i64 0)),(.d (.int .i64 0)),(.tl [] (some true))] []),.u 2 (.alloc 4 (.agg [(.d (.int .i64 0)),(.d (.int .i64 0)),(.d (.int .i64 0)),(.tl [] (some true))])),.o none (.st 4 (.t 2) (.t 11)) none,.frz 2]
def f10r2:AC:=.reg i10r2 (some [1,2])
def i10r3:List It:=[.u 12 (.ld true 4 (.t 2)),.u 13 (.ld true 4 (.t 2)),.u 14 (.bsl 4 [.t 12,.t 13]),.u 15 (.call (.f 34) [true,true] [(.i 1),.t 14]),.u 3 (.alloc 4 (.agg [(.d (.int .i64 0)),(.d (.int .i64 0)),(.d (.int .i64 0)),(.tl [] (some true))])),.o none (.st 4 (.t 3) (.t 15)) none,.frz 3]
def f10r3:AC:=.reg i10r3 (some [1,2,3])
def i10r4:List It:=[.m 17 1,.u 18 (.bsl 1 [(.i 2),(.i 2)]),.u 19 (.calln (.f 34) [true,true] [(.i 0),(.c (.tl [] (some true)))]),.u 20 (.ld true 4 (.t 2)),.u 21 (.bsl 4 [.t 19,.t 20]),.u 22 (.ld true 4 (.t 2)),.u 23 (.calln (.f 34) [true,true] [(.i 0),(.c (.tl [] (some true)))]),.u 24 (.bsl 4 [.t 22,.t 23]),.u 25 (.ld true 4 (.t 3)),.u 26 (.ld true 4 (.t 3)),.u 27 (.bsl 4 [.t 25,.t 26]),.u 28 (.bsl 1 [.t 21,.t 24,.t 27]),.u 29 (.call (.f 11) [true,true,true] [.t 17,.t 18,.t 28]),.m 16 29,.u 30 (.ext 0 (.t 16)),.u 31 (.ext 1 (.t 16)),.u 4 (.alloc 1 (.agg [(.tl [] (some true))])),.o none (.st 1 (.t 4) (.t 30)) none,.m 5 31,.frz 4,.kill 2,.kill 3]
def f10r4:AC:=.reg i10r4 (some [1,4,5])
def i10r5:List It:=[.u 32 (.bsl 1 [(.i 0)]),.u 33 (.bsl 1 [(.i 1),(.i 2)]),.u 34 (.build [(.tl [] (some true)),(.d (.bool false)),(.d (.int .i64 0)),(.tl [] (some true)),(.d (.int .i64 0))] [(0,1,(.t 32)),(1,1,(.b true)),(3,1,(.t 33))]),.u 35 (.build [(.tl [] (some true)),(.d (.bool false)),(.d (.int .i64 0)),(.tl [] (some true)),(.d (.int .i64 0))] []),.u 36 (.bsl 1 [(.i 1)]),.u 37 (.bsl 1 [(.i 3),(.i 4)]),.u 38 (.build [(.tl [] (some true)),(.d (.bool false)),(.d (.int .i64 0)),(.tl [] (some true)),(.d (.int .i64 0))] [(0,1,(.t 36)),(1,1,(.b true)),(3,1,(.t 37))]),.u 39 (.build [(.tl [] (some true)),(.d (.bool false)),(.d (.int .i64 0)),(.tl [] (some true)),(.d (.int .i64 0))] [(4,1,(.i 1))]),.u 40 (.build [(.tl [] (some true)),(.d (.bool false)),(.d (.int .i64 0)),(.tl [] (some true)),(.d (.int .i64 0))] [(4,1,(.i 2))]),.u 41 (.bsl 5 [.t 34,.t 35,.t 38,.t 39,.t 40]),.m 6 41]
def f10r5:AC:=.reg i10r5 (some [1,4,5,6])
def i10r6:List It:=[.u 42 (.ld true 1 (.t 4)),.u 43 (.call (.f 18) [true,true] [.t 42,(.i 4)]),.m 7 43]
def f10r6:AC:=.reg i10r6 (some [1,4,5,6,7])
def i10r7:List It:=[.m 45 1,.u 46 (.bsl 1 [(.i 0)]),.u 47 (.build [(.d (.int .i64 0)),(.d (.int .i64 0)),(.d (.int .i64 0)),(.tl [] (some true))] [(0,1,(.i 2)),(2,1,(.i 5))]),.u 48 (.bsl 4 [.t 47]),.u 49 (.bsl 1 [.t 48]),.u 50 (.call (.f 11) [true,true,true] [.t 45,.t 46,.t 49]),.m 44 50,.u 51 (.ext 0 (.t 44)),.u 52 (.ext 1 (.t 44)),.u 8 (.alloc 1 (.agg [(.tl [] (some true))])),.o none (.st 1 (.t 8) (.t 51)) none,.m 9 52,.frz 8,.kill 8]
def f10r7:AC:=.reg i10r7 (some [4,5,6,7,9])
def i10r8:List It:=[.m 53 5,.u 54 (.bin .eql (.t 53) (.i 0)),.m 55 54,.g 56 (.ld true 1 (.t 4)) 55 true,.g 57 (.mv (.t 6)) 55 true,.g 58 (.call (.f 14) [true,true] [.t 56,.t 57]) 55 true,.u 59 (.pick (.t 55) (.t 58) (.b false)),.m 60 59,.g 61 (.mv (.t 7)) 60 true,.g 62 (.lenL (.t 61)) 60 true,.g 63 (.bin .eql (.t 62) (.i 2)) 60 true,.u 64 (.pick (.t 60) (.t 63) (.b false)),.m 65 64,.g 66 (.mv (.t 7)) 65 true,.g 67 (.ia 1 (.t 66) (.i 0)) 65 true,.g 68 (.ld false 1 (.t 67)) 65 true,.g 69 (.bsl 1 [(.i 0)]) 65 true,.g 70 (.call (.f 21) [true,true] [.t 68,.t 69]) 65 true,.u 71 (.pick (.t 65) (.t 70) (.b false)),.m 72 71,.g 73 (.mv (.t 7)) 72 true,.g 74 (.ia 1 (.t 73) (.i 1)) 72 true,.g 75 (.ld false 1 (.t 74)) 72 true,.g 76 (.bsl 1 [(.i 1)]) 72 true,.g 77 (.call (.f 21) [true,true] [.t 75,.t 76]) 72 true,.u 78 (.pick (.t 72) (.t 77) (.b false)),.m 79 78,.g 80 (.mv (.t 9)) 79 true,.g 81 (.bin .eql (.t 80) (.i 13)) 79 true,.u 82 (.pick (.t 79) (.t 81) (.b false)),.m 0 82,.kill 4]
def f10r8:AC:=.reg i10r8 (some [0])
def b10:AC:=(.seq f10r0 (.seq f10r1 (.seq f10r2 (.seq f10r3 (.seq f10r4 (.seq f10r5 (.seq f10r6 (.seq f10r7 (.seq f10r8 .ret)))))))))
def f10:AF:=⟨0,[(0,none)],true,b10⟩
def i11r0:List It:=[.u 3 (.box 1 (.t 0)),.u 6 (.alloc 1 (.agg [(.tl [] (some true))])),.u 7 (.mv (.i 0))]
def f11r0:AC:=.reg i11r0 (some [1,2,3,6])
def i11r1:List It:=[.u 20 (.ld false 1 (.t 3)),.m 21 1,.m 22 2,.u 23 (.call (.f 35) [true,true,true] [.t 20,.t 21,.t 22]),.m 8 23]
def f11r1:AC:=.reg i11r1 (some [1,2,3,6,8])
def i11r2:List It:=[.m 24 8,.u 25 (.bin .neq (.t 24) (.i 0))]
def f11r2:AC:=.reg i11r2 (some [1,2,3,6,8,25])
def i11r3:List It:=[.u 26 (.build [(.tl [] (some true))] []),.m 27 8,.o none (.st 1 (.t 6) (.t 26)) none,.m 7 27]
def f11r3:AC:=.reg i11r3 (some [6,7])
def i11r4:List It:=[.u 29 (.ld false 1 (.t 3)),.m 30 1,.m 31 2,.u 32 (.call (.f 36) [true,true,true] [.t 29,.t 30,.t 31]),.m 28 32,.u 33 (.ext 0 (.t 28)),.u 34 (.ext 1 (.t 28)),.u 35 (.ext 2 (.t 28)),.m 9 33,.m 10 34,.m 11 35]
def f11r4:AC:=.reg i11r4 (some [1,2,3,6,10,11])
def i11r5:List It:=[.m 36 10,.m 37 36,.g 38 (.mv (.t 11)) 37 false,.g 39 (.bin .neq (.t 38) (.i 0)) 37 false,.u 40 (.pick (.t 37) (.b true) (.t 39))]
def f11r5:AC:=.reg i11r5 (some [1,2,3,6,40])
def i11r6:List It:=[.u 41 (.build [(.tl [] (some true))] []),.o none (.st 1 (.t 6) (.t 41)) none,.u 7 (.mv (.i 13))]
def f11r6:AC:=.reg i11r6 (some [6,7])
def i11r7:List It:=[.u 12 (.alloc 1 (.agg [(.tl [] (some true))]))]
def f11r7:AC:=.reg i11r7 (some [1,2,3,6,12])
def i11r8:List It:=[.u 13 (.alloc 1 (.d .nilf))]
def f11r8:AC:=.reg i11r8 (some [1,2,3,6,12,13])
def i11r9:List It:=[.u 42 (.mkf 37 [.t 12,.t 3,.t 13]),.o none (.st 1 (.t 13) (.t 42)) none]
def f11r9:AC:=.reg i11r9 (some [1,2,6,12,13])
def i11r10:List It:=[.u 14 (.mv (.c (.tl [] (some true))))]
def f11r10:AC:=.reg i11r10 (some [1,2,6,12,13,14])
def i11r11:List It:=[.m 43 1,.u 44 (.lenL (.t 43)),.u 45 (.mv (.i 0))]
def f11r11:AC:=.reg i11r11 (some [2,6,12,13,14,43,44,45])
def i11r12:List It:=[.u 46 (.bin .lss (.t 45) (.t 44))]
def f11r12:AC:=.reg i11r12 (some [2,6,12,13,14,43,44,45,46])
def i11r13:List It:=[.m 47 45,.u 48 (.ia 1 (.t 43) (.t 45)),.u 49 (.ld false 1 (.t 48)),.m 15 47,.m 16 49]
def f11r13:AC:=.reg i11r13 (some [2,6,12,13,14,15,16,43,44,45])
def i11r14:List It:=[.m 50 14,.m 51 15,.u 52 (.bsl 1 [.t 51]),.m 53 16,.u 54 (.build [(.tl [] (some true)),(.d (.int .i64 0))] [(0,1,(.t 52)),(1,1,(.t 53))]),.u 55 (.bsl 2 [.t 54]),.u 56 (.app 2 32 (.t 50) (.t 55)),.m 14 56]
def f11r14:AC:=.reg i11r14 (some [2,6,12,13,14,43,44,45])
def i11r15:List It:=[.u 57 (.bin .add (.t 45) (.i 1)),.m 45 57]
def f11r15:AC:=.reg i11r15 (some [2,6,12,13,14,43,44,45])
def f11l0:AC:=(.seq f11r12 (.seq (.cond (.t 46) .skip (.exit 0)) (.seq (.blk 1 (.seq f11r13 f11r14)) f11r15)))
def i11r16:List It:=[.u 17 (.mv (.c (.tl [] (some true))))]
def f11r16:AC:=.reg i11r16 (some [2,6,12,13,14,17])
def i11r17:List It:=[.m 58 2,.u 59 (.lenL (.t 58)),.u 60 (.mv (.i 0))]
def f11r17:AC:=.reg i11r17 (some [6,12,13,14,17,58,59,60])
def i11r18:List It:=[.u 61 (.bin .lss (.t 60) (.t 59))]
def f11r18:AC:=.reg i11r18 (some [6,12,13,14,17,58,59,60,61])
def i11r19:List It:=[.m 62 60,.u 63 (.ia 1 (.t 58) (.t 60)),.u 64 (.ld false 1 (.t 63)),.m 18 62,.m 19 64]
def f11r19:AC:=.reg i11r19 (some [6,12,13,14,17,18,19,58,59,60])
def i11r20:List It:=[.m 65 17,.m 66 18,.m 67 19,.u 68 (.build [(.d (.int .i64 0)),(.tl [] (some true))] [(0,1,(.t 66)),(1,1,(.t 67))]),.u 69 (.bsl 2 [.t 68]),.u 70 (.app 2 32 (.t 65) (.t 69)),.m 17 70]
def f11r20:AC:=.reg i11r20 (some [6,12,13,14,17,58,59,60])
def i11r21:List It:=[.u 71 (.bin .add (.t 60) (.i 1)),.m 60 71]
def f11r21:AC:=.reg i11r21 (some [6,12,13,14,17,58,59,60])
def f11l1:AC:=(.seq f11r18 (.seq (.cond (.t 61) .skip (.exit 2)) (.seq (.blk 3 (.seq f11r19 f11r20)) f11r21)))
def i11r22:List It:=[.frz 17,.frz 14,.u 72 (.ld false 1 (.t 13)),.m 73 14,.m 74 17,.u 75 (.call (.t 72) [true,true] [.t 73,.t 74])]
def f11r22:AC:=.reg i11r22 (some [6,12])
def i11r23:List It:=[.u 76 (.fa 0 (.t 12)),.u 77 (.ld false 1 (.t 76)),.u 78 (.lenL (.t 77)),.u 79 (.bin .gtr (.t 78) (.i 4096))]
def f11r23:AC:=.reg i11r23 (some [6,12,79])
def i11r24:List It:=[.u 80 (.build [(.tl [] (some true))] []),.o none (.st 1 (.t 6) (.t 80)) none,.u 7 (.mv (.i 6))]
def f11r24:AC:=.reg i11r24 (some [6,7])
def i11r25:List It:=[.u 81 (.ld true 1 (.t 12)),.o none (.st 1 (.t 6) (.t 81)) none,.u 7 (.mv (.i 0))]
def f11r25:AC:=.reg i11r25 (some [6,7])
def b11:AC:=(.seq f11r0 (.seq (.seq f11r1 (.seq f11r2 (.cond (.t 25) (.seq f11r3 .ret) .skip))) (.seq (.seq f11r4 (.seq f11r5 (.cond (.t 40) (.seq f11r6 .ret) .skip))) (.seq f11r7 (.seq f11r8 (.seq f11r9 (.seq f11r10 (.seq (.seq f11r11 (.blk 0 (.loop f11l0))) (.seq f11r16 (.seq (.seq f11r17 (.blk 2 (.loop f11l1))) (.seq f11r22 (.seq (.seq f11r23 (.cond (.t 79) (.seq f11r24 .ret) .skip)) (.seq f11r25 .ret)))))))))))))
def f11:AF:=⟨3,[(6,some (true,1)),(7,none)],true,b11⟩
def i12r0:List It:=[.u 2 (.mv (.c (.tl [] (some true))))]
def f12r0:AC:=.reg i12r0 (some [0])
def i12r1:List It:=[.u 3 (.mv (.c (.tl [] (some true))))]
def f12r1:AC:=.reg i12r1 (some [0,3])
def i12r2:List It:=[.m 9 0,.u 10 (.lenL (.t 9)),.u 11 (.mv (.i 0))]
def f12r2:AC:=.reg i12r2 (some [3,9,10,11])
def i12r3:List It:=[.u 12 (.bin .lss (.t 11) (.t 10))]
def f12r3:AC:=.reg i12r3 (some [3,9,10,11,12])
def i12r4:List It:=[.u 13 (.ia 1 (.t 9) (.t 11)),.u 14 (.ld false 1 (.t 13)),.m 5 14]
def f12r4:AC:=.reg i12r4 (some [3,5,9,10,11])
def i12r5:List It:=[.u 15 (.bsl 4 []),.m 6 15]
def f12r5:AC:=.reg i12r5 (some [3,5,6,9,10,11])
def i12r6:List It:=[.m 16 5,.u 17 (.lenL (.t 16)),.u 18 (.mv (.i 0))]
def f12r6:AC:=.reg i12r6 (some [3,6,9,10,11,16,17,18])
def i12r7:List It:=[.u 19 (.bin .lss (.t 18) (.t 17))]
def f12r7:AC:=.reg i12r7 (some [3,6,9,10,11,16,17,18,19])
def i12r8:List It:=[.u 20 (.ia 4 (.t 16) (.t 18)),.u 21 (.ld true 4 (.t 20)),.u 8 (.alloc 4 (.agg [(.d (.int .i64 0)),(.d (.int .i64 0)),(.d (.int .i64 0)),(.tl [] (some true))])),.o none (.st 4 (.t 8) (.t 21)) none,.frz 8]
def f12r8:AC:=.reg i12r8 (some [3,6,8,9,10,11,16,17,18])
def i12r9:List It:=[.m 22 6,.u 23 (.ld true 4 (.t 8)),.u 24 (.call (.f 45) [true] [.t 23]),.u 25 (.bsl 4 [.t 24]),.u 26 (.app 4 48 (.t 22) (.t 25)),.m 6 26,.kill 8]
def f12r9:AC:=.reg i12r9 (some [3,6,9,10,11,16,17,18])
def i12r10:List It:=[.u 27 (.bin .add (.t 18) (.i 1)),.m 18 27]
def f12r10:AC:=.reg i12r10 (some [3,6,9,10,11,16,17,18])
def f12l0:AC:=(.seq f12r7 (.seq (.cond (.t 19) .skip (.exit 2)) (.seq (.blk 3 (.seq f12r8 f12r9)) f12r10)))
def i12r11:List It:=[.frz 6,.m 28 3,.m 29 6,.u 30 (.bsl 1 [.t 29]),.u 31 (.app 1 24 (.t 28) (.t 30)),.m 3 31]
def f12r11:AC:=.reg i12r11 (some [3,9,10,11])
def i12r12:List It:=[.u 32 (.bin .add (.t 11) (.i 1)),.m 11 32]
def f12r12:AC:=.reg i12r12 (some [3,9,10,11])
def f12l1:AC:=(.seq f12r3 (.seq (.cond (.t 12) .skip (.exit 0)) (.seq (.blk 1 (.seq f12r4 (.seq f12r5 (.seq (.seq f12r6 (.blk 2 (.loop f12l0))) f12r11)))) f12r12)))
def i12r13:List It:=[.m 33 3,.m 2 33]
def f12r13:AC:=.reg i12r13 (some [2])
def b12:AC:=(.seq f12r0 (.seq f12r1 (.seq (.seq f12r2 (.blk 0 (.loop f12l1))) (.seq f12r13 .ret))))
def f12:AF:=⟨1,[(2,none)],true,b12⟩
def i13r0:List It:=[.u 6 (.mv (.c (.tl [] (some true)))),.u 7 (.mv (.i 0))]
def f13r0:AC:=.reg i13r0 (some [0,1,2])
def i13r1:List It:=[.m 17 0,.m 18 1,.m 19 2,.u 20 (.call (.f 46) [true,true,true] [.t 17,.t 18,.t 19]),.m 8 20]
def f13r1:AC:=.reg i13r1 (some [0,1,2,8])
def i13r2:List It:=[.m 21 8,.u 22 (.bin .neq (.t 21) (.i 0))]
def f13r2:AC:=.reg i13r2 (some [0,1,2,8,22])
def i13r3:List It:=[.m 23 8,.u 6 (.mv (.c (.tl [] (some true)))),.m 7 23]
def f13r3:AC:=.reg i13r3 (some [6,7])
def i13r4:List It:=[.m 25 0,.m 26 1,.m 27 2,.u 28 (.call (.f 47) [true,true,true] [.t 25,.t 26,.t 27]),.m 24 28,.u 29 (.ext 0 (.t 24)),.u 30 (.ext 1 (.t 24)),.m 9 29,.m 10 30]
def f13r4:AC:=.reg i13r4 (some [0,1,2,10])
def i13r5:List It:=[.m 31 10]
def f13r5:AC:=.reg i13r5 (some [0,1,2,31])
def i13r6:List It:=[.u 6 (.mv (.c (.tl [] (some true)))),.u 7 (.mv (.i 13))]
def f13r6:AC:=.reg i13r6 (some [6,7])
def i13r7:List It:=[.u 11 (.mv (.c (.tl [] (some true))))]
def f13r7:AC:=.reg i13r7 (some [0,1,2,11])
def i13r8:List It:=[.u 12 (.mv (.i 0))]
def f13r8:AC:=.reg i13r8 (some [0,1,2,11,12])
def i13r9:List It:=[.m 32 12,.m 33 1,.u 34 (.lenL (.t 33)),.u 35 (.bin .lss (.t 32) (.t 34))]
def f13r9:AC:=.reg i13r9 (some [0,1,2,11,12,35])
def i13r10:List It:=[.m 38 11,.m 39 12,.u 40 (.bsl 1 [.t 39]),.m 41 1,.m 42 12,.u 43 (.ia 1 (.t 41) (.t 42)),.u 44 (.ld false 1 (.t 43)),.u 45 (.build [(.tl [] (some true)),(.d (.int .i64 0))] [(0,1,(.t 40)),(1,1,(.t 44))]),.u 46 (.bsl 2 [.t 45]),.u 47 (.app 2 32 (.t 38) (.t 46)),.m 11 47]
def f13r10:AC:=.reg i13r10 (some [0,1,2,11,12])
def i13r11:List It:=[.m 36 12,.u 37 (.bin .add (.t 36) (.i 1)),.m 12 37]
def f13r11:AC:=.reg i13r11 (some [0,1,2,11,12])
def f13l0:AC:=(.seq (.seq f13r9 (.cond (.t 35) .skip (.exit 0))) (.seq (.blk 1 f13r10) f13r11))
def i13r12:List It:=[.u 13 (.mv (.c (.tl [] (some true))))]
def f13r12:AC:=.reg i13r12 (some [0,2,11,13])
def i13r13:List It:=[.u 14 (.mv (.i 0))]
def f13r13:AC:=.reg i13r13 (some [0,2,11,13,14])
def i13r14:List It:=[.m 48 14,.m 49 2,.u 50 (.lenL (.t 49)),.u 51 (.bin .lss (.t 48) (.t 50))]
def f13r14:AC:=.reg i13r14 (some [0,2,11,13,14,51])
def i13r15:List It:=[.m 54 13,.m 55 14,.m 56 2,.m 57 14,.u 58 (.ia 1 (.t 56) (.t 57)),.u 59 (.ld false 1 (.t 58)),.u 60 (.build [(.d (.int .i64 0)),(.tl [] (some true))] [(0,1,(.t 55)),(1,1,(.t 59))]),.u 61 (.bsl 2 [.t 60]),.u 62 (.app 2 32 (.t 54) (.t 61)),.m 13 62]
def f13r15:AC:=.reg i13r15 (some [0,2,11,13,14])
def i13r16:List It:=[.m 52 14,.u 53 (.bin .add (.t 52) (.i 1)),.m 14 53]
def f13r16:AC:=.reg i13r16 (some [0,2,11,13,14])
def f13l1:AC:=(.seq (.seq f13r14 (.cond (.t 51) .skip (.exit 2))) (.seq (.blk 3 f13r15) f13r16))
def i13r17:List It:=[.frz 13,.frz 11,.m 64 0,.m 65 11,.m 66 13,.u 67 (.call (.f 48) [true,false,true,true] [.t 64,(.c (.tl [] (some true))),.t 65,.t 66]),.m 63 67,.u 68 (.ext 0 (.t 63)),.u 69 (.ext 1 (.t 63)),.m 15 68,.m 16 69]
def f13r17:AC:=.reg i13r17 (some [15])
def i13r18:List It:=[.m 70 15,.u 71 (.lenL (.t 70)),.u 72 (.bin .gtr (.t 71) (.i 4096))]
def f13r18:AC:=.reg i13r18 (some [15,72])
def i13r19:List It:=[.u 6 (.mv (.c (.tl [] (some true)))),.u 7 (.mv (.i 6))]
def f13r19:AC:=.reg i13r19 (some [6,7])
def i13r20:List It:=[.m 73 15,.m 6 73,.u 7 (.mv (.i 0))]
def f13r20:AC:=.reg i13r20 (some [6,7])
def b13:AC:=(.seq f13r0 (.seq (.seq f13r1 (.seq f13r2 (.cond (.t 22) (.seq f13r3 .ret) .skip))) (.seq (.seq f13r4 (.seq f13r5 (.cond (.t 31) (.seq f13r6 .ret) .skip))) (.seq f13r7 (.seq (.seq f13r8 (.blk 0 (.loop f13l0))) (.seq f13r12 (.seq (.seq f13r13 (.blk 2 (.loop f13l1))) (.seq f13r17 (.seq (.seq f13r18 (.cond (.t 72) (.seq f13r19 .ret) .skip)) (.seq f13r20 .ret))))))))))
def f13:AF:=⟨3,[(6,none),(7,none)],true,b13⟩
def i14r0:List It:=[.u 2 (.box 1 (.t 0)),.u 4 (.mv (.b false)),.frz 2]
def f14r0:AC:=.reg i14r0 (some [1,2])
def i14r1:List It:=[.u 5 (.fa 0 (.t 2)),.u 6 (.ld false 1 (.t 5)),.m 7 1,.u 8 (.call (.f 49) [true,true,true] [.t 6,.t 7,(.f 50)]),.m 4 8,.kill 2]
def f14r1:AC:=.reg i14r1 (some [4])
def b14:AC:=(.seq f14r0 (.seq f14r1 .ret))
def f14:AF:=⟨2,[(4,none)],true,b14⟩
def i15r0:List It:=[.u 2 (.mv (.b false))]
def f15r0:AC:=.reg i15r0 (some [0])
def i15r1:List It:=[.m 5 0,.u 6 (.lenL (.t 5)),.u 7 (.mv (.i 0))]
def f15r1:AC:=.reg i15r1 (some [0,5,6,7])
def i15r2:List It:=[.u 8 (.bin .lss (.t 7) (.t 6))]
def f15r2:AC:=.reg i15r2 (some [0,5,6,7,8])
def i15r3:List It:=[.u 9 (.ia 5 (.t 5) (.t 7)),.u 10 (.ld true 5 (.t 9)),.u 4 (.alloc 5 (.agg [(.tl [] (some true)),(.d (.bool false)),(.d (.int .i64 0)),(.tl [] (some true)),(.d (.int .i64 0))])),.o none (.st 5 (.t 4) (.t 10)) none,.frz 4]
def f15r3:AC:=.reg i15r3 (some [0,4,5,6,7])
def i15r4:List It:=[.u 11 (.fa 0 (.t 4)),.u 12 (.ld false 1 (.t 11)),.u 13 (.lenL (.t 12)),.u 14 (.bin .gtr (.t 13) (.i 12)),.m 15 14,.g 16 (.fa 3 (.t 4)) 15 false,.g 17 (.ld false 1 (.t 16)) 15 false,.g 18 (.lenL (.t 17)) 15 false,.g 19 (.bin .gtr (.t 18) (.i 20)) 15 false,.u 20 (.pick (.t 15) (.b true) (.t 19)),.kill 4]
def f15r4:AC:=.reg i15r4 (some [0,5,6,7,20])
def i15r5:List It:=[.u 2 (.mv (.b false))]
def f15r5:AC:=.reg i15r5 (some [2])
def i15r6:List It:=[.u 21 (.bin .add (.t 7) (.i 1)),.m 7 21]
def f15r6:AC:=.reg i15r6 (some [0,5,6,7])
def f15l0:AC:=(.seq f15r2 (.seq (.cond (.t 8) .skip (.exit 0)) (.seq (.blk 1 (.seq f15r3 (.seq f15r4 (.cond (.t 20) (.seq f15r5 .ret) .skip)))) f15r6)))
def i15r7:List It:=[.m 22 0,.u 23 (.lenL (.t 22)),.u 24 (.bin .leq (.t 23) (.i 40)),.m 2 24]
def f15r7:AC:=.reg i15r7 (some [2])
def b15:AC:=(.seq f15r0 (.seq (.seq f15r1 (.blk 0 (.loop f15l0))) (.seq f15r7 .ret)))
def f15:AF:=⟨1,[(2,none)],true,b15⟩
def i16r0:List It:=[.u 4 (.mv (.c (.tl [] (some true))))]
def f16r0:AC:=.reg i16r0 (some [0,1])
def i16r1:List It:=[.m 8 0,.m 9 1,.m 10 0,.u 11 (.lenL (.t 10)),.u 12 (.mksl (.d (.bool false)) 1 1 (.t 11)),.u 13 (.call (.f 51) [true,true,true,true] [.t 8,(.i 0),.t 9,.t 12]),.m 7 13,.u 14 (.ext 0 (.t 7)),.u 15 (.ext 1 (.t 7)),.m 5 14,.m 6 15]
def f16r1:AC:=.reg i16r1 (some [5])
def i16r2:List It:=[.m 16 5,.m 4 16]
def f16r2:AC:=.reg i16r2 (some [4])
def b16:AC:=(.seq f16r0 (.seq f16r1 (.seq f16r2 .ret)))
def f16:AF:=⟨2,[(4,none)],true,b16⟩
def i17r0:List It:=[.u 6 (.mv (.b false))]
def f17r0:AC:=.reg i17r0 (some [0,1,2])
def i17r1:List It:=[.m 10 0,.u 11 (.lenL (.t 10)),.m 12 1,.u 13 (.lenL (.t 12)),.u 14 (.bin .neq (.t 11) (.t 13))]
def f17r1:AC:=.reg i17r1 (some [0,1,2,14])
def i17r2:List It:=[.u 6 (.mv (.b false))]
def f17r2:AC:=.reg i17r2 (some [6])
def i17r3:List It:=[.m 15 0,.u 16 (.lenL (.t 15)),.u 17 (.mv (.i 0))]
def f17r3:AC:=.reg i17r3 (some [1,2,15,16,17])
def i17r4:List It:=[.u 18 (.bin .lss (.t 17) (.t 16))]
def f17r4:AC:=.reg i17r4 (some [1,2,15,16,17,18])
def i17r5:List It:=[.m 19 17,.u 20 (.ia 1 (.t 15) (.t 17)),.u 21 (.ld false 1 (.t 20)),.m 7 19,.m 8 21]
def f17r5:AC:=.reg i17r5 (some [1,2,7,8,15,16,17])
def i17r6:List It:=[.m 22 1,.m 23 7,.u 24 (.ia 1 (.t 22) (.t 23)),.u 25 (.ld false 1 (.t 24)),.m 9 25]
def f17r6:AC:=.reg i17r6 (some [1,2,8,9,15,16,17])
def i17r7:List It:=[.m 26 2,.m 27 8,.m 28 9,.u 29 (.call (.t 26) [true,true] [.t 27,.t 28]),.u 30 (.un .not (.t 29))]
def f17r7:AC:=.reg i17r7 (some [1,2,15,16,17,30])
def i17r8:List It:=[.u 6 (.mv (.b false))]
def f17r8:AC:=.reg i17r8 (some [6])
def i17r9:List It:=[.u 31 (.bin .add (.t 17) (.i 1)),.m 17 31]
def f17r9:AC:=.reg i17r9 (some [1,2,15,16,17])
def f17l0:AC:=(.seq f17r4 (.seq (.cond (.t 18) .skip (.exit 0)) (.seq (.blk 1 (.seq f17r5 (.seq f17r6 (.seq f17r7 (.cond (.t 30) (.seq f17r8 .ret) .skip))))) f17r9)))
def i17r10:List It:=[.u 6 (.mv (.b true))]
def f17r10:AC:=.reg i17r10 (some [6])
def b17:AC:=(.seq f17r0 (.seq (.seq f17r1 (.cond (.t 14) (.seq f17r2 .ret) .skip)) (.seq (.seq f17r3 (.blk 0 (.loop f17l0))) (.seq f17r10 .ret))))
def f17:AF:=⟨3,[(6,none)],true,b17⟩
def i18r0:List It:=[.u 2 (.box 1 (.t 0)),.u 4 (.mv (.c (.tl [] (some true)))),.frz 2]
def f18r0:AC:=.reg i18r0 (some [1,2])
def i18r1:List It:=[.u 5 (.alloc 1 (.tl [] (some true)))]
def f18r1:AC:=.reg i18r1 (some [1,2,5])
def i18r2:List It:=[.u 7 (.ld true 1 (.t 2)),.m 8 1,.u 9 (.call (.f 52) [true,true] [.t 7,.t 8]),.kill 2]
def f18r2:AC:=.reg i18r2 (some [5,9])
def i18r3:List It:=[.u 6 (.alloc 5 (.agg [(.tl [] (some true)),(.d (.bool false)),(.d (.int .i64 0)),(.tl [] (some true)),(.d (.int .i64 0))])),.o none (.st 5 (.t 6) (.t 10)) none,.frz 6]
def f18r3:AC:=.reg i18r3 (some [5,6])
def i18r4:List It:=[.u 11 (.fa 1 (.t 6)),.u 12 (.ld false 1 (.t 11)),.m 13 12,.g 14 (.fa 3 (.t 6)) 13 true,.g 15 (.ld false 1 (.t 14)) 13 true,.g 16 (.lenL (.t 15)) 13 true,.g 17 (.bin .gtr (.t 16) (.i 0)) 13 true,.u 18 (.pick (.t 13) (.t 17) (.b false))]
def f18r4:AC:=.reg i18r4 (some [5,6,18])
def i18r5:List It:=[.u 19 (.ldk (.t 5) false 1 (.t 5)),.u 20 (.fa 0 (.t 6)),.u 21 (.ld false 1 (.t 20)),.u 22 (.callz (.t 5) (.f 40) [true] [.t 21]),.u 23 (.bsl 1 [.t 22]),.u 24 (.app 1 24 (.t 19) (.t 23)),.o none (.st 1 (.t 5) (.t 24)) none]
def f18r5:AC:=.reg i18r5 (some [])
def a18q0:AC:=f18r3
def d18q0:AC:=(.blk 1 (.seq f18r4 (.cond (.t 18) f18r5 .skip)))
def i18r6:List It:=[.u 25 (.ld false 1 (.t 5)),.m 4 25,.kill 5]
def f18r6:AC:=.reg i18r6 (some [4])
def b18:AC:=(.seq f18r0 (.seq f18r1 (.seq (.seq f18r2 (.blk 0 (.rng (.t 9) 288))) (.seq f18r6 .ret))))
def f18:AF:=⟨2,[(4,none)],true,b18⟩
def f1000288:AF:=⟨1,[(10,none)],false,.seq a18q0 d18q0⟩
def i19r0:List It:=[.u 2 (.alloc 1 (.agg [(.tl [] (some true))]))]
def f19r0:AC:=.reg i19r0 (some [0,2])
def i19r1:List It:=[.u 3 (.alloc 1 (.agg [(.tl [] (some true))]))]
def f19r1:AC:=.reg i19r1 (some [0,2,3])
def i19r2:List It:=[.m 6 0,.u 7 (.lenL (.t 6)),.u 8 (.mv (.i 0))]
def f19r2:AC:=.reg i19r2 (some [2,3,6,7,8])
def i19r3:List It:=[.u 9 (.bin .lss (.t 8) (.t 7))]
def f19r3:AC:=.reg i19r3 (some [2,3,6,7,8,9])
def i19r4:List It:=[.u 10 (.ia 5 (.t 6) (.t 8)),.u 11 (.ld true 5 (.t 10)),.u 5 (.alloc 5 (.agg [(.tl [] (some true)),(.d (.bool false)),(.d (.int .i64 0)),(.tl [] (some true)),(.d (.int .i64 0))])),.o none (.st 5 (.t 5) (.t 11)) none,.frz 5]
def f19r4:AC:=.reg i19r4 (some [2,3,5,6,7,8])
def i19r5:List It:=[.u 12 (.fa 0 (.t 3)),.u 13 (.ld false 1 (.t 12)),.u 14 (.ld true 5 (.t 5)),.u 15 (.bsl 5 [.t 14]),.u 16 (.app 5 72 (.t 13) (.t 15)),.u 17 (.fa 0 (.t 3)),.o none (.st 1 (.t 17) (.t 16)) none,.kill 5]
def f19r5:AC:=.reg i19r5 (some [2,3,6,7,8])
def i19r6:List It:=[.u 18 (.bin .add (.t 8) (.i 1)),.m 8 18]
def f19r6:AC:=.reg i19r6 (some [2,3,6,7,8])
def f19l0:AC:=(.seq f19r3 (.seq (.cond (.t 9) .skip (.exit 0)) (.seq (.blk 1 (.seq f19r4 f19r5)) f19r6)))
def i19r7:List It:=[.u 19 (.ld true 1 (.t 3)),.o none (.st 1 (.t 2) (.t 19)) none,.kill 3]
def f19r7:AC:=.reg i19r7 (some [2])
def b19:AC:=(.seq f19r0 (.seq f19r1 (.seq (.seq f19r2 (.blk 0 (.loop f19l0))) (.seq f19r7 .ret))))
def f19:AF:=⟨1,[(2,some (true,1))],true,b19⟩
def i20r0:List It:=[.u 4 (.mv (.b false))]
def f20r0:AC:=.reg i20r0 (some [0,1])
def i20r1:List It:=[.m 5 0,.m 6 1,.u 7 (.call (.f 21) [true,true] [.t 5,.t 6]),.m 4 7]
def f20r1:AC:=.reg i20r1 (some [4])
def b20:AC:=(.seq f20r0 (.seq f20r1 .ret))
def f20:AF:=⟨2,[(4,none)],true,b20⟩
def i21r0:List It:=[.u 4 (.mv (.b false))]
def f21r0:AC:=.reg i21r0 (some [0,1])
def i21r1:List It:=[.m 6 0,.u 7 (.lenL (.t 6)),.m 8 1,.u 9 (.lenL (.t 8)),.u 10 (.bin .neq (.t 7) (.t 9))]
def f21r1:AC:=.reg i21r1 (some [0,1,10])
def i21r2:List It:=[.u 4 (.mv (.b false))]
def f21r2:AC:=.reg i21r2 (some [4])
def i21r3:List It:=[.m 11 0,.u 12 (.lenL (.t 11)),.u 13 (.mv (.i 0))]
def f21r3:AC:=.reg i21r3 (some [0,1,12,13])
def i21r4:List It:=[.u 14 (.bin .lss (.t 13) (.t 12))]
def f21r4:AC:=.reg i21r4 (some [0,1,12,13,14])
def i21r5:List It:=[.m 15 13,.m 5 15]
def f21r5:AC:=.reg i21r5 (some [0,1,5,12,13])
def i21r6:List It:=[.m 16 0,.m 17 5,.u 18 (.ia 1 (.t 16) (.t 17)),.u 19 (.ld false 1 (.t 18)),.m 20 1,.m 21 5,.u 22 (.ia 1 (.t 20) (.t 21)),.u 23 (.ld false 1 (.t 22)),.u 24 (.bin .neq (.t 19) (.t 23))]
def f21r6:AC:=.reg i21r6 (some [0,1,12,13,24])
def i21r7:List It:=[.u 4 (.mv (.b false))]
def f21r7:AC:=.reg i21r7 (some [4])
def i21r8:List It:=[.u 25 (.bin .add (.t 13) (.i 1)),.m 13 25]
def f21r8:AC:=.reg i21r8 (some [0,1,12,13])
def f21l0:AC:=(.seq f21r4 (.seq (.cond (.t 14) .skip (.exit 0)) (.seq (.blk 1 (.seq f21r5 (.seq f21r6 (.cond (.t 24) (.seq f21r7 .ret) .skip)))) f21r8)))
def i21r9:List It:=[.u 4 (.mv (.b true))]
def f21r9:AC:=.reg i21r9 (some [4])
def b21:AC:=(.seq f21r0 (.seq (.seq f21r1 (.cond (.t 10) (.seq f21r2 .ret) .skip)) (.seq (.seq f21r3 (.blk 0 (.loop f21l0))) (.seq f21r9 .ret))))
def f21:AF:=⟨2,[(4,none)],true,b21⟩
def i22r0:List It:=[.u 1 (.box 1 (.t 0)),.u 2 (.mv (.i 0))]
def f22r0:AC:=.reg i22r0 (some [1])
def i22r1:List It:=[.u 7 (.ld false 1 (.t 1)),.u 8 (.call (.f 53) [true] [.t 7])]
def f22r1:AC:=.reg i22r1 (some [1,8])
def i22r2:List It:=[.u 2 (.mv (.i 6))]
def f22r2:AC:=.reg i22r2 (some [2])
def i22r3:List It:=[.u 9 (.ld false 1 (.t 1)),.u 10 (.call (.f 54) [true] [.t 9]),.u 11 (.un .not (.t 10))]
def f22r3:AC:=.reg i22r3 (some [1,11])
def i22r4:List It:=[.u 2 (.mv (.i 3))]
def f22r4:AC:=.reg i22r4 (some [2])
def i22r5:List It:=[.u 12 (.ld false 1 (.t 1)),.u 13 (.call (.f 55) [true] [.t 12])]
def f22r5:AC:=.reg i22r5 (some [1,13])
def i22r6:List It:=[.u 2 (.mv (.i 8))]
def f22r6:AC:=.reg i22r6 (some [2])
def i22r7:List It:=[.u 14 (.ld false 1 (.t 1)),.u 15 (.lenL (.t 14)),.u 16 (.mv (.i 0))]
def f22r7:AC:=.reg i22r7 (some [1,14,15,16])
def i22r8:List It:=[.u 17 (.bin .lss (.t 16) (.t 15))]
def f22r8:AC:=.reg i22r8 (some [1,14,15,16,17])
def i22r9:List It:=[.u 18 (.ia 2 (.t 14) (.t 16)),.u 19 (.ld true 2 (.t 18)),.u 4 (.alloc 2 (.agg [(.d (.str ⟨#[]⟩)),(.tl [] (some true))])),.o none (.st 2 (.t 4) (.t 19)) none,.frz 4]
def f22r9:AC:=.reg i22r9 (some [1,4,14,15,16])
def i22r10:List It:=[.u 20 (.fa 1 (.t 4)),.u 21 (.ld false 1 (.t 20)),.u 22 (.lenL (.t 21)),.u 23 (.mv (.i 0)),.kill 4]
def f22r10:AC:=.reg i22r10 (some [1,14,15,16,21,22,23])
def i22r11:List It:=[.u 24 (.bin .lss (.t 23) (.t 22))]
def f22r11:AC:=.reg i22r11 (some [1,14,15,16,21,22,23,24])
def i22r12:List It:=[.u 25 (.ia 2 (.t 21) (.t 23)),.u 26 (.ld true 2 (.t 25)),.u 6 (.alloc 2 (.agg [(.d (.str ⟨#[]⟩)),(.tl [] (some true))])),.o none (.st 2 (.t 6) (.t 26)) none,.frz 6]
def f22r12:AC:=.reg i22r12 (some [1,6,14,15,16,21,22,23])
def i22r13:List It:=[.u 27 (.fa 1 (.t 6)),.u 28 (.ld false 1 (.t 27)),.u 29 (.mkf 57 [.t 1]),.u 30 (.call (.f 56) [true,true] [.t 28,.t 29]),.kill 6]
def f22r13:AC:=.reg i22r13 (some [1,14,15,16,21,22,23,30])
def i22r14:List It:=[.u 2 (.mv (.i 10))]
def f22r14:AC:=.reg i22r14 (some [2])
def i22r15:List It:=[.u 31 (.bin .add (.t 23) (.i 1)),.m 23 31]
def f22r15:AC:=.reg i22r15 (some [1,14,15,16,21,22,23])
def f22l0:AC:=(.seq f22r11 (.seq (.cond (.t 24) .skip (.exit 2)) (.seq (.blk 3 (.seq f22r12 (.seq f22r13 (.cond (.t 30) (.seq f22r14 .ret) .skip)))) f22r15)))
def i22r16:List It:=[.u 32 (.bin .add (.t 16) (.i 1)),.m 16 32]
def f22r16:AC:=.reg i22r16 (some [1,14,15,16])
def f22l1:AC:=(.seq f22r8 (.seq (.cond (.t 17) .skip (.exit 0)) (.seq (.blk 1 (.seq f22r9 (.seq f22r10 (.blk 2 (.loop f22l0))))) f22r16)))
def i22r17:List It:=[.u 33 (.ld false 1 (.t 1)),.u 34 (.call (.f 59) [true] [.t 33]),.u 35 (.un .not (.t 34))]
def f22r17:AC:=.reg i22r17 (some [35])
def i22r18:List It:=[.u 2 (.mv (.i 7))]
def f22r18:AC:=.reg i22r18 (some [2])
def i22r19:List It:=[.u 2 (.mv (.i 0))]
def f22r19:AC:=.reg i22r19 (some [2])
def b22:AC:=(.seq f22r0 (.seq (.seq f22r1 (.cond (.t 8) (.seq f22r2 .ret) .skip)) (.seq (.seq f22r3 (.cond (.t 11) (.seq f22r4 .ret) .skip)) (.seq (.seq f22r5 (.cond (.t 13) (.seq f22r6 .ret) .skip)) (.seq (.seq f22r7 (.blk 0 (.loop f22l1))) (.seq (.seq f22r17 (.cond (.t 35) (.seq f22r18 .ret) .skip)) (.seq f22r19 .ret)))))))
def f22:AF:=⟨1,[(2,none)],true,b22⟩
def i23r0:List It:=[.u 6 (.mv (.c (.tl [] (some true)))),.u 7 (.mv (.i 0))]
def f23r0:AC:=.reg i23r0 (some [0,1,2])
def i23r1:List It:=[.m 12 0,.m 13 1,.m 14 2,.u 15 (.call (.f 35) [true,true,true] [.t 12,.t 13,.t 14]),.m 8 15]
def f23r1:AC:=.reg i23r1 (some [0,1,2,8])
def i23r2:List It:=[.m 16 8,.u 17 (.bin .neq (.t 16) (.i 0))]
def f23r2:AC:=.reg i23r2 (some [0,1,2,8,17])
def i23r3:List It:=[.m 18 8,.u 6 (.mv (.c (.tl [] (some true)))),.m 7 18]
def f23r3:AC:=.reg i23r3 (some [6,7])
def i23r4:List It:=[.u 9 (.mv (.c (.tl [] (some true))))]
def f23r4:AC:=.reg i23r4 (some [0,1,2,9])
def i23r5:List It:=[.m 19 2,.u 20 (.lenL (.t 19)),.u 21 (.mv (.i 0))]
def f23r5:AC:=.reg i23r5 (some [0,1,2,9,19,20,21])
def i23r6:List It:=[.u 22 (.bin .lss (.t 21) (.t 20))]
def f23r6:AC:=.reg i23r6 (some [0,1,2,9,19,20,21,22])
def i23r7:List It:=[.m 23 21,.u 24 (.ia 1 (.t 19) (.t 21)),.u 25 (.ld false 1 (.t 24)),.m 10 23,.m 11 25]
def f23r7:AC:=.reg i23r7 (some [0,1,2,9,10,11,19,20,21])
def i23r8:List It:=[.m 26 0,.m 27 1,.m 28 2,.m 29 10,.u 30 (.slc 1 (.t 28) none (some (.t 29))),.m 31 11,.u 32 (.call (.f 60) [true,true,true,true] [.t 26,.t 27,.t 30,.t 31]),.u 33 (.un .not (.t 32))]
def f23r8:AC:=.reg i23r8 (some [0,1,2,9,10,19,20,21,33])
def i23r9:List It:=[.m 34 9,.m 35 10,.u 36 (.bsl 1 [.t 35]),.u 37 (.app 1 8 (.t 34) (.t 36)),.m 9 37]
def f23r9:AC:=.reg i23r9 (some [0,1,2,9,19,20,21])
def i23r10:List It:=[.u 38 (.bin .add (.t 21) (.i 1)),.m 21 38]
def f23r10:AC:=.reg i23r10 (some [0,1,2,9,19,20,21])
def f23l0:AC:=(.seq f23r6 (.seq (.cond (.t 22) .skip (.exit 0)) (.seq (.blk 1 (.seq f23r7 (.seq f23r8 (.cond (.t 33) f23r9 .skip)))) f23r10)))
def i23r11:List It:=[.m 39 9,.m 6 39,.u 7 (.mv (.i 0))]
def f23r11:AC:=.reg i23r11 (some [6,7])
def b23:AC:=(.seq f23r0 (.seq (.seq f23r1 (.seq f23r2 (.cond (.t 17) (.seq f23r3 .ret) .skip))) (.seq f23r4 (.seq (.seq f23r5 (.blk 0 (.loop f23l0))) (.seq f23r11 .ret)))))
def f23:AF:=⟨3,[(6,none),(7,none)],true,b23⟩
def i24r0:List It:=[.u 4 (.mv (.b false))]
def f24r0:AC:=.reg i24r0 (some [0,1])
def i24r1:List It:=[.m 5 0,.m 6 1,.u 7 (.call (.f 61) [true,true] [.t 5,.t 6]),.u 8 (.bin .geq (.t 7) (.i 0)),.m 4 8]
def f24r1:AC:=.reg i24r1 (some [4])
def b24:AC:=(.seq f24r0 (.seq f24r1 .ret))
def f24:AF:=⟨2,[(4,none)],true,b24⟩
def i25r0:List It:=[.u 2 (.box 1 (.t 0)),.u 4 (.mv (.i 0)),.u 5 (.mv (.i 0)),.frz 2]
def f25r0:AC:=.reg i25r0 (some [1,2])
def i25r1:List It:=[.u 12 (.fa 0 (.t 2)),.u 13 (.ld false 1 (.t 12)),.u 14 (.lenL (.t 13)),.u 15 (.mksl (.d (.bool false)) 1 1 (.t 14)),.m 6 15]
def f25r1:AC:=.reg i25r1 (some [1,2,6])
def i25r2:List It:=[.u 7 (.mv (.i 0))]
def f25r2:AC:=.reg i25r2 (some [1,2,6,7])
def i25r3:List It:=[.m 16 7,.u 17 (.bin .geq (.t 16) (.i 0)),.m 18 17,.g 19 (.mv (.t 7)) 18 true,.g 20 (.fa 0 (.t 2)) 18 true,.g 21 (.ld false 1 (.t 20)) 18 true,.g 22 (.lenL (.t 21)) 18 true,.g 23 (.bin .lss (.t 19) (.t 22)) 18 true,.u 24 (.pick (.t 18) (.t 23) (.b false)),.m 25 24,.g 26 (.mv (.t 6)) 25 true,.g 27 (.mv (.t 7)) 25 true,.g 28 (.ia 1 (.t 26) (.t 27)) 25 true,.g 29 (.ld false 1 (.t 28)) 25 true,.g 30 (.un .not (.t 29)) 25 true,.u 31 (.pick (.t 25) (.t 30) (.b false))]
def f25r3:AC:=.reg i25r3 (some [1,2,6,7,31])
def i25r4:List It:=[.m 32 6,.m 33 7,.u 34 (.ia 1 (.t 32) (.t 33)),.o none (.st 1 (.t 34) (.b true)) none]
def f25r4:AC:=.reg i25r4 (some [1,2,6,7])
def i25r5:List It:=[.u 35 (.fa 0 (.t 2)),.u 36 (.ld false 1 (.t 35)),.m 37 7,.u 38 (.ia 5 (.t 36) (.t 37)),.u 39 (.ld true 5 (.t 38)),.u 8 (.alloc 5 (.agg [(.tl [] (some true)),(.d (.bool false)),(.d (.int .i64 0)),(.tl [] (some true)),(.d (.int .i64 0))])),.o none (.st 5 (.t 8) (.t 39)) none,.frz 8]
def f25r5:AC:=.reg i25r5 (some [1,2,6,8])
def i25r6:List It:=[.u 40 (.fa 3 (.t 8)),.u 41 (.ld false 1 (.t 40)),.u 42 (.lenL (.t 41)),.u 43 (.bin .eql (.t 42) (.i 0))]
def f25r6:AC:=.reg i25r6 (some [1,2,6,8,43])
def i25r7:List It:=[.u 44 (.fa 4 (.t 8)),.u 45 (.ld false 1 (.t 44)),.m 4 45,.u 5 (.mv (.i 0)),.kill 2,.kill 8]
def f25r7:AC:=.reg i25r7 (some [4,5])
def i25r8:List It:=[.u 47 (.fa 0 (.t 8)),.u 48 (.ld false 1 (.t 47)),.m 49 1,.u 50 (.call (.f 62) [true,true] [.t 48,.t 49]),.m 46 50,.u 51 (.ext 0 (.t 46)),.u 52 (.ext 1 (.t 46)),.u 9 (.alloc 3 (.agg [(.d (.int .i64 0)),(.d (.int .i64 0)),(.tl [] (some true))])),.o none (.st 3 (.t 9) (.t 51)) none,.m 10 52,.frz 9]
def f25r8:AC:=.reg i25r8 (some [1,2,6,8,9,10])
def i25r9:List It:=[.m 53 10,.u 54 (.un .not (.t 53))]
def f25r9:AC:=.reg i25r9 (some [1,2,6,8,9,54])
def i25r10:List It:=[.u 4 (.mv (.i 0)),.u 5 (.mv (.i 3)),.kill 2,.kill 8,.kill 9]
def f25r10:AC:=.reg i25r10 (some [4,5])
def i25r11:List It:=[.u 11 (.mv (.i 1))]
def f25r11:AC:=.reg i25r11 (some [1,2,6,8,9,11])
def i25r12:List It:=[.u 56 (.fa 1 (.t 8)),.u 57 (.ld false 1 (.t 56)),.m 55 57]
def f25r12:AC:=.reg i25r12 (some [1,2,6,8,9,11,55])
def i25r13:List It:=[.u 58 (.fa 1 (.t 9)),.u 59 (.ld false 1 (.t 58)),.m 11 59,.kill 9]
def f25r13:AC:=.reg i25r13 (some [1,2,6,8,11])
def i25r14:List It:=[.u 61 (.fa 0 (.t 9)),.u 62 (.ld false 1 (.t 61)),.u 63 (.fa 2 (.t 8)),.u 64 (.ld false 1 (.t 63)),.u 65 (.bin .eql (.t 62) (.t 64)),.m 60 65,.kill 9]
def f25r14:AC:=.reg i25r14 (some [1,2,6,8,11,60])
def i25r15:List It:=[.u 11 (.mv (.i 0))]
def f25r15:AC:=.reg i25r15 (some [1,2,6,8,11])
def i25r16:List It:=[.m 66 11,.u 67 (.bin .lss (.t 66) (.i 0)),.m 68 67,.g 69 (.mv (.t 11)) 68 false,.g 70 (.fa 3 (.t 8)) 68 false,.g 71 (.ld false 1 (.t 70)) 68 false,.g 72 (.lenL (.t 71)) 68 false,.g 73 (.bin .geq (.t 69) (.t 72)) 68 false,.u 74 (.pick (.t 68) (.b true) (.t 73))]
def f25r16:AC:=.reg i25r16 (some [1,2,6,8,11,74])
def i25r17:List It:=[.u 4 (.mv (.i 0)),.u 5 (.mv (.i 3)),.kill 2,.kill 8]
def f25r17:AC:=.reg i25r17 (some [4,5])
def i25r18:List It:=[.u 75 (.fa 3 (.t 8)),.u 76 (.ld false 1 (.t 75)),.m 77 11,.u 78 (.ia 1 (.t 76) (.t 77)),.u 79 (.ld false 1 (.t 78)),.m 7 79,.kill 8]
def f25r18:AC:=.reg i25r18 (some [1,2,6,7])
def f25l0:AC:=(.seq (.seq f25r3 (.cond (.t 31) .skip (.exit 0))) (.blk 1 (.seq f25r4 (.seq f25r5 (.seq (.seq f25r6 (.cond (.t 43) (.seq f25r7 .ret) .skip)) (.seq f25r8 (.seq (.seq f25r9 (.cond (.t 54) (.seq f25r10 .ret) .skip)) (.seq f25r11 (.seq (.blk 2 (.seq f25r12 (.cond (.t 55) f25r13 (.seq f25r14 (.cond (.t 60) f25r15 .skip))))) (.seq (.seq f25r16 (.cond (.t 74) (.seq f25r17 .ret) .skip)) f25r18))))))))))
def i25r19:List It:=[.u 4 (.mv (.i 0)),.u 5 (.mv (.i 3)),.kill 2]
def f25r19:AC:=.reg i25r19 (some [4,5])
def b25:AC:=(.seq f25r0 (.seq f25r1 (.seq (.seq f25r2 (.blk 0 (.loop f25l0))) (.seq f25r19 .ret))))
def f25:AF:=⟨2,[(4,none),(5,none)],true,b25⟩
def i26r0:List It:=[.u 4 (.mv (.i 0)),.u 5 (.mv (.i 0))]
def f26r0:AC:=.reg i26r0 (some [0,1])
def i26r1:List It:=[.u 6 (.mv (.i 0))]
def f26r1:AC:=.reg i26r1 (some [0,1,6])
def i26r2:List It:=[.u 7 (.mv (.i 0))]
def f26r2:AC:=.reg i26r2 (some [0,1,6,7])
def i26r3:List It:=[.m 12 7,.m 13 0,.u 14 (.lenL (.t 13)),.u 15 (.bin .leq (.t 12) (.t 14))]
def f26r3:AC:=.reg i26r3 (some [0,1,6,7,15])
def i26r4:List It:=[.m 18 6,.u 19 (.bin .lss (.t 18) (.i 0)),.m 20 19,.g 21 (.mv (.t 6)) 20 false,.g 22 (.mv (.t 0)) 20 false,.g 23 (.lenL (.t 22)) 20 false,.g 24 (.bin .geq (.t 21) (.t 23)) 20 false,.u 25 (.pick (.t 20) (.b true) (.t 24))]
def f26r4:AC:=.reg i26r4 (some [0,1,6,7,25])
def i26r5:List It:=[.u 4 (.mv (.i 0)),.u 5 (.mv (.i 3))]
def f26r5:AC:=.reg i26r5 (some [4,5])
def i26r6:List It:=[.m 26 0,.m 27 6,.u 28 (.ia 5 (.t 26) (.t 27)),.u 29 (.ld true 5 (.t 28)),.u 8 (.alloc 5 (.agg [(.tl [] (some true)),(.d (.bool false)),(.d (.int .i64 0)),(.tl [] (some true)),(.d (.int .i64 0))])),.o none (.st 5 (.t 8) (.t 29)) none,.frz 8]
def f26r6:AC:=.reg i26r6 (some [0,1,7,8])
def i26r7:List It:=[.u 30 (.fa 3 (.t 8)),.u 31 (.ld false 1 (.t 30)),.u 32 (.lenL (.t 31)),.u 33 (.bin .eql (.t 32) (.i 0))]
def f26r7:AC:=.reg i26r7 (some [0,1,7,8,33])
def i26r8:List It:=[.u 34 (.fa 4 (.t 8)),.u 35 (.ld false 1 (.t 34)),.m 4 35,.u 5 (.mv (.i 0)),.kill 8]
def f26r8:AC:=.reg i26r8 (some [4,5])
def i26r9:List It:=[.m 36 7,.m 37 0,.u 38 (.lenL (.t 37)),.u 39 (.bin .eql (.t 36) (.t 38)),.m 40 39,.g 41 (.fa 0 (.t 8)) 40 false,.g 42 (.ld false 1 (.t 41)) 40 false,.g 43 (.lenL (.t 42)) 40 false,.g 44 (.bin .eql (.t 43) (.i 0)) 40 false,.u 45 (.pick (.t 40) (.b true) (.t 44)),.m 46 45,.g 47 (.fa 0 (.t 8)) 46 false,.g 48 (.ld false 1 (.t 47)) 46 false,.g 49 (.ia 1 (.t 48) (.i 0)) 46 false,.g 50 (.ld false 1 (.t 49)) 46 false,.g 51 (.bin .lss (.t 50) (.i 0)) 46 false,.u 52 (.pick (.t 46) (.b true) (.t 51)),.m 53 52,.g 54 (.fa 0 (.t 8)) 53 false,.g 55 (.ld false 1 (.t 54)) 53 false,.g 56 (.ia 1 (.t 55) (.i 0)) 53 false,.g 57 (.ld false 1 (.t 56)) 53 false,.g 58 (.mv (.t 1)) 53 false,.g 59 (.lenL (.t 58)) 53 false,.g 60 (.bin .geq (.t 57) (.t 59)) 53 false,.u 61 (.pick (.t 53) (.b true) (.t 60))]
def f26r9:AC:=.reg i26r9 (some [0,1,7,8,61])
def i26r10:List It:=[.u 4 (.mv (.i 0)),.u 5 (.mv (.i 3)),.kill 8]
def f26r10:AC:=.reg i26r10 (some [4,5])
def i26r11:List It:=[.m 62 1,.u 63 (.fa 0 (.t 8)),.u 64 (.ld false 1 (.t 63)),.u 65 (.ia 1 (.t 64) (.i 0)),.u 66 (.ld false 1 (.t 65)),.u 67 (.ia 3 (.t 62) (.t 66)),.u 68 (.ld true 3 (.t 67)),.u 9 (.alloc 3 (.agg [(.d (.int .i64 0)),(.d (.int .i64 0)),(.tl [] (some true))])),.o none (.st 3 (.t 9) (.t 68)) none]
def f26r11:AC:=.reg i26r11 (some [0,1,7,8,9])
def i26r12:List It:=[.u 10 (.mv (.i 1))]
def f26r12:AC:=.reg i26r12 (some [0,1,7,8,9,10])
def i26r13:List It:=[.m 69 10,.u 70 (.fa 0 (.t 8)),.u 71 (.ld false 1 (.t 70)),.u 72 (.lenL (.t 71)),.u 73 (.bin .lss (.t 69) (.t 72))]
def f26r13:AC:=.reg i26r13 (some [0,1,7,8,9,10,73])
def i26r14:List It:=[.u 76 (.fa 0 (.t 8)),.u 77 (.ld false 1 (.t 76)),.m 78 10,.u 79 (.ia 1 (.t 77) (.t 78)),.u 80 (.ld false 1 (.t 79)),.u 81 (.bin .lss (.t 80) (.i 0)),.m 82 81,.g 83 (.fa 0 (.t 8)) 82 false,.g 84 (.ld false 1 (.t 83)) 82 false,.g 85 (.mv (.t 10)) 82 false,.g 86 (.ia 1 (.t 84) (.t 85)) 82 false,.g 87 (.ld false 1 (.t 86)) 82 false,.g 88 (.fa 2 (.t 9)) 82 false,.g 89 (.ld false 1 (.t 88)) 82 false,.g 90 (.lenL (.t 89)) 82 false,.g 91 (.bin .geq (.t 87) (.t 90)) 82 false,.u 92 (.pick (.t 82) (.b true) (.t 91))]
def f26r14:AC:=.reg i26r14 (some [0,1,7,8,9,10,92])
def i26r15:List It:=[.u 4 (.mv (.i 0)),.u 5 (.mv (.i 3)),.kill 8,.kill 9]
def f26r15:AC:=.reg i26r15 (some [4,5])
def i26r16:List It:=[.u 93 (.fa 2 (.t 9)),.u 94 (.ld false 1 (.t 93)),.u 95 (.fa 0 (.t 8)),.u 96 (.ld false 1 (.t 95)),.m 97 10,.u 98 (.ia 1 (.t 96) (.t 97)),.u 99 (.ld false 1 (.t 98)),.u 100 (.ia 3 (.t 94) (.t 99)),.u 101 (.ld true 3 (.t 100)),.o none (.st 3 (.t 9) (.t 101)) none]
def f26r16:AC:=.reg i26r16 (some [0,1,7,8,9,10])
def i26r17:List It:=[.m 74 10,.u 75 (.bin .add (.t 74) (.i 1)),.m 10 75]
def f26r17:AC:=.reg i26r17 (some [0,1,7,8,9,10])
def f26l0:AC:=(.seq (.seq f26r13 (.cond (.t 73) .skip (.exit 2))) (.seq (.blk 3 (.seq (.seq f26r14 (.cond (.t 92) (.seq f26r15 .ret) .skip)) f26r16)) f26r17))
def i26r18:List It:=[.u 11 (.mv (.i 1))]
def f26r18:AC:=.reg i26r18 (some [0,1,7,8,9,11])
def i26r19:List It:=[.u 102 (.fa 1 (.t 8)),.u 103 (.ld false 1 (.t 102))]
def f26r19:AC:=.reg i26r19 (some [0,1,7,8,9,11,103])
def i26r20:List It:=[.u 104 (.fa 1 (.t 9)),.u 105 (.ld false 1 (.t 104)),.m 11 105,.kill 9]
def f26r20:AC:=.reg i26r20 (some [0,1,7,8,11])
def i26r21:List It:=[.u 106 (.fa 0 (.t 9)),.u 107 (.ld false 1 (.t 106)),.u 108 (.fa 2 (.t 8)),.u 109 (.ld false 1 (.t 108)),.u 110 (.bin .eql (.t 107) (.t 109)),.kill 9]
def f26r21:AC:=.reg i26r21 (some [0,1,7,8,11,110])
def i26r22:List It:=[.u 11 (.mv (.i 0))]
def f26r22:AC:=.reg i26r22 (some [0,1,7,8,11])
def i26r23:List It:=[.m 111 11,.u 112 (.bin .lss (.t 111) (.i 0)),.m 113 112,.g 114 (.mv (.t 11)) 113 false,.g 115 (.fa 3 (.t 8)) 113 false,.g 116 (.ld false 1 (.t 115)) 113 false,.g 117 (.lenL (.t 116)) 113 false,.g 118 (.bin .geq (.t 114) (.t 117)) 113 false,.u 119 (.pick (.t 113) (.b true) (.t 118))]
def f26r23:AC:=.reg i26r23 (some [0,1,7,8,11,119])
def i26r24:List It:=[.u 4 (.mv (.i 0)),.u 5 (.mv (.i 3)),.kill 8]
def f26r24:AC:=.reg i26r24 (some [4,5])
def i26r25:List It:=[.u 120 (.fa 3 (.t 8)),.u 121 (.ld false 1 (.t 120)),.m 122 11,.u 123 (.ia 1 (.t 121) (.t 122)),.u 124 (.ld false 1 (.t 123)),.m 6 124,.kill 8]
def f26r25:AC:=.reg i26r25 (some [0,1,6,7])
def i26r26:List It:=[.m 16 7,.u 17 (.bin .add (.t 16) (.i 1)),.m 7 17]
def f26r26:AC:=.reg i26r26 (some [0,1,6,7])
def f26l1:AC:=(.seq (.seq f26r3 (.cond (.t 15) .skip (.exit 0))) (.seq (.blk 1 (.seq (.seq f26r4 (.cond (.t 25) (.seq f26r5 .ret) .skip)) (.seq f26r6 (.seq (.seq f26r7 (.cond (.t 33) (.seq f26r8 .ret) .skip)) (.seq (.seq f26r9 (.cond (.t 61) (.seq f26r10 .ret) .skip)) (.seq f26r11 (.seq (.seq f26r12 (.blk 2 (.loop f26l0))) (.seq f26r18 (.seq (.seq f26r19 (.cond (.t 103) f26r20 (.seq f26r21 (.cond (.t 110) f26r22 .skip)))) (.seq (.seq f26r23 (.cond (.t 119) (.seq f26r24 .ret) .skip)) f26r25)))))))))) f26r26))
def i26r27:List It:=[.u 4 (.mv (.i 0)),.u 5 (.mv (.i 3))]
def f26r27:AC:=.reg i26r27 (some [4,5])
def b26:AC:=(.seq f26r0 (.seq f26r1 (.seq (.seq f26r2 (.blk 0 (.loop f26l1))) (.seq f26r27 .ret))))
def f26:AF:=⟨2,[(4,none),(5,none)],true,b26⟩
def i27r0:List It:=[.u 2 (.mv (.b false))]
def f27r0:AC:=.reg i27r0 (some [0])
def i27r1:List It:=[.u 3 (.mv (.i 0))]
def f27r1:AC:=.reg i27r1 (some [0,3])
def i27r2:List It:=[.m 5 3,.m 6 0,.u 7 (.lenL (.t 6)),.u 8 (.bin .lss (.t 5) (.t 7)),.m 9 8,.g 10 (.mv (.t 3)) 9 true,.g 11 (.bin .lss (.t 10) (.i 10)) 9 true,.u 12 (.pick (.t 9) (.t 11) (.b false))]
def f27r2:AC:=.reg i27r2 (some [0,3,12])
def i27r3:List It:=[.m 15 0,.m 16 3,.u 17 (.ia 2 (.t 15) (.t 16)),.u 18 (.fa 0 (.t 17)),.u 19 (.ld false 1 (.t 18)),.u 20 (.lenS (.t 19)),.u 21 (.bin .gtr (.t 20) (.i 40)),.m 22 21,.g 23 (.mv (.t 0)) 22 false,.g 24 (.mv (.t 3)) 22 false,.g 25 (.ia 2 (.t 23) (.t 24)) 22 false,.g 26 (.fa 1 (.t 25)) 22 false,.g 27 (.ld false 1 (.t 26)) 22 false,.g 28 (.lenL (.t 27)) 22 false,.g 29 (.bin .gtr (.t 28) (.i 8)) 22 false,.u 30 (.pick (.t 22) (.b true) (.t 29))]
def f27r3:AC:=.reg i27r3 (some [0,3,30])
def i27r4:List It:=[.u 2 (.mv (.b false))]
def f27r4:AC:=.reg i27r4 (some [2])
def i27r5:List It:=[.u 4 (.mv (.i 0))]
def f27r5:AC:=.reg i27r5 (some [0,3,4])
def i27r6:List It:=[.m 31 4,.m 32 0,.m 33 3,.u 34 (.ia 2 (.t 32) (.t 33)),.u 35 (.fa 1 (.t 34)),.u 36 (.ld false 1 (.t 35)),.u 37 (.lenL (.t 36)),.u 38 (.bin .lss (.t 31) (.t 37))]
def f27r6:AC:=.reg i27r6 (some [0,3,4,38])
def i27r7:List It:=[.m 41 0,.m 42 3,.u 43 (.ia 2 (.t 41) (.t 42)),.u 44 (.fa 1 (.t 43)),.u 45 (.ld false 1 (.t 44)),.m 46 4,.u 47 (.ia 2 (.t 45) (.t 46)),.u 48 (.fa 0 (.t 47)),.u 49 (.ld false 1 (.t 48)),.u 50 (.lenS (.t 49)),.u 51 (.bin .gtr (.t 50) (.i 40)),.m 52 51,.g 53 (.mv (.t 0)) 52 false,.g 54 (.mv (.t 3)) 52 false,.g 55 (.ia 2 (.t 53) (.t 54)) 52 false,.g 56 (.fa 1 (.t 55)) 52 false,.g 57 (.ld false 1 (.t 56)) 52 false,.g 58 (.mv (.t 4)) 52 false,.g 59 (.ia 2 (.t 57) (.t 58)) 52 false,.g 60 (.fa 1 (.t 59)) 52 false,.g 61 (.ld false 1 (.t 60)) 52 false,.g 62 (.lenL (.t 61)) 52 false,.g 63 (.bin .gtr (.t 62) (.i 8)) 52 false,.u 64 (.pick (.t 52) (.b true) (.t 63))]
def f27r7:AC:=.reg i27r7 (some [0,3,4,64])
def i27r8:List It:=[.u 2 (.mv (.b false))]
def f27r8:AC:=.reg i27r8 (some [2])
def i27r9:List It:=[.m 39 4,.u 40 (.bin .add (.t 39) (.i 1)),.m 4 40]
def f27r9:AC:=.reg i27r9 (some [0,3,4])
def f27l0:AC:=(.seq (.seq f27r6 (.cond (.t 38) .skip (.exit 2))) (.seq (.blk 3 (.seq f27r7 (.cond (.t 64) (.seq f27r8 .ret) .skip))) f27r9))
def i27r10:List It:=[.m 13 3,.u 14 (.bin .add (.t 13) (.i 1)),.m 3 14]
def f27r10:AC:=.reg i27r10 (some [0,3])
def f27l1:AC:=(.seq (.seq f27r2 (.cond (.t 12) .skip (.exit 0))) (.seq (.blk 1 (.seq (.seq f27r3 (.cond (.t 30) (.seq f27r4 .ret) .skip)) (.seq f27r5 (.blk 2 (.loop f27l0))))) f27r10))
def i27r11:List It:=[.m 65 0,.u 66 (.lenL (.t 65)),.u 67 (.bin .leq (.t 66) (.i 10)),.m 2 67]
def f27r11:AC:=.reg i27r11 (some [2])
def b27:AC:=(.seq f27r0 (.seq (.seq f27r1 (.blk 0 (.loop f27l1))) (.seq f27r11 .ret)))
def f27:AF:=⟨1,[(2,none)],true,b27⟩
def i28r0:List It:=[.u 3 (.box 1 (.t 0)),.u 5 (.box 1 (.t 2)),.u 6 (.mv (.i 0))]
def f28r0:AC:=.reg i28r0 (some [1,3,5])
def i28r1:List It:=[.u 12 (.ld false 1 (.t 3)),.u 13 (.call (.f 22) [true] [.t 12]),.u 14 (.bin .neq (.t 13) (.i 0))]
def f28r1:AC:=.reg i28r1 (some [1,3,5,14])
def i28r2:List It:=[.u 6 (.mv (.i 3))]
def f28r2:AC:=.reg i28r2 (some [6])
def i28r3:List It:=[.u 7 (.mv (.c (.tl [] (some true))))]
def f28r3:AC:=.reg i28r3 (some [1,3,5,7])
def i28r4:List It:=[.m 15 1,.u 16 (.lenL (.t 15)),.u 17 (.mv (.i 0))]
def f28r4:AC:=.reg i28r4 (some [3,5,7,15,16,17])
def i28r5:List It:=[.u 18 (.bin .lss (.t 17) (.t 16))]
def f28r5:AC:=.reg i28r5 (some [3,5,7,15,16,17,18])
def i28r6:List It:=[.m 19 17,.u 20 (.ia 1 (.t 15) (.t 17)),.u 21 (.ld false 1 (.t 20)),.m 8 19,.m 9 21]
def f28r6:AC:=.reg i28r6 (some [3,5,7,8,9,15,16,17])
def i28r7:List It:=[.m 22 9,.u 23 (.bin .lss (.t 22) (.i 0)),.m 24 23,.g 25 (.mv (.t 9)) 24 false,.g 26 (.ld false 1 (.t 3)) 24 false,.g 27 (.lenL (.t 26)) 24 false,.g 28 (.bin .gtr (.t 25) (.t 27)) 24 false,.u 29 (.pick (.t 24) (.b true) (.t 28))]
def f28r7:AC:=.reg i28r7 (some [3,5,7,8,9,15,16,17,29])
def i28r8:List It:=[.u 6 (.mv (.i 2))]
def f28r8:AC:=.reg i28r8 (some [6])
def i28r9:List It:=[.m 30 7,.m 31 8,.u 32 (.bsl 1 [.t 31]),.m 33 9,.u 34 (.build [(.tl [] (some true)),(.d (.int .i64 0)),(.d (.bool false)),(.tl [] (some true))] [(0,1,(.t 32)),(1,1,(.t 33))]),.u 35 (.bsl 4 [.t 34]),.u 36 (.app 4 64 (.t 30) (.t 35)),.m 7 36]
def f28r9:AC:=.reg i28r9 (some [3,5,7,15,16,17])
def i28r10:List It:=[.u 37 (.bin .add (.t 17) (.i 1)),.m 17 37]
def f28r10:AC:=.reg i28r10 (some [3,5,7,15,16,17])
def f28l0:AC:=(.seq f28r5 (.seq (.cond (.t 18) .skip (.exit 0)) (.seq (.blk 1 (.seq f28r6 (.seq (.seq f28r7 (.cond (.t 29) (.seq f28r8 .ret) .skip)) f28r9))) f28r10)))
def i28r11:List It:=[.u 38 (.fa 0 (.t 5)),.u 39 (.ld false 1 (.t 38)),.u 40 (.lenL (.t 39)),.u 41 (.bin .gtr (.t 40) (.i 4096))]
def f28r11:AC:=.reg i28r11 (some [3,5,7,41])
def i28r12:List It:=[.u 6 (.mv (.i 6))]
def f28r12:AC:=.reg i28r12 (some [6])
def i28r13:List It:=[.u 42 (.fa 0 (.t 5)),.u 43 (.ld false 1 (.t 42)),.u 44 (.lenL (.t 43)),.u 45 (.mksl (.d (.bool false)) 1 1 (.t 44)),.u 10 (.alloc 1 (.tl [] (some true))),.o none (.st 1 (.t 10) (.t 45)) none]
def f28r13:AC:=.reg i28r13 (some [3,5,7,10])
def i28r14:List It:=[.u 11 (.alloc 1 (.d .nilf))]
def f28r14:AC:=.reg i28r14 (some [3,5,7,10,11])
def i28r15:List It:=[.u 46 (.mkf 63 [.t 5,.t 10,.t 11,.t 3]),.o none (.st 1 (.t 11) (.t 46)) none]
def f28r15:AC:=.reg i28r15 (some [7,10,11])
def i28r16:List It:=[.frz 7,.u 47 (.ld false 1 (.t 11)),.m 48 7,.u 49 (.call (.t 47) [true,true] [(.i 0),.t 48]),.u 50 (.un .not (.t 49)),.m 51 50,.g 52 (.ld false 1 (.t 10)) 51 false,.g 53 (.call (.f 70) [true,true] [.t 52,(.b false)]) 51 false,.u 54 (.pick (.t 51) (.b true) (.t 53))]
def f28r16:AC:=.reg i28r16 (some [54])
def i28r17:List It:=[.u 6 (.mv (.i 3))]
def f28r17:AC:=.reg i28r17 (some [6])
def i28r18:List It:=[.u 6 (.mv (.i 0))]
def f28r18:AC:=.reg i28r18 (some [6])
def b28:AC:=(.seq f28r0 (.seq (.seq f28r1 (.cond (.t 14) (.seq f28r2 .ret) .skip)) (.seq f28r3 (.seq (.seq f28r4 (.blk 0 (.loop f28l0))) (.seq (.seq f28r11 (.cond (.t 41) (.seq f28r12 .ret) .skip)) (.seq f28r13 (.seq f28r14 (.seq f28r15 (.seq (.seq f28r16 (.cond (.t 54) (.seq f28r17 .ret) .skip)) (.seq f28r18 .ret))))))))))
def f28:AF:=⟨3,[(6,none)],true,b28⟩
def i29r0:List It:=[.u 6 (.mv (.i 0))]
def f29r0:AC:=.reg i29r0 (some [0,1,2])
def i29r1:List It:=[.m 12 0,.u 13 (.call (.f 71) [true] [.t 12]),.u 14 (.bin .neq (.t 13) (.i 0))]
def f29r1:AC:=.reg i29r1 (some [0,1,2,14])
def i29r2:List It:=[.u 6 (.mv (.i 3))]
def f29r2:AC:=.reg i29r2 (some [6])
def i29r3:List It:=[.u 7 (.mv (.i 0))]
def f29r3:AC:=.reg i29r3 (some [0,1,2,7])
def i29r4:List It:=[.m 15 7,.m 16 1,.u 17 (.lenL (.t 16)),.u 18 (.bin .lss (.t 15) (.t 17))]
def f29r4:AC:=.reg i29r4 (some [0,1,2,7,18])
def i29r5:List It:=[.m 21 1,.m 22 7,.u 23 (.ia 1 (.t 21) (.t 22)),.u 24 (.ld false 1 (.t 23)),.u 25 (.bin .lss (.t 24) (.i 0)),.m 26 25,.g 27 (.mv (.t 1)) 26 false,.g 28 (.mv (.t 7)) 26 false,.g 29 (.ia 1 (.t 27) (.t 28)) 26 false,.g 30 (.ld false 1 (.t 29)) 26 false,.g 31 (.mv (.t 0)) 26 false,.g 32 (.lenL (.t 31)) 26 false,.g 33 (.bin .gtr (.t 30) (.t 32)) 26 false,.u 34 (.pick (.t 26) (.b true) (.t 33))]
def f29r5:AC:=.reg i29r5 (some [0,1,2,7,34])
def i29r6:List It:=[.u 6 (.mv (.i 2))]
def f29r6:AC:=.reg i29r6 (some [6])
def i29r7:List It:=[.m 19 7,.u 20 (.bin .add (.t 19) (.i 1)),.m 7 20]
def f29r7:AC:=.reg i29r7 (some [0,1,2,7])
def f29l0:AC:=(.seq (.seq f29r4 (.cond (.t 18) .skip (.exit 0))) (.seq (.blk 1 (.seq f29r5 (.cond (.t 34) (.seq f29r6 .ret) .skip))) f29r7))
def i29r8:List It:=[.m 35 2,.u 36 (.lenL (.t 35)),.u 37 (.bin .gtr (.t 36) (.i 4096))]
def f29r8:AC:=.reg i29r8 (some [0,1,2,37])
def i29r9:List It:=[.u 6 (.mv (.i 6))]
def f29r9:AC:=.reg i29r9 (some [6])
def i29r10:List It:=[.u 8 (.mv (.c (.tl [] (some true))))]
def f29r10:AC:=.reg i29r10 (some [0,1,2,8])
def i29r11:List It:=[.u 9 (.mv (.i 0))]
def f29r11:AC:=.reg i29r11 (some [0,1,2,8,9])
def i29r12:List It:=[.m 38 9,.m 39 1,.u 40 (.lenL (.t 39)),.u 41 (.bin .lss (.t 38) (.t 40))]
def f29r12:AC:=.reg i29r12 (some [0,1,2,8,9,41])
def i29r13:List It:=[.m 44 8,.m 45 9,.u 46 (.bsl 1 [.t 45]),.m 47 1,.m 48 9,.u 49 (.ia 1 (.t 47) (.t 48)),.u 50 (.ld false 1 (.t 49)),.u 51 (.build [(.tl [] (some true)),(.d (.int .i64 0)),(.d (.bool false)),(.tl [] (some true))] [(0,1,(.t 46)),(1,1,(.t 50))]),.u 52 (.bsl 4 [.t 51]),.u 53 (.app 4 64 (.t 44) (.t 52)),.m 8 53]
def f29r13:AC:=.reg i29r13 (some [0,1,2,8,9])
def i29r14:List It:=[.m 42 9,.u 43 (.bin .add (.t 42) (.i 1)),.m 9 43]
def f29r14:AC:=.reg i29r14 (some [0,1,2,8,9])
def f29l1:AC:=(.seq (.seq f29r12 (.cond (.t 41) .skip (.exit 2))) (.seq (.blk 3 f29r13) f29r14))
def i29r15:List It:=[.frz 8,.m 54 2,.u 55 (.lenL (.t 54)),.u 56 (.mksl (.d (.bool false)) 1 1 (.t 55)),.m 10 56]
def f29r15:AC:=.reg i29r15 (some [0,2,8,10])
def i29r16:List It:=[.m 57 0,.m 58 2,.m 59 8,.m 60 10,.u 61 (.call (.f 72) [true,true,true,true,true] [.t 57,.t 58,(.i 0),.t 59,.t 60]),.u 62 (.un .not (.t 61))]
def f29r16:AC:=.reg i29r16 (some [10,62])
def i29r17:List It:=[.u 6 (.mv (.i 3))]
def f29r17:AC:=.reg i29r17 (some [6])
def i29r18:List It:=[.u 11 (.mv (.i 0))]
def f29r18:AC:=.reg i29r18 (some [10,11])
def i29r19:List It:=[.m 63 11,.m 64 10,.u 65 (.lenL (.t 64)),.u 66 (.bin .lss (.t 63) (.t 65))]
def f29r19:AC:=.reg i29r19 (some [10,11,66])
def i29r20:List It:=[.m 69 10,.m 70 11,.u 71 (.ia 1 (.t 69) (.t 70)),.u 72 (.ld false 1 (.t 71)),.u 73 (.un .not (.t 72))]
def f29r20:AC:=.reg i29r20 (some [10,11,73])
def i29r21:List It:=[.u 6 (.mv (.i 3))]
def f29r21:AC:=.reg i29r21 (some [6])
def i29r22:List It:=[.m 67 11,.u 68 (.bin .add (.t 67) (.i 1)),.m 11 68]
def f29r22:AC:=.reg i29r22 (some [10,11])
def f29l2:AC:=(.seq (.seq f29r19 (.cond (.t 66) .skip (.exit 4))) (.seq (.blk 5 (.seq f29r20 (.cond (.t 73) (.seq f29r21 .ret) .skip))) f29r22))
def i29r23:List It:=[.u 6 (.mv (.i 0))]
def f29r23:AC:=.reg i29r23 (some [6])
def b29:AC:=(.seq f29r0 (.seq (.seq f29r1 (.cond (.t 14) (.seq f29r2 .ret) .skip)) (.seq (.seq f29r3 (.blk 0 (.loop f29l0))) (.seq (.seq f29r8 (.cond (.t 37) (.seq f29r9 .ret) .skip)) (.seq f29r10 (.seq (.seq f29r11 (.blk 2 (.loop f29l1))) (.seq f29r15 (.seq (.seq f29r16 (.cond (.t 62) (.seq f29r17 .ret) .skip)) (.seq (.seq f29r18 (.blk 4 (.loop f29l2))) (.seq f29r23 .ret))))))))))
def f29:AF:=⟨3,[(6,none)],true,b29⟩
def i30r0:List It:=[.u 5 (.box 3 (.t 2)),.u 6 (.mv (.i 0)),.frz 5]
def f30r0:AC:=.reg i30r0 (some [0,1,5])
def i30r1:List It:=[.m 10 0,.m 11 1,.u 12 (.ld true 3 (.t 5)),.u 13 (.call (.f 73) [true,true,true] [.t 10,.t 11,.t 12]),.m 9 13,.u 14 (.ext 0 (.t 9)),.u 15 (.ext 1 (.t 9)),.m 7 14,.m 8 15,.kill 5]
def f30r1:AC:=.reg i30r1 (some [8])
def i30r2:List It:=[.m 16 8,.m 6 16]
def f30r2:AC:=.reg i30r2 (some [6])
def b30:AC:=(.seq f30r0 (.seq f30r1 (.seq f30r2 .ret)))
def f30:AF:=⟨3,[(6,none)],true,b30⟩
def i31r0:List It:=[.u 3 (.box 1 (.t 1)),.u 4 (.mv (.i 0))]
def f31r0:AC:=.reg i31r0 (some [0,3])
def i31r1:List It:=[.m 5 0,.u 6 (.mkf 75 [.t 3]),.u 7 (.call (.f 74) [true,true] [.t 5,.t 6]),.m 4 7]
def f31r1:AC:=.reg i31r1 (some [4])
def b31:AC:=(.seq f31r0 (.seq f31r1 .ret))
def f31:AF:=⟨2,[(4,none)],true,b31⟩
def i32r0:List It:=[.u 4 (.mv (.i 0))]
def f32r0:AC:=.reg i32r0 (some [0,1])
def i32r1:List It:=[.m 7 0,.u 8 (.lenL (.t 7)),.u 9 (.mv (.i 0))]
def f32r1:AC:=.reg i32r1 (some [1,7,8,9])
def i32r2:List It:=[.u 10 (.bin .lss (.t 9) (.t 8))]
def f32r2:AC:=.reg i32r2 (some [1,7,8,9,10])
def i32r3:List It:=[.u 11 (.ia 4 (.t 7) (.t 9)),.u 12 (.ld true 4 (.t 11)),.u 6 (.alloc 4 (.agg [(.d (.int .i64 0)),(.d (.int .i64 0)),(.d (.int .i64 0)),(.tl [] (some true))])),.o none (.st 4 (.t 6) (.t 12)) none,.frz 6]
def f32r3:AC:=.reg i32r3 (some [1,6,7,8,9])
def i32r4:List It:=[.m 13 1,.u 14 (.bin .add (.t 13) (.i 1)),.m 1 14]
def f32r4:AC:=.reg i32r4 (some [1,6,7,8,9])
def i32r5:List It:=[.m 15 1,.u 16 (.bin .gtr (.t 15) (.i 60))]
def f32r5:AC:=.reg i32r5 (some [1,6,7,8,9,16])
def i32r6:List It:=[.m 17 1,.m 4 17,.kill 6]
def f32r6:AC:=.reg i32r6 (some [4])
def i32r7:List It:=[.u 18 (.fa 3 (.t 6)),.u 19 (.ld false 1 (.t 18)),.m 20 1,.u 21 (.call (.f 32) [true,true] [.t 19,.t 20]),.m 1 21,.kill 6]
def f32r7:AC:=.reg i32r7 (some [1,7,8,9])
def i32r8:List It:=[.u 22 (.bin .add (.t 9) (.i 1)),.m 9 22]
def f32r8:AC:=.reg i32r8 (some [1,7,8,9])
def f32l0:AC:=(.seq f32r2 (.seq (.cond (.t 10) .skip (.exit 0)) (.seq (.blk 1 (.seq f32r3 (.seq f32r4 (.seq (.seq f32r5 (.cond (.t 16) (.seq f32r6 .ret) .skip)) f32r7)))) f32r8)))
def i32r9:List It:=[.m 23 1,.m 4 23]
def f32r9:AC:=.reg i32r9 (some [4])
def b32:AC:=(.seq f32r0 (.seq (.seq f32r1 (.blk 0 (.loop f32l0))) (.seq f32r9 .ret)))
def f32:AF:=⟨2,[(4,none)],true,b32⟩
def i33r0:List It:=[.u 0 (.mv (.c (.tl [] (some true))))]
def f33r0:AC:=.reg i33r0 (some [])
def i33r1:List It:=[.u 1 (.build [(.d (.str ⟨#[]⟩)),(.tl [] (some true))] [(0,1,(.c (.d (.str ⟨#[70,97,108,115,101]⟩))))]),.u 2 (.build [(.d (.str ⟨#[]⟩)),(.tl [] (some true))] [(0,1,(.c (.d (.str ⟨#[84,114,117,101]⟩))))]),.u 3 (.bsl 2 [.t 1,.t 2]),.u 4 (.build [(.d (.str ⟨#[]⟩)),(.tl [] (some true))] [(0,1,(.c (.d (.str ⟨#[66,111,111,108]⟩)))),(1,1,(.t 3))]),.u 5 (.build [(.d (.str ⟨#[]⟩)),(.tl [] (some true))] [(0,1,(.c (.d (.str ⟨#[78,105,108]⟩))))]),.u 6 (.bsl 1 [(.i 0),(.i 2)]),.u 7 (.build [(.d (.str ⟨#[]⟩)),(.tl [] (some true))] [(0,1,(.c (.d (.str ⟨#[67,111,110,115]⟩)))),(1,1,(.t 6))]),.u 8 (.bsl 2 [.t 5,.t 7]),.u 9 (.build [(.d (.str ⟨#[]⟩)),(.tl [] (some true))] [(0,1,(.c (.d (.str ⟨#[76,105,115,116]⟩)))),(1,1,(.t 8))]),.u 10 (.bsl 2 [.t 4,.t 9]),.m 0 10]
def f33r1:AC:=.reg i33r1 (some [0])
def b33:AC:=(.seq f33r0 (.seq f33r1 .ret))
def f33:AF:=⟨0,[(0,none)],true,b33⟩
def i34r0:List It:=[.u 4 (.alloc 4 (.agg [(.d (.int .i64 0)),(.d (.int .i64 0)),(.d (.int .i64 0)),(.tl [] (some true))]))]
def f34r0:AC:=.reg i34r0 (some [0,1,4])
def i34r1:List It:=[.m 5 0,.m 6 1,.u 7 (.build [(.d (.int .i64 0)),(.d (.int .i64 0)),(.d (.int .i64 0)),(.tl [] (some true))] [(0,1,(.i 1)),(1,1,(.t 5)),(3,1,(.t 6))]),.o none (.st 4 (.t 4) (.t 7)) none]
def f34r1:AC:=.reg i34r1 (some [4])
def b34:AC:=(.seq f34r0 (.seq f34r1 .ret))
def f34:AF:=⟨2,[(4,some (true,4))],true,b34⟩
def i35r0:List It:=[.u 3 (.box 1 (.t 0)),.u 6 (.mv (.i 0))]
def f35r0:AC:=.reg i35r0 (some [1,2,3])
def i35r1:List It:=[.u 13 (.ld false 1 (.t 3)),.u 14 (.call (.f 22) [true] [.t 13]),.u 15 (.bin .neq (.t 14) (.i 0))]
def f35r1:AC:=.reg i35r1 (some [1,2,3,15])
def i35r2:List It:=[.u 6 (.mv (.i 3))]
def f35r2:AC:=.reg i35r2 (some [6])
def i35r3:List It:=[.m 16 1,.u 17 (.lenL (.t 16)),.u 18 (.bin .gtr (.t 17) (.i 8)),.m 19 18,.g 20 (.mv (.t 2)) 19 false,.g 21 (.lenL (.t 20)) 19 false,.g 22 (.bin .gtr (.t 21) (.i 64)) 19 false,.u 23 (.pick (.t 19) (.b true) (.t 22))]
def f35r3:AC:=.reg i35r3 (some [1,2,3,23])
def i35r4:List It:=[.u 6 (.mv (.i 6))]
def f35r4:AC:=.reg i35r4 (some [6])
def i35r5:List It:=[.m 24 1,.u 25 (.mkf 77 [.t 3]),.u 26 (.call (.f 56) [true,true] [.t 24,.t 25])]
def f35r5:AC:=.reg i35r5 (some [1,2,3,26])
def i35r6:List It:=[.u 6 (.mv (.i 2))]
def f35r6:AC:=.reg i35r6 (some [6])
def i35r7:List It:=[.m 27 2,.u 28 (.lenL (.t 27)),.u 29 (.mv (.i 0))]
def f35r7:AC:=.reg i35r7 (some [1,2,3,27,28,29])
def i35r8:List It:=[.u 30 (.bin .lss (.t 29) (.t 28))]
def f35r8:AC:=.reg i35r8 (some [1,2,3,27,28,29,30])
def i35r9:List It:=[.u 31 (.ia 1 (.t 27) (.t 29)),.u 32 (.ld false 1 (.t 31)),.m 8 32]
def f35r9:AC:=.reg i35r9 (some [1,2,3,8,27,28,29])
def i35r10:List It:=[.m 33 8,.u 34 (.call (.f 78) [true,true] [.t 33,(.f 79)])]
def f35r10:AC:=.reg i35r10 (some [1,2,3,27,28,29,34])
def i35r11:List It:=[.u 6 (.mv (.i 7))]
def f35r11:AC:=.reg i35r11 (some [6])
def i35r12:List It:=[.u 35 (.bin .add (.t 29) (.i 1)),.m 29 35]
def f35r12:AC:=.reg i35r12 (some [1,2,3,27,28,29])
def f35l0:AC:=(.seq f35r8 (.seq (.cond (.t 30) .skip (.exit 0)) (.seq (.blk 1 (.seq f35r9 (.seq f35r10 (.cond (.t 34) (.seq f35r11 .ret) .skip)))) f35r12)))
def i35r13:List It:=[.m 36 2,.u 37 (.lenL (.t 36)),.u 38 (.mv (.i 0))]
def f35r13:AC:=.reg i35r13 (some [1,3,36,37,38])
def i35r14:List It:=[.u 39 (.bin .lss (.t 38) (.t 37))]
def f35r14:AC:=.reg i35r14 (some [1,3,36,37,38,39])
def i35r15:List It:=[.u 40 (.ia 1 (.t 36) (.t 38)),.u 41 (.ld false 1 (.t 40)),.m 10 41]
def f35r15:AC:=.reg i35r15 (some [1,3,10,36,37,38])
def i35r16:List It:=[.m 42 10,.u 43 (.lenL (.t 42)),.m 44 1,.u 45 (.lenL (.t 44)),.u 46 (.bin .neq (.t 43) (.t 45))]
def f35r16:AC:=.reg i35r16 (some [1,3,10,36,37,38,46])
def i35r17:List It:=[.u 6 (.mv (.i 10))]
def f35r17:AC:=.reg i35r17 (some [6])
def i35r18:List It:=[.m 47 10,.u 48 (.lenL (.t 47)),.u 49 (.mv (.i 0))]
def f35r18:AC:=.reg i35r18 (some [1,3,36,37,38,47,48,49])
def i35r19:List It:=[.u 50 (.bin .lss (.t 49) (.t 48))]
def f35r19:AC:=.reg i35r19 (some [1,3,36,37,38,47,48,49,50])
def i35r20:List It:=[.m 51 49,.u 52 (.ia 4 (.t 47) (.t 49)),.u 53 (.ld true 4 (.t 52)),.u 12 (.alloc 4 (.agg [(.d (.int .i64 0)),(.d (.int .i64 0)),(.d (.int .i64 0)),(.tl [] (some true))])),.m 11 51,.o none (.st 4 (.t 12) (.t 53)) none,.frz 12]
def f35r20:AC:=.reg i35r20 (some [1,3,11,12,36,37,38,47,48,49])
def i35r21:List It:=[.u 54 (.ld false 1 (.t 3)),.m 55 1,.m 56 11,.u 57 (.ia 1 (.t 55) (.t 56)),.u 58 (.ld false 1 (.t 57)),.u 59 (.ld true 4 (.t 12)),.u 60 (.call (.f 81) [true,true,true] [.t 54,.t 58,.t 59]),.u 61 (.un .not (.t 60)),.kill 12]
def f35r21:AC:=.reg i35r21 (some [1,3,36,37,38,47,48,49,61])
def i35r22:List It:=[.u 6 (.mv (.i 10))]
def f35r22:AC:=.reg i35r22 (some [6])
def i35r23:List It:=[.u 62 (.bin .add (.t 49) (.i 1)),.m 49 62]
def f35r23:AC:=.reg i35r23 (some [1,3,36,37,38,47,48,49])
def f35l1:AC:=(.seq f35r19 (.seq (.cond (.t 50) .skip (.exit 4)) (.seq (.blk 5 (.seq f35r20 (.seq f35r21 (.cond (.t 61) (.seq f35r22 .ret) .skip)))) f35r23)))
def i35r24:List It:=[.u 63 (.bin .add (.t 38) (.i 1)),.m 38 63]
def f35r24:AC:=.reg i35r24 (some [1,3,36,37,38])
def f35l2:AC:=(.seq f35r14 (.seq (.cond (.t 39) .skip (.exit 2)) (.seq (.blk 3 (.seq f35r15 (.seq (.seq f35r16 (.cond (.t 46) (.seq f35r17 .ret) .skip)) (.seq f35r18 (.blk 4 (.loop f35l1)))))) f35r24)))
def i35r25:List It:=[.u 6 (.mv (.i 0))]
def f35r25:AC:=.reg i35r25 (some [6])
def b35:AC:=(.seq f35r0 (.seq (.seq f35r1 (.cond (.t 15) (.seq f35r2 .ret) .skip)) (.seq (.seq f35r3 (.cond (.t 23) (.seq f35r4 .ret) .skip)) (.seq (.seq f35r5 (.cond (.t 26) (.seq f35r6 .ret) .skip)) (.seq (.seq f35r7 (.blk 0 (.loop f35l0))) (.seq (.seq f35r13 (.blk 2 (.loop f35l2))) (.seq f35r25 .ret)))))))
def f35:AF:=⟨3,[(6,none)],true,b35⟩
def i36r0:List It:=[.u 6 (.mv (.c (.tl [] (some true)))),.u 7 (.mv (.b false)),.u 8 (.mv (.i 0))]
def f36r0:AC:=.reg i36r0 (some [0,1,2])
def i36r1:List It:=[.m 12 0,.m 13 1,.m 14 2,.u 15 (.call (.f 35) [true,true,true] [.t 12,.t 13,.t 14]),.m 9 15]
def f36r1:AC:=.reg i36r1 (some [0,1,2,9])
def i36r2:List It:=[.m 16 9,.u 17 (.bin .neq (.t 16) (.i 0))]
def f36r2:AC:=.reg i36r2 (some [0,1,2,9,17])
def i36r3:List It:=[.m 18 9,.u 6 (.mv (.c (.tl [] (some true)))),.u 7 (.mv (.b false)),.m 8 18]
def f36r3:AC:=.reg i36r3 (some [6,7,8])
def i36r4:List It:=[.m 20 0,.m 21 1,.m 22 2,.u 23 (.call (.f 82) [true,true,true] [.t 20,.t 21,.t 22]),.m 19 23,.u 24 (.ext 0 (.t 19)),.u 25 (.ext 1 (.t 19)),.m 10 24,.m 11 25]
def f36r4:AC:=.reg i36r4 (some [10,11])
def i36r5:List It:=[.m 26 10,.m 27 11,.m 6 26,.m 7 27,.u 8 (.mv (.i 0))]
def f36r5:AC:=.reg i36r5 (some [6,7,8])
def b36:AC:=(.seq f36r0 (.seq (.seq f36r1 (.seq f36r2 (.cond (.t 17) (.seq f36r3 .ret) .skip))) (.seq f36r4 (.seq f36r5 .ret))))
def f36:AF:=⟨3,[(6,none),(7,none),(8,none)],true,b36⟩
def i37r0:List It:=[.u 7 (.mv (.i 0))]
def f37r0:AC:=.reg i37r0 (some [0,1,2,3,4])
def i37r1:List It:=[.u 26 (.fa 0 (.t 2)),.u 27 (.ld false 1 (.t 26)),.u 28 (.lenL (.t 27)),.m 8 28]
def f37r1:AC:=.reg i37r1 (some [0,1,2,3,4,8])
def i37r2:List It:=[.m 29 8,.u 30 (.bin .gtr (.t 29) (.i 4096))]
def f37r2:AC:=.reg i37r2 (some [0,1,2,3,4,8,30])
def i37r3:List It:=[.m 31 8,.m 7 31]
def f37r3:AC:=.reg i37r3 (some [7])
def i37r4:List It:=[.u 32 (.fa 0 (.t 2)),.u 33 (.ld false 1 (.t 32)),.u 34 (.build [(.tl [] (some true)),(.d (.bool false)),(.d (.int .i64 0)),(.tl [] (some true)),(.d (.int .i64 0))] []),.u 35 (.bsl 5 [.t 34]),.u 36 (.app 5 72 (.t 33) (.t 35)),.u 37 (.fa 0 (.t 2)),.o none (.st 1 (.t 37) (.t 36)) none]
def f37r4:AC:=.reg i37r4 (some [0,1,2,3,4,8])
def i37r5:List It:=[.m 38 1,.u 39 (.ia 2 (.t 38) (.i 0)),.u 40 (.fa 1 (.t 39)),.u 41 (.ld false 1 (.t 40)),.u 42 (.call (.f 38) [true,true] [.t 41,(.f 39)]),.m 9 42]
def f37r5:AC:=.reg i37r5 (some [0,1,2,3,4,8,9])
def i37r6:List It:=[.m 43 9,.u 44 (.bin .lss (.t 43) (.i 0))]
def f37r6:AC:=.reg i37r6 (some [0,1,2,3,4,8,9,44])
def i37r7:List It:=[.u 45 (.fa 0 (.t 2)),.u 46 (.ld false 1 (.t 45)),.m 47 8,.m 48 1,.u 49 (.ia 2 (.t 48) (.i 0)),.u 50 (.fa 0 (.t 49)),.u 51 (.ld false 1 (.t 50)),.u 52 (.ia 5 (.t 46) (.t 47)),.u 53 (.fa 4 (.t 52)),.o none (.st 1 (.t 53) (.t 51)) none]
def f37r7:AC:=.reg i37r7 (some [8])
def i37r8:List It:=[.m 54 8,.m 7 54]
def f37r8:AC:=.reg i37r8 (some [7])
def i37r9:List It:=[.m 55 0,.m 56 9,.u 57 (.ia 2 (.t 55) (.t 56)),.u 58 (.fa 0 (.t 57)),.u 59 (.ld false 1 (.t 58)),.u 60 (.calln (.f 40) [true] [.t 59]),.m 61 0,.m 62 9,.u 63 (.ia 2 (.t 61) (.t 62)),.u 64 (.fa 1 (.t 63)),.u 65 (.ld false 1 (.t 64)),.u 66 (.bin .neq (.t 65) (.i 0)),.u 67 (.build [(.tl [] (some true)),(.d (.bool false)),(.d (.int .i64 0)),(.tl [] (some true)),(.d (.int .i64 0))] [(0,1,(.t 60)),(1,1,(.t 66))]),.u 10 (.alloc 5 (.agg [(.tl [] (some true)),(.d (.bool false)),(.d (.int .i64 0)),(.tl [] (some true)),(.d (.int .i64 0))])),.o none (.st 5 (.t 10) (.t 67)) none]
def f37r9:AC:=.reg i37r9 (some [0,1,2,3,4,8,9,10])
def i37r10:List It:=[.u 68 (.fa 1 (.t 10)),.u 69 (.ld false 1 (.t 68))]
def f37r10:AC:=.reg i37r10 (some [0,1,2,3,4,8,9,10,69])
def i37r11:List It:=[.u 70 (.ld false 1 (.t 3)),.m 71 0,.m 72 9,.u 73 (.ia 2 (.t 71) (.t 72)),.u 74 (.fa 1 (.t 73)),.u 75 (.ld false 1 (.t 74)),.u 76 (.bin .sub (.t 75) (.i 1)),.u 77 (.ia 2 (.t 70) (.t 76)),.u 78 (.fa 1 (.t 77)),.u 79 (.ld false 1 (.t 78)),.u 80 (.lenL (.t 79)),.u 81 (.mv (.i 0))]
def f37r11:AC:=.reg i37r11 (some [0,1,2,4,8,9,10,79,80,81])
def i37r12:List It:=[.u 82 (.bin .lss (.t 81) (.t 80))]
def f37r12:AC:=.reg i37r12 (some [0,1,2,4,8,9,10,79,80,81,82])
def i37r13:List It:=[.m 83 81,.u 84 (.ia 2 (.t 79) (.t 81)),.u 85 (.ld true 2 (.t 84)),.u 12 (.alloc 2 (.agg [(.d (.str ⟨#[]⟩)),(.tl [] (some true))])),.m 11 83,.o none (.st 2 (.t 12) (.t 85)) none,.frz 12]
def f37r13:AC:=.reg i37r13 (some [0,1,2,4,8,9,10,11,12,79,80,81])
def i37r14:List It:=[.u 13 (.mv (.c (.tl [] (some true))))]
def f37r14:AC:=.reg i37r14 (some [0,1,2,4,8,9,10,11,12,13,79,80,81])
def i37r15:List It:=[.u 86 (.fa 1 (.t 12)),.u 87 (.ld false 1 (.t 86)),.u 88 (.lenL (.t 87)),.u 89 (.mv (.i 0))]
def f37r15:AC:=.reg i37r15 (some [0,1,2,4,8,9,10,11,12,13,79,80,81,87,88,89])
def i37r16:List It:=[.u 90 (.bin .lss (.t 89) (.t 88))]
def f37r16:AC:=.reg i37r16 (some [0,1,2,4,8,9,10,11,12,13,79,80,81,87,88,89,90])
def i37r17:List It:=[.m 91 89,.u 92 (.ia 1 (.t 87) (.t 89)),.u 93 (.ld false 1 (.t 92)),.m 14 91,.m 15 93]
def f37r17:AC:=.reg i37r17 (some [0,1,2,4,8,9,10,11,12,13,14,15,79,80,81,87,88,89])
def i37r18:List It:=[.m 94 13,.m 95 0,.m 96 9,.u 97 (.ia 2 (.t 95) (.t 96)),.u 98 (.fa 0 (.t 97)),.u 99 (.ld false 1 (.t 98)),.m 100 14,.u 101 (.call (.f 41) [true,true] [.t 99,.t 100]),.m 102 15,.u 103 (.build [(.tl [] (some true)),(.d (.int .i64 0))] [(0,1,(.t 101)),(1,1,(.t 102))]),.u 104 (.bsl 2 [.t 103]),.u 105 (.app 2 32 (.t 94) (.t 104)),.m 13 105]
def f37r18:AC:=.reg i37r18 (some [0,1,2,4,8,9,10,11,12,13,79,80,81,87,88,89])
def i37r19:List It:=[.u 106 (.bin .add (.t 89) (.i 1)),.m 89 106]
def f37r19:AC:=.reg i37r19 (some [0,1,2,4,8,9,10,11,12,13,79,80,81,87,88,89])
def f37l0:AC:=(.seq f37r16 (.seq (.cond (.t 90) .skip (.exit 2)) (.seq (.blk 3 (.seq f37r17 f37r18)) f37r19)))
def i37r20:List It:=[.u 16 (.mv (.c (.tl [] (some true))))]
def f37r20:AC:=.reg i37r20 (some [0,1,2,4,8,9,10,11,12,13,16,79,80,81])
def i37r21:List It:=[.m 107 1,.u 108 (.lenL (.t 107)),.u 109 (.mv (.i 0))]
def f37r21:AC:=.reg i37r21 (some [0,1,2,4,8,9,10,11,12,13,16,79,80,81,107,108,109])
def i37r22:List It:=[.u 110 (.bin .lss (.t 109) (.t 108))]
def f37r22:AC:=.reg i37r22 (some [0,1,2,4,8,9,10,11,12,13,16,79,80,81,107,108,109,110])
def i37r23:List It:=[.u 111 (.ia 2 (.t 107) (.t 109)),.u 112 (.ld true 2 (.t 111)),.u 18 (.alloc 2 (.agg [(.d (.int .i64 0)),(.tl [] (some true))])),.o none (.st 2 (.t 18) (.t 112)) none,.frz 18]
def f37r23:AC:=.reg i37r23 (some [0,1,2,4,8,9,10,11,12,13,16,18,79,80,81,107,108,109])
def i37r24:List It:=[.u 114 (.fa 1 (.t 18)),.u 115 (.ld false 1 (.t 114)),.m 116 9,.u 117 (.ia 4 (.t 115) (.t 116)),.u 118 (.ld true 4 (.t 117)),.m 119 11,.u 120 (.fa 1 (.t 12)),.u 121 (.ld false 1 (.t 120)),.u 122 (.lenL (.t 121)),.u 123 (.call (.f 42) [true,true,true] [.t 118,.t 119,.t 122]),.m 113 123,.u 124 (.ext 0 (.t 113)),.u 125 (.ext 1 (.t 113)),.m 19 124,.m 20 125]
def f37r24:AC:=.reg i37r24 (some [0,1,2,4,8,9,10,11,12,13,16,18,19,20,79,80,81,107,108,109])
def i37r25:List It:=[.m 126 20]
def f37r25:AC:=.reg i37r25 (some [0,1,2,4,8,9,10,11,12,13,16,18,19,79,80,81,107,108,109,126])
def i37r26:List It:=[.m 127 16,.u 128 (.fa 0 (.t 18)),.u 129 (.ld false 1 (.t 128)),.u 130 (.fa 1 (.t 18)),.u 131 (.ld false 1 (.t 130)),.m 132 9,.m 133 19,.u 134 (.calln (.f 43) [true,true,true] [.t 131,.t 132,.t 133]),.u 135 (.build [(.d (.int .i64 0)),(.tl [] (some true))] [(0,1,(.t 129)),(1,1,(.t 134))]),.u 136 (.bsl 2 [.t 135]),.u 137 (.app 2 32 (.t 127) (.t 136)),.m 16 137,.kill 18]
def f37r26:AC:=.reg i37r26 (some [0,1,2,4,8,9,10,11,12,13,16,79,80,81,107,108,109])
def i37r27:List It:=[.u 138 (.bin .add (.t 109) (.i 1)),.m 109 138,.kill 18]
def f37r27:AC:=.reg i37r27 (some [0,1,2,4,8,9,10,11,12,13,16,79,80,81,107,108,109])
def f37l1:AC:=(.seq f37r22 (.seq (.cond (.t 110) .skip (.exit 4)) (.seq (.blk 5 (.seq f37r23 (.seq f37r24 (.seq f37r25 (.cond (.t 126) f37r26 .skip))))) f37r27)))
def i37r28:List It:=[.frz 16,.frz 13,.u 139 (.fa 3 (.t 10)),.u 140 (.ldk (.t 10) false 1 (.t 139)),.u 141 (.ld false 1 (.t 4)),.m 142 0,.m 143 9,.m 144 13,.u 145 (.calln (.f 44) [true,true,true] [.t 142,.t 143,.t 144]),.m 146 16,.u 147 (.callk (.t 10) (.t 141) [true,true] [.t 145,.t 146]),.u 148 (.bsl 1 [.t 147]),.u 149 (.app 1 8 (.t 140) (.t 148)),.u 150 (.fa 3 (.t 10)),.o none (.st 1 (.t 150) (.t 149)) none,.kill 12]
def f37r28:AC:=.reg i37r28 (some [0,1,2,4,8,9,10,79,80,81])
def i37r29:List It:=[.u 151 (.bin .add (.t 81) (.i 1)),.m 81 151]
def f37r29:AC:=.reg i37r29 (some [0,1,2,4,8,9,10,79,80,81])
def f37l2:AC:=(.seq f37r12 (.seq (.cond (.t 82) .skip (.exit 0)) (.seq (.blk 1 (.seq f37r13 (.seq f37r14 (.seq (.seq f37r15 (.blk 2 (.loop f37l0))) (.seq f37r20 (.seq (.seq f37r21 (.blk 4 (.loop f37l1))) f37r28)))))) f37r29)))
def i37r30:List It:=[.m 152 1,.u 153 (.ia 2 (.t 152) (.i 0)),.u 154 (.fa 1 (.t 153)),.u 155 (.ld false 1 (.t 154)),.m 156 9,.u 157 (.ia 4 (.t 155) (.t 156)),.u 158 (.fa 2 (.t 157)),.u 159 (.ld false 1 (.t 158)),.u 160 (.fa 2 (.t 10)),.o none (.st 1 (.t 160) (.t 159)) none]
def f37r30:AC:=.reg i37r30 (some [0,1,2,4,8,9,10])
def i37r31:List It:=[.u 21 (.mv (.c (.tl [] (some true)))),.u 22 (.mv (.c (.tl [] (some true))))]
def f37r31:AC:=.reg i37r31 (some [0,1,2,4,8,9,10,21,22])
def i37r32:List It:=[.m 161 1,.u 162 (.lenL (.t 161)),.u 163 (.mv (.i 0))]
def f37r32:AC:=.reg i37r32 (some [0,2,4,8,9,10,21,22,161,162,163])
def i37r33:List It:=[.u 164 (.bin .lss (.t 163) (.t 162))]
def f37r33:AC:=.reg i37r33 (some [0,2,4,8,9,10,21,22,161,162,163,164])
def i37r34:List It:=[.u 165 (.ia 2 (.t 161) (.t 163)),.u 166 (.ld true 2 (.t 165)),.u 24 (.alloc 2 (.agg [(.d (.int .i64 0)),(.tl [] (some true))])),.o none (.st 2 (.t 24) (.t 166)) none,.frz 24]
def f37r34:AC:=.reg i37r34 (some [0,2,4,8,9,10,21,22,24,161,162,163])
def i37r35:List It:=[.u 167 (.fa 1 (.t 24)),.u 168 (.ld false 1 (.t 167)),.m 169 9,.u 170 (.ia 4 (.t 168) (.t 169)),.u 171 (.ld true 4 (.t 170)),.u 25 (.alloc 4 (.agg [(.d (.int .i64 0)),(.d (.int .i64 0)),(.d (.int .i64 0)),(.tl [] (some true))])),.o none (.st 4 (.t 25) (.t 171)) none,.frz 25]
def f37r35:AC:=.reg i37r35 (some [0,2,4,8,9,10,21,22,24,25,161,162,163])
def i37r36:List It:=[.u 172 (.fa 0 (.t 25)),.u 173 (.ld false 1 (.t 172)),.u 174 (.bin .eql (.t 173) (.i 0)),.m 175 174,.g 176 (.fa 2 (.t 25)) 175 false,.g 177 (.ld false 1 (.t 176)) 175 false,.g 178 (.fa 2 (.t 10)) 175 false,.g 179 (.ld false 1 (.t 178)) 175 false,.g 180 (.bin .eql (.t 177) (.t 179)) 175 false,.u 181 (.pick (.t 175) (.b true) (.t 180))]
def f37r36:AC:=.reg i37r36 (some [0,2,4,8,9,10,21,22,24,25,161,162,163,181])
def i37r37:List It:=[.m 182 21,.u 183 (.fa 0 (.t 24)),.u 184 (.ld false 1 (.t 183)),.u 185 (.fa 1 (.t 24)),.u 186 (.ld false 1 (.t 185)),.m 187 9,.u 188 (.calln (.f 43) [true,true,true] [.t 186,.t 187,(.c (.tl [] (some true)))]),.u 189 (.build [(.d (.int .i64 0)),(.tl [] (some true))] [(0,1,(.t 184)),(1,1,(.t 188))]),.u 190 (.bsl 2 [.t 189]),.u 191 (.app 2 32 (.t 182) (.t 190)),.m 21 191]
def f37r37:AC:=.reg i37r37 (some [0,2,4,8,9,10,21,22,24,25,161,162,163])
def i37r38:List It:=[.u 192 (.fa 0 (.t 25)),.u 193 (.ld false 1 (.t 192)),.u 194 (.bin .eql (.t 193) (.i 0)),.m 195 194,.g 196 (.fa 2 (.t 25)) 195 false,.g 197 (.ld false 1 (.t 196)) 195 false,.g 198 (.fa 2 (.t 10)) 195 false,.g 199 (.ld false 1 (.t 198)) 195 false,.g 200 (.bin .neq (.t 197) (.t 199)) 195 false,.u 201 (.pick (.t 195) (.b true) (.t 200)),.kill 25]
def f37r38:AC:=.reg i37r38 (some [0,2,4,8,9,10,21,22,24,161,162,163,201])
def i37r39:List It:=[.m 202 22,.u 203 (.ld true 2 (.t 24)),.u 204 (.bsl 2 [.t 203]),.u 205 (.app 2 32 (.t 202) (.t 204)),.m 22 205,.kill 24]
def f37r39:AC:=.reg i37r39 (some [0,2,4,8,9,10,21,22,161,162,163])
def i37r40:List It:=[.u 206 (.bin .add (.t 163) (.i 1)),.m 163 206,.kill 24]
def f37r40:AC:=.reg i37r40 (some [0,2,4,8,9,10,21,22,161,162,163])
def f37l3:AC:=(.seq f37r33 (.seq (.cond (.t 164) .skip (.exit 6)) (.seq (.blk 7 (.seq f37r34 (.seq f37r35 (.seq (.seq f37r36 (.cond (.t 181) f37r37 .skip)) (.seq f37r38 (.cond (.t 201) f37r39 .skip)))))) f37r40)))
def i37r41:List It:=[.frz 21,.u 207 (.ld false 1 (.t 4)),.m 208 0,.m 209 9,.u 210 (.calln (.f 44) [true,true,true] [.t 208,.t 209,(.c (.tl [] (some true)))]),.m 211 21,.u 212 (.call (.t 207) [true,true] [.t 210,.t 211]),.u 213 (.bslO 1 [.t 212,(.i 0)]),.u 214 (.fa 3 (.t 10)),.o none (.st 1 (.t 214) (.t 213)) none]
def f37r41:AC:=.reg i37r41 (some [0,2,4,8,10,22])
def i37r42:List It:=[.frz 22,.u 215 (.fa 3 (.t 10)),.u 216 (.ldk (.t 10) false 1 (.t 215)),.u 217 (.ld false 1 (.t 4)),.m 218 0,.m 219 22,.u 220 (.callk (.t 10) (.t 217) [true,true] [.t 218,.t 219]),.u 221 (.ia 1 (.t 216) (.i 1)),.o none (.st 1 (.t 221) (.t 220)) none]
def f37r42:AC:=.reg i37r42 (some [2,8,10])
def i37r43:List It:=[.fzd 10,.u 222 (.fa 0 (.t 2)),.u 223 (.ld false 1 (.t 222)),.m 224 8,.u 225 (.ld true 5 (.t 10)),.u 226 (.ia 5 (.t 223) (.t 224)),.o none (.st 5 (.t 226) (.t 225)) none,.kill 10]
def f37r43:AC:=.reg i37r43 (some [8])
def i37r44:List It:=[.m 227 8,.m 7 227]
def f37r44:AC:=.reg i37r44 (some [7])
def b37:AC:=(.seq f37r0 (.seq f37r1 (.seq (.seq f37r2 (.cond (.t 30) (.seq f37r3 .ret) .skip)) (.seq f37r4 (.seq f37r5 (.seq (.seq f37r6 (.cond (.t 44) (.seq f37r7 (.seq f37r8 .ret)) .skip)) (.seq f37r9 (.seq (.seq f37r10 (.cond (.t 69) (.seq f37r11 (.blk 0 (.loop f37l2))) (.seq f37r30 (.seq f37r31 (.seq (.seq f37r32 (.blk 6 (.loop f37l3))) (.seq f37r41 f37r42)))))) (.seq f37r43 (.seq f37r44 .ret))))))))))
def f37:AF:=⟨5,[(7,none)],false,b37⟩
def i38r0:List It:=[.u 4 (.mv (.i 0))]
def f38r0:AC:=.reg i38r0 (some [0,1])
def i38r1:List It:=[.m 6 0,.u 7 (.lenL (.t 6)),.u 8 (.mv (.i 0))]
def f38r1:AC:=.reg i38r1 (some [0,1,7,8])
def i38r2:List It:=[.u 9 (.bin .lss (.t 8) (.t 7))]
def f38r2:AC:=.reg i38r2 (some [0,1,7,8,9])
def i38r3:List It:=[.m 10 8,.m 5 10]
def f38r3:AC:=.reg i38r3 (some [0,1,5,7,8])
def i38r4:List It:=[.m 11 1,.m 12 0,.m 13 5,.u 14 (.ia 4 (.t 12) (.t 13)),.u 15 (.ld true 4 (.t 14)),.u 16 (.call (.t 11) [true] [.t 15])]
def f38r4:AC:=.reg i38r4 (some [0,1,5,7,8,16])
def i38r5:List It:=[.m 17 5,.m 4 17]
def f38r5:AC:=.reg i38r5 (some [4])
def i38r6:List It:=[.u 18 (.bin .add (.t 8) (.i 1)),.m 8 18]
def f38r6:AC:=.reg i38r6 (some [0,1,7,8])
def f38l0:AC:=(.seq f38r2 (.seq (.cond (.t 9) .skip (.exit 0)) (.seq (.blk 1 (.seq f38r3 (.seq f38r4 (.cond (.t 16) (.seq f38r5 .ret) .skip)))) f38r6)))
def i38r7:List It:=[.u 4 (.mv (.i (-1)))]
def f38r7:AC:=.reg i38r7 (some [4])
def b38:AC:=(.seq f38r0 (.seq (.seq f38r1 (.blk 0 (.loop f38l0))) (.seq f38r7 .ret)))
def f38:AF:=⟨2,[(4,none)],true,b38⟩
def i39r0:List It:=[.u 1 (.box 4 (.t 0)),.u 2 (.mv (.b false)),.frz 1]
def f39r0:AC:=.reg i39r0 (some [1])
def i39r1:List It:=[.u 3 (.fa 0 (.t 1)),.u 4 (.ld false 1 (.t 3)),.u 5 (.bin .neq (.t 4) (.i 0)),.m 2 5,.kill 1]
def f39r1:AC:=.reg i39r1 (some [2])
def b39:AC:=(.seq f39r0 (.seq f39r1 .ret))
def f39:AF:=⟨1,[(2,none)],true,b39⟩
def i40r0:List It:=[.u 2 (.mv (.c (.tl [] (some true))))]
def f40r0:AC:=.reg i40r0 (some [0])
def i40r1:List It:=[.m 3 0,.u 4 (.nilBin .s .eql (.t 3))]
def f40r1:AC:=.reg i40r1 (some [0,4])
def i40r2:List It:=[.u 2 (.mv (.c (.tl [] (some true))))]
def f40r2:AC:=.reg i40r2 (some [2])
def i40r3:List It:=[.u 5 (.bsl 1 []),.m 6 0,.u 7 (.app 1 8 (.t 5) (.t 6)),.m 2 7]
def f40r3:AC:=.reg i40r3 (some [2])
def b40:AC:=(.seq f40r0 (.amb f40r1 (.t 4) (.seq f40r2 .ret) .skip (.seq f40r3 .ret)))
def f40:AF:=⟨1,[(2,none)],true,b40⟩
def i41r0:List It:=[.u 4 (.mv (.c (.tl [] (some true))))]
def f41r0:AC:=.reg i41r0 (some [0,1])
def i41r1:List It:=[.m 5 0,.m 6 0,.u 7 (.lenL (.t 6)),.m 8 0,.u 9 (.lenL (.t 8)),.u 10 (.slc3 1 (.t 5) none (some (.t 7)) (some (.t 9))),.m 11 1,.u 12 (.bsl 1 [.t 11]),.u 13 (.app 1 8 (.t 10) (.t 12)),.m 4 13]
def f41r1:AC:=.reg i41r1 (some [4])
def b41:AC:=(.seq f41r0 (.seq f41r1 .ret))
def f41:AF:=⟨2,[(4,none)],true,b41⟩
def i42r0:List It:=[.u 3 (.box 4 (.t 0)),.u 6 (.mv (.c (.tl [] (some true)))),.u 7 (.mv (.b false)),.frz 3]
def f42r0:AC:=.reg i42r0 (some [1,2,3])
def i42r1:List It:=[.u 9 (.fa 0 (.t 3)),.u 10 (.ld false 1 (.t 9)),.u 11 (.bin .eql (.t 10) (.i 0)),.m 8 11]
def f42r1:AC:=.reg i42r1 (some [1,2,3,8])
def i42r2:List It:=[.m 12 2,.u 13 (.mksl (.d (.agg [(.int .i64 0),(.int .i64 0),(.int .i64 0),(.lst [])])) 4 48 (.t 12)),.m 6 13,.u 7 (.mv (.b true)),.kill 3]
def f42r2:AC:=.reg i42r2 (some [6,7])
def i42r3:List It:=[.u 15 (.fa 1 (.t 3)),.u 16 (.ld false 1 (.t 15)),.m 17 1,.u 18 (.bin .eql (.t 16) (.t 17)),.m 14 18]
def f42r3:AC:=.reg i42r3 (some [3,14])
def i42r4:List It:=[.u 19 (.fa 3 (.t 3)),.u 20 (.ld false 1 (.t 19)),.m 6 20,.u 7 (.mv (.b true)),.kill 3]
def f42r4:AC:=.reg i42r4 (some [6,7])
def i42r5:List It:=[.u 6 (.mv (.c (.tl [] (some true)))),.u 7 (.mv (.b false)),.kill 3]
def f42r5:AC:=.reg i42r5 (some [6,7])
def b42:AC:=(.seq f42r0 (.seq (.blk 0 (.seq f42r1 (.cond (.t 8) (.seq f42r2 .ret) (.seq f42r3 (.cond (.t 14) (.seq f42r4 .ret) .skip))))) (.seq f42r5 .ret)))
def f42:AF:=⟨3,[(6,none),(7,none)],true,b42⟩
def i43r0:List It:=[.u 6 (.mv (.c (.tl [] (some true))))]
def f43r0:AC:=.reg i43r0 (some [0,1,2])
def i43r1:List It:=[.m 7 0,.m 8 1,.u 9 (.slc 4 (.t 7) none (some (.t 8))),.m 10 2,.m 11 0,.m 12 1,.u 13 (.bin .add (.t 12) (.i 1)),.u 14 (.slc 4 (.t 11) (some (.t 13)) none),.u 15 (.bsl 1 [.t 9,.t 10,.t 14]),.u 16 (.call (.f 83) [true] [.t 15]),.m 6 16]
def f43r1:AC:=.reg i43r1 (some [6])
def b43:AC:=(.seq f43r0 (.seq f43r1 .ret))
def f43:AF:=⟨3,[(6,none)],true,b43⟩
def i44r0:List It:=[.u 6 (.mv (.c (.tl [] (some true))))]
def f44r0:AC:=.reg i44r0 (some [0,1,2])
def i44r1:List It:=[.m 7 0,.m 8 1,.u 9 (.slc 2 (.t 7) none (some (.t 8))),.m 10 2,.m 11 0,.m 12 1,.u 13 (.bin .add (.t 12) (.i 1)),.u 14 (.slc 2 (.t 11) (some (.t 13)) none),.u 15 (.bsl 1 [.t 9,.t 10,.t 14]),.u 16 (.call (.f 84) [true] [.t 15]),.m 6 16]
def f44r1:AC:=.reg i44r1 (some [6])
def b44:AC:=(.seq f44r0 (.seq f44r1 .ret))
def f44:AF:=⟨3,[(6,none)],true,b44⟩
def i45r0:List It:=[.u 1 (.box 4 (.t 0)),.u 2 (.alloc 4 (.agg [(.d (.int .i64 0)),(.d (.int .i64 0)),(.d (.int .i64 0)),(.tl [] (some true))])),.frz 1]
def f45r0:AC:=.reg i45r0 (some [1,2])
def i45r1:List It:=[.u 6 (.fa 0 (.t 1)),.u 7 (.ld false 1 (.t 6)),.u 8 (.fa 1 (.t 1)),.u 9 (.ld false 1 (.t 8)),.u 10 (.fa 2 (.t 1)),.u 11 (.ld false 1 (.t 10)),.u 12 (.build [(.d (.int .i64 0)),(.d (.int .i64 0)),(.d (.int .i64 0)),(.tl [] (some true))] [(0,1,(.t 7)),(1,1,(.t 9)),(2,1,(.t 11))]),.u 3 (.alloc 4 (.agg [(.d (.int .i64 0)),(.d (.int .i64 0)),(.d (.int .i64 0)),(.tl [] (some true))])),.o none (.st 4 (.t 3) (.t 12)) none]
def f45r1:AC:=.reg i45r1 (some [1,2,3])
def i45r2:List It:=[.u 13 (.fa 3 (.t 1)),.u 14 (.ld false 1 (.t 13)),.u 15 (.lenL (.t 14)),.u 16 (.mv (.i 0)),.kill 1]
def f45r2:AC:=.reg i45r2 (some [2,3,14,15,16])
def i45r3:List It:=[.u 17 (.bin .lss (.t 16) (.t 15))]
def f45r3:AC:=.reg i45r3 (some [2,3,14,15,16,17])
def i45r4:List It:=[.u 18 (.ia 4 (.t 14) (.t 16)),.u 19 (.ld true 4 (.t 18)),.u 5 (.alloc 4 (.agg [(.d (.int .i64 0)),(.d (.int .i64 0)),(.d (.int .i64 0)),(.tl [] (some true))])),.o none (.st 4 (.t 5) (.t 19)) none,.frz 5]
def f45r4:AC:=.reg i45r4 (some [2,3,5,14,15,16])
def i45r5:List It:=[.u 20 (.fa 3 (.t 3)),.u 21 (.ld false 1 (.t 20)),.u 22 (.ld true 4 (.t 5)),.u 23 (.calln (.f 45) [true] [.t 22]),.u 24 (.bsl 4 [.t 23]),.u 25 (.app 4 48 (.t 21) (.t 24)),.u 26 (.fa 3 (.t 3)),.o none (.st 1 (.t 26) (.t 25)) none,.kill 5]
def f45r5:AC:=.reg i45r5 (some [2,3,14,15,16])
def i45r6:List It:=[.u 27 (.bin .add (.t 16) (.i 1)),.m 16 27]
def f45r6:AC:=.reg i45r6 (some [2,3,14,15,16])
def f45l0:AC:=(.seq f45r3 (.seq (.cond (.t 17) .skip (.exit 0)) (.seq (.blk 1 (.seq f45r4 f45r5)) f45r6)))
def i45r7:List It:=[.fzd 3,.u 28 (.ld true 4 (.t 3)),.o none (.st 4 (.t 2) (.t 28)) none,.kill 3]
def f45r7:AC:=.reg i45r7 (some [2])
def b45:AC:=(.seq f45r0 (.seq f45r1 (.seq (.seq f45r2 (.blk 0 (.loop f45l0))) (.seq f45r7 .ret))))
def f45:AF:=⟨1,[(2,some (true,4))],true,b45⟩
def i46r0:List It:=[.u 6 (.mv (.i 0))]
def f46r0:AC:=.reg i46r0 (some [0,1,2])
def i46r1:List It:=[.m 12 0,.u 13 (.call (.f 71) [true] [.t 12]),.u 14 (.bin .neq (.t 13) (.i 0))]
def f46r1:AC:=.reg i46r1 (some [0,1,2,14])
def i46r2:List It:=[.u 6 (.mv (.i 3))]
def f46r2:AC:=.reg i46r2 (some [6])
def i46r3:List It:=[.m 15 1,.u 16 (.lenL (.t 15)),.u 17 (.bin .gtr (.t 16) (.i 8)),.m 18 17,.g 19 (.mv (.t 2)) 18 false,.g 20 (.lenL (.t 19)) 18 false,.g 21 (.bin .gtr (.t 20) (.i 64)) 18 false,.u 22 (.pick (.t 18) (.b true) (.t 21))]
def f46r3:AC:=.reg i46r3 (some [0,1,2,22])
def i46r4:List It:=[.u 6 (.mv (.i 6))]
def f46r4:AC:=.reg i46r4 (some [6])
def i46r5:List It:=[.u 7 (.mv (.i 0))]
def f46r5:AC:=.reg i46r5 (some [0,1,2,7])
def i46r6:List It:=[.m 23 7,.m 24 1,.u 25 (.lenL (.t 24)),.u 26 (.bin .lss (.t 23) (.t 25))]
def f46r6:AC:=.reg i46r6 (some [0,1,2,7,26])
def i46r7:List It:=[.m 29 1,.m 30 7,.u 31 (.ia 1 (.t 29) (.t 30)),.u 32 (.ld false 1 (.t 31)),.u 33 (.bin .lss (.t 32) (.i 0)),.m 34 33,.g 35 (.mv (.t 1)) 34 false,.g 36 (.mv (.t 7)) 34 false,.g 37 (.ia 1 (.t 35) (.t 36)) 34 false,.g 38 (.ld false 1 (.t 37)) 34 false,.g 39 (.mv (.t 0)) 34 false,.g 40 (.lenL (.t 39)) 34 false,.g 41 (.bin .gtr (.t 38) (.t 40)) 34 false,.u 42 (.pick (.t 34) (.b true) (.t 41))]
def f46r7:AC:=.reg i46r7 (some [0,1,2,7,42])
def i46r8:List It:=[.u 6 (.mv (.i 2))]
def f46r8:AC:=.reg i46r8 (some [6])
def i46r9:List It:=[.m 27 7,.u 28 (.bin .add (.t 27) (.i 1)),.m 7 28]
def f46r9:AC:=.reg i46r9 (some [0,1,2,7])
def f46l0:AC:=(.seq (.seq f46r6 (.cond (.t 26) .skip (.exit 0))) (.seq (.blk 1 (.seq f46r7 (.cond (.t 42) (.seq f46r8 .ret) .skip))) f46r9))
def i46r10:List It:=[.u 8 (.mv (.i 0))]
def f46r10:AC:=.reg i46r10 (some [0,1,2,8])
def i46r11:List It:=[.m 43 8,.m 44 2,.u 45 (.lenL (.t 44)),.u 46 (.bin .lss (.t 43) (.t 45))]
def f46r11:AC:=.reg i46r11 (some [0,1,2,8,46])
def i46r12:List It:=[.u 9 (.mv (.i 0))]
def f46r12:AC:=.reg i46r12 (some [0,1,2,8,9])
def i46r13:List It:=[.m 49 9,.m 50 2,.m 51 8,.u 52 (.ia 1 (.t 50) (.t 51)),.u 53 (.ld false 1 (.t 52)),.u 54 (.lenL (.t 53)),.u 55 (.bin .lss (.t 49) (.t 54))]
def f46r13:AC:=.reg i46r13 (some [0,1,2,8,9,55])
def i46r14:List It:=[.m 58 2,.m 59 8,.u 60 (.ia 1 (.t 58) (.t 59)),.u 61 (.ld false 1 (.t 60)),.m 62 9,.u 63 (.ia 4 (.t 61) (.t 62)),.u 64 (.ld true 4 (.t 63)),.u 65 (.call (.f 85) [true,true] [.t 64,(.i 64)])]
def f46r14:AC:=.reg i46r14 (some [0,1,2,8,9,65])
def i46r15:List It:=[.u 6 (.mv (.i 7))]
def f46r15:AC:=.reg i46r15 (some [6])
def i46r16:List It:=[.m 56 9,.u 57 (.bin .add (.t 56) (.i 1)),.m 9 57]
def f46r16:AC:=.reg i46r16 (some [0,1,2,8,9])
def f46l1:AC:=(.seq (.seq f46r13 (.cond (.t 55) .skip (.exit 4))) (.seq (.blk 5 (.seq f46r14 (.cond (.t 65) (.seq f46r15 .ret) .skip))) f46r16))
def i46r17:List It:=[.m 47 8,.u 48 (.bin .add (.t 47) (.i 1)),.m 8 48]
def f46r17:AC:=.reg i46r17 (some [0,1,2,8])
def f46l2:AC:=(.seq (.seq f46r11 (.cond (.t 46) .skip (.exit 2))) (.seq (.blk 3 (.seq f46r12 (.blk 4 (.loop f46l1)))) f46r17))
def i46r18:List It:=[.u 10 (.mv (.i 0))]
def f46r18:AC:=.reg i46r18 (some [0,1,2,10])
def i46r19:List It:=[.m 66 10,.m 67 2,.u 68 (.lenL (.t 67)),.u 69 (.bin .lss (.t 66) (.t 68))]
def f46r19:AC:=.reg i46r19 (some [0,1,2,10,69])
def i46r20:List It:=[.m 72 2,.m 73 10,.u 74 (.ia 1 (.t 72) (.t 73)),.u 75 (.ld false 1 (.t 74)),.u 76 (.lenL (.t 75)),.m 77 1,.u 78 (.lenL (.t 77)),.u 79 (.bin .neq (.t 76) (.t 78))]
def f46r20:AC:=.reg i46r20 (some [0,1,2,10,79])
def i46r21:List It:=[.u 6 (.mv (.i 10))]
def f46r21:AC:=.reg i46r21 (some [6])
def i46r22:List It:=[.u 11 (.mv (.i 0))]
def f46r22:AC:=.reg i46r22 (some [0,1,2,10,11])
def i46r23:List It:=[.m 80 11,.m 81 1,.u 82 (.lenL (.t 81)),.u 83 (.bin .lss (.t 80) (.t 82))]
def f46r23:AC:=.reg i46r23 (some [0,1,2,10,11,83])
def i46r24:List It:=[.m 86 0,.m 87 1,.m 88 11,.u 89 (.ia 1 (.t 87) (.t 88)),.u 90 (.ld false 1 (.t 89)),.m 91 2,.m 92 10,.u 93 (.ia 1 (.t 91) (.t 92)),.u 94 (.ld false 1 (.t 93)),.m 95 11,.u 96 (.ia 4 (.t 94) (.t 95)),.u 97 (.ld true 4 (.t 96)),.u 98 (.call (.f 86) [true,true,true] [.t 86,.t 90,.t 97]),.u 99 (.un .not (.t 98))]
def f46r24:AC:=.reg i46r24 (some [0,1,2,10,11,99])
def i46r25:List It:=[.u 6 (.mv (.i 10))]
def f46r25:AC:=.reg i46r25 (some [6])
def i46r26:List It:=[.m 84 11,.u 85 (.bin .add (.t 84) (.i 1)),.m 11 85]
def f46r26:AC:=.reg i46r26 (some [0,1,2,10,11])
def f46l3:AC:=(.seq (.seq f46r23 (.cond (.t 83) .skip (.exit 8))) (.seq (.blk 9 (.seq f46r24 (.cond (.t 99) (.seq f46r25 .ret) .skip))) f46r26))
def i46r27:List It:=[.m 70 10,.u 71 (.bin .add (.t 70) (.i 1)),.m 10 71]
def f46r27:AC:=.reg i46r27 (some [0,1,2,10])
def f46l4:AC:=(.seq (.seq f46r19 (.cond (.t 69) .skip (.exit 6))) (.seq (.blk 7 (.seq (.seq f46r20 (.cond (.t 79) (.seq f46r21 .ret) .skip)) (.seq f46r22 (.blk 8 (.loop f46l3))))) f46r27))
def i46r28:List It:=[.u 6 (.mv (.i 0))]
def f46r28:AC:=.reg i46r28 (some [6])
def b46:AC:=(.seq f46r0 (.seq (.seq f46r1 (.cond (.t 14) (.seq f46r2 .ret) .skip)) (.seq (.seq f46r3 (.cond (.t 22) (.seq f46r4 .ret) .skip)) (.seq (.seq f46r5 (.blk 0 (.loop f46l0))) (.seq (.seq f46r10 (.blk 2 (.loop f46l2))) (.seq (.seq f46r18 (.blk 6 (.loop f46l4))) (.seq f46r28 .ret)))))))
def f46:AF:=⟨3,[(6,none)],true,b46⟩
def i47r0:List It:=[.u 6 (.mv (.c (.tl [] (some true)))),.u 7 (.mv (.b false))]
def f47r0:AC:=.reg i47r0 (some [0,1,2])
def i47r1:List It:=[.m 17 1,.u 18 (.lenL (.t 17)),.u 19 (.bin .eql (.t 18) (.i 0))]
def f47r1:AC:=.reg i47r1 (some [0,1,2,19])
def i47r2:List It:=[.m 20 2,.u 21 (.lenL (.t 20)),.u 22 (.bin .eql (.t 21) (.i 0)),.u 6 (.mv (.c (.tl [] (some true)))),.m 7 22]
def f47r2:AC:=.reg i47r2 (some [6,7])
def i47r3:List It:=[.m 23 1,.u 24 (.ia 1 (.t 23) (.i 0)),.u 25 (.ld false 1 (.t 24)),.m 8 25]
def f47r3:AC:=.reg i47r3 (some [0,1,2,8])
def i47r4:List It:=[.m 26 2,.u 27 (.call (.f 87) [true] [.t 26]),.m 9 27]
def f47r4:AC:=.reg i47r4 (some [0,1,2,8,9])
def i47r5:List It:=[.m 28 0,.m 29 8,.m 30 9,.u 31 (.call (.f 88) [true,true,true] [.t 28,.t 29,.t 30])]
def f47r5:AC:=.reg i47r5 (some [0,1,2,8,9,31])
def i47r6:List It:=[.u 10 (.mv (.i 0))]
def f47r6:AC:=.reg i47r6 (some [0,1,2,8,10])
def i47r7:List It:=[.m 32 10,.m 33 0,.m 34 8,.u 35 (.bin .sub (.t 34) (.i 1)),.u 36 (.ia 2 (.t 33) (.t 35)),.u 37 (.fa 1 (.t 36)),.u 38 (.ld false 1 (.t 37)),.u 39 (.lenL (.t 38)),.u 40 (.bin .lss (.t 32) (.t 39))]
def f47r7:AC:=.reg i47r7 (some [0,1,2,8,10,40])
def i47r8:List It:=[.m 43 0,.m 44 8,.u 45 (.bin .sub (.t 44) (.i 1)),.u 46 (.ia 2 (.t 43) (.t 45)),.u 47 (.fa 1 (.t 46)),.u 48 (.ld false 1 (.t 47)),.m 49 10,.u 50 (.ia 2 (.t 48) (.t 49)),.u 51 (.fa 1 (.t 50)),.u 52 (.ld false 1 (.t 51)),.u 53 (.lenL (.t 52)),.m 11 53]
def f47r8:AC:=.reg i47r8 (some [0,1,2,8,10,11])
def i47r9:List It:=[.m 55 0,.m 56 0,.m 57 1,.m 58 10,.u 59 (.call (.f 89) [true,true,true] [.t 56,.t 57,.t 58]),.m 60 2,.m 61 10,.u 62 (.build [(.d (.int .i64 0)),(.d (.int .i64 0)),(.d (.int .i64 0)),(.tl [] (some true))] [(0,1,(.i 1)),(1,1,(.t 61))]),.m 63 11,.u 64 (.call (.f 90) [true,true,true] [.t 60,.t 62,.t 63]),.u 65 (.call (.f 47) [true,true,true] [.t 55,.t 59,.t 64]),.m 54 65,.u 66 (.ext 0 (.t 54)),.u 67 (.ext 1 (.t 54)),.m 12 66,.m 13 67]
def f47r9:AC:=.reg i47r9 (some [0,1,2,8,10,11,12,13])
def i47r10:List It:=[.m 68 13]
def f47r10:AC:=.reg i47r10 (some [0,1,2,8,10,11,12,68])
def i47r11:List It:=[.m 69 10,.u 70 (.bsl 4 []),.m 71 12,.m 72 11,.u 73 (.slc 4 (.t 71) none (some (.t 72))),.u 74 (.appf 4 48 (.t 70) (.t 73)),.u 75 (.build [(.d (.int .i64 0)),(.d (.int .i64 0)),(.d (.int .i64 0)),(.tl [] (some true))] [(0,1,(.i 1)),(1,1,(.t 69)),(3,1,(.t 74))]),.u 76 (.bsl 4 [.t 75]),.m 14 76]
def f47r11:AC:=.reg i47r11 (some [11,12,14])
def i47r12:List It:=[.m 77 14,.m 78 12,.m 79 11,.u 80 (.slc 4 (.t 78) (some (.t 79)) none),.u 81 (.appf 4 48 (.t 77) (.t 80)),.m 6 81,.u 7 (.mv (.b true))]
def f47r12:AC:=.reg i47r12 (some [6,7])
def i47r13:List It:=[.m 41 10,.u 42 (.bin .add (.t 41) (.i 1)),.m 10 42]
def f47r13:AC:=.reg i47r13 (some [0,1,2,8,10])
def f47l0:AC:=(.seq (.seq f47r7 (.cond (.t 40) .skip (.exit 0))) (.seq (.blk 1 (.seq f47r8 (.seq f47r9 (.seq f47r10 (.cond (.t 68) (.seq f47r11 (.seq f47r12 .ret)) .skip))))) f47r13))
def i47r14:List It:=[.u 6 (.mv (.c (.tl [] (some true)))),.u 7 (.mv (.b false))]
def f47r14:AC:=.reg i47r14 (some [6,7])
def i47r15:List It:=[.m 83 0,.m 84 1,.u 85 (.slc 1 (.t 84) (some (.i 1)) none),.m 86 2,.u 87 (.call (.f 91) [true] [.t 86]),.u 88 (.call (.f 47) [true,true,true] [.t 83,.t 85,.t 87]),.m 82 88,.u 89 (.ext 0 (.t 82)),.u 90 (.ext 1 (.t 82)),.m 15 89,.m 16 90]
def f47r15:AC:=.reg i47r15 (some [0,8,9,15,16])
def i47r16:List It:=[.m 91 16,.u 92 (.un .not (.t 91))]
def f47r16:AC:=.reg i47r16 (some [0,8,9,15,92])
def i47r17:List It:=[.u 6 (.mv (.c (.tl [] (some true)))),.u 7 (.mv (.b false))]
def f47r17:AC:=.reg i47r17 (some [6,7])
def i47r18:List It:=[.m 93 0,.m 94 8,.m 95 9,.u 96 (.call (.f 92) [true,true,true] [.t 93,.t 94,.t 95]),.u 97 (.bsl 4 [.t 96]),.m 98 15,.u 99 (.appf 4 48 (.t 97) (.t 98)),.m 6 99,.u 7 (.mv (.b true))]
def f47r18:AC:=.reg i47r18 (some [6,7])
def b47:AC:=(.seq f47r0 (.seq (.seq f47r1 (.cond (.t 19) (.seq f47r2 .ret) .skip)) (.seq f47r3 (.seq f47r4 (.seq (.seq f47r5 (.cond (.t 31) (.seq (.seq f47r6 (.blk 0 (.loop f47l0))) (.seq f47r14 .ret)) .skip)) (.seq f47r15 (.seq (.seq f47r16 (.cond (.t 92) (.seq f47r17 .ret) .skip)) (.seq f47r18 .ret))))))))
def f47:AF:=⟨3,[(6,none),(7,none)],true,b47⟩
def i48r0:List It:=[.u 8 (.mv (.c (.tl [] (some true)))),.u 9 (.mv (.i 0))]
def f48r0:AC:=.reg i48r0 (some [0,1,2,3])
def i48r1:List It:=[.m 31 1,.u 32 (.lenL (.t 31)),.m 10 32]
def f48r1:AC:=.reg i48r1 (some [0,1,2,3,10])
def i48r2:List It:=[.m 33 1,.u 34 (.lenL (.t 33)),.u 35 (.bin .gtr (.t 34) (.i 4096))]
def f48r2:AC:=.reg i48r2 (some [0,1,2,3,10,35])
def i48r3:List It:=[.m 36 1,.m 37 10,.m 8 36,.m 9 37]
def f48r3:AC:=.reg i48r3 (some [8,9])
def i48r4:List It:=[.m 38 1,.u 39 (.build [(.tl [] (some true)),(.d (.bool false)),(.d (.int .i64 0)),(.tl [] (some true)),(.d (.int .i64 0))] []),.u 40 (.bsl 5 [.t 39]),.u 41 (.app 5 72 (.t 38) (.t 40)),.m 1 41]
def f48r4:AC:=.reg i48r4 (some [0,1,2,3,10])
def i48r5:List It:=[.u 11 (.mv (.i 0))]
def f48r5:AC:=.reg i48r5 (some [0,1,2,3,10,11])
def i48r6:List It:=[.m 42 11,.m 43 2,.u 44 (.lenL (.t 43)),.u 45 (.bin .lss (.t 42) (.t 44)),.m 46 45,.g 47 (.mv (.t 3)) 46 true,.g 48 (.ia 2 (.t 47) (.i 0)) 46 true,.g 49 (.fa 1 (.t 48)) 46 true,.g 50 (.ld false 1 (.t 49)) 46 true,.g 51 (.mv (.t 11)) 46 true,.g 52 (.ia 4 (.t 50) (.t 51)) 46 true,.g 53 (.fa 0 (.t 52)) 46 true,.g 54 (.ld false 1 (.t 53)) 46 true,.g 55 (.bin .eql (.t 54) (.i 0)) 46 true,.u 56 (.pick (.t 46) (.t 55) (.b false))]
def f48r6:AC:=.reg i48r6 (some [0,1,2,3,10,11,56])
def i48r7:List It:=[.m 57 11,.u 58 (.bin .add (.t 57) (.i 1)),.m 11 58]
def f48r7:AC:=.reg i48r7 (some [0,1,2,3,10,11])
def f48l0:AC:=(.seq (.seq f48r6 (.cond (.t 56) .skip (.exit 0))) (.blk 1 f48r7))
def i48r8:List It:=[.m 59 11,.m 60 2,.u 61 (.lenL (.t 60)),.u 62 (.bin .eql (.t 59) (.t 61))]
def f48r8:AC:=.reg i48r8 (some [0,1,2,3,10,11,62])
def i48r9:List It:=[.m 63 1,.m 64 10,.m 65 3,.u 66 (.ia 2 (.t 65) (.i 0)),.u 67 (.fa 0 (.t 66)),.u 68 (.ld false 1 (.t 67)),.u 69 (.ia 5 (.t 63) (.t 64)),.u 70 (.fa 4 (.t 69)),.o none (.st 1 (.t 70) (.t 68)) none]
def f48r9:AC:=.reg i48r9 (some [1,10])
def i48r10:List It:=[.m 71 1,.m 72 10,.m 8 71,.m 9 72]
def f48r10:AC:=.reg i48r10 (some [8,9])
def i48r11:List It:=[.m 73 2,.m 74 11,.u 75 (.ia 2 (.t 73) (.t 74)),.u 76 (.fa 0 (.t 75)),.u 77 (.ld false 1 (.t 76)),.m 78 2,.m 79 11,.u 80 (.ia 2 (.t 78) (.t 79)),.u 81 (.fa 1 (.t 80)),.u 82 (.ld false 1 (.t 81)),.u 83 (.bin .neq (.t 82) (.i 0)),.u 84 (.build [(.tl [] (some true)),(.d (.bool false)),(.d (.int .i64 0)),(.tl [] (some true)),(.d (.int .i64 0))] [(0,1,(.t 77)),(1,1,(.t 83))]),.u 12 (.alloc 5 (.agg [(.tl [] (some true)),(.d (.bool false)),(.d (.int .i64 0)),(.tl [] (some true)),(.d (.int .i64 0))])),.o none (.st 5 (.t 12) (.t 84)) none]
def f48r11:AC:=.reg i48r11 (some [0,1,2,3,10,11,12])
def i48r12:List It:=[.u 85 (.fa 1 (.t 12)),.u 86 (.ld false 1 (.t 85)),.u 87 (.un .not (.t 86))]
def f48r12:AC:=.reg i48r12 (some [0,1,2,3,10,11,12,87])
def i48r13:List It:=[.m 88 3,.u 89 (.ia 2 (.t 88) (.i 0)),.u 90 (.fa 1 (.t 89)),.u 91 (.ld false 1 (.t 90)),.m 92 11,.u 93 (.ia 4 (.t 91) (.t 92)),.u 94 (.fa 2 (.t 93)),.u 95 (.ld false 1 (.t 94)),.u 96 (.fa 2 (.t 12)),.o none (.st 1 (.t 96) (.t 95)) none]
def f48r13:AC:=.reg i48r13 (some [0,1,2,3,10,11,12])
def i48r14:List It:=[.u 13 (.mv (.i 0))]
def f48r14:AC:=.reg i48r14 (some [0,1,2,3,10,11,12,13])
def i48r15:List It:=[.m 97 13,.u 98 (.bin .lss (.t 97) (.i 2))]
def f48r15:AC:=.reg i48r15 (some [0,1,2,3,10,11,12,13,98])
def i48r16:List It:=[.u 14 (.mv (.c (.tl [] (some true))))]
def f48r16:AC:=.reg i48r16 (some [0,1,2,3,10,11,12,13,14])
def i48r17:List It:=[.m 101 14,.m 102 2,.m 103 11,.u 104 (.slc 2 (.t 102) none (some (.t 103))),.u 105 (.app 2 32 (.t 101) (.t 104)),.m 14 105]
def f48r17:AC:=.reg i48r17 (some [0,1,2,3,10,11,12,13,14])
def i48r18:List It:=[.m 106 13,.u 107 (.bin .eql (.t 106) (.i 1))]
def f48r18:AC:=.reg i48r18 (some [0,1,2,3,10,11,12,13,14,107])
def i48r19:List It:=[.m 108 14,.m 109 2,.m 110 11,.u 111 (.ia 2 (.t 109) (.t 110)),.u 112 (.ld true 2 (.t 111)),.u 113 (.bsl 2 [.t 112]),.u 114 (.app 2 32 (.t 108) (.t 113)),.m 14 114]
def f48r19:AC:=.reg i48r19 (some [0,1,2,3,10,11,12,13,14])
def i48r20:List It:=[.m 115 14,.m 116 2,.m 117 11,.u 118 (.bin .add (.t 117) (.i 1)),.u 119 (.slc 2 (.t 116) (some (.t 118)) none),.u 120 (.app 2 32 (.t 115) (.t 119)),.m 14 120]
def f48r20:AC:=.reg i48r20 (some [0,1,2,3,10,11,12,13,14])
def i48r21:List It:=[.u 15 (.mv (.c (.tl [] (some true))))]
def f48r21:AC:=.reg i48r21 (some [0,1,2,3,10,11,12,13,14,15])
def i48r22:List It:=[.u 16 (.mv (.i 0))]
def f48r22:AC:=.reg i48r22 (some [0,1,2,3,10,11,12,13,14,15,16])
def i48r23:List It:=[.m 121 16,.m 122 3,.u 123 (.lenL (.t 122)),.u 124 (.bin .lss (.t 121) (.t 123))]
def f48r23:AC:=.reg i48r23 (some [0,1,2,3,10,11,12,13,14,15,16,124])
def i48r24:List It:=[.m 127 3,.m 128 16,.u 129 (.ia 2 (.t 127) (.t 128)),.u 130 (.fa 1 (.t 129)),.u 131 (.ld false 1 (.t 130)),.m 132 11,.u 133 (.ia 4 (.t 131) (.t 132)),.u 134 (.ld true 4 (.t 133)),.u 17 (.alloc 4 (.agg [(.d (.int .i64 0)),(.d (.int .i64 0)),(.d (.int .i64 0)),(.tl [] (some true))])),.o none (.st 4 (.t 17) (.t 134)) none,.frz 17]
def f48r24:AC:=.reg i48r24 (some [0,1,2,3,10,11,12,13,14,15,16,17])
def i48r25:List It:=[.u 135 (.fa 0 (.t 17)),.u 136 (.ld false 1 (.t 135)),.u 137 (.bin .neq (.t 136) (.i 0)),.m 138 137,.g 139 (.fa 2 (.t 17)) 138 true,.g 140 (.ld false 1 (.t 139)) 138 true,.g 141 (.fa 2 (.t 12)) 138 true,.g 142 (.ld false 1 (.t 141)) 138 true,.g 143 (.bin .eql (.t 140) (.t 142)) 138 true,.g 144 (.mv (.t 13)) 138 true,.g 145 (.bin .eql (.t 144) (.i 0)) 138 true,.g 146 (.binB .neq (.t 143) (.t 145)) 138 true,.u 147 (.pick (.t 138) (.t 146) (.b false))]
def f48r25:AC:=.reg i48r25 (some [0,1,2,3,10,11,12,13,14,15,16,17,147])
def i48r26:List It:=[.m 148 3,.m 149 16,.u 150 (.ia 2 (.t 148) (.t 149)),.u 151 (.fa 0 (.t 150)),.u 152 (.ld false 1 (.t 151)),.u 153 (.build [(.d (.int .i64 0)),(.tl [] (some true))] [(0,1,(.t 152))]),.u 18 (.alloc 2 (.agg [(.d (.int .i64 0)),(.tl [] (some true))])),.o none (.st 2 (.t 18) (.t 153)) none]
def f48r26:AC:=.reg i48r26 (some [0,1,2,3,10,11,12,13,14,15,16,17,18])
def i48r27:List It:=[.u 154 (.fa 1 (.t 18)),.u 155 (.ld false 1 (.t 154)),.m 156 3,.m 157 16,.u 158 (.ia 2 (.t 156) (.t 157)),.u 159 (.fa 1 (.t 158)),.u 160 (.ld false 1 (.t 159)),.m 161 11,.u 162 (.slc 4 (.t 160) none (some (.t 161))),.u 163 (.app 4 48 (.t 155) (.t 162)),.u 164 (.fa 1 (.t 18)),.o none (.st 1 (.t 164) (.t 163)) none]
def f48r27:AC:=.reg i48r27 (some [0,1,2,3,10,11,12,13,14,15,16,17,18])
def i48r28:List It:=[.m 165 13,.u 166 (.bin .eql (.t 165) (.i 1))]
def f48r28:AC:=.reg i48r28 (some [0,1,2,3,10,11,12,13,14,15,16,17,18,166])
def i48r29:List It:=[.u 167 (.fa 1 (.t 18)),.u 168 (.ld false 1 (.t 167)),.u 169 (.ld true 4 (.t 17)),.u 170 (.bsl 4 [.t 169]),.u 171 (.app 4 48 (.t 168) (.t 170)),.u 172 (.fa 1 (.t 18)),.o none (.st 1 (.t 172) (.t 171)) none,.kill 17]
def f48r29:AC:=.reg i48r29 (some [0,1,2,3,10,11,12,13,14,15,16,18])
def i48r30:List It:=[.u 173 (.fa 1 (.t 18)),.u 174 (.ld false 1 (.t 173)),.m 175 3,.m 176 16,.u 177 (.ia 2 (.t 175) (.t 176)),.u 178 (.fa 1 (.t 177)),.u 179 (.ld false 1 (.t 178)),.m 180 11,.u 181 (.bin .add (.t 180) (.i 1)),.u 182 (.slc 4 (.t 179) (some (.t 181)) none),.u 183 (.app 4 48 (.t 174) (.t 182)),.u 184 (.fa 1 (.t 18)),.o none (.st 1 (.t 184) (.t 183)) none,.kill 17]
def f48r30:AC:=.reg i48r30 (some [0,1,2,3,10,11,12,13,14,15,16,18])
def i48r31:List It:=[.fzd 18,.m 185 15,.u 186 (.ld true 2 (.t 18)),.u 187 (.bsl 2 [.t 186]),.u 188 (.app 2 32 (.t 185) (.t 187)),.m 15 188,.kill 18]
def f48r31:AC:=.reg i48r31 (some [0,1,2,3,10,11,12,13,14,15,16])
def i48r32:List It:=[.m 125 16,.u 126 (.bin .add (.t 125) (.i 1)),.m 16 126,.kill 17]
def f48r32:AC:=.reg i48r32 (some [0,1,2,3,10,11,12,13,14,15,16])
def f48l1:AC:=(.seq (.seq f48r23 (.cond (.t 124) .skip (.exit 4))) (.seq (.blk 5 (.seq f48r24 (.seq (.seq f48r25 (.cond (.t 147) (.exit 5) .skip)) (.seq f48r26 (.seq f48r27 (.seq (.seq f48r28 (.cond (.t 166) f48r29 .skip)) (.seq f48r30 f48r31))))))) f48r32))
def i48r33:List It:=[.u 19 (.mv (.i 0))]
def f48r33:AC:=.reg i48r33 (some [0,1,2,3,10,11,12,13,14,15])
def i48r34:List It:=[.frz 15,.frz 14,.m 190 0,.m 191 1,.m 192 14,.m 193 15,.u 194 (.call (.f 48) [true,false,true,true] [.t 190,.t 191,.t 192,.t 193]),.m 189 194,.u 195 (.ext 0 (.t 189)),.u 196 (.ext 1 (.t 189)),.m 1 195,.m 19 196]
def f48r34:AC:=.reg i48r34 (some [0,1,2,3,10,11,12,13,19])
def i48r35:List It:=[.u 197 (.fa 3 (.t 12)),.u 198 (.ld false 1 (.t 197)),.m 199 19,.u 200 (.bsl 1 [.t 199]),.u 201 (.app 1 8 (.t 198) (.t 200)),.u 202 (.fa 3 (.t 12)),.o none (.st 1 (.t 202) (.t 201)) none]
def f48r35:AC:=.reg i48r35 (some [0,1,2,3,10,11,12,13])
def i48r36:List It:=[.m 99 13,.u 100 (.bin .add (.t 99) (.i 1)),.m 13 100]
def f48r36:AC:=.reg i48r36 (some [0,1,2,3,10,11,12,13])
def f48l2:AC:=(.seq (.seq f48r15 (.cond (.t 98) .skip (.exit 2))) (.seq (.blk 3 (.seq f48r16 (.seq f48r17 (.seq (.seq f48r18 (.cond (.t 107) f48r19 .skip)) (.seq f48r20 (.seq f48r21 (.seq (.seq f48r22 (.blk 4 (.loop f48l1))) (.seq f48r33 (.seq f48r34 f48r35))))))))) f48r36))
def i48r37:List It:=[.fzd 12,.m 203 1,.m 204 10,.u 205 (.ld true 5 (.t 12)),.u 206 (.ia 5 (.t 203) (.t 204)),.o none (.st 5 (.t 206) (.t 205)) none,.kill 12]
def f48r37:AC:=.reg i48r37 (some [1,10])
def i48r38:List It:=[.m 207 1,.m 208 10,.m 8 207,.m 9 208]
def f48r38:AC:=.reg i48r38 (some [8,9])
def i48r39:List It:=[.m 209 0,.m 210 2,.m 211 11,.u 212 (.ia 2 (.t 210) (.t 211)),.u 213 (.fa 1 (.t 212)),.u 214 (.ld false 1 (.t 213)),.u 215 (.bin .sub (.t 214) (.i 1)),.u 216 (.ia 2 (.t 209) (.t 215)),.u 217 (.fa 1 (.t 216)),.u 218 (.ld false 1 (.t 217)),.m 20 218]
def f48r39:AC:=.reg i48r39 (some [0,1,2,3,10,11,12,20])
def i48r40:List It:=[.u 21 (.mv (.i 0))]
def f48r40:AC:=.reg i48r40 (some [0,1,2,3,10,11,12,20,21])
def i48r41:List It:=[.m 219 21,.m 220 20,.u 221 (.lenL (.t 220)),.u 222 (.bin .lss (.t 219) (.t 221))]
def f48r41:AC:=.reg i48r41 (some [0,1,2,3,10,11,12,20,21,222])
def i48r42:List It:=[.u 22 (.mv (.c (.tl [] (some true))))]
def f48r42:AC:=.reg i48r42 (some [0,1,2,3,10,11,12,20,21,22])
def i48r43:List It:=[.m 225 22,.m 226 2,.m 227 11,.u 228 (.slc 2 (.t 226) none (some (.t 227))),.u 229 (.app 2 32 (.t 225) (.t 228)),.m 22 229]
def f48r43:AC:=.reg i48r43 (some [0,1,2,3,10,11,12,20,21,22])
def i48r44:List It:=[.u 23 (.mv (.i 0))]
def f48r44:AC:=.reg i48r44 (some [0,1,2,3,10,11,12,20,21,22,23])
def i48r45:List It:=[.m 230 23,.m 231 20,.m 232 21,.u 233 (.ia 2 (.t 231) (.t 232)),.u 234 (.fa 1 (.t 233)),.u 235 (.ld false 1 (.t 234)),.u 236 (.lenL (.t 235)),.u 237 (.bin .lss (.t 230) (.t 236))]
def f48r45:AC:=.reg i48r45 (some [0,1,2,3,10,11,12,20,21,22,23,237])
def i48r46:List It:=[.m 240 22,.m 241 2,.m 242 11,.u 243 (.ia 2 (.t 241) (.t 242)),.u 244 (.fa 0 (.t 243)),.u 245 (.ld false 1 (.t 244)),.m 246 23,.u 247 (.calln (.f 93) [true,true] [.t 245,.t 246]),.m 248 20,.m 249 21,.u 250 (.ia 2 (.t 248) (.t 249)),.u 251 (.fa 1 (.t 250)),.u 252 (.ld false 1 (.t 251)),.m 253 23,.u 254 (.ia 1 (.t 252) (.t 253)),.u 255 (.ld false 1 (.t 254)),.u 256 (.build [(.tl [] (some true)),(.d (.int .i64 0))] [(0,1,(.t 247)),(1,1,(.t 255))]),.u 257 (.bsl 2 [.t 256]),.u 258 (.app 2 32 (.t 240) (.t 257)),.m 22 258]
def f48r46:AC:=.reg i48r46 (some [0,1,2,3,10,11,12,20,21,22,23])
def i48r47:List It:=[.m 238 23,.u 239 (.bin .add (.t 238) (.i 1)),.m 23 239]
def f48r47:AC:=.reg i48r47 (some [0,1,2,3,10,11,12,20,21,22,23])
def f48l3:AC:=(.seq (.seq f48r45 (.cond (.t 237) .skip (.exit 8))) (.seq (.blk 9 f48r46) f48r47))
def i48r48:List It:=[.m 259 22,.m 260 2,.m 261 11,.u 262 (.bin .add (.t 261) (.i 1)),.u 263 (.slc 2 (.t 260) (some (.t 262)) none),.u 264 (.app 2 32 (.t 259) (.t 263)),.m 22 264]
def f48r48:AC:=.reg i48r48 (some [0,1,2,3,10,11,12,20,21,22])
def i48r49:List It:=[.u 24 (.mv (.c (.tl [] (some true))))]
def f48r49:AC:=.reg i48r49 (some [0,1,2,3,10,11,12,20,21,22,24])
def i48r50:List It:=[.u 25 (.mv (.i 0))]
def f48r50:AC:=.reg i48r50 (some [0,1,2,3,10,11,12,20,21,22,24,25])
def i48r51:List It:=[.m 265 25,.m 266 3,.u 267 (.lenL (.t 266)),.u 268 (.bin .lss (.t 265) (.t 267))]
def f48r51:AC:=.reg i48r51 (some [0,1,2,3,10,11,12,20,21,22,24,25,268])
def i48r52:List It:=[.m 271 3,.m 272 25,.u 273 (.ia 2 (.t 271) (.t 272)),.u 274 (.fa 1 (.t 273)),.u 275 (.ld false 1 (.t 274)),.m 276 11,.u 277 (.ia 4 (.t 275) (.t 276)),.u 278 (.ld true 4 (.t 277)),.u 26 (.alloc 4 (.agg [(.d (.int .i64 0)),(.d (.int .i64 0)),(.d (.int .i64 0)),(.tl [] (some true))])),.o none (.st 4 (.t 26) (.t 278)) none,.frz 26]
def f48r52:AC:=.reg i48r52 (some [0,1,2,3,10,11,12,20,21,22,24,25,26])
def i48r53:List It:=[.u 279 (.fa 0 (.t 26)),.u 280 (.ld false 1 (.t 279)),.u 281 (.bin .neq (.t 280) (.i 0)),.m 282 281,.g 283 (.fa 1 (.t 26)) 282 true,.g 284 (.ld false 1 (.t 283)) 282 true,.g 285 (.mv (.t 21)) 282 true,.g 286 (.bin .neq (.t 284) (.t 285)) 282 true,.u 287 (.pick (.t 282) (.t 286) (.b false))]
def f48r53:AC:=.reg i48r53 (some [0,1,2,3,10,11,12,20,21,22,24,25,26,287])
def i48r54:List It:=[.m 288 3,.m 289 25,.u 290 (.ia 2 (.t 288) (.t 289)),.u 291 (.fa 0 (.t 290)),.u 292 (.ld false 1 (.t 291)),.u 293 (.build [(.d (.int .i64 0)),(.tl [] (some true))] [(0,1,(.t 292))]),.u 27 (.alloc 2 (.agg [(.d (.int .i64 0)),(.tl [] (some true))])),.o none (.st 2 (.t 27) (.t 293)) none]
def f48r54:AC:=.reg i48r54 (some [0,1,2,3,10,11,12,20,21,22,24,25,26,27])
def i48r55:List It:=[.u 294 (.fa 1 (.t 27)),.u 295 (.ld false 1 (.t 294)),.m 296 3,.m 297 25,.u 298 (.ia 2 (.t 296) (.t 297)),.u 299 (.fa 1 (.t 298)),.u 300 (.ld false 1 (.t 299)),.m 301 11,.u 302 (.slc 4 (.t 300) none (some (.t 301))),.u 303 (.app 4 48 (.t 295) (.t 302)),.u 304 (.fa 1 (.t 27)),.o none (.st 1 (.t 304) (.t 303)) none]
def f48r55:AC:=.reg i48r55 (some [0,1,2,3,10,11,12,20,21,22,24,25,26,27])
def i48r56:List It:=[.u 28 (.mv (.i 0))]
def f48r56:AC:=.reg i48r56 (some [0,1,2,3,10,11,12,20,21,22,24,25,26,27,28])
def i48r57:List It:=[.m 305 28,.m 306 20,.m 307 21,.u 308 (.ia 2 (.t 306) (.t 307)),.u 309 (.fa 1 (.t 308)),.u 310 (.ld false 1 (.t 309)),.u 311 (.lenL (.t 310)),.u 312 (.bin .lss (.t 305) (.t 311))]
def f48r57:AC:=.reg i48r57 (some [0,1,2,3,10,11,12,20,21,22,24,25,26,27,28,312])
def i48r58:List It:=[.u 315 (.build [(.d (.int .i64 0)),(.d (.int .i64 0)),(.d (.int .i64 0)),(.tl [] (some true))] []),.u 29 (.alloc 4 (.agg [(.d (.int .i64 0)),(.d (.int .i64 0)),(.d (.int .i64 0)),(.tl [] (some true))])),.o none (.st 4 (.t 29) (.t 315)) none]
def f48r58:AC:=.reg i48r58 (some [0,1,2,3,10,11,12,20,21,22,24,25,26,27,28,29])
def i48r59:List It:=[.u 316 (.fa 0 (.t 26)),.u 317 (.ld false 1 (.t 316)),.u 318 (.bin .neq (.t 317) (.i 0))]
def f48r59:AC:=.reg i48r59 (some [0,1,2,3,10,11,12,20,21,22,24,25,26,27,28,29,318])
def i48r60:List It:=[.u 319 (.fa 3 (.t 26)),.u 320 (.ld false 1 (.t 319)),.m 321 28,.u 322 (.ia 4 (.t 320) (.t 321)),.u 323 (.ld true 4 (.t 322)),.o none (.st 4 (.t 29) (.t 323)) none]
def f48r60:AC:=.reg i48r60 (some [0,1,2,3,10,11,12,20,21,22,24,25,26,27,28,29])
def i48r61:List It:=[.u 324 (.fa 1 (.t 27)),.u 325 (.ld false 1 (.t 324)),.u 326 (.ld true 4 (.t 29)),.u 327 (.bsl 4 [.t 326]),.u 328 (.app 4 48 (.t 325) (.t 327)),.u 329 (.fa 1 (.t 27)),.o none (.st 1 (.t 329) (.t 328)) none,.kill 29]
def f48r61:AC:=.reg i48r61 (some [0,1,2,3,10,11,12,20,21,22,24,25,26,27,28])
def i48r62:List It:=[.m 313 28,.u 314 (.bin .add (.t 313) (.i 1)),.m 28 314]
def f48r62:AC:=.reg i48r62 (some [0,1,2,3,10,11,12,20,21,22,24,25,26,27,28])
def f48l4:AC:=(.seq (.seq f48r57 (.cond (.t 312) .skip (.exit 12))) (.seq (.blk 13 (.seq f48r58 (.seq (.seq f48r59 (.cond (.t 318) f48r60 .skip)) f48r61))) f48r62))
def i48r63:List It:=[.u 330 (.fa 1 (.t 27)),.u 331 (.ld false 1 (.t 330)),.m 332 3,.m 333 25,.u 334 (.ia 2 (.t 332) (.t 333)),.u 335 (.fa 1 (.t 334)),.u 336 (.ld false 1 (.t 335)),.m 337 11,.u 338 (.bin .add (.t 337) (.i 1)),.u 339 (.slc 4 (.t 336) (some (.t 338)) none),.u 340 (.app 4 48 (.t 331) (.t 339)),.u 341 (.fa 1 (.t 27)),.o none (.st 1 (.t 341) (.t 340)) none,.kill 26]
def f48r63:AC:=.reg i48r63 (some [0,1,2,3,10,11,12,20,21,22,24,25,27])
def i48r64:List It:=[.fzd 27,.m 342 24,.u 343 (.ld true 2 (.t 27)),.u 344 (.bsl 2 [.t 343]),.u 345 (.app 2 32 (.t 342) (.t 344)),.m 24 345,.kill 27]
def f48r64:AC:=.reg i48r64 (some [0,1,2,3,10,11,12,20,21,22,24,25])
def i48r65:List It:=[.m 269 25,.u 270 (.bin .add (.t 269) (.i 1)),.m 25 270,.kill 26]
def f48r65:AC:=.reg i48r65 (some [0,1,2,3,10,11,12,20,21,22,24,25])
def f48l5:AC:=(.seq (.seq f48r51 (.cond (.t 268) .skip (.exit 10))) (.seq (.blk 11 (.seq f48r52 (.seq (.seq f48r53 (.cond (.t 287) (.exit 11) .skip)) (.seq f48r54 (.seq f48r55 (.seq (.seq f48r56 (.blk 12 (.loop f48l4))) (.seq f48r63 f48r64))))))) f48r65))
def i48r66:List It:=[.u 30 (.mv (.i 0))]
def f48r66:AC:=.reg i48r66 (some [0,1,2,3,10,11,12,20,21,22,24])
def i48r67:List It:=[.frz 24,.frz 22,.m 347 0,.m 348 1,.m 349 22,.m 350 24,.u 351 (.call (.f 48) [true,false,true,true] [.t 347,.t 348,.t 349,.t 350]),.m 346 351,.u 352 (.ext 0 (.t 346)),.u 353 (.ext 1 (.t 346)),.m 1 352,.m 30 353]
def f48r67:AC:=.reg i48r67 (some [0,1,2,3,10,11,12,20,21,30])
def i48r68:List It:=[.u 354 (.fa 3 (.t 12)),.u 355 (.ld false 1 (.t 354)),.m 356 30,.u 357 (.bsl 1 [.t 356]),.u 358 (.app 1 8 (.t 355) (.t 357)),.u 359 (.fa 3 (.t 12)),.o none (.st 1 (.t 359) (.t 358)) none]
def f48r68:AC:=.reg i48r68 (some [0,1,2,3,10,11,12,20,21])
def i48r69:List It:=[.m 223 21,.u 224 (.bin .add (.t 223) (.i 1)),.m 21 224]
def f48r69:AC:=.reg i48r69 (some [0,1,2,3,10,11,12,20,21])
def f48l6:AC:=(.seq (.seq f48r41 (.cond (.t 222) .skip (.exit 6))) (.seq (.blk 7 (.seq f48r42 (.seq f48r43 (.seq (.seq f48r44 (.blk 8 (.loop f48l3))) (.seq f48r48 (.seq f48r49 (.seq (.seq f48r50 (.blk 10 (.loop f48l5))) (.seq f48r66 (.seq f48r67 f48r68))))))))) f48r69))
def i48r70:List It:=[.fzd 12,.m 360 1,.m 361 10,.u 362 (.ld true 5 (.t 12)),.u 363 (.ia 5 (.t 360) (.t 361)),.o none (.st 5 (.t 363) (.t 362)) none,.kill 12]
def f48r70:AC:=.reg i48r70 (some [1,10])
def i48r71:List It:=[.m 364 1,.m 365 10,.m 8 364,.m 9 365]
def f48r71:AC:=.reg i48r71 (some [8,9])
def b48:AC:=(.seq f48r0 (.seq f48r1 (.seq (.seq f48r2 (.cond (.t 35) (.seq f48r3 .ret) .skip)) (.seq f48r4 (.seq f48r5 (.seq (.blk 0 (.loop f48l0)) (.seq (.seq f48r8 (.cond (.t 62) (.seq f48r9 (.seq f48r10 .ret)) .skip)) (.seq f48r11 (.seq (.seq f48r12 (.cond (.t 87) (.seq f48r13 (.seq (.seq f48r14 (.blk 2 (.loop f48l2))) (.seq f48r37 (.seq f48r38 .ret)))) .skip)) (.seq f48r39 (.seq (.seq f48r40 (.blk 6 (.loop f48l6))) (.seq f48r70 (.seq f48r71 .ret)))))))))))))
def f48:AF:=⟨4,[(8,none),(9,none)],false,b48⟩
def i49r0:List It:=[.u 6 (.mv (.b false))]
def f49r0:AC:=.reg i49r0 (some [0,1,2])
def i49r1:List It:=[.m 10 0,.u 11 (.lenL (.t 10)),.m 12 1,.u 13 (.lenL (.t 12)),.u 14 (.bin .neq (.t 11) (.t 13))]
def f49r1:AC:=.reg i49r1 (some [0,1,2,14])
def i49r2:List It:=[.u 6 (.mv (.b false))]
def f49r2:AC:=.reg i49r2 (some [6])
def i49r3:List It:=[.m 15 0,.u 16 (.lenL (.t 15)),.u 17 (.mv (.i 0))]
def f49r3:AC:=.reg i49r3 (some [1,2,15,16,17])
def i49r4:List It:=[.u 18 (.bin .lss (.t 17) (.t 16))]
def f49r4:AC:=.reg i49r4 (some [1,2,15,16,17,18])
def i49r5:List It:=[.m 19 17,.u 20 (.ia 5 (.t 15) (.t 17)),.u 21 (.ld true 5 (.t 20)),.u 8 (.alloc 5 (.agg [(.tl [] (some true)),(.d (.bool false)),(.d (.int .i64 0)),(.tl [] (some true)),(.d (.int .i64 0))])),.m 7 19,.o none (.st 5 (.t 8) (.t 21)) none,.frz 8]
def f49r5:AC:=.reg i49r5 (some [1,2,7,8,15,16,17])
def i49r6:List It:=[.m 22 1,.m 23 7,.u 24 (.ia 5 (.t 22) (.t 23)),.u 25 (.ld true 5 (.t 24)),.u 9 (.alloc 5 (.agg [(.tl [] (some true)),(.d (.bool false)),(.d (.int .i64 0)),(.tl [] (some true)),(.d (.int .i64 0))])),.o none (.st 5 (.t 9) (.t 25)) none,.frz 9]
def f49r6:AC:=.reg i49r6 (some [1,2,8,9,15,16,17])
def i49r7:List It:=[.m 26 2,.u 27 (.ld true 5 (.t 8)),.u 28 (.ld true 5 (.t 9)),.u 29 (.call (.t 26) [true,true] [.t 27,.t 28]),.u 30 (.un .not (.t 29)),.kill 8,.kill 9]
def f49r7:AC:=.reg i49r7 (some [1,2,15,16,17,30])
def i49r8:List It:=[.u 6 (.mv (.b false))]
def f49r8:AC:=.reg i49r8 (some [6])
def i49r9:List It:=[.u 31 (.bin .add (.t 17) (.i 1)),.m 17 31]
def f49r9:AC:=.reg i49r9 (some [1,2,15,16,17])
def f49l0:AC:=(.seq f49r4 (.seq (.cond (.t 18) .skip (.exit 0)) (.seq (.blk 1 (.seq f49r5 (.seq f49r6 (.seq f49r7 (.cond (.t 30) (.seq f49r8 .ret) .skip))))) f49r9)))
def i49r10:List It:=[.u 6 (.mv (.b true))]
def f49r10:AC:=.reg i49r10 (some [6])
def b49:AC:=(.seq f49r0 (.seq (.seq f49r1 (.cond (.t 14) (.seq f49r2 .ret) .skip)) (.seq (.seq f49r3 (.blk 0 (.loop f49l0))) (.seq f49r10 .ret))))
def f49:AF:=⟨3,[(6,none)],true,b49⟩
def i50r0:List It:=[.u 2 (.box 5 (.t 0)),.u 3 (.box 5 (.t 1)),.u 4 (.mv (.b false)),.frz 2,.frz 3]
def f50r0:AC:=.reg i50r0 (some [2,3])
def i50r1:List It:=[.u 5 (.fa 0 (.t 2)),.u 6 (.ld false 1 (.t 5)),.u 7 (.fa 0 (.t 3)),.u 8 (.ld false 1 (.t 7)),.u 9 (.call (.f 21) [true,true] [.t 6,.t 8]),.m 10 9,.g 11 (.fa 1 (.t 2)) 10 true,.g 12 (.ld false 1 (.t 11)) 10 true,.g 13 (.fa 1 (.t 3)) 10 true,.g 14 (.ld false 1 (.t 13)) 10 true,.g 15 (.binB .eql (.t 12) (.t 14)) 10 true,.u 16 (.pick (.t 10) (.t 15) (.b false)),.m 17 16,.g 18 (.fa 2 (.t 2)) 17 true,.g 19 (.ld false 1 (.t 18)) 17 true,.g 20 (.fa 2 (.t 3)) 17 true,.g 21 (.ld false 1 (.t 20)) 17 true,.g 22 (.bin .eql (.t 19) (.t 21)) 17 true,.u 23 (.pick (.t 17) (.t 22) (.b false)),.m 24 23,.g 25 (.fa 3 (.t 2)) 24 true,.g 26 (.ld false 1 (.t 25)) 24 true,.g 27 (.fa 3 (.t 3)) 24 true,.g 28 (.ld false 1 (.t 27)) 24 true,.g 29 (.call (.f 21) [true,true] [.t 26,.t 28]) 24 true,.u 30 (.pick (.t 24) (.t 29) (.b false)),.m 31 30,.g 32 (.fa 4 (.t 2)) 31 true,.g 33 (.ld false 1 (.t 32)) 31 true,.g 34 (.fa 4 (.t 3)) 31 true,.g 35 (.ld false 1 (.t 34)) 31 true,.g 36 (.bin .eql (.t 33) (.t 35)) 31 true,.u 37 (.pick (.t 31) (.t 36) (.b false)),.m 4 37,.kill 2,.kill 3]
def f50r1:AC:=.reg i50r1 (some [4])
def b50:AC:=(.seq f50r0 (.seq f50r1 .ret))
def f50:AF:=⟨2,[(4,none)],true,b50⟩
def i51r0:List It:=[.u 8 (.mv (.c (.tl [] (some true)))),.u 9 (.mv (.b false))]
def f51r0:AC:=.reg i51r0 (some [0,1,2,3])
def i51r1:List It:=[.m 15 1,.u 16 (.bin .lss (.t 15) (.i 0)),.m 17 16,.g 18 (.mv (.t 1)) 17 false,.g 19 (.mv (.t 0)) 17 false,.g 20 (.lenL (.t 19)) 17 false,.g 21 (.bin .geq (.t 18) (.t 20)) 17 false,.u 22 (.pick (.t 17) (.b true) (.t 21)),.m 23 22,.g 24 (.mv (.t 3)) 23 false,.g 25 (.mv (.t 1)) 23 false,.g 26 (.ia 1 (.t 24) (.t 25)) 23 false,.g 27 (.ld false 1 (.t 26)) 23 false,.u 28 (.pick (.t 23) (.b true) (.t 27))]
def f51r1:AC:=.reg i51r1 (some [0,1,2,3,28])
def i51r2:List It:=[.u 8 (.mv (.c (.tl [] (some true)))),.u 9 (.mv (.b false))]
def f51r2:AC:=.reg i51r2 (some [8,9])
def i51r3:List It:=[.m 29 3,.m 30 1,.u 31 (.ia 1 (.t 29) (.t 30)),.o none (.st 1 (.t 31) (.b true)) none]
def f51r3:AC:=.reg i51r3 (some [0,1,2,3])
def i51r4:List It:=[.m 32 1,.m 33 2,.u 34 (.bin .eql (.t 32) (.t 33))]
def f51r4:AC:=.reg i51r4 (some [0,1,2,3,34])
def i51r5:List It:=[.u 8 (.mv (.c (.tl [] (some true)))),.u 9 (.mv (.b true))]
def f51r5:AC:=.reg i51r5 (some [8,9])
def i51r6:List It:=[.m 35 0,.m 36 1,.u 37 (.ia 5 (.t 35) (.t 36)),.u 38 (.ld true 5 (.t 37)),.u 10 (.alloc 5 (.agg [(.tl [] (some true)),(.d (.bool false)),(.d (.int .i64 0)),(.tl [] (some true)),(.d (.int .i64 0))])),.o none (.st 5 (.t 10) (.t 38)) none,.frz 10]
def f51r6:AC:=.reg i51r6 (some [0,2,3,10])
def i51r7:List It:=[.u 11 (.mv (.i 0))]
def f51r7:AC:=.reg i51r7 (some [0,2,3,10,11])
def i51r8:List It:=[.m 39 11,.u 40 (.fa 3 (.t 10)),.u 41 (.ld false 1 (.t 40)),.u 42 (.lenL (.t 41)),.u 43 (.bin .lss (.t 39) (.t 42))]
def f51r8:AC:=.reg i51r8 (some [0,2,3,10,11,43])
def i51r9:List It:=[.m 47 0,.u 48 (.fa 3 (.t 10)),.u 49 (.ld false 1 (.t 48)),.m 50 11,.u 51 (.ia 1 (.t 49) (.t 50)),.u 52 (.ld false 1 (.t 51)),.m 53 2,.m 54 3,.u 55 (.call (.f 51) [true,true,true,true] [.t 47,.t 52,.t 53,.t 54]),.m 46 55,.u 56 (.ext 0 (.t 46)),.u 57 (.ext 1 (.t 46)),.m 12 56,.m 13 57]
def f51r9:AC:=.reg i51r9 (some [0,2,3,10,11,12,13])
def i51r10:List It:=[.m 58 13]
def f51r10:AC:=.reg i51r10 (some [0,2,3,10,11,12,58])
def i51r11:List It:=[.u 14 (.mv (.c (.tl [] (some true))))]
def f51r11:AC:=.reg i51r11 (some [10,12,14])
def i51r12:List It:=[.u 59 (.fa 1 (.t 10)),.u 60 (.ld false 1 (.t 59))]
def f51r12:AC:=.reg i51r12 (some [10,12,14,60])
def i51r13:List It:=[.m 61 14,.u 62 (.fa 0 (.t 10)),.u 63 (.ld false 1 (.t 62)),.u 64 (.bsl 1 [.t 63]),.u 65 (.app 1 24 (.t 61) (.t 64)),.m 14 65,.kill 10]
def f51r13:AC:=.reg i51r13 (some [12,14])
def i51r14:List It:=[.m 66 14,.m 67 12,.u 68 (.appf 1 24 (.t 66) (.t 67)),.m 8 68,.u 9 (.mv (.b true)),.kill 10]
def f51r14:AC:=.reg i51r14 (some [8,9])
def i51r15:List It:=[.m 44 11,.u 45 (.bin .add (.t 44) (.i 1)),.m 11 45]
def f51r15:AC:=.reg i51r15 (some [0,2,3,10,11])
def f51l0:AC:=(.seq (.seq f51r8 (.cond (.t 43) .skip (.exit 0))) (.seq (.blk 1 (.seq f51r9 (.seq f51r10 (.cond (.t 58) (.seq f51r11 (.seq (.seq f51r12 (.cond (.t 60) f51r13 .skip)) (.seq f51r14 .ret))) .skip)))) f51r15))
def i51r16:List It:=[.u 8 (.mv (.c (.tl [] (some true)))),.u 9 (.mv (.b false)),.kill 10]
def f51r16:AC:=.reg i51r16 (some [8,9])
def b51:AC:=(.seq f51r0 (.seq (.seq f51r1 (.cond (.t 28) (.seq f51r2 .ret) .skip)) (.seq f51r3 (.seq (.seq f51r4 (.cond (.t 34) (.seq f51r5 .ret) .skip)) (.seq f51r6 (.seq (.seq f51r7 (.blk 0 (.loop f51l0))) (.seq f51r16 .ret)))))))
def f51:AF:=⟨4,[(8,none),(9,none)],false,b51⟩
def i52r0:List It:=[.u 2 (.box 1 (.t 0)),.frz 2,.u 3 (.box 1 (.t 1)),.frz 3,.u 4 (.mv (.c (.d .nilf)))]
def f52r0:AC:=.reg i52r0 (some [2,3])
def i52r1:List It:=[.u 5 (.mkf 94 [.t 2,.t 3]),.m 4 5]
def f52r1:AC:=.reg i52r1 (some [4])
def b52:AC:=(.seq f52r0 (.seq f52r1 .ret))
def f52:AF:=⟨2,[(4,none)],false,b52⟩
def i53r0:List It:=[.u 2 (.mv (.b false))]
def f53r0:AC:=.reg i53r0 (some [0])
def i53r1:List It:=[.m 5 0,.u 6 (.lenL (.t 5)),.u 7 (.bin .gtr (.t 6) (.i 64))]
def f53r1:AC:=.reg i53r1 (some [0,7])
def i53r2:List It:=[.u 2 (.mv (.b true))]
def f53r2:AC:=.reg i53r2 (some [2])
def i53r3:List It:=[.m 8 0,.u 9 (.lenL (.t 8)),.u 10 (.mv (.i 0))]
def f53r3:AC:=.reg i53r3 (some [8,9,10])
def i53r4:List It:=[.u 11 (.bin .lss (.t 10) (.t 9))]
def f53r4:AC:=.reg i53r4 (some [8,9,10,11])
def i53r5:List It:=[.u 12 (.ia 2 (.t 8) (.t 10)),.u 13 (.ld true 2 (.t 12)),.u 4 (.alloc 2 (.agg [(.d (.str ⟨#[]⟩)),(.tl [] (some true))])),.o none (.st 2 (.t 4) (.t 13)) none,.frz 4]
def f53r5:AC:=.reg i53r5 (some [4,8,9,10])
def i53r6:List It:=[.u 14 (.fa 1 (.t 4)),.u 15 (.ld false 1 (.t 14)),.u 16 (.lenL (.t 15)),.u 17 (.bin .gtr (.t 16) (.i 16)),.m 18 17,.g 19 (.fa 1 (.t 4)) 18 false,.g 20 (.ld false 1 (.t 19)) 18 false,.g 21 (.call (.f 97) [true,true] [.t 20,(.f 98)]) 18 false,.u 22 (.pick (.t 18) (.b true) (.t 21)),.kill 4]
def f53r6:AC:=.reg i53r6 (some [8,9,10,22])
def i53r7:List It:=[.u 2 (.mv (.b true))]
def f53r7:AC:=.reg i53r7 (some [2])
def i53r8:List It:=[.u 23 (.bin .add (.t 10) (.i 1)),.m 10 23]
def f53r8:AC:=.reg i53r8 (some [8,9,10])
def f53l0:AC:=(.seq f53r4 (.seq (.cond (.t 11) .skip (.exit 0)) (.seq (.blk 1 (.seq f53r5 (.seq f53r6 (.cond (.t 22) (.seq f53r7 .ret) .skip)))) f53r8)))
def i53r9:List It:=[.u 2 (.mv (.b false))]
def f53r9:AC:=.reg i53r9 (some [2])
def b53:AC:=(.seq f53r0 (.seq (.seq f53r1 (.cond (.t 7) (.seq f53r2 .ret) .skip)) (.seq (.seq f53r3 (.blk 0 (.loop f53l0))) (.seq f53r9 .ret))))
def f53:AF:=⟨1,[(2,none)],true,b53⟩
def i54r0:List It:=[.u 2 (.mv (.b false))]
def f54r0:AC:=.reg i54r0 (some [0])
def i54r1:List It:=[.m 7 0,.u 8 (.lenL (.t 7)),.u 9 (.bin .eql (.t 8) (.i 0)),.m 10 9,.g 11 (.mv (.t 0)) 10 false,.g 12 (.ia 2 (.t 11) (.i 0)) 10 false,.g 13 (.fa 0 (.t 12)) 10 false,.g 14 (.ld false 1 (.t 13)) 10 false,.g 15 (.bin .neq (.t 14) (.c (.d (.str ⟨#[66,111,111,108]⟩)))) 10 false,.u 16 (.pick (.t 10) (.b true) (.t 15)),.m 17 16,.g 18 (.mv (.t 0)) 17 false,.g 19 (.ia 2 (.t 18) (.i 0)) 17 false,.g 20 (.fa 1 (.t 19)) 17 false,.g 21 (.ld false 1 (.t 20)) 17 false,.g 22 (.lenL (.t 21)) 17 false,.g 23 (.bin .neq (.t 22) (.i 2)) 17 false,.u 24 (.pick (.t 17) (.b true) (.t 23))]
def f54r1:AC:=.reg i54r1 (some [0,24])
def i54r2:List It:=[.u 2 (.mv (.b false))]
def f54r2:AC:=.reg i54r2 (some [2])
def i54r3:List It:=[.m 25 0,.u 26 (.ia 2 (.t 25) (.i 0)),.u 27 (.fa 1 (.t 26)),.u 28 (.ld false 1 (.t 27)),.u 29 (.ia 2 (.t 28) (.i 0)),.u 30 (.ld true 2 (.t 29)),.m 31 0,.u 32 (.ia 2 (.t 31) (.i 0)),.u 33 (.fa 1 (.t 32)),.u 34 (.ldf false 1 (.t 33)),.u 35 (.ia 2 (.t 34) (.i 1)),.u 36 (.ldf true 2 (.t 35)),.u 3 (.alloc 2 (.agg [(.d (.str ⟨#[]⟩)),(.tl [] (some true))])),.u 4 (.alloc 2 (.agg [(.d (.str ⟨#[]⟩)),(.tl [] (some true))])),.o none (.st 2 (.t 3) (.t 30)) none,.o none (.st 2 (.t 4) (.t 36)) none,.frz 3,.frz 4]
def f54r3:AC:=.reg i54r3 (some [0,3,4])
def i54r4:List It:=[.u 37 (.fa 0 (.t 3)),.u 38 (.ld false 1 (.t 37)),.u 39 (.bin .neq (.t 38) (.c (.d (.str ⟨#[70,97,108,115,101]⟩)))),.m 40 39,.g 41 (.fa 0 (.t 4)) 40 false,.g 42 (.ld false 1 (.t 41)) 40 false,.g 43 (.bin .neq (.t 42) (.c (.d (.str ⟨#[84,114,117,101]⟩)))) 40 false,.u 44 (.pick (.t 40) (.b true) (.t 43)),.m 45 44,.g 46 (.fa 1 (.t 3)) 45 false,.g 47 (.ld false 1 (.t 46)) 45 false,.g 48 (.lenL (.t 47)) 45 false,.g 49 (.fa 1 (.t 4)) 45 false,.g 50 (.ld false 1 (.t 49)) 45 false,.g 51 (.lenL (.t 50)) 45 false,.g 52 (.bin .add (.t 48) (.t 51)) 45 false,.g 53 (.bin .gtr (.t 52) (.i 0)) 45 false,.u 54 (.pick (.t 45) (.b true) (.t 53)),.kill 3,.kill 4]
def f54r4:AC:=.reg i54r4 (some [0,54])
def i54r5:List It:=[.u 2 (.mv (.b false))]
def f54r5:AC:=.reg i54r5 (some [2])
def i54r6:List It:=[.m 55 0,.u 56 (.lenL (.t 55)),.u 57 (.mv (.i 0))]
def f54r6:AC:=.reg i54r6 (some [55,56,57])
def i54r7:List It:=[.u 58 (.bin .lss (.t 57) (.t 56))]
def f54r7:AC:=.reg i54r7 (some [55,56,57,58])
def i54r8:List It:=[.u 59 (.ia 2 (.t 55) (.t 57)),.u 60 (.ld true 2 (.t 59)),.u 6 (.alloc 2 (.agg [(.d (.str ⟨#[]⟩)),(.tl [] (some true))])),.o none (.st 2 (.t 6) (.t 60)) none,.frz 6]
def f54r8:AC:=.reg i54r8 (some [6,55,56,57])
def i54r9:List It:=[.u 61 (.fa 0 (.t 6)),.u 62 (.ld false 1 (.t 61)),.u 63 (.call (.f 99) [true] [.t 62]),.u 64 (.un .not (.t 63)),.m 65 64,.g 66 (.fa 1 (.t 6)) 65 false,.g 67 (.ld false 1 (.t 66)) 65 false,.g 68 (.lenL (.t 67)) 65 false,.g 69 (.bin .eql (.t 68) (.i 0)) 65 false,.u 70 (.pick (.t 65) (.b true) (.t 69)),.m 71 70,.g 72 (.fa 1 (.t 6)) 71 false,.g 73 (.ld false 1 (.t 72)) 71 false,.g 74 (.call (.f 97) [true,true] [.t 73,(.f 100)]) 71 false,.u 75 (.pick (.t 71) (.b true) (.t 74)),.kill 6]
def f54r9:AC:=.reg i54r9 (some [55,56,57,75])
def i54r10:List It:=[.u 2 (.mv (.b false))]
def f54r10:AC:=.reg i54r10 (some [2])
def i54r11:List It:=[.u 76 (.bin .add (.t 57) (.i 1)),.m 57 76]
def f54r11:AC:=.reg i54r11 (some [55,56,57])
def f54l0:AC:=(.seq f54r7 (.seq (.cond (.t 58) .skip (.exit 0)) (.seq (.blk 1 (.seq f54r8 (.seq f54r9 (.cond (.t 75) (.seq f54r10 .ret) .skip)))) f54r11)))
def i54r12:List It:=[.u 2 (.mv (.b true))]
def f54r12:AC:=.reg i54r12 (some [2])
def b54:AC:=(.seq f54r0 (.seq (.seq f54r1 (.cond (.t 24) (.seq f54r2 .ret) .skip)) (.seq f54r3 (.seq (.seq f54r4 (.cond (.t 54) (.seq f54r5 .ret) .skip)) (.seq (.seq f54r6 (.blk 0 (.loop f54l0))) (.seq f54r12 .ret))))))
def f54:AF:=⟨1,[(2,none)],true,b54⟩
def i55r0:List It:=[.u 2 (.mv (.b false))]
def f55r0:AC:=.reg i55r0 (some [0])
def i55r1:List It:=[.u 9 (.mkmap),.o none (.mu .s (.t 9) (.c (.d (.str ⟨#[73,110,116]⟩))) (.b true)) none,.m 10 9,.u 11 (.mkmap),.m 3 10,.m 4 11]
def f55r1:AC:=.reg i55r1 (some [0,3,4])
def i55r2:List It:=[.m 12 0,.u 13 (.lenL (.t 12)),.u 14 (.mv (.i 0))]
def f55r2:AC:=.reg i55r2 (some [3,4,12,13,14])
def i55r3:List It:=[.u 15 (.bin .lss (.t 14) (.t 13))]
def f55r3:AC:=.reg i55r3 (some [3,4,12,13,14,15])
def i55r4:List It:=[.u 16 (.ia 2 (.t 12) (.t 14)),.u 17 (.ld true 2 (.t 16)),.u 6 (.alloc 2 (.agg [(.d (.str ⟨#[]⟩)),(.tl [] (some true))])),.o none (.st 2 (.t 6) (.t 17)) none,.frz 6]
def f55r4:AC:=.reg i55r4 (some [3,4,6,12,13,14])
def i55r5:List It:=[.m 18 3,.u 19 (.fa 0 (.t 6)),.u 20 (.ld false 1 (.t 19)),.u 21 (.lk .s (.d (.bool false)) false (.t 18) (.t 20))]
def f55r5:AC:=.reg i55r5 (some [3,4,6,12,13,14,21])
def i55r6:List It:=[.u 2 (.mv (.b true)),.kill 6]
def f55r6:AC:=.reg i55r6 (some [2])
def i55r7:List It:=[.m 22 3,.u 23 (.fa 0 (.t 6)),.u 24 (.ld false 1 (.t 23)),.o none (.mu .s (.t 22) (.t 24) (.b true)) none]
def f55r7:AC:=.reg i55r7 (some [3,4,6,12,13,14])
def i55r8:List It:=[.u 25 (.fa 1 (.t 6)),.u 26 (.ld false 1 (.t 25)),.u 27 (.lenL (.t 26)),.u 28 (.mv (.i 0)),.kill 6]
def f55r8:AC:=.reg i55r8 (some [3,4,12,13,14,26,27,28])
def i55r9:List It:=[.u 29 (.bin .lss (.t 28) (.t 27))]
def f55r9:AC:=.reg i55r9 (some [3,4,12,13,14,26,27,28,29])
def i55r10:List It:=[.u 30 (.ia 2 (.t 26) (.t 28)),.u 31 (.ld true 2 (.t 30)),.u 8 (.alloc 2 (.agg [(.d (.str ⟨#[]⟩)),(.tl [] (some true))])),.o none (.st 2 (.t 8) (.t 31)) none,.frz 8]
def f55r10:AC:=.reg i55r10 (some [3,4,8,12,13,14,26,27,28])
def i55r11:List It:=[.m 32 4,.u 33 (.fa 0 (.t 8)),.u 34 (.ld false 1 (.t 33)),.u 35 (.lk .s (.d (.bool false)) false (.t 32) (.t 34))]
def f55r11:AC:=.reg i55r11 (some [3,4,8,12,13,14,26,27,28,35])
def i55r12:List It:=[.u 2 (.mv (.b true)),.kill 8]
def f55r12:AC:=.reg i55r12 (some [2])
def i55r13:List It:=[.m 36 4,.u 37 (.fa 0 (.t 8)),.u 38 (.ld false 1 (.t 37)),.o none (.mu .s (.t 36) (.t 38) (.b true)) none,.kill 8]
def f55r13:AC:=.reg i55r13 (some [3,4,12,13,14,26,27,28])
def i55r14:List It:=[.u 39 (.bin .add (.t 28) (.i 1)),.m 28 39]
def f55r14:AC:=.reg i55r14 (some [3,4,12,13,14,26,27,28])
def f55l0:AC:=(.seq f55r9 (.seq (.cond (.t 29) .skip (.exit 2)) (.seq (.blk 3 (.seq f55r10 (.seq (.seq f55r11 (.cond (.t 35) (.seq f55r12 .ret) .skip)) f55r13))) f55r14)))
def i55r15:List It:=[.u 40 (.bin .add (.t 14) (.i 1)),.m 14 40]
def f55r15:AC:=.reg i55r15 (some [3,4,12,13,14])
def f55l1:AC:=(.seq f55r3 (.seq (.cond (.t 15) .skip (.exit 0)) (.seq (.blk 1 (.seq f55r4 (.seq (.seq f55r5 (.cond (.t 21) (.seq f55r6 .ret) .skip)) (.seq f55r7 (.seq f55r8 (.blk 2 (.loop f55l0))))))) f55r15)))
def i55r16:List It:=[.u 2 (.mv (.b false))]
def f55r16:AC:=.reg i55r16 (some [2])
def b55:AC:=(.seq f55r0 (.seq f55r1 (.seq (.seq f55r2 (.blk 0 (.loop f55l1))) (.seq f55r16 .ret))))
def f55:AF:=⟨1,[(2,none)],true,b55⟩
def i56r0:List It:=[.u 4 (.mv (.b false))]
def f56r0:AC:=.reg i56r0 (some [0,1])
def i56r1:List It:=[.m 5 0,.m 6 1,.u 7 (.call (.f 101) [true,true] [.t 5,.t 6]),.u 8 (.bin .geq (.t 7) (.i 0)),.m 4 8]
def f56r1:AC:=.reg i56r1 (some [4])
def b56:AC:=(.seq f56r0 (.seq f56r1 .ret))
def f56:AF:=⟨2,[(4,none)],true,b56⟩
def i57r0:List It:=[.u 3 (.mv (.b false))]
def f57r0:AC:=.reg i57r0 (some [0,1])
def i57r1:List It:=[.u 4 (.ld false 1 (.t 1)),.m 5 0,.u 6 (.call (.f 58) [true,true] [.t 4,.t 5]),.u 7 (.un .not (.t 6)),.m 3 7]
def f57r1:AC:=.reg i57r1 (some [3])
def b57:AC:=(.seq f57r0 (.seq f57r1 .ret))
def f57:AF:=⟨2,[(3,none)],true,b57⟩
def i58r0:List It:=[.u 4 (.mv (.b false))]
def f58r0:AC:=.reg i58r0 (some [0,1])
def i58r1:List It:=[.m 5 1,.u 6 (.bin .geq (.t 5) (.i 0)),.m 7 6,.g 8 (.mv (.t 1)) 7 true,.g 9 (.mv (.t 0)) 7 true,.g 10 (.lenL (.t 9)) 7 true,.g 11 (.bin .leq (.t 8) (.t 10)) 7 true,.u 12 (.pick (.t 7) (.t 11) (.b false)),.m 4 12]
def f58r1:AC:=.reg i58r1 (some [4])
def b58:AC:=(.seq f58r0 (.seq f58r1 .ret))
def f58:AF:=⟨2,[(4,none)],true,b58⟩
def i59r0:List It:=[.u 2 (.mv (.b false))]
def f59r0:AC:=.reg i59r0 (some [0])
def i59r1:List It:=[.m 7 0,.u 8 (.lenL (.t 7)),.u 9 (.bin .add (.t 8) (.i 1)),.u 10 (.mksl (.d (.bool false)) 1 1 (.t 9)),.u 3 (.alloc 1 (.tl [] (some true))),.o none (.st 1 (.t 3) (.t 10)) none]
def f59r1:AC:=.reg i59r1 (some [0,3])
def i59r2:List It:=[.u 11 (.ld false 1 (.t 3)),.u 12 (.ia 1 (.t 11) (.i 0)),.o none (.st 1 (.t 12) (.b true)) none]
def f59r2:AC:=.reg i59r2 (some [0,3])
def i59r3:List It:=[.u 4 (.mv (.b true))]
def f59r3:AC:=.reg i59r3 (some [0,3,4])
def i59r4:List It:=[.m 13 4]
def f59r4:AC:=.reg i59r4 (some [0,3,13])
def i59r5:List It:=[.u 4 (.mv (.b false))]
def f59r5:AC:=.reg i59r5 (some [0,3,4])
def i59r6:List It:=[.m 14 0,.u 15 (.lenL (.t 14)),.u 16 (.mv (.i 0))]
def f59r6:AC:=.reg i59r6 (some [0,3,4,15,16])
def i59r7:List It:=[.u 17 (.bin .lss (.t 16) (.t 15))]
def f59r7:AC:=.reg i59r7 (some [0,3,4,15,16,17])
def i59r8:List It:=[.m 18 16,.m 5 18]
def f59r8:AC:=.reg i59r8 (some [0,3,4,5,15,16])
def i59r9:List It:=[.m 19 0,.m 20 5,.u 21 (.ia 2 (.t 19) (.t 20)),.u 22 (.fa 1 (.t 21)),.u 23 (.ld false 1 (.t 22)),.u 24 (.mkf 102 [.t 3]),.u 25 (.call (.f 97) [true,true] [.t 23,.t 24]),.m 6 25]
def f59r9:AC:=.reg i59r9 (some [0,3,4,5,6,15,16])
def i59r10:List It:=[.m 26 6,.m 27 26,.g 28 (.ld false 1 (.t 3)) 27 true,.g 29 (.mv (.t 5)) 27 true,.g 30 (.bin .add (.t 29) (.i 1)) 27 true,.g 31 (.ia 1 (.t 28) (.t 30)) 27 true,.g 32 (.ld false 1 (.t 31)) 27 true,.g 33 (.un .not (.t 32)) 27 true,.u 34 (.pick (.t 27) (.t 33) (.b false))]
def f59r10:AC:=.reg i59r10 (some [0,3,4,5,15,16,34])
def i59r11:List It:=[.u 35 (.ld false 1 (.t 3)),.m 36 5,.u 37 (.bin .add (.t 36) (.i 1)),.u 38 (.ia 1 (.t 35) (.t 37)),.o none (.st 1 (.t 38) (.b true)) none,.u 4 (.mv (.b true))]
def f59r11:AC:=.reg i59r11 (some [0,3,4,15,16])
def i59r12:List It:=[.u 39 (.bin .add (.t 16) (.i 1)),.m 16 39]
def f59r12:AC:=.reg i59r12 (some [0,3,4,15,16])
def f59l0:AC:=(.seq f59r7 (.seq (.cond (.t 17) .skip (.exit 2)) (.seq (.blk 3 (.seq f59r8 (.seq f59r9 (.seq f59r10 (.cond (.t 34) f59r11 .skip))))) f59r12)))
def f59l1:AC:=(.seq (.seq f59r4 (.cond (.t 13) .skip (.exit 0))) (.blk 1 (.seq f59r5 (.seq f59r6 (.blk 2 (.loop f59l0))))))
def i59r13:List It:=[.u 40 (.ld false 1 (.t 3)),.u 41 (.call (.f 70) [true,true] [.t 40,(.b false)]),.u 42 (.un .not (.t 41)),.m 2 42]
def f59r13:AC:=.reg i59r13 (some [2])
def b59:AC:=(.seq f59r0 (.seq f59r1 (.seq f59r2 (.seq (.seq f59r3 (.blk 0 (.loop f59l1))) (.seq f59r13 .ret)))))
def f59:AF:=⟨1,[(2,none)],true,b59⟩
def i60r0:List It:=[.u 4 (.box 1 (.t 0)),.u 5 (.box 1 (.t 1)),.u 7 (.box 1 (.t 3)),.u 8 (.alloc 1 (.d (.bool false))),.frz 4,.frz 5,.frz 7]
def f60r0:AC:=.reg i60r0 (some [2,4,5,7,8])
def i60r1:List It:=[.u 14 (.ld false 1 (.t 5)),.u 15 (.lenL (.t 14)),.u 16 (.bin .eql (.t 15) (.i 0))]
def f60r1:AC:=.reg i60r1 (some [2,4,5,7,8,16])
def i60r2:List It:=[.m 17 2,.u 18 (.lenL (.t 17)),.u 19 (.bin .eql (.t 18) (.i 0)),.o none (.st 1 (.t 8) (.t 19)) none,.kill 4,.kill 5,.kill 7]
def f60r2:AC:=.reg i60r2 (some [8])
def i60r3:List It:=[.u 20 (.ld false 1 (.t 7)),.u 21 (.ia 4 (.t 20) (.i 0)),.u 22 (.ld true 4 (.t 21)),.u 9 (.alloc 4 (.agg [(.d (.int .i64 0)),(.d (.int .i64 0)),(.d (.int .i64 0)),(.tl [] (some true))])),.o none (.st 4 (.t 9) (.t 22)) none]
def f60r3:AC:=.reg i60r3 (some [2,4,5,7,8,9])
def i60r4:List It:=[.frz 9,.u 23 (.fa 0 (.t 9)),.u 24 (.ld false 1 (.t 23))]
def f60r4:AC:=.reg i60r4 (some [2,4,5,7,8,9,24])
def i60r5:List It:=[.u 26 (.bin .eql (.t 24) (.i 1)),.m 25 26]
def f60r5:AC:=.reg i60r5 (some [2,4,5,7,8,9,24,25])
def i60r6:List It:=[.u 27 (.ldf false 1 (.t 4)),.u 28 (.ld false 1 (.t 4)),.u 29 (.ld false 1 (.t 5)),.u 30 (.fa 1 (.t 9)),.u 31 (.ld false 1 (.t 30)),.u 32 (.calln (.f 104) [true,true,true] [.t 28,.t 29,.t 31]),.m 33 2,.u 34 (.fa 1 (.t 9)),.u 35 (.ld false 1 (.t 34)),.u 36 (.fa 3 (.t 9)),.u 37 (.ld false 1 (.t 36)),.u 38 (.lenL (.t 37)),.u 39 (.calln (.f 105) [true,true,true] [.t 33,.t 35,.t 38]),.u 40 (.fa 3 (.t 9)),.u 41 (.ld false 1 (.t 40)),.u 42 (.call (.f 106) [true] [.t 41]),.u 43 (.ldf false 1 (.t 7)),.u 44 (.slc 4 (.t 43) (some (.i 1)) none),.u 45 (.appf 4 48 (.t 42) (.t 44)),.u 46 (.call (.f 60) [true,true,true,true] [.t 27,.t 32,.t 39,.t 45]),.o none (.st 1 (.t 8) (.t 46)) none,.kill 4,.kill 5,.kill 7]
def f60r6:AC:=.reg i60r6 (some [8])
def i60r7:List It:=[.u 48 (.bin .eql (.t 24) (.i 2)),.m 47 48]
def f60r7:AC:=.reg i60r7 (some [2,4,5,7,8,9,47])
def i60r8:List It:=[.u 49 (.ld false 1 (.t 4)),.u 50 (.ld false 1 (.t 5)),.u 51 (.slc 1 (.t 50) (some (.i 1)) none),.m 52 2,.u 53 (.mkf 108 [.t 9]),.u 54 (.calln (.f 107) [true,true] [.t 52,.t 53]),.u 55 (.ld false 1 (.t 7)),.u 56 (.slc 4 (.t 55) (some (.i 1)) none),.u 57 (.call (.f 60) [true,true,true,true] [.t 49,.t 51,.t 54,.t 56]),.o none (.st 1 (.t 8) (.t 57)) none,.kill 4,.kill 5,.kill 7]
def f60r8:AC:=.reg i60r8 (some [8])
def i60r9:List It:=[.m 59 2,.u 60 (.call (.f 110) [true] [.t 59]),.m 58 60,.u 61 (.ext 0 (.t 58)),.u 62 (.ext 1 (.t 58)),.m 10 61,.m 11 62]
def f60r9:AC:=.reg i60r9 (some [2,4,5,7,8,10])
def i60r10:List It:=[.u 63 (.ld false 1 (.t 5)),.u 64 (.ia 1 (.t 63) (.i 0)),.u 65 (.ld false 1 (.t 64)),.u 66 (.bin .eql (.t 65) (.i 0)),.m 67 66,.g 68 (.mv (.t 10)) 67 false,.g 69 (.lenM (.t 68)) 67 false,.g 70 (.ld false 1 (.t 4)) 67 false,.g 71 (.ld false 1 (.t 5)) 67 false,.g 72 (.ia 1 (.t 71) (.i 0)) 67 false,.g 73 (.ld false 1 (.t 72)) 67 false,.g 74 (.bin .sub (.t 73) (.i 1)) 67 false,.g 75 (.ia 2 (.t 70) (.t 74)) 67 false,.g 76 (.fa 1 (.t 75)) 67 false,.g 77 (.ld false 1 (.t 76)) 67 false,.g 78 (.lenL (.t 77)) 67 false,.g 79 (.bin .lss (.t 69) (.t 78)) 67 false,.u 80 (.pick (.t 67) (.b true) (.t 79))]
end Zc28
end
