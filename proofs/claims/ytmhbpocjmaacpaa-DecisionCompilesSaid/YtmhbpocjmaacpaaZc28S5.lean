/-
  Parts of the proof.
-/
import Derived.Test.YtmhbpocjmaacpaaZc28G9
import Derived.KernelRfl
set_option linter.unusedSimpArgs false
set_option linter.unusedVariables false
section
set_option maxHeartbeats 4000000
namespace Zc28
open Go Zv Zs
theorem icells {l:List Int}:∀ y,y ∈ l.map eI→y.cells.length=1:=by
 intro y hy
 obtain ⟨p,_,rfl⟩:=List.mem_map.1 hy
 rfl
theorem cloneI_ok (l:List Int) (hl:l.length≤1000000) (h:Hp):callW tab 40 [.d (eIs l)] h=some (.d (eIs l),h):=by
 refine call_wp (fn:=f40) rfl rfl ?_
 have hb:wp tab b40 (args 0 [.d (eIs l)]) h (· = (.ret,[(2,cloV none h.next 1 (l.map eI))],cloO h.objs h.next 1 (l.map eI))):=by
  cases l with
  |nil=>
   have hn0:nilBin NK.s BinOp.eql (.d (eIs []))=some .ub:=rfl
   have happ:app 1 8 h (.tl [] (some false)) (.d (.lst []))=some (.tl [] (some false),h):=rfl
   (simp only[e40,wz,opX,intBin,↓reduceIte,simprocAttr]<;>repeat' (first | refine wpG_s ?_ ?_ | refine wpC_s ?_ ?_)<;>intro hgo<;>(try simp only[dq] at hgo)<;>simp only[hgo,e40,wz,opX,intBin,↓reduceIte,simprocAttr])
   refine wq_ex.2 (ex_ambU (e1:=[(0,.d (.lst [])),(4,.ub)]) (h1:=h) (o:=(.ret,[(2,.tl [] (some true))],h)) (q:=(.ret,[(2,.tl [] (some false))],h)) ?_ rfl ?_ ?_ ?_)
   ·apply wq_ex.1;(simp only[e40,hn0,wz,opX,intBin,↓reduceIte,simprocAttr]<;>repeat' (first | refine wpG_s ?_ ?_ | refine wpC_s ?_ ?_)<;>intro hgo<;>(try simp only[dq] at hgo)<;>simp only[hgo,e40,hn0,wz,opX,intBin,↓reduceIte,simprocAttr])
    rfl
   ·apply wq_ex.1;(simp only[e40,wz,opX,intBin,↓reduceIte,simprocAttr]<;>repeat' (first | refine wpG_s ?_ ?_ | refine wpC_s ?_ ?_)<;>intro hgo<;>(try simp only[dq] at hgo)<;>simp only[hgo,e40,wz,opX,intBin,↓reduceIte,simprocAttr])
   ·apply wq_ex.1;(simp only[e40,happ,wz,opX,intBin,↓reduceIte,simprocAttr]<;>repeat' (first | refine wpG_s ?_ ?_ | refine wpC_s ?_ ?_)<;>intro hgo<;>(try simp only[dq] at hgo)<;>simp only[hgo,e40,happ,wz,opX,intBin,↓reduceIte,simprocAttr])
   ·unfold outJoin
    rw[if_pos ⟨rfl,objsBeq_refl _,rfl⟩]
    rfl
  |cons p r=>
   have happ:=tl_app (nl:=some false) (es:=1) (b:=8) (h:=h) (r:=(p::r).map eI) icells (by simp only[roomB,List.length_map];omega)
   rw[List.map_cons] at happ
   have hn0:nilBin NK.s BinOp.eql (.d (eIs (p::r)))=some (.d (.bool false)):=rfl
   (simp only[e40,wz,opX,intBin,↓reduceIte,simprocAttr]<;>repeat' (first | refine wpG_s ?_ ?_ | refine wpC_s ?_ ?_)<;>intro hgo<;>(try simp only[dq] at hgo)<;>simp only[hgo,e40,wz,opX,intBin,↓reduceIte,simprocAttr])
   refine wq_ex.2 (ex_ambD (e1:=[(0,.d (.lst ((p::r).map eI))),(4,.d (.bool false))]) (h1:=h) false ?_ rfl ?_)
   ·apply wq_ex.1;(simp only[e40,hn0,wz,opX,intBin,↓reduceIte,simprocAttr]<;>repeat' (first | refine wpG_s ?_ ?_ | refine wpC_s ?_ ?_)<;>intro hgo<;>(try simp only[dq] at hgo)<;>simp only[hgo,e40,hn0,wz,opX,intBin,↓reduceIte,simprocAttr])
    rfl
   ·apply wq_ex.1;(simp only[e40,happ,wz,opX,intBin,↓reduceIte,simprocAttr]<;>repeat' (first | refine wpG_s ?_ ?_ | refine wpC_s ?_ ?_)<;>intro hgo<;>(try simp only[dq] at hgo)<;>simp only[hgo,e40,happ,wz,opX,intBin,↓reduceIte,simprocAttr])
    rfl
 obtain ⟨o,h1,rfl⟩:=hb
 exact⟨_,h1,finS_clo (Nat.le_refl _)⟩
section
variable {P:List (Nat × Ob)} {C m:Nat} (hC:∀ x,x ∈ P→x.1≠C) (hm:∀ x,x ∈ P→x.1≠m) (hmC:m≠C) (b:Nat) (e0:List (Nat × V)) (O:List (Nat × Ob))
include hC in
include hC in
include hm hmC in
include hm hmC in
include hm hmC in
include hm hmC in
include hC in
include hm in
include hm in
end
end Zc28
end
section
set_option maxHeartbeats 4000000
namespace Zc28
open Go Zv Zs
section
variable {Q:List (Nat × Ob)} {C m:Nat} (hQC:∀ x,x ∈ Q→x.1≠C) (hQm:∀ x,x ∈ Q→x.1≠m) (hmC:m<C) (cl:V) (O:List (Nat × Ob))
include hQC hQm hmC
end
end Zc28
end
section
set_option maxHeartbeats 4000000
namespace Zc28
open Go Zv Zs
end Zc28
end
section
set_option maxHeartbeats 4000000
namespace Zc28
open Go Zv Zs
structure Cn where
 name:ByteArray
 flds:List Int
structure Dt where
 name:ByteArray
 cons:List Cn
abbrev eC (c:Cn):D:=.agg [.str c.name,.lst (c.flds.map eI)]
abbrev eCs (l:List Cn):D:=.lst (l.map eC)
abbrev eD (d:Dt):D:=.agg [.str d.name,.lst (d.cons.map eC)]
abbrev eDs (l:List Dt):D:=.lst (l.map eD)
theorem iaC {l:List Cn} {n:Nat} {x:Cn} (hx:l[n]? = some x):ia 2 (.d (.lst (l.map eC))) (.d (.int .i64 (n:Int)))=some (.fp (eC x) 0):=ia_map (f:=eC) .i64 hx rfl
theorem iaD {l:List Dt} {n:Nat} {x:Dt} (hx:l[n]? = some x):ia 2 (.d (.lst (l.map eD))) (.d (.int .i64 (n:Int)))=some (.fp (eD x) 0):=ia_map (f:=eD) .i64 hx rfl
def isT (d:List Dt) (t:Int):Bool:=decide (0≤t) && decide (t≤d.length)
theorem exists_ok (d:List Dt) (t:Int) (h:Hp):callW tab 58 [.d (eDs d),.d (eI t)] h=some (.d (.bool (isT d t)),h):=by
 refine call_wp (fn:=f58) rfl rfl ?_
 (simp only[e58,isT,wz,opX,intBin,↓reduceIte,simprocAttr]<;>repeat' (first | refine wpG_s ?_ ?_ | refine wpC_s ?_ ?_)<;>intro hgo<;>(try simp only[dq] at hgo)<;>simp only[hgo,e58,isT,wz,opX,intBin,↓reduceIte,simprocAttr])
theorem isType_ok (d:List Dt) (t:Int) (h:Hp):callW tab 138 [.d (eDs d),.d (eI t)] h=some (.d (.bool (isT d t)),h):=by
 refine call_wp (fn:=f138) rfl rfl ?_
 (simp only[e138,isT,wz,opX,intBin,↓reduceIte,simprocAttr]<;>repeat' (first | refine wpG_s ?_ ?_ | refine wpC_s ?_ ?_)<;>intro hgo<;>(try simp only[dq] at hgo)<;>simp only[hgo,e138,isT,wz,opX,intBin,↓reduceIte,simprocAttr])
 trace_state
def consOf (d:List Dt) (t:Int):List Cn:=if 1≤t then ((d[(t - 1).toNat]?).map Dt.cons).getD [] else []
theorem consOf_nat (d:List Dt) (n:Nat):consOf d ((n:Int)+1)=((d[n]?).map Dt.cons).getD []:=by
 unfold consOf
 rw[if_pos (by omega),show ((n:Int)+1 - 1).toNat=n by omega]
theorem consOf_at {d:List Dt} {n:Nat} {y:Dt} (hy:d[n]? = some y):consOf d ((n:Int)+1)=y.cons:=by rw[consOf_nat,hy];rfl
theorem lt_of_get {α:Type} {l:List α} {n:Nat} {x:α} (h:l[n]? = some x):n<l.length:=(List.getElem?_eq_some_iff.1 h).1
theorem wrap_sub1 {n:Nat} (h:n<2 ^ 62):IntKind.i64.wrap ((n:Int)+1 - 1)=(n:Int):=by rw[wrap_ok (by omega) (by omega)];omega
theorem tcase (d:List Dt) (t:Int):t<1∨(d.length:Int)<t∨∃ n:Nat,∃ y,t=(n:Int)+1∧d[n]? = some y:=by
 by_cases h0:t<1
 ·exact .inl h0
 ·by_cases h1:(d.length:Int)<t
  ·exact .inr (.inl h1)
  ·obtain ⟨y,hy⟩:=get_of_lt (l:=d) (n:=(t - 1).toNat) (by omega)
   exact .inr (.inr ⟨(t - 1).toNat,y,by omega,hy⟩)
theorem idxFC (l:List Cn) (cv:V) (p:Cn→Bool) (h:Hp) (hl:l.length<2 ^ 60) (hcv:norm cv=cv) (hc:∀ c,c ∈ l→cW tab cv [.d (eC c)] h=some (.d (.bool (p c)),h)) :
  callW tab 132 [.d (.lst (l.map eC)),cv] h=some (.d (eI (idxZ p l)),h):=by
 refine call_wp (fn:=f132) rfl rfl ?_
 have hloop:=loop_find (T:=tab) (a:=f132l0) (l:=l) (p:=p) (f:=fun n=>[(0,.d (.lst (l.map eC))),(1,cv),(7,int l.length),(8,int n)]) (h:=h)
   (by intro n x hx hlt hp;have hcall:=hc x (List.mem_of_getElem? hx);all_goals (apply wq_ex.1;(simp only[hlt,hp,e132,iaC hx,hcall,wrap_succ (show n<2 ^ 62 by omega),wz,opX,intBin,↓reduceIte,simprocAttr]<;>repeat' (first | refine wpG_s ?_ ?_ | refine wpC_s ?_ ?_)<;>intro hgo<;>(try simp only[dq] at hgo)<;>simp only[hgo,hlt,hp,e132,iaC hx,hcall,wrap_succ (show n<2 ^ 62 by omega),wz,opX,intBin,↓reduceIte,simprocAttr])))
   (by intro n x hx hlt hp;have hcall:=hc x (List.mem_of_getElem? hx);all_goals (apply wq_ex.1;(simp only[hlt,hp,e132,iaC hx,hcall,wrap_succ (show n<2 ^ 62 by omega),wz,opX,intBin,↓reduceIte,simprocAttr]<;>repeat' (first | refine wpG_s ?_ ?_ | refine wpC_s ?_ ?_)<;>intro hgo<;>(try simp only[dq] at hgo)<;>simp only[hgo,hlt,hp,e132,iaC hx,hcall,wrap_succ (show n<2 ^ 62 by omega),wz,opX,intBin,↓reduceIte,simprocAttr])<;>rfl))
   (by apply wq_ex.1;(simp only[e132,wz,opX,intBin,↓reduceIte,simprocAttr]<;>repeat' (first | refine wpG_s ?_ ?_ | refine wpC_s ?_ ?_)<;>intro hgo<;>(try simp only[dq] at hgo)<;>simp only[hgo,e132,wz,opX,intBin,↓reduceIte,simprocAttr])<;>rfl)
   (by intro n x;simp) (by simp)
 simp only[int,Zv.bool,Int.cast_ofNat_Int] at hloop
 (simp only[e132,hcv,wq_of hloop,wz,opX,intBin,↓reduceIte,simprocAttr]<;>repeat' (first | refine wpG_s ?_ ?_ | refine wpC_s ?_ ?_)<;>intro hgo<;>(try simp only[dq] at hgo)<;>simp only[hgo,e132,hcv,wq_of hloop,wz,opX,intBin,↓reduceIte,simprocAttr])
 unfold idxZ
 cases fst? p 0 l with
 |none=>(simp only[e132,wz,opX,intBin,↓reduceIte,simprocAttr]<;>repeat' (first | refine wpG_s ?_ ?_ | refine wpC_s ?_ ?_)<;>intro hgo<;>(try simp only[dq] at hgo)<;>simp only[hgo,e132,wz,opX,intBin,↓reduceIte,simprocAttr])
 |some n=>(simp only[e132,wz,opX,intBin,↓reduceIte,simprocAttr]<;>repeat' (first | refine wpG_s ?_ ?_ | refine wpC_s ?_ ?_)<;>intro hgo<;>(try simp only[dq] at hgo)<;>simp only[hgo,e132,wz,opX,intBin,↓reduceIte,simprocAttr])
theorem conFC (l:List Cn) (cv:V) (p:Cn→Bool) (h:Hp) (hl:l.length<2 ^ 60) (hcv:norm cv=cv) (hc:∀ c,c ∈ l→cW tab cv [.d (eC c)] h=some (.d (.bool (p c)),h)) :
  callW tab 97 [.d (.lst (l.map eC)),cv] h=some (.d (.bool (l.any p)),h):=by
 refine call_wp (fn:=f97) rfl rfl ?_
 have hi:=idxFC l cv p h hl hcv hc
 (simp only[e97,hcv,hi,idxZ_nn,Bool.decide_eq_true,wz,opX,intBin,↓reduceIte,simprocAttr]<;>repeat' (first | refine wpG_s ?_ ?_ | refine wpC_s ?_ ?_)<;>intro hgo<;>(try simp only[dq] at hgo)<;>simp only[hgo,e97,hcv,hi,idxZ_nn,Bool.decide_eq_true,wz,opX,intBin,↓reduceIte,simprocAttr])
theorem idxFT (l:List Int) (cv:V) (p:Int→Bool) (h:Hp) (hl:l.length<2 ^ 60) (hcv:norm cv=cv) (hc:∀ c,c ∈ l→cW tab cv [.d (eI c)] h=some (.d (.bool (p c)),h)) :
  callW tab 101 [.d (.lst (l.map eI)),cv] h=some (.d (eI (idxZ p l)),h):=by
 refine call_wp (fn:=f101) rfl rfl ?_
 have hloop:=loop_find (T:=tab) (a:=f101l0) (l:=l) (p:=p) (f:=fun n=>[(0,.d (.lst (l.map eI))),(1,cv),(7,int l.length),(8,int n)]) (h:=h)
   (by intro n x hx hlt hp;have hcall:=hc x (List.mem_of_getElem? hx);all_goals (apply wq_ex.1;(simp only[hlt,hp,e101,iaI hx,hcall,wrap_succ (show n<2 ^ 62 by omega),wz,opX,intBin,↓reduceIte,simprocAttr]<;>repeat' (first | refine wpG_s ?_ ?_ | refine wpC_s ?_ ?_)<;>intro hgo<;>(try simp only[dq] at hgo)<;>simp only[hgo,hlt,hp,e101,iaI hx,hcall,wrap_succ (show n<2 ^ 62 by omega),wz,opX,intBin,↓reduceIte,simprocAttr])))
   (by intro n x hx hlt hp;have hcall:=hc x (List.mem_of_getElem? hx);all_goals (apply wq_ex.1;(simp only[hlt,hp,e101,iaI hx,hcall,wrap_succ (show n<2 ^ 62 by omega),wz,opX,intBin,↓reduceIte,simprocAttr]<;>repeat' (first | refine wpG_s ?_ ?_ | refine wpC_s ?_ ?_)<;>intro hgo<;>(try simp only[dq] at hgo)<;>simp only[hgo,hlt,hp,e101,iaI hx,hcall,wrap_succ (show n<2 ^ 62 by omega),wz,opX,intBin,↓reduceIte,simprocAttr])<;>rfl))
   (by apply wq_ex.1;(simp only[e101,wz,opX,intBin,↓reduceIte,simprocAttr]<;>repeat' (first | refine wpG_s ?_ ?_ | refine wpC_s ?_ ?_)<;>intro hgo<;>(try simp only[dq] at hgo)<;>simp only[hgo,e101,wz,opX,intBin,↓reduceIte,simprocAttr])<;>rfl)
   (by intro n x;simp) (by simp)
 simp only[int,Zv.bool,Int.cast_ofNat_Int] at hloop
 (simp only[e101,hcv,wq_of hloop,wz,opX,intBin,↓reduceIte,simprocAttr]<;>repeat' (first | refine wpG_s ?_ ?_ | refine wpC_s ?_ ?_)<;>intro hgo<;>(try simp only[dq] at hgo)<;>simp only[hgo,e101,hcv,wq_of hloop,wz,opX,intBin,↓reduceIte,simprocAttr])
 unfold idxZ
 cases fst? p 0 l with
 |none=>(simp only[e101,wz,opX,intBin,↓reduceIte,simprocAttr]<;>repeat' (first | refine wpG_s ?_ ?_ | refine wpC_s ?_ ?_)<;>intro hgo<;>(try simp only[dq] at hgo)<;>simp only[hgo,e101,wz,opX,intBin,↓reduceIte,simprocAttr])
 |some n=>(simp only[e101,wz,opX,intBin,↓reduceIte,simprocAttr]<;>repeat' (first | refine wpG_s ?_ ?_ | refine wpC_s ?_ ?_)<;>intro hgo<;>(try simp only[dq] at hgo)<;>simp only[hgo,e101,wz,opX,intBin,↓reduceIte,simprocAttr])
theorem conFT (l:List Int) (cv:V) (p:Int→Bool) (h:Hp) (hl:l.length<2 ^ 60) (hcv:norm cv=cv) (hc:∀ c,c ∈ l→cW tab cv [.d (eI c)] h=some (.d (.bool (p c)),h)) :
  callW tab 56 [.d (.lst (l.map eI)),cv] h=some (.d (.bool (l.any p)),h):=by
 refine call_wp (fn:=f56) rfl rfl ?_
 have hi:=idxFT l cv p h hl hcv hc
 (simp only[e56,hcv,hi,idxZ_nn,Bool.decide_eq_true,wz,opX,intBin,↓reduceIte,simprocAttr]<;>repeat' (first | refine wpG_s ?_ ?_ | refine wpC_s ?_ ?_)<;>intro hgo<;>(try simp only[dq] at hgo)<;>simp only[hgo,e56,hcv,hi,idxZ_nn,Bool.decide_eq_true,wz,opX,intBin,↓reduceIte,simprocAttr])
end Zc28
end
section
set_option maxHeartbeats 4000000
namespace Zc28
open Go Zv Zs
structure Bd (d:List Dt):Prop where
 len:d.length≤100
 cons:∀ y,y ∈ d→y.cons.length≤30
 flds:∀ y,y ∈ d→∀ c,c ∈ y.cons→c.flds.length≤20
theorem Bd.at {d:List Dt} (B:Bd d) {m:Nat} {y:Dt} (hy:d[m]? = some y):m<100∧m<d.length∧y.cons.length≤30:=by
 have:=lt_of_get hy
 have:=B.len
 exact⟨by omega,by omega,B.cons y (List.mem_of_getElem? hy)⟩
theorem Bd.cat {d:List Dt} (B:Bd d) {m k:Nat} {y:Dt} {c:Cn} (hy:d[m]? = some y) (hc:y.cons[k]? = some c):k<30∧c.flds.length≤20:=by
 have:=(B.at hy).2.2
 have:=lt_of_get hc
 exact⟨by omega,B.flds y (List.mem_of_getElem? hy) c (List.mem_of_getElem? hc)⟩
theorem consOf_lo {d:List Dt} {t:Int} (h:t<1):consOf d t=[]:=by unfold consOf;rw[if_neg (by omega)]
theorem consOf_hi {d:List Dt} {t:Int} (h:(d.length:Int)<t):consOf d t=[]:=by
 unfold consOf
 split
 ·rw[List.getElem?_eq_none (by omega)];rfl
 ·rfl
abbrev sInt:ByteArray:=⟨#[73,110,116]⟩
end Zc28
end
section
set_option maxHeartbeats 4000000
namespace Zc28
open Go Zv Zs
theorem okC {x:D} (h:ok (EE es) (.st [.s,.l 2]) x):∃ a,x=eC a:=by
 obtain ⟨l,rfl,h1⟩:=ok_st h
 obtain ⟨y,r,rfl,ha,h1⟩:=okCs_cons h1
 obtain ⟨z,r,rfl,hb,h1⟩:=okCs_cons h1
 obtain rfl:=okCs_nil h1
 obtain ⟨s,rfl,_⟩:=ok_s ha
 obtain ⟨l,rfl,_,h2⟩:=ok_l hb
 obtain ⟨xs,rfl⟩:=okEs_map (fun _=>okI) h2
 exact⟨⟨s,xs⟩,rfl⟩
theorem okD {x:D} (h:ok (EE es) (.st [.s,.l 1]) x):∃ a,x=eD a:=by
 obtain ⟨l,rfl,h1⟩:=ok_st h
 obtain ⟨y,r,rfl,ha,h1⟩:=okCs_cons h1
 obtain ⟨z,r,rfl,hb,h1⟩:=okCs_cons h1
 obtain rfl:=okCs_nil h1
 obtain ⟨s,rfl,_⟩:=ok_s ha
 obtain ⟨l,rfl,_,h2⟩:=ok_l hb
 obtain ⟨xs,rfl⟩:=okEs_map (fun _=>okC) h2
 exact⟨⟨s,xs⟩,rfl⟩
theorem okDs {x:D} (h:ok (EE es) (.one (.l 0)) x):∃ a,x=eDs a:=by
 obtain ⟨l,rfl,_,h2⟩:=ok_l h
 obtain ⟨xs,rfl⟩:=okEs_map (fun _=>okD) h2
 exact⟨xs,rfl⟩
def Nm (d:List Dt):Prop:=∀ y,y ∈ d→y.name.size<2 ^ 60∧∀ c,c ∈ y.cons→c.name.size<2 ^ 60
end Zc28
end
section
set_option maxHeartbeats 4000000
namespace Zc28
open Go Zv Zs
def manyS (d:List Dt):Bool:=decide (64<d.length) || d.any fun y=>decide (16<y.cons.length) || y.cons.any fun c=>decide (6<c.flds.length)
theorem ofNat_lt_lit (a b:Nat):((a:Int)<(b:Int))=(a<b):=by simp
theorem many1_ok (c:Cn) (h:Hp):callW tab 98 [.d (eC c)] h=some (.d (.bool (decide (6<c.flds.length))),h):=by
 refine call_wp (fn:=f98) rfl rfl ?_
 have e:((6:Int)<(c.flds.length:Int))=(6<c.flds.length):=ofNat_lt_lit 6 _
 (simp only[e98,e,wz,opX,intBin,↓reduceIte,simprocAttr]<;>repeat' (first | refine wpG_s ?_ ?_ | refine wpC_s ?_ ?_)<;>intro hgo<;>(try simp only[dq] at hgo)<;>simp only[hgo,e98,e,wz,opX,intBin,↓reduceIte,simprocAttr])
theorem many_ok {d:List Dt} (B:Bd d) (h:Hp):callW tab 53 [.d (eDs d)] h=some (.d (.bool (manyS d)),h):=by
 refine call_wp (fn:=f53) rfl rfl ?_
 have hbl:=B.len
 have e:((64:Int)<(d.length:Int))=(64<d.length):=ofNat_lt_lit 64 _
 by_cases h0:64<d.length
 ·(simp only[e53,manyS,e,h0,Bool.true_or,wz,opX,intBin,↓reduceIte,simprocAttr]<;>repeat' (first | refine wpG_s ?_ ?_ | refine wpC_s ?_ ?_)<;>intro hgo<;>(try simp only[dq] at hgo)<;>simp only[hgo,e53,manyS,e,h0,Bool.true_or,wz,opX,intBin,↓reduceIte,simprocAttr])
 ·skip
  obtain ⟨hloopq,hloop⟩:=loop_anyq (T:=tab) (a:=f53l0) (l:=d) (p:=(fun y=>decide (16<y.cons.length) || y.cons.any fun c=>decide (6<c.flds.length))) (f:=fun n=>[(8,.d (eDs d)),(9,int d.length),(10,int n)]) (h:=h)
    (by intro q n x hx hlt hp;have b:=B.at hx;have hc:=fun h=>conFC x.cons (.clo 98 []) (fun c=>decide (6<c.flds.length)) h (by omega) rfl (fun c _=>many1_ok c h);have e2:((16:Int)<(x.cons.length:Int))=(16<x.cons.length):=ofNat_lt_lit 16 _;by_cases h16:16<x.cons.length;all_goals simp only[h16,decide_true,decide_false,Bool.true_or,Bool.false_or,Bool.true_eq_false] at hp;all_goals ((simp only[hlt,hp,e53,iaD hx,hc,e2,h16,wrap_succ (show n<2 ^ 62 by omega),wz,opX,intBin,↓reduceIte,simprocAttr]<;>repeat' (first | refine wpG_s ?_ ?_ | refine wpC_s ?_ ?_)<;>intro hgo<;>(try simp only[dq] at hgo)<;>simp only[hgo,hlt,hp,e53,iaD hx,hc,e2,h16,wrap_succ (show n<2 ^ 62 by omega),wz,opX,intBin,↓reduceIte,simprocAttr])<;>(first | exact⟨_,rfl⟩ | exact⟨_,rfl,rfl⟩ | exact⟨_,rfl,rfl,rfl⟩)))
    (by intro q n x hx hlt hp;have b:=B.at hx;have hc:=fun h=>conFC x.cons (.clo 98 []) (fun c=>decide (6<c.flds.length)) h (by omega) rfl (fun c _=>many1_ok c h);have e2:((16:Int)<(x.cons.length:Int))=(16<x.cons.length):=ofNat_lt_lit 16 _;by_cases h16:16<x.cons.length;all_goals simp only[h16,decide_true,decide_false,Bool.true_or,Bool.false_or,Bool.true_eq_false] at hp;all_goals ((simp only[hlt,hp,e53,iaD hx,hc,e2,h16,wrap_succ (show n<2 ^ 62 by omega),wz,opX,intBin,↓reduceIte,simprocAttr]<;>repeat' (first | refine wpG_s ?_ ?_ | refine wpC_s ?_ ?_)<;>intro hgo<;>(try simp only[dq] at hgo)<;>simp only[hgo,hlt,hp,e53,iaD hx,hc,e2,h16,wrap_succ (show n<2 ^ 62 by omega),wz,opX,intBin,↓reduceIte,simprocAttr])<;>(first | exact⟨_,rfl⟩ | exact⟨_,rfl,rfl⟩ | exact⟨_,rfl,rfl,rfl⟩)))
    (by intro q;(simp only[e53,wz,opX,intBin,↓reduceIte,simprocAttr]<;>repeat' (first | refine wpG_s ?_ ?_ | refine wpC_s ?_ ?_)<;>intro hgo<;>(try simp only[dq] at hgo)<;>simp only[hgo,e53,wz,opX,intBin,↓reduceIte,simprocAttr])<;>(first | exact⟨_,rfl⟩ | exact⟨_,rfl,rfl⟩ | exact⟨_,rfl,rfl,rfl⟩))
    (by simp) (by simp)
  simp only[int,Zv.bool,Int.cast_ofNat_Int] at hloop
  (simp only[e53,manyS,e,h0,wq_of hloop,Bool.false_or,wz,opX,intBin,↓reduceIte,simprocAttr]<;>repeat' (first | refine wpG_s ?_ ?_ | refine wpC_s ?_ ?_)<;>intro hgo<;>(try simp only[dq] at hgo)<;>simp only[hgo,e53,manyS,e,h0,wq_of hloop,Bool.false_or,wz,opX,intBin,↓reduceIte,simprocAttr])
  cases d.any (fun y=>decide (16<y.cons.length) || y.cons.any fun c=>decide (6<c.flds.length))<;>(simp only[e53,wz,opX,intBin,↓reduceIte,simprocAttr]<;>repeat' (first | refine wpG_s ?_ ?_ | refine wpC_s ?_ ?_)<;>intro hgo<;>(try simp only[dq] at hgo)<;>simp only[hgo,e53,wz,opX,intBin,↓reduceIte,simprocAttr])
theorem rmany_ok {d:List Dt} (B:Bd d) (h:Hp):callW tab 115 [.d (eDs d)] h=some (.d (.bool (manyS d)),h):=by
 refine call_wp (fn:=f115) rfl rfl ?_
 have hbl:=B.len
 have e:((64:Int)<(d.length:Int))=(64<d.length):=ofNat_lt_lit 64 _
 by_cases h0:64<d.length
 ·(simp only[e115,manyS,e,h0,Bool.true_or,wz,opX,intBin,↓reduceIte,simprocAttr]<;>repeat' (first | refine wpG_s ?_ ?_ | refine wpC_s ?_ ?_)<;>intro hgo<;>(try simp only[dq] at hgo)<;>simp only[hgo,e115,manyS,e,h0,Bool.true_or,wz,opX,intBin,↓reduceIte,simprocAttr])
 ·have inner:∀ (m:Nat) (y:Dt),d[m]? = some y→ex tab (.loop f115l0) [(0,.d (eDs d)),(3,.d (.int .i64 m)),(4,.d (.int .i64 0))] h=some (if (y.cons.any fun c=>decide (6<c.flds.length))=true then (.ret,[(2,.d (.bool true))],h) else (.exit 2,[(0,.d (eDs d)),(3,.d (.int .i64 m)),(4,.d (.int .i64 y.cons.length)),(28,.d (.bool false))],h)):=by
   intro m y hy
   have b:=B.at hy
   have hloop:=loop_any (T:=tab) (a:=f115l0) (l:=y.cons) (p:=(fun c=>decide (6<c.flds.length))) (f:=fun n=>[(0,.d (eDs d)),(3,.d (.int .i64 m)),(4,int n)]) (h:=h)
     (by intro n x hx hlt hp;have e6:((6:Int)<(x.flds.length:Int))=(6<x.flds.length):=ofNat_lt_lit 6 _;simp only[decide_eq_true_eq,decide_eq_false_iff_not] at hp;all_goals (apply wq_ex.1;(simp only[hlt,hp,e115,iaD hy,iaC hx,e6,wrap_succ (show n<2 ^ 62 by omega),wz,opX,intBin,↓reduceIte,simprocAttr]<;>repeat' (first | refine wpG_s ?_ ?_ | refine wpC_s ?_ ?_)<;>intro hgo<;>(try simp only[dq] at hgo)<;>simp only[hgo,hlt,hp,e115,iaD hy,iaC hx,e6,wrap_succ (show n<2 ^ 62 by omega),wz,opX,intBin,↓reduceIte,simprocAttr])))
     (by intro n x hx hlt hp;have e6:((6:Int)<(x.flds.length:Int))=(6<x.flds.length):=ofNat_lt_lit 6 _;simp only[decide_eq_true_eq,decide_eq_false_iff_not] at hp;all_goals (apply wq_ex.1;(simp only[hlt,hp,e115,iaD hy,iaC hx,e6,wrap_succ (show n<2 ^ 62 by omega),wz,opX,intBin,↓reduceIte,simprocAttr]<;>repeat' (first | refine wpG_s ?_ ?_ | refine wpC_s ?_ ?_)<;>intro hgo<;>(try simp only[dq] at hgo)<;>simp only[hgo,hlt,hp,e115,iaD hy,iaC hx,e6,wrap_succ (show n<2 ^ 62 by omega),wz,opX,intBin,↓reduceIte,simprocAttr])<;>rfl))
     (by apply wq_ex.1;(simp only[e115,iaD hy,wz,opX,intBin,↓reduceIte,simprocAttr]<;>repeat' (first | refine wpG_s ?_ ?_ | refine wpC_s ?_ ?_)<;>intro hgo<;>(try simp only[dq] at hgo)<;>simp only[hgo,e115,iaD hy,wz,opX,intBin,↓reduceIte,simprocAttr])<;>rfl)
     (by simp) (by simp)
   simp only[int,Zv.bool,Int.cast_ofNat_Int] at hloop
   exact hloop
  have hloop:=loop_any (T:=tab) (a:=f115l1) (l:=d) (p:=(fun y=>decide (16<y.cons.length) || y.cons.any fun c=>decide (6<c.flds.length))) (f:=fun n=>[(0,.d (eDs d)),(3,int n)]) (h:=h)
    (by intro n x hx hlt hp;have b:=B.at hx;have hin:=inner n x hx;have e2:((16:Int)<(x.cons.length:Int))=(16<x.cons.length):=ofNat_lt_lit 16 _;by_cases h16:16<x.cons.length;all_goals simp only[h16,decide_true,decide_false,Bool.true_or,Bool.false_or,Bool.true_eq_false] at hp;all_goals (try simp only[hp,if_true,if_false,Bool.false_eq_true] at hin);all_goals (apply wq_ex.1;(simp only[hlt,hp,e115,iaD hx,wq_of hin,e2,h16,wrap_succ (show n<2 ^ 62 by omega),wz,opX,intBin,↓reduceIte,simprocAttr]<;>repeat' (first | refine wpG_s ?_ ?_ | refine wpC_s ?_ ?_)<;>intro hgo<;>(try simp only[dq] at hgo)<;>simp only[hgo,hlt,hp,e115,iaD hx,wq_of hin,e2,h16,wrap_succ (show n<2 ^ 62 by omega),wz,opX,intBin,↓reduceIte,simprocAttr])))
    (by intro n x hx hlt hp;have b:=B.at hx;have hin:=inner n x hx;have e2:((16:Int)<(x.cons.length:Int))=(16<x.cons.length):=ofNat_lt_lit 16 _;by_cases h16:16<x.cons.length;all_goals simp only[h16,decide_true,decide_false,Bool.true_or,Bool.false_or,Bool.true_eq_false] at hp;all_goals (try simp only[hp,if_true,if_false,Bool.false_eq_true] at hin);all_goals (apply wq_ex.1;(simp only[hlt,hp,e115,iaD hx,wq_of hin,e2,h16,wrap_succ (show n<2 ^ 62 by omega),wz,opX,intBin,↓reduceIte,simprocAttr]<;>repeat' (first | refine wpG_s ?_ ?_ | refine wpC_s ?_ ?_)<;>intro hgo<;>(try simp only[dq] at hgo)<;>simp only[hgo,hlt,hp,e115,iaD hx,wq_of hin,e2,h16,wrap_succ (show n<2 ^ 62 by omega),wz,opX,intBin,↓reduceIte,simprocAttr])<;>rfl))
    (by apply wq_ex.1;(simp only[e115,wz,opX,intBin,↓reduceIte,simprocAttr]<;>repeat' (first | refine wpG_s ?_ ?_ | refine wpC_s ?_ ?_)<;>intro hgo<;>(try simp only[dq] at hgo)<;>simp only[hgo,e115,wz,opX,intBin,↓reduceIte,simprocAttr])<;>rfl)
    (by simp) (by simp)
  simp only[int,Zv.bool,Int.cast_ofNat_Int] at hloop
  (simp only[e115,manyS,e,h0,wq_of hloop,Bool.false_or,wz,opX,intBin,↓reduceIte,simprocAttr]<;>repeat' (first | refine wpG_s ?_ ?_ | refine wpC_s ?_ ?_)<;>intro hgo<;>(try simp only[dq] at hgo)<;>simp only[hgo,e115,manyS,e,h0,wq_of hloop,Bool.false_or,wz,opX,intBin,↓reduceIte,simprocAttr])
  cases d.any (fun y=>decide (16<y.cons.length) || y.cons.any fun c=>decide (6<c.flds.length))<;>(simp only[e115,wz,opX,intBin,↓reduceIte,simprocAttr]<;>repeat' (first | refine wpG_s ?_ ?_ | refine wpC_s ?_ ?_)<;>intro hgo<;>(try simp only[dq] at hgo)<;>simp only[hgo,e115,wz,opX,intBin,↓reduceIte,simprocAttr])
end Zc28
end
section
set_option maxHeartbeats 4000000
namespace Zc28
open Go Zv Zs
def up (c:UInt8):Bool:=decide ((65:Int)≤(c.toNat:Int)) && decide ((c.toNat:Int)≤90)
def other (c:UInt8):Bool:=(decide ((97:Int)≤(c.toNat:Int)) && decide ((c.toNat:Int)≤122)) || (decide ((48:Int)≤(c.toNat:Int)) && decide ((c.toNat:Int)≤57)) || decide ((c.toNat:Int)=95)
def wrong (q:UInt8 × Nat):Bool := !up q.1 && (decide (q.2=0) || !other q.1)
def nameS (s:ByteArray):Bool := !s.data.toList.zipIdx.any wrong && decide (1≤s.size) && decide (s.size≤32)
theorem size_list (s:ByteArray):s.data.toList.length=s.size:=by rw[Array.length_toList];rfl
theorem nat_eq0 (n:Nat):((n:Int)=0)=(n=0):=by simp
theorem rname_ok' (s:ByteArray) (hs:s.size<2 ^ 60) (h:Hp):callW tab 136 [.d (.str s)] h=some (.d (.bool (nameS s)),h):=by
 refine call_wp (fn:=f136) rfl rfl ?_
 have hsz:=size_list s
 have hloop:=loop_any (T:=tab) (a:=f136l0) (l:=s.data.toList.zipIdx) (p:=wrong) (f:=fun n=>[(0,.d (.str s)),(3,int n)]) (h:=h)
   (by intro n x hx hlt hp;obtain ⟨c,i⟩:=x;have hx2:=List.getElem?_zipIdx .. ▸ hx;simp only[Nat.zero_add,Option.map_eq_some_iff,Prod.mk.injEq] at hx2;obtain ⟨c',hc,rfl,rfl⟩:=hx2;have hlt':n<s.size:=(by simpa [hsz] using hlt);simp only[wrong,up,other] at hp;all_goals (apply wq_ex.1;(simp only[hlt,hp,e136,ixS_at .i64 hc,hlt',ibeq,nat_eq0,wrap_succ (show n<2 ^ 62 by omega),wz,opX,intBin,↓reduceIte,simprocAttr]<;>repeat' (first | refine wpG_s ?_ ?_ | refine wpC_s ?_ ?_)<;>intro hgo<;>(try simp only[dq] at hgo)<;>simp only[hgo,hlt,hp,e136,ixS_at .i64 hc,hlt',ibeq,nat_eq0,wrap_succ (show n<2 ^ 62 by omega),wz,opX,intBin,↓reduceIte,simprocAttr])<;>(first | done | rfl | (exfalso;simp_all))))
   (by intro n x hx hlt hp;obtain ⟨c,i⟩:=x;have hx2:=List.getElem?_zipIdx .. ▸ hx;simp only[Nat.zero_add,Option.map_eq_some_iff,Prod.mk.injEq] at hx2;obtain ⟨c',hc,rfl,rfl⟩:=hx2;have hlt':n<s.size:=(by simpa [hsz] using hlt);simp only[wrong,up,other] at hp;all_goals (apply wq_ex.1;(simp only[hlt,hp,e136,ixS_at .i64 hc,hlt',ibeq,nat_eq0,wrap_succ (show n<2 ^ 62 by omega),wz,opX,intBin,↓reduceIte,simprocAttr]<;>repeat' (first | refine wpG_s ?_ ?_ | refine wpC_s ?_ ?_)<;>intro hgo<;>(try simp only[dq] at hgo)<;>simp only[hgo,hlt,hp,e136,ixS_at .i64 hc,hlt',ibeq,nat_eq0,wrap_succ (show n<2 ^ 62 by omega),wz,opX,intBin,↓reduceIte,simprocAttr])<;>(first | done | rfl | (exfalso;simp_all))<;>rfl))
   (by apply wq_ex.1;(simp only[e136,hsz,List.length_zipIdx,wz,opX,intBin,↓reduceIte,simprocAttr]<;>repeat' (first | refine wpG_s ?_ ?_ | refine wpC_s ?_ ?_)<;>intro hgo<;>(try simp only[dq] at hgo)<;>simp only[hgo,e136,hsz,List.length_zipIdx,wz,opX,intBin,↓reduceIte,simprocAttr])<;>rfl)
   (by simp) (by simp)
 simp only[int,Zv.bool,Int.cast_ofNat_Int] at hloop
 have e1:((1:Int)≤(s.size:Int))=(1≤s.size):=by apply propext;omega
 have e2:((s.size:Int)≤32)=(s.size≤32):=by apply propext;omega
 (simp only[e136,nameS,wq_of hloop,wz,opX,intBin,↓reduceIte,simprocAttr]<;>repeat' (first | refine wpG_s ?_ ?_ | refine wpC_s ?_ ?_)<;>intro hgo<;>(try simp only[dq] at hgo)<;>simp only[hgo,e136,nameS,wq_of hloop,wz,opX,intBin,↓reduceIte,simprocAttr])
 cases s.data.toList.zipIdx.any wrong
 ·(simp only[e136,e1,e2,wz,opX,intBin,↓reduceIte,simprocAttr]<;>repeat' (first | refine wpG_s ?_ ?_ | refine wpC_s ?_ ?_)<;>intro hgo<;>(try simp only[dq] at hgo)<;>simp only[hgo,e136,e1,e2,wz,opX,intBin,↓reduceIte,simprocAttr])
 ·(simp only[e136,wz,opX,intBin,↓reduceIte,simprocAttr]<;>repeat' (first | refine wpG_s ?_ ?_ | refine wpC_s ?_ ?_)<;>intro hgo<;>(try simp only[dq] at hgo)<;>simp only[hgo,e136,wz,opX,intBin,↓reduceIte,simprocAttr])
theorem any_up (n:Nat):∀ l:List UInt8,(l.zipIdx (n+1)).any wrong=l.any fun c => !up c && !other c
 | []=>rfl
 |c::l=>by
  rw[List.zipIdx_cons,List.any_cons,List.any_cons,any_up (n+1) l]
  simp[wrong]
theorem any_up0 (l:List UInt8) (c:UInt8) (h:up c=true):(c::l).zipIdx.any wrong=(c::l).any fun c => !up c && !other c:=by
 rw[List.zipIdx_cons,List.any_cons,List.any_cons,any_up 0 l]
 simp[wrong,h]
theorem any_up1 (l:List UInt8) (c:UInt8) (h:up c=false):(c::l).zipIdx.any wrong=true:=by
 rw[List.zipIdx_cons,List.any_cons]
 simp[wrong,h]
theorem size_zero {s:ByteArray} (h:s.size=0):s=⟨#[]⟩:=by
 have:=size_list s
 rw[h] at this
 have h2:s.data.toList=[]:=List.length_eq_zero_iff.1 this
 cases s with
 |mk d=>
  congr
  exact Array.toList_inj.1 (by simpa using h2)
theorem pname_ok (s:ByteArray) (hs:s.size<2 ^ 60) (h:Hp):callW tab 99 [.d (.str s)] h=some (.d (.bool (nameS s)),h):=by
 refine call_wp (fn:=f99) rfl rfl ?_
 have hsz:=size_list s
 by_cases h0:s=⟨#[]⟩
 ·subst h0
  (simp only[e99,wz,opX,intBin,↓reduceIte,simprocAttr]<;>repeat' (first | refine wpG_s ?_ ?_ | refine wpC_s ?_ ?_)<;>intro hgo<;>(try simp only[dq] at hgo)<;>simp only[hgo,e99,wz,opX,intBin,↓reduceIte,simprocAttr])
  decide
 ·by_cases h1:(32:Int)<s.size
  ·have h2:¬ s.size≤32:=by omega
   (simp only[e99,h0,h1,nameS,h2,Bool.and_false,wz,opX,intBin,↓reduceIte,simprocAttr]<;>repeat' (first | refine wpG_s ?_ ?_ | refine wpC_s ?_ ?_)<;>intro hgo<;>(try simp only[dq] at hgo)<;>simp only[hgo,e99,h0,h1,nameS,h2,Bool.and_false,wz,opX,intBin,↓reduceIte,simprocAttr])
  ·obtain ⟨c,l,hl⟩:∃ c l,s.data.toList=c::l:=by
    cases hq:s.data.toList with
    |nil=>rw[hq] at hsz;exact absurd (size_zero (by simpa using hsz.symm)) h0
    |cons c l=>exact⟨c,l,rfl⟩
   have hx0:ixS (.d (.str s)) (.d (.int .i64 0))=some (.d (.int .u8 c.toNat)):=ixS_at (n:=0) .i64 (by rw[hl];rfl)
   have hn:nameS s = !s.data.toList.zipIdx.any wrong:=by
    have a:1≤s.size:=by rw[←hsz,hl];simp
    have b:s.size≤32:=by omega
    simp[nameS,a,b]
   rw[hn,hl]
   cases hu:up c with
   |false=>
    rw[any_up1 l c hu]
    simp only[up,Bool.and_eq_false_iff,decide_eq_false_iff_not] at hu
    (simp only[e99,h0,h1,hx0,wz,opX,intBin,↓reduceIte,simprocAttr]<;>repeat' (first | refine wpG_s ?_ ?_ | refine wpC_s ?_ ?_)<;>intro hgo<;>(try simp only[dq] at hgo)<;>simp only[hgo,e99,h0,h1,hx0,wz,opX,intBin,↓reduceIte,simprocAttr])
    all_goals (exfalso;omega)
   |true=>
    rw[any_up0 l c hu]
    simp only[up,Bool.and_eq_true,decide_eq_true_eq] at hu
    have c1:¬ (c.toNat:Int)<65:=by omega
    have c2:¬ (90:Int)<(c.toNat:Int):=by omega
    have hloop:=loop_any (T:=tab) (a:=f99l0) (l:=s.data.toList) (p:=(fun c => !up c && !other c)) (f:=fun n=>[(0,.d (.str s)),(23,int s.size),(24,int n)]) (h:=h)
      (by intro n x hx hlt hp;have hlt':n<s.size:=(by omega);simp only[up,other] at hp;all_goals (apply wq_ex.1;(simp only[hlt,hp,e99,ixS_at .i64 hx,hlt',ibeq,wrap_succ (show n<2 ^ 62 by omega),wz,opX,intBin,↓reduceIte,simprocAttr]<;>repeat' (first | refine wpG_s ?_ ?_ | refine wpC_s ?_ ?_)<;>intro hgo<;>(try simp only[dq] at hgo)<;>simp only[hgo,hlt,hp,e99,ixS_at .i64 hx,hlt',ibeq,wrap_succ (show n<2 ^ 62 by omega),wz,opX,intBin,↓reduceIte,simprocAttr])<;>(first | done | rfl | (exfalso;simp_all))))
      (by intro n x hx hlt hp;have hlt':n<s.size:=(by omega);simp only[up,other] at hp;all_goals (apply wq_ex.1;(simp only[hlt,hp,e99,ixS_at .i64 hx,hlt',ibeq,wrap_succ (show n<2 ^ 62 by omega),wz,opX,intBin,↓reduceIte,simprocAttr]<;>repeat' (first | refine wpG_s ?_ ?_ | refine wpC_s ?_ ?_)<;>intro hgo<;>(try simp only[dq] at hgo)<;>simp only[hgo,hlt,hp,e99,ixS_at .i64 hx,hlt',ibeq,wrap_succ (show n<2 ^ 62 by omega),wz,opX,intBin,↓reduceIte,simprocAttr])<;>(first | done | rfl | (exfalso;simp_all))<;>rfl))
      (by apply wq_ex.1;(simp only[e99,hsz,wz,opX,intBin,↓reduceIte,simprocAttr]<;>repeat' (first | refine wpG_s ?_ ?_ | refine wpC_s ?_ ?_)<;>intro hgo<;>(try simp only[dq] at hgo)<;>simp only[hgo,e99,hsz,wz,opX,intBin,↓reduceIte,simprocAttr])<;>rfl)
      (by simp) (by simp)
    simp only[int,Zv.bool,Int.cast_ofNat_Int] at hloop
    (simp only[e99,h0,h1,hx0,c1,c2,wq_of hloop,wz,opX,intBin,↓reduceIte,simprocAttr]<;>repeat' (first | refine wpG_s ?_ ?_ | refine wpC_s ?_ ?_)<;>intro hgo<;>(try simp only[dq] at hgo)<;>simp only[hgo,e99,h0,h1,hx0,c1,c2,wq_of hloop,wz,opX,intBin,↓reduceIte,simprocAttr])
    rw[hl]
    cases (c::l).any fun c => !up c && !other c<;>(simp only[e99,wz,opX,intBin,↓reduceIte,simprocAttr]<;>repeat' (first | refine wpG_s ?_ ?_ | refine wpC_s ?_ ?_)<;>intro hgo<;>(try simp only[dq] at hgo)<;>simp only[hgo,e99,wz,opX,intBin,↓reduceIte,simprocAttr])
end Zc28
end
section
set_option maxHeartbeats 4000000
namespace Zc28
open Go Zv Zs
abbrev sBool:ByteArray:=⟨#[66,111,111,108]⟩
abbrev sFalse:ByteArray:=⟨#[70,97,108,115,101]⟩
abbrev sTrue:ByteArray:=⟨#[84,114,117,101]⟩
def boolS (y:Dt):Bool:=decide (y.name=sBool) && match y.cons with
 | [f,t]=>decide (f.name=sFalse) && decide (t.name=sTrue) && decide (f.flds.length=0) && decide (t.flds.length=0)
 |_=>false
def badS (y:Dt):Bool := !nameS y.name || decide (y.cons.length=0) || y.cons.any fun c => !nameS c.name
def formedS (d:List Dt):Bool:=match d with
 | []=>false
 |y::_=>boolS y && !d.any badS
theorem iaD0 {l:List Dt} {x:Dt} (hx:l[0]? = some x):ia 2 (.d (.lst (l.map eD))) (.d (.int .i64 0))=some (.fp (eD x) 0):=iaD hx
theorem iaC0 {l:List Cn} {x:Cn} (hx:l[0]? = some x):ia 2 (.d (.lst (l.map eC))) (.d (.int .i64 0))=some (.fp (eC x) 0):=iaC hx
theorem iaC1 {l:List Cn} {x:Cn} (hx:l[1]? = some x):ia 2 (.d (.lst (l.map eC))) (.d (.int .i64 1))=some (.fp (eC x) 0):=iaC (n:=1) hx
theorem formed1_ok (c:Cn) (hc:c.name.size<2 ^ 60) (h:Hp):callW tab 100 [.d (eC c)] h=some (.d (.bool (!nameS c.name)),h):=by
 refine call_wp (fn:=f100) rfl rfl ?_
 (simp only[e100,pname_ok c.name hc,wz,opX,intBin,↓reduceIte,simprocAttr]<;>repeat' (first | refine wpG_s ?_ ?_ | refine wpC_s ?_ ?_)<;>intro hgo<;>(try simp only[dq] at hgo)<;>simp only[hgo,e100,pname_ok c.name hc,wz,opX,intBin,↓reduceIte,simprocAttr])
theorem pformed_ok {d:List Dt} (B:Bd d) (N:Nm d) (h:Hp):callW tab 54 [.d (eDs d)] h=some (.d (.bool (formedS d)),h):=by
 refine call_wp (fn:=f54) rfl rfl ?_
 have hbl:=B.len
 cases d with
 |nil=>(simp only[e54,formedS,Int.cast_ofNat_Int,wz,opX,intBin,↓reduceIte,simprocAttr]<;>repeat' (first | refine wpG_s ?_ ?_ | refine wpC_s ?_ ?_)<;>intro hgo<;>(try simp only[dq] at hgo)<;>simp only[hgo,e54,formedS,Int.cast_ofNat_Int,wz,opX,intBin,↓reduceIte,simprocAttr])
 |cons y ds=>
  have e0:(((y::ds).length:Int) == 0)=false:=by simp;omega
  have hy:(y::ds)[0]? = some y:=rfl
  have h3:=N y List.mem_cons_self
  generalize hd:y::ds=d at *
  have hF:formedS d=(boolS y && !d.any badS):=by rw[←hd];rfl
  by_cases h1:y.name=sBool
  ·by_cases h2:y.cons.length=2
   ·obtain ⟨f,t,hft⟩:∃ f t,y.cons=[f,t]:=by
     cases hq:y.cons with
     |nil=>rw[hq] at h2;cases h2
     |cons f r=>cases r with
      |nil=>rw[hq] at h2;cases h2
      |cons t r=>cases r with
       |nil=>exact⟨f,t,rfl⟩
       |cons x r=>rw[hq] at h2;simp at h2
    have hB:boolS y=(decide (f.name=sFalse) && decide (t.name=sTrue) && decide (f.flds.length=0) && decide (t.flds.length=0)):=by
     unfold boolS;rw[hft];simp[h1]
    have b0:=iaC0 (l:=y.cons) (x:=f) (by rw[hft];rfl)
    have b1:=iaC1 (l:=y.cons) (x:=t) (by rw[hft];rfl)
    have e2:((y.cons.length:Int) != 2)=false:=by rw[h2];rfl
    have bf:=B.flds y (by rw[←hd];exact List.mem_cons_self) f (by rw[hft];simp)
    have bt:=B.flds y (by rw[←hd];exact List.mem_cons_self) t (by rw[hft];simp)
    have ew:IntKind.i64.wrap ((f.flds.length:Int)+(t.flds.length:Int))=(f.flds.length:Int)+(t.flds.length:Int):=wrap_ok (by omega) (by omega)
    by_cases k1:f.name=sFalse
    ·by_cases k2:t.name=sTrue
     ·by_cases k3:(0:Int)<(f.flds.length:Int)+(t.flds.length:Int)
      ·have:boolS y=false:=by
        rw[hB];by_cases z1:f.flds.length=0<;>by_cases z2:t.flds.length=0<;>first | (exfalso;omega) | simp[z1,z2]
       (simp only[e54,iaD0 hy,e0,h1,e2,b0,b1,k1,k2,ew,k3,hF,this,wz,opX,intBin,↓reduceIte,simprocAttr]<;>repeat' (first | refine wpG_s ?_ ?_ | refine wpC_s ?_ ?_)<;>intro hgo<;>(try simp only[dq] at hgo)<;>simp only[hgo,e54,iaD0 hy,e0,h1,e2,b0,b1,k1,k2,ew,k3,hF,this,wz,opX,intBin,↓reduceIte,simprocAttr])
      ·have z1:f.flds.length=0:=by omega
       have z2:t.flds.length=0:=by omega
       have:boolS y=true:=by rw[hB];simp[k1,k2,z1,z2]
       obtain ⟨hloopq,hloop⟩:=loop_anyq (T:=tab) (a:=f54l0) (l:=d) (p:=badS) (f:=fun n=>[(55,.d (eDs d)),(56,int d.length),(57,int n)]) (h:=⟨h.objs,h.next+1+1⟩)
         (by intro q n x hx hlt hp;have b:=B.at hx;have hN:=N x (List.mem_of_getElem? hx);have hcf:=fun h=>conFC x.cons (.clo 100 []) (fun c => !nameS c.name) h (by omega) rfl (fun c hc=>formed1_ok c (hN.2 c hc) h);have hnm:=fun h=>pname_ok x.name hN.1 h;simp only[badS] at hp;have ez:((x.cons.length:Int) == 0)=decide (x.cons.length=0):=(by rw[ibeq];simp);cases hn:nameS x.name;all_goals by_cases hz:x.cons.length=0;all_goals simp only[hn,hz,decide_true,decide_false,Bool.true_or,Bool.false_or,Bool.not_true,Bool.not_false,Bool.true_eq_false] at hp;all_goals ((simp only[hlt,hp,e54,iaD hx,hcf,hnm,hn,hz,ez,wrap_succ (show n<2 ^ 62 by omega),wz,opX,intBin,↓reduceIte,simprocAttr]<;>repeat' (first | refine wpG_s ?_ ?_ | refine wpC_s ?_ ?_)<;>intro hgo<;>(try simp only[dq] at hgo)<;>simp only[hgo,hlt,hp,e54,iaD hx,hcf,hnm,hn,hz,ez,wrap_succ (show n<2 ^ 62 by omega),wz,opX,intBin,↓reduceIte,simprocAttr])<;>(first | exact⟨_,rfl⟩ | exact⟨_,rfl,rfl⟩ | exact⟨_,rfl,rfl,rfl⟩)))
         (by intro q n x hx hlt hp;have b:=B.at hx;have hN:=N x (List.mem_of_getElem? hx);have hcf:=fun h=>conFC x.cons (.clo 100 []) (fun c => !nameS c.name) h (by omega) rfl (fun c hc=>formed1_ok c (hN.2 c hc) h);have hnm:=fun h=>pname_ok x.name hN.1 h;simp only[badS] at hp;have ez:((x.cons.length:Int) == 0)=decide (x.cons.length=0):=(by rw[ibeq];simp);cases hn:nameS x.name;all_goals by_cases hz:x.cons.length=0;all_goals simp only[hn,hz,decide_true,decide_false,Bool.true_or,Bool.false_or,Bool.not_true,Bool.not_false,Bool.true_eq_false] at hp;all_goals ((simp only[hlt,hp,e54,iaD hx,hcf,hnm,hn,hz,ez,wrap_succ (show n<2 ^ 62 by omega),wz,opX,intBin,↓reduceIte,simprocAttr]<;>repeat' (first | refine wpG_s ?_ ?_ | refine wpC_s ?_ ?_)<;>intro hgo<;>(try simp only[dq] at hgo)<;>simp only[hgo,hlt,hp,e54,iaD hx,hcf,hnm,hn,hz,ez,wrap_succ (show n<2 ^ 62 by omega),wz,opX,intBin,↓reduceIte,simprocAttr])<;>(first | exact⟨_,rfl⟩ | exact⟨_,rfl,rfl⟩ | exact⟨_,rfl,rfl,rfl⟩)))
         (by intro q;(simp only[e54,wz,opX,intBin,↓reduceIte,simprocAttr]<;>repeat' (first | refine wpG_s ?_ ?_ | refine wpC_s ?_ ?_)<;>intro hgo<;>(try simp only[dq] at hgo)<;>simp only[hgo,e54,wz,opX,intBin,↓reduceIte,simprocAttr])<;>(first | exact⟨_,rfl⟩ | exact⟨_,rfl,rfl⟩ | exact⟨_,rfl,rfl,rfl⟩))
         (by simp) (by simp)
       simp only[int,Zv.bool,Int.cast_ofNat_Int] at hloop
       (simp only[e54,iaD0 hy,e0,h1,e2,b0,b1,k1,k2,ew,k3,hF,this,wq_of hloop,wz,opX,intBin,↓reduceIte,simprocAttr]<;>repeat' (first | refine wpG_s ?_ ?_ | refine wpC_s ?_ ?_)<;>intro hgo<;>(try simp only[dq] at hgo)<;>simp only[hgo,e54,iaD0 hy,e0,h1,e2,b0,b1,k1,k2,ew,k3,hF,this,wq_of hloop,wz,opX,intBin,↓reduceIte,simprocAttr])
       cases d.any badS<;>(simp only[e54,wz,opX,intBin,↓reduceIte,simprocAttr]<;>repeat' (first | refine wpG_s ?_ ?_ | refine wpC_s ?_ ?_)<;>intro hgo<;>(try simp only[dq] at hgo)<;>simp only[hgo,e54,wz,opX,intBin,↓reduceIte,simprocAttr])
     ·have:boolS y=false:=by rw[hB];simp[k2]
      (simp only[e54,iaD0 hy,e0,h1,e2,b0,b1,k1,k2,hF,this,wz,opX,intBin,↓reduceIte,simprocAttr]<;>repeat' (first | refine wpG_s ?_ ?_ | refine wpC_s ?_ ?_)<;>intro hgo<;>(try simp only[dq] at hgo)<;>simp only[hgo,e54,iaD0 hy,e0,h1,e2,b0,b1,k1,k2,hF,this,wz,opX,intBin,↓reduceIte,simprocAttr])
    ·have:boolS y=false:=by rw[hB];simp[k1]
     (simp only[e54,iaD0 hy,e0,h1,e2,b0,b1,k1,hF,this,wz,opX,intBin,↓reduceIte,simprocAttr]<;>repeat' (first | refine wpG_s ?_ ?_ | refine wpC_s ?_ ?_)<;>intro hgo<;>(try simp only[dq] at hgo)<;>simp only[hgo,e54,iaD0 hy,e0,h1,e2,b0,b1,k1,hF,this,wz,opX,intBin,↓reduceIte,simprocAttr])
   ·have:boolS y=false:=by
     unfold boolS
     split
     ·rename_i hq;rw[hq] at h2;exact absurd rfl h2
     ·simp
    have e2:((y.cons.length:Int) != 2)=true:=by simp;omega
    (simp only[e54,iaD0 hy,e0,h1,e2,hF,this,wz,opX,intBin,↓reduceIte,simprocAttr]<;>repeat' (first | refine wpG_s ?_ ?_ | refine wpC_s ?_ ?_)<;>intro hgo<;>(try simp only[dq] at hgo)<;>simp only[hgo,e54,iaD0 hy,e0,h1,e2,hF,this,wz,opX,intBin,↓reduceIte,simprocAttr])
  ·have:boolS y=false:=by unfold boolS;simp[h1]
   (simp only[e54,iaD0 hy,e0,h1,hF,this,wz,opX,intBin,↓reduceIte,simprocAttr]<;>repeat' (first | refine wpG_s ?_ ?_ | refine wpC_s ?_ ?_)<;>intro hgo<;>(try simp only[dq] at hgo)<;>simp only[hgo,e54,iaD0 hy,e0,h1,hF,this,wz,opX,intBin,↓reduceIte,simprocAttr])
theorem rformed_ok {d:List Dt} (B:Bd d) (N:Nm d) (h:Hp):callW tab 116 [.d (eDs d)] h=some (.d (.bool (formedS d)),h):=by
 refine call_wp (fn:=f116) rfl rfl ?_
 have hbl:=B.len
 cases d with
 |nil=>(simp only[e116,formedS,Int.cast_ofNat_Int,wz,opX,intBin,↓reduceIte,simprocAttr]<;>repeat' (first | refine wpG_s ?_ ?_ | refine wpC_s ?_ ?_)<;>intro hgo<;>(try simp only[dq] at hgo)<;>simp only[hgo,e116,formedS,Int.cast_ofNat_Int,wz,opX,intBin,↓reduceIte,simprocAttr])
 |cons y ds=>
  have e0:(((y::ds).length:Int) == 0)=false:=by simp;omega
  have hy:(y::ds)[0]? = some y:=rfl
  have h3:=N y List.mem_cons_self
  generalize hd:y::ds=d at *
  have hF:formedS d=(boolS y && !d.any badS):=by rw[←hd];rfl
  by_cases h1:y.name=sBool
  ·by_cases h2:y.cons.length=2
   ·obtain ⟨f,t,hft⟩:∃ f t,y.cons=[f,t]:=by
     cases hq:y.cons with
     |nil=>rw[hq] at h2;cases h2
     |cons f r=>cases r with
      |nil=>rw[hq] at h2;cases h2
      |cons t r=>cases r with
       |nil=>exact⟨f,t,rfl⟩
       |cons x r=>rw[hq] at h2;simp at h2
    have hB:boolS y=(decide (f.name=sFalse) && decide (t.name=sTrue) && decide (f.flds.length=0) && decide (t.flds.length=0)):=by
     unfold boolS;rw[hft];simp[h1]
    have b0:=iaC0 (l:=y.cons) (x:=f) (by rw[hft];rfl)
    have b1:=iaC1 (l:=y.cons) (x:=t) (by rw[hft];rfl)
    have e2:((y.cons.length:Int) != 2)=false:=by rw[h2];rfl
    by_cases k1:f.name=sFalse
    ·by_cases k2:t.name=sTrue
     ·by_cases k3:(0:Int)<(f.flds.length:Int)
      ·have:boolS y=false:=by
        rw[hB];have z1:¬ f.flds.length=0:=by omega
        simp[z1]
       (simp only[e116,iaD0 hy,e0,h1,e2,b0,b1,k1,k2,k3,hF,this,wz,opX,intBin,↓reduceIte,simprocAttr]<;>repeat' (first | refine wpG_s ?_ ?_ | refine wpC_s ?_ ?_)<;>intro hgo<;>(try simp only[dq] at hgo)<;>simp only[hgo,e116,iaD0 hy,e0,h1,e2,b0,b1,k1,k2,k3,hF,this,wz,opX,intBin,↓reduceIte,simprocAttr])
      ·by_cases k4:(0:Int)<(t.flds.length:Int)
       ·have:boolS y=false:=by
         rw[hB];have z1:¬ t.flds.length=0:=by omega
         simp[z1]
        (simp only[e116,iaD0 hy,e0,h1,e2,b0,b1,k1,k2,k3,k4,hF,this,wz,opX,intBin,↓reduceIte,simprocAttr]<;>repeat' (first | refine wpG_s ?_ ?_ | refine wpC_s ?_ ?_)<;>intro hgo<;>(try simp only[dq] at hgo)<;>simp only[hgo,e116,iaD0 hy,e0,h1,e2,b0,b1,k1,k2,k3,k4,hF,this,wz,opX,intBin,↓reduceIte,simprocAttr])
       ·have z1:f.flds.length=0:=by omega
        have z2:t.flds.length=0:=by omega
        have:boolS y=true:=by rw[hB];simp[k1,k2,z1,z2]
        have inner:∀ (m:Nat) (x:Dt),d[m]? = some x→ex tab (.loop f116l0) [(0,.d (eDs d)),(5,.d (.int .i64 m)),(6,.d (.int .i64 0))] ⟨h.objs,h.next+1+1⟩=some (if (x.cons.any fun c => !nameS c.name)=true then (.ret,[(2,.d (.bool false))],⟨h.objs,h.next+1+1⟩) else (.exit 2,[(0,.d (eDs d)),(5,.d (.int .i64 m)),(6,.d (.int .i64 x.cons.length)),(86,.d (.bool false))],⟨h.objs,h.next+1+1⟩)):=by
         intro m z hz
         have b:=B.at hz
         have hN:=N z (List.mem_of_getElem? hz)
         have hloop:=loop_any (T:=tab) (a:=f116l0) (l:=z.cons) (p:=(fun c => !nameS c.name)) (f:=fun n=>[(0,.d (eDs d)),(5,.d (.int .i64 m)),(6,int n)]) (h:=⟨h.objs,h.next+1+1⟩)
           (by intro n x hx hlt hp;have hcf:=rname_ok' x.name (hN.2 x (List.mem_of_getElem? hx)) ⟨h.objs,h.next+1+1⟩;simp only[Bool.not_eq_true',Bool.not_eq_false'] at hp;all_goals (apply wq_ex.1;(simp only[hlt,hp,e116,iaD hz,iaC hx,hcf,wrap_succ (show n<2 ^ 62 by omega),wz,opX,intBin,↓reduceIte,simprocAttr]<;>repeat' (first | refine wpG_s ?_ ?_ | refine wpC_s ?_ ?_)<;>intro hgo<;>(try simp only[dq] at hgo)<;>simp only[hgo,hlt,hp,e116,iaD hz,iaC hx,hcf,wrap_succ (show n<2 ^ 62 by omega),wz,opX,intBin,↓reduceIte,simprocAttr])))
           (by intro n x hx hlt hp;have hcf:=rname_ok' x.name (hN.2 x (List.mem_of_getElem? hx)) ⟨h.objs,h.next+1+1⟩;simp only[Bool.not_eq_true',Bool.not_eq_false'] at hp;all_goals (apply wq_ex.1;(simp only[hlt,hp,e116,iaD hz,iaC hx,hcf,wrap_succ (show n<2 ^ 62 by omega),wz,opX,intBin,↓reduceIte,simprocAttr]<;>repeat' (first | refine wpG_s ?_ ?_ | refine wpC_s ?_ ?_)<;>intro hgo<;>(try simp only[dq] at hgo)<;>simp only[hgo,hlt,hp,e116,iaD hz,iaC hx,hcf,wrap_succ (show n<2 ^ 62 by omega),wz,opX,intBin,↓reduceIte,simprocAttr])<;>rfl))
           (by apply wq_ex.1;(simp only[e116,iaD hz,wz,opX,intBin,↓reduceIte,simprocAttr]<;>repeat' (first | refine wpG_s ?_ ?_ | refine wpC_s ?_ ?_)<;>intro hgo<;>(try simp only[dq] at hgo)<;>simp only[hgo,e116,iaD hz,wz,opX,intBin,↓reduceIte,simprocAttr])<;>rfl)
           (by simp) (by simp)
         simp only[int,Zv.bool,Int.cast_ofNat_Int] at hloop
         exact hloop
        have hloop:=loop_any (T:=tab) (a:=f116l1) (l:=d) (p:=badS) (f:=fun n=>[(0,.d (eDs d)),(5,int n)]) (h:=⟨h.objs,h.next+1+1⟩)
          (by intro n x hx hlt hp;have b:=B.at hx;have hN:=N x (List.mem_of_getElem? hx);have hin:=inner n x hx;have hnm:=rname_ok' x.name hN.1 ⟨h.objs,h.next+1+1⟩;simp only[badS] at hp;have ez:((x.cons.length:Int) == 0)=decide (x.cons.length=0):=(by rw[ibeq];simp);cases hn:nameS x.name;all_goals by_cases hz:x.cons.length=0;all_goals simp only[hn,hz,decide_true,decide_false,Bool.true_or,Bool.false_or,Bool.not_true,Bool.not_false,Bool.true_eq_false] at hp;all_goals (try simp only[hp,if_true,if_false,Bool.false_eq_true] at hin);all_goals (apply wq_ex.1;(simp only[hlt,hp,e116,iaD hx,wq_of hin,hnm,hn,hz,ez,wrap_succ (show n<2 ^ 62 by omega),wz,opX,intBin,↓reduceIte,simprocAttr]<;>repeat' (first | refine wpG_s ?_ ?_ | refine wpC_s ?_ ?_)<;>intro hgo<;>(try simp only[dq] at hgo)<;>simp only[hgo,hlt,hp,e116,iaD hx,wq_of hin,hnm,hn,hz,ez,wrap_succ (show n<2 ^ 62 by omega),wz,opX,intBin,↓reduceIte,simprocAttr])))
          (by intro n x hx hlt hp;have b:=B.at hx;have hN:=N x (List.mem_of_getElem? hx);have hin:=inner n x hx;have hnm:=rname_ok' x.name hN.1 ⟨h.objs,h.next+1+1⟩;simp only[badS] at hp;have ez:((x.cons.length:Int) == 0)=decide (x.cons.length=0):=(by rw[ibeq];simp);cases hn:nameS x.name;all_goals by_cases hz:x.cons.length=0;all_goals simp only[hn,hz,decide_true,decide_false,Bool.true_or,Bool.false_or,Bool.not_true,Bool.not_false,Bool.true_eq_false] at hp;all_goals (try simp only[hp,if_true,if_false,Bool.false_eq_true] at hin);all_goals (apply wq_ex.1;(simp only[hlt,hp,e116,iaD hx,wq_of hin,hnm,hn,hz,ez,wrap_succ (show n<2 ^ 62 by omega),wz,opX,intBin,↓reduceIte,simprocAttr]<;>repeat' (first | refine wpG_s ?_ ?_ | refine wpC_s ?_ ?_)<;>intro hgo<;>(try simp only[dq] at hgo)<;>simp only[hgo,hlt,hp,e116,iaD hx,wq_of hin,hnm,hn,hz,ez,wrap_succ (show n<2 ^ 62 by omega),wz,opX,intBin,↓reduceIte,simprocAttr])<;>rfl))
          (by apply wq_ex.1;(simp only[e116,wz,opX,intBin,↓reduceIte,simprocAttr]<;>repeat' (first | refine wpG_s ?_ ?_ | refine wpC_s ?_ ?_)<;>intro hgo<;>(try simp only[dq] at hgo)<;>simp only[hgo,e116,wz,opX,intBin,↓reduceIte,simprocAttr])<;>rfl)
          (by simp) (by simp)
        simp only[int,Zv.bool,Int.cast_ofNat_Int] at hloop
        (simp only[e116,iaD0 hy,e0,h1,e2,b0,b1,k1,k2,k3,k4,hF,this,wq_of hloop,wz,opX,intBin,↓reduceIte,simprocAttr]<;>repeat' (first | refine wpG_s ?_ ?_ | refine wpC_s ?_ ?_)<;>intro hgo<;>(try simp only[dq] at hgo)<;>simp only[hgo,e116,iaD0 hy,e0,h1,e2,b0,b1,k1,k2,k3,k4,hF,this,wq_of hloop,wz,opX,intBin,↓reduceIte,simprocAttr])
        cases d.any badS<;>(simp only[e116,wz,opX,intBin,↓reduceIte,simprocAttr]<;>repeat' (first | refine wpG_s ?_ ?_ | refine wpC_s ?_ ?_)<;>intro hgo<;>(try simp only[dq] at hgo)<;>simp only[hgo,e116,wz,opX,intBin,↓reduceIte,simprocAttr])
     ·have:boolS y=false:=by rw[hB];simp[k2]
      (simp only[e116,iaD0 hy,e0,h1,e2,b0,b1,k1,k2,hF,this,wz,opX,intBin,↓reduceIte,simprocAttr]<;>repeat' (first | refine wpG_s ?_ ?_ | refine wpC_s ?_ ?_)<;>intro hgo<;>(try simp only[dq] at hgo)<;>simp only[hgo,e116,iaD0 hy,e0,h1,e2,b0,b1,k1,k2,hF,this,wz,opX,intBin,↓reduceIte,simprocAttr])
    ·have:boolS y=false:=by rw[hB];simp[k1]
     (simp only[e116,iaD0 hy,e0,h1,e2,b0,b1,k1,hF,this,wz,opX,intBin,↓reduceIte,simprocAttr]<;>repeat' (first | refine wpG_s ?_ ?_ | refine wpC_s ?_ ?_)<;>intro hgo<;>(try simp only[dq] at hgo)<;>simp only[hgo,e116,iaD0 hy,e0,h1,e2,b0,b1,k1,hF,this,wz,opX,intBin,↓reduceIte,simprocAttr])
   ·have:boolS y=false:=by
     unfold boolS
     split
     ·rename_i hq;rw[hq] at h2;exact absurd rfl h2
     ·simp
    have e2:((y.cons.length:Int) != 2)=true:=by simp;omega
    (simp only[e116,iaD0 hy,e0,h1,e2,hF,this,wz,opX,intBin,↓reduceIte,simprocAttr]<;>repeat' (first | refine wpG_s ?_ ?_ | refine wpC_s ?_ ?_)<;>intro hgo<;>(try simp only[dq] at hgo)<;>simp only[hgo,e116,iaD0 hy,e0,h1,e2,hF,this,wz,opX,intBin,↓reduceIte,simprocAttr])
  ·have:boolS y=false:=by unfold boolS;simp[h1]
   (simp only[e116,iaD0 hy,e0,h1,hF,this,wz,opX,intBin,↓reduceIte,simprocAttr]<;>repeat' (first | refine wpG_s ?_ ?_ | refine wpC_s ?_ ?_)<;>intro hgo<;>(try simp only[dq] at hgo)<;>simp only[hgo,e116,iaD0 hy,e0,h1,hF,this,wz,opX,intBin,↓reduceIte,simprocAttr])
end Zc28
end
section
set_option maxHeartbeats 4000000
namespace Zc28
open Go Zv Zs
instance decMem (s:ByteArray) (l:List ByteArray):Decidable (s ∈ l):=decidable_of_iff (l.any (fun x=>decide (x=s))=true) (by simp)
def tyN (d:List Dt) (n:Nat):List ByteArray:=sInt::(d.take n).map Dt.name
def coN (d:List Dt) (n:Nat):List ByteArray:=(d.take n).flatMap fun y=>y.cons.map Cn.name
def coK (d:List Dt) (n:Nat) (y:Dt) (k:Nat):List ByteArray:=coN d n++(y.cons.take k).map Cn.name
def twiceS (d:List Dt):Bool := !(decide (tyN d d.length).Nodup && decide (coN d d.length).Nodup)
theorem tyN_succ {d:List Dt} {n:Nat} {y:Dt} (hy:d[n]? = some y):tyN d (n+1)=tyN d n++[y.name]:=by
 obtain ⟨hlt,rfl⟩:=List.getElem?_eq_some_iff.1 hy
 unfold tyN;rw[List.take_succ_eq_append_getElem hlt,List.map_append];rfl
theorem coN_succ {d:List Dt} {n:Nat} {y:Dt} (hy:d[n]? = some y):coN d (n+1)=coN d n++y.cons.map Cn.name:=by
 obtain ⟨hlt,rfl⟩:=List.getElem?_eq_some_iff.1 hy
 unfold coN;rw[List.take_succ_eq_append_getElem hlt,List.flatMap_append];simp
theorem coK_zero (d:List Dt) (n:Nat) (y:Dt):coK d n y 0=coN d n:=by simp[coK]
theorem coK_succ {d:List Dt} {n:Nat} {y:Dt} {k:Nat} {c:Cn} (hc:y.cons[k]? = some c):coK d n y (k+1)=coK d n y k++[c.name]:=by
 obtain ⟨hlt,rfl⟩:=List.getElem?_eq_some_iff.1 hc
 unfold coK;rw[List.take_succ_eq_append_getElem hlt,List.map_append,List.append_assoc];rfl
theorem coK_all {d:List Dt} {n:Nat} {y:Dt} (hy:d[n]? = some y):coK d n y y.cons.length=coN d (n+1):=by
 rw[coN_succ hy];simp[coK]
theorem tyN_pre (d:List Dt) (n:Nat):tyN d n <+: tyN d d.length:=by
 unfold tyN
 rw[List.take_length]
 refine ⟨(d.drop n).map Dt.name,?_⟩
 rw[List.cons_append,←List.map_append,List.take_append_drop]
theorem coN_pre (d:List Dt) (n:Nat):coN d n <+: coN d d.length:=by
 unfold coN
 rw[List.take_length]
 refine ⟨(d.drop n).flatMap fun y=>y.cons.map Cn.name,?_⟩
 rw[←List.flatMap_append,List.take_append_drop]
theorem coK_pre {d:List Dt} {n:Nat} {y:Dt} (hy:d[n]? = some y) (k:Nat):coK d n y k <+: coN d d.length:=by
 refine List.IsPrefix.trans ?_ (coN_pre d (n+1))
 rw[coN_succ hy]
 refine ⟨(y.cons.drop k).map Cn.name,?_⟩
 unfold coK
 rw[List.append_assoc,←List.map_append,List.take_append_drop]
theorem nd_add {l:List ByteArray} {s:ByteArray} (h:l.Nodup) (hs:s ∉ l):(l++[s]).Nodup:=by
 rw[List.nodup_append]
 exact⟨h,by simp,fun a ha b hb=>by rintro rfl;simp at hb;exact hs (hb▸ha)⟩
theorem nd_not {l m:List ByteArray} {s:ByteArray} (hs:s ∈ l) (h:l++[s] <+: m):¬ m.Nodup:=by
 intro hm
 have:=h.sublist.nodup hm
 rw[List.nodup_append] at this
 exact this.2.2 s hs s (by simp) rfl
theorem twice_t1 {d:List Dt} {n:Nat} {y:Dt} (hy:d[n]? = some y) (h:y.name ∈ tyN d n):twiceS d=true:=by
 have:=nd_not h (tyN_succ hy▸tyN_pre d (n+1))
 simp[twiceS,this]
theorem twice_t2 {d:List Dt} {n k:Nat} {y:Dt} {c:Cn} (hy:d[n]? = some y) (hc:y.cons[k]? = some c) (h:c.name ∈ coK d n y k):twiceS d=true:=by
 have:=nd_not h (coK_succ (d:=d) (n:=n) hc▸coK_pre hy (k+1))
 simp[twiceS,this]
theorem twice_f {d:List Dt} (h1:(tyN d d.length).Nodup) (h2:(coN d d.length).Nodup):twiceS d=false:=by
 simp[twiceS,h1,h2]
def kvS (l:List ByteArray):List (D × V):=l.map fun s=>(.str s,.d (.bool true))
theorem kvS_find (s:ByteArray):∀ l:List ByteArray,findK .s (.str s) (kvS l)=some (if s ∈ l then some (.d (.bool true)) else none)
 | []=>rfl
 |x::l=>by
  unfold kvS
  rw[List.map_cons]
  by_cases h:s=x
  ·subst h;simp[findK,keyEq]
  ·simp only[findK,keyEq,h,decide_false,List.mem_cons,false_or]
   exact kvS_find s l
theorem kvS_put (s:ByteArray):∀ l:List ByteArray,s ∉ l→putK .s (.str s) (.d (.bool true)) (kvS l)=some (kvS (l++[s]))
 | [],_=>rfl
 |x::l,hs=>by
  have h:¬ s=x:=fun e=>hs (e▸List.mem_cons_self)
  have ih:=kvS_put s l (fun e=>hs (List.mem_cons_of_mem x e))
  unfold kvS at ih ⊢
  rw[List.map_cons]
  simp only[putK,keyEq,h,decide_false,ih,Option.map_some,List.cons_append,List.map_cons]
section
variable (h:Hp)
def HM (T C:List ByteArray) (q:Nat):Hp:=⟨(h.next+1,.mp (kvS C))::(h.next,.mp (kvS T))::h.objs,q⟩
theorem HM_T (T C q) (s:ByteArray):lk .s (.d (.bool false)) false (HM h T C q) (.map h.next) (.d (.str s))=some (.d (.bool (decide (s ∈ T)))):=by
 have:(HM h T C q).get h.next=some (.mp (kvS T)):=by
  unfold Hp.get HM;rw[look_tl _ _ (by omega),look_hd]
 unfold lk
 simp only[entries,this,Option.bind_some,kvS_find,Option.map_some]
 by_cases hs:s ∈ T<;>simp[hs]
theorem HM_C (T C q) (s:ByteArray):lk .s (.d (.bool false)) false (HM h T C q) (.map (h.next+1)) (.d (.str s))=some (.d (.bool (decide (s ∈ C)))):=by
 have:(HM h T C q).get (h.next+1)=some (.mp (kvS C)):=by
  unfold Hp.get HM;rw[look_hd]
 unfold lk
 simp only[entries,this,Option.bind_some,kvS_find,Option.map_some]
 by_cases hs:s ∈ C<;>simp[hs]
theorem HM_Tp (T C q) {s:ByteArray} (hs:s ∉ T):mu .s (HM h T C q) (.map h.next) (.d (.str s)) (.d (.bool true))=some (HM h (T++[s]) C q):=by
 have:(HM h T C q).get h.next=some (.mp (kvS T)):=by
  unfold Hp.get HM;rw[look_tl _ _ (by omega),look_hd]
 unfold mu
 simp only[this,stor_d,if_true,norm_d,kvS_put s T hs,Option.map_some]
 unfold Hp.set HM
 simp[upd]
theorem HM_Cp (T C q) {s:ByteArray} (hs:s ∉ C):mu .s (HM h T C q) (.map (h.next+1)) (.d (.str s)) (.d (.bool true))=some (HM h T (C++[s]) q):=by
 have:(HM h T C q).get (h.next+1)=some (.mp (kvS C)):=by
  unfold Hp.get HM;rw[look_hd]
 unfold mu
 simp only[this,stor_d,if_true,norm_d,kvS_put s C hs,Option.map_some]
 unfold Hp.set HM
 simp[upd]
end
theorem HM_next (h:Hp) (T C q):(HM h T C q).next=q:=rfl
theorem HM_up (h:Hp) (T C q):(⟨(HM h T C q).objs,q+1⟩:Hp)=HM h T C (q+1):=rfl
theorem HM_fin (h:Hp) (T C q) (x:D):finS h (HM h T C q) [.d x]=some (.d x,h):=finS1cc ..
theorem ptwice_ok {d:List Dt} (B:Bd d) (h:Hp):callW tab 55 [.d (eDs d)] h=some (.d (.bool (twiceS d)),h):=by
 refine call_wp (fn:=f55) rfl rfl ?_
 have hbl:=B.len
 have hmu0:mu .s ⟨(h.next,.mp [])::h.objs,h.next+1⟩ (.map h.next) (.d (.str sInt)) (.d (.bool true))=some ⟨(h.next,.mp (kvS (tyN d 0)))::h.objs,h.next+1⟩:=by
  simp[mu,Hp.get,Zv.look,putK,stor,norm_d,Hp.set,upd,kvS,tyN]
 have hH:(⟨(h.next+1,.mp [])::(h.next,.mp (kvS (tyN d 0)))::h.objs,h.next+1+1⟩:Hp)=HM h (tyN d 0) (coN d 0) (h.next+2):=rfl
 (simp only[e55,hmu0,hH,wz,opX,intBin,↓reduceIte,simprocAttr]<;>repeat' (first | refine wpG_s ?_ ?_ | refine wpC_s ?_ ?_)<;>intro hgo<;>(try simp only[dq] at hgo)<;>simp only[hgo,e55,hmu0,hH,wz,opX,intBin,↓reduceIte,simprocAttr])
 have inner:∀ (m:Nat) (y:Dt) (q:Nat),d[m]? = some y→(coN d m).Nodup→wp tab (.loop f55l0) [(3,.map h.next),(4,.map (h.next+1)),(12,.d (eDs d)),(13,.d (.int .i64 d.length)),(14,.d (.int .i64 m)),(26,.d (eCs y.cons)),(27,.d (.int .i64 y.cons.length)),(28,.d (.int .i64 0))] (HM h (tyN d (m+1)) (coN d m) q)
   (fun o=>∃ T C q',(o=(.ret,[(2,.d (.bool true))],HM h T C q')∧twiceS d=true)∨(o=(.exit 2,[(3,.map h.next),(4,.map (h.next+1)),(12,.d (eDs d)),(13,.d (.int .i64 d.length)),(14,.d (.int .i64 m)),(26,.d (eCs y.cons)),(27,.d (.int .i64 y.cons.length)),(28,.d (.int .i64 y.cons.length)),(29,.d (.bool false))],HM h (tyN d (m+1)) (coN d (m+1)) q')∧(coN d (m+1)).Nodup)):=by
  intro m y q hy hnd
  have b:=B.at hy
  refine loop_wp y.cons.length (fun k e h'=>(∃ q,h'=HM h (tyN d (m+1)) (coK d m y k) q)∧e=[(3,.map h.next),(4,.map (h.next+1)),(12,.d (eDs d)),(13,.d (.int .i64 d.length)),(14,.d (.int .i64 m)),(26,.d (eCs y.cons)),(27,.d (.int .i64 y.cons.length)),(28,.d (.int .i64 k))]∧(coK d m y k).Nodup) _ ?_ ?_ y.cons.length 0 _ _ (by omega) ⟨⟨q,by rw[coK_zero]⟩,rfl,by rw[coK_zero];exact hnd⟩
  ·rintro k e h' hk ⟨⟨q,rfl⟩,rfl,hn⟩
   obtain ⟨c,hc⟩:=get_of_lt hk
   have hw:=wrap_succ (show k<2 ^ 62 by omega)
   by_cases hm:c.name ∈ coK d m y k
   ·have ht:=twice_t2 hy hc hm
    (simp only[e55,hk,iaC hc,HM_next,HM_up,HM_C,hm,ht,wz,opX,intBin,↓reduceIte,simprocAttr]<;>repeat' (first | refine wpG_s ?_ ?_ | refine wpC_s ?_ ?_)<;>intro hgo<;>(try simp only[dq] at hgo)<;>simp only[hgo,e55,hk,iaC hc,HM_next,HM_up,HM_C,hm,ht,wz,opX,intBin,↓reduceIte,simprocAttr])
    exact⟨_,_,_,rfl⟩
   ·have hp:=fun q=>HM_Cp h (tyN d (m+1)) (coK d m y k) q hm
    (simp only[e55,hk,iaC hc,HM_next,HM_up,HM_C,hm,hp,hw,wz,opX,intBin,↓reduceIte,simprocAttr]<;>repeat' (first | refine wpG_s ?_ ?_ | refine wpC_s ?_ ?_)<;>intro hgo<;>(try simp only[dq] at hgo)<;>simp only[hgo,e55,hk,iaC hc,HM_next,HM_up,HM_C,hm,hp,hw,wz,opX,intBin,↓reduceIte,simprocAttr])
    exact⟨⟨_,by rw[coK_succ hc]⟩,by rw[coK_succ hc];exact nd_add hn hm⟩
  ·rintro e h' ⟨⟨q,rfl⟩,rfl,hn⟩
   (simp only[e55,wz,opX,intBin,↓reduceIte,simprocAttr]<;>repeat' (first | refine wpG_s ?_ ?_ | refine wpC_s ?_ ?_)<;>intro hgo<;>(try simp only[dq] at hgo)<;>simp only[hgo,e55,wz,opX,intBin,↓reduceIte,simprocAttr])
   rw[coK_all hy] at hn ⊢
   exact⟨[],[],_,rfl,hn⟩
 refine loop_wp d.length (fun k e h'=>(∃ q,h'=HM h (tyN d k) (coN d k) q)∧e=[(3,.map h.next),(4,.map (h.next+1)),(12,.d (eDs d)),(13,.d (.int .i64 d.length)),(14,.d (.int .i64 k))]∧(tyN d k).Nodup∧(coN d k).Nodup) _ ?_ ?_ d.length 0 _ _ (by omega) ⟨⟨_,rfl⟩,rfl,by simp[tyN],by simp[coN]⟩
 ·rintro k e h' hk ⟨⟨q,rfl⟩,rfl,hn1,hn2⟩
  obtain ⟨y,hy⟩:=get_of_lt hk
  have hw:=wrap_succ (show k<2 ^ 62 by omega)
  by_cases hm:y.name ∈ tyN d k
  ·have ht:=twice_t1 hy hm
   (simp only[e55,hk,iaD hy,HM_next,HM_up,HM_T,hm,ht,HM_fin,wz,opX,intBin,↓reduceIte,simprocAttr]<;>repeat' (first | refine wpG_s ?_ ?_ | refine wpC_s ?_ ?_)<;>intro hgo<;>(try simp only[dq] at hgo)<;>simp only[hgo,e55,hk,iaD hy,HM_next,HM_up,HM_T,hm,ht,HM_fin,wz,opX,intBin,↓reduceIte,simprocAttr])
  ·have hp:=fun q=>HM_Tp h (tyN d k) (coN d k) q hm
   (simp only[e55,hk,iaD hy,HM_next,HM_up,HM_T,hm,hp,wz,opX,intBin,↓reduceIte,simprocAttr]<;>repeat' (first | refine wpG_s ?_ ?_ | refine wpC_s ?_ ?_)<;>intro hgo<;>(try simp only[dq] at hgo)<;>simp only[hgo,e55,hk,iaD hy,HM_next,HM_up,HM_T,hm,hp,wz,opX,intBin,↓reduceIte,simprocAttr])
   rw[←tyN_succ hy]
   refine wq_mono (inner k y _ hy hn2) ?_
   rintro o ⟨T,C,q',⟨rfl,ht⟩ | ⟨rfl,hn3⟩⟩
   ·(simp only[e55,ht,HM_fin,wz,opX,intBin,↓reduceIte,simprocAttr]<;>repeat' (first | refine wpG_s ?_ ?_ | refine wpC_s ?_ ?_)<;>intro hgo<;>(try simp only[dq] at hgo)<;>simp only[hgo,e55,ht,HM_fin,wz,opX,intBin,↓reduceIte,simprocAttr])
   ·(simp only[e55,hw,wz,opX,intBin,↓reduceIte,simprocAttr]<;>repeat' (first | refine wpG_s ?_ ?_ | refine wpC_s ?_ ?_)<;>intro hgo<;>(try simp only[dq] at hgo)<;>simp only[hgo,e55,hw,wz,opX,intBin,↓reduceIte,simprocAttr])
    exact⟨⟨_,rfl⟩,by rw[tyN_succ hy];exact nd_add hn1 hm,hn3⟩
 ·rintro e h' ⟨⟨q,rfl⟩,rfl,hn1,hn2⟩
  (simp only[e55,HM_fin,twice_f hn1 hn2,wz,opX,intBin,↓reduceIte,simprocAttr]<;>repeat' (first | refine wpG_s ?_ ?_ | refine wpC_s ?_ ?_)<;>intro hgo<;>(try simp only[dq] at hgo)<;>simp only[hgo,e55,HM_fin,twice_f hn1 hn2,wz,opX,intBin,↓reduceIte,simprocAttr])
end Zc28
end
section
set_option maxHeartbeats 4000000
namespace Zc28
open Go Zv Zs
abbrev eS (s:ByteArray):D:=.str s
structure SlS (h:Hp) (v:V) (l:List ByteArray):Prop where
 len:lenL v=some (.d (.int .i64 l.length))
 at_:∀ (n:Nat) (x:ByteArray),l[n]? = some x→∃ a,ia 1 v (.d (.int .i64 (n:Int)))=some a∧ld false 1 h a=some (.d (.str x))
theorem SlS.own {h:Hp} {n:Nat} {l:List ByteArray} (hr:h.row n l.length=some (1,(l.map eS).map .d)):SlS h (.own n 1 l.length 0 l.length) l:=by
 refine ⟨lenL_own ..,fun k x hx=>⟨.ptr n l.length k 0,?_,?_⟩⟩
 ·have:=lt_of_get hx
  simp[ia,ixOf_nat,this]
 ·rw[ld_one,hr]
  simp[hx,V.cells,D.cells]
theorem SlS.nil (h:Hp):SlS h (.d (.lst [])) []:=⟨rfl,fun n x hx=>by simp at hx⟩
theorem in_ok {h:Hp} {v:V} {l:List ByteArray} (S:SlS h v l) (hl:l.length<2 ^ 60) (s:ByteArray):callW tab 137 [v,.d (.str s)] h=some (.d (.bool (decide (s ∈ l))),h):=by
 have e:decide (s ∈ l)=l.any fun x=>decide (x=s):=by
  cases hq:l.any fun x=>decide (x=s) with
  |true=>rw[decide_eq_true_eq];simpa using hq
  |false=>
   rw[decide_eq_false_iff_not]
   intro hm
   have:l.any (fun x=>decide (x=s))=true:=List.any_eq_true.2 ⟨s,hm,by simp⟩
   rw[hq] at this;cases this
 rw[e]
 refine call_wp (fn:=f137) rfl rfl ?_
 have hloop:=loop_any (T:=tab) (a:=f137l0) (l:=l) (p:=(fun x=>decide (x=s))) (f:=fun n=>[(0,v),(1,.d (.str s)),(5,int n)]) (h:=h)
   (by intro n x hx hlt hp;obtain ⟨a,ha,hla⟩:=S.at_ n x hx;simp only[decide_eq_true_eq,decide_eq_false_iff_not] at hp;all_goals (apply wq_ex.1;(simp only[hlt,hp,e137,S.len,ha,hla,wrap_succ (show n<2 ^ 62 by omega),wz,opX,intBin,↓reduceIte,simprocAttr]<;>repeat' (first | refine wpG_s ?_ ?_ | refine wpC_s ?_ ?_)<;>intro hgo<;>(try simp only[dq] at hgo)<;>simp only[hgo,hlt,hp,e137,S.len,ha,hla,wrap_succ (show n<2 ^ 62 by omega),wz,opX,intBin,↓reduceIte,simprocAttr])))
   (by intro n x hx hlt hp;obtain ⟨a,ha,hla⟩:=S.at_ n x hx;simp only[decide_eq_true_eq,decide_eq_false_iff_not] at hp;all_goals (apply wq_ex.1;(simp only[hlt,hp,e137,S.len,ha,hla,wrap_succ (show n<2 ^ 62 by omega),wz,opX,intBin,↓reduceIte,simprocAttr]<;>repeat' (first | refine wpG_s ?_ ?_ | refine wpC_s ?_ ?_)<;>intro hgo<;>(try simp only[dq] at hgo)<;>simp only[hgo,hlt,hp,e137,S.len,ha,hla,wrap_succ (show n<2 ^ 62 by omega),wz,opX,intBin,↓reduceIte,simprocAttr])<;>rfl))
   (by apply wq_ex.1;(simp only[e137,S.len,wz,opX,intBin,↓reduceIte,simprocAttr]<;>repeat' (first | refine wpG_s ?_ ?_ | refine wpC_s ?_ ?_)<;>intro hgo<;>(try simp only[dq] at hgo)<;>simp only[hgo,e137,S.len,wz,opX,intBin,↓reduceIte,simprocAttr])<;>rfl)
   (by simp) (by simp)
 simp only[int,Zv.bool,Int.cast_ofNat_Int] at hloop
 (simp only[e137,wq_of hloop,wz,opX,intBin,↓reduceIte,simprocAttr]<;>repeat' (first | refine wpG_s ?_ ?_ | refine wpC_s ?_ ?_)<;>intro hgo<;>(try simp only[dq] at hgo)<;>simp only[hgo,e137,wq_of hloop,wz,opX,intBin,↓reduceIte,simprocAttr])
 cases l.any fun x=>decide (x=s)<;>(simp only[e137,wz,opX,intBin,↓reduceIte,simprocAttr]<;>repeat' (first | refine wpG_s ?_ ?_ | refine wpC_s ?_ ?_)<;>intro hgo<;>(try simp only[dq] at hgo)<;>simp only[hgo,e137,wz,opX,intBin,↓reduceIte,simprocAttr])
section
variable (h:Hp)
def tV (T:List ByteArray):V:=.own h.next 1 T.length 0 T.length
def cV (C:List ByteArray):V:=if C=[] then .tl [] (some true) else .own (h.next+1) 1 C.length 0 C.length
def cT (C:List ByteArray):List (Nat × Ob):=if C=[] then [] else [(h.next+1,.arr 1 ((C.map eS).map .d))]
def cQ (C:List ByteArray):Nat:=if C=[] then h.next+1 else h.next+2
def HS (T C:List ByteArray):Hp:=⟨cT h C++(h.next,.arr 1 ((T.map eS).map .d))::h.objs,cQ h C⟩
theorem HS_T (T C):(HS h T C).row h.next T.length=some (1,(T.map eS).map .d):=by
 refine row_look ?_ (by simp)
 unfold HS cT
 split
 ·exact look_hd ..
 ·show look ((h.next+1,_)::(h.next,_)::h.objs) h.next=_
  rw[look_tl _ _ (by omega),look_hd]
theorem HS_C (T C) (hc:C≠[]):(HS h T C).row (h.next+1) C.length=some (1,(C.map eS).map .d):=by
 refine row_look ?_ (by simp)
 unfold HS cT
 rw[if_neg hc]
 exact look_hd ..
theorem HS_sT (T C):SlS (HS h T C) (tV h T) T:=SlS.own (HS_T h T C)
theorem HS_sC (T C):SlS (HS h T C) (norm (cV h C)) C:=by
 unfold cV
 split
 ·rename_i h0;subst h0;exact SlS.nil _
 ·rename_i h0;exact SlS.own (HS_C h T C h0)
theorem tV_norm (T):norm (tV h T)=tV h T:=rfl
theorem cell_s (l:List ByteArray):allV 1 ((l.map eS).map V.d)=true:=by
 simp[allV,V.cells,D.cells]
theorem HS_aT (T C) (s:ByteArray) (hT:T≠[]) (hl:T.length<2 ^ 20):app 1 16 (HS h T C) (tV h T) (.tl [.d (.str s)] (some false))=some (tV h (T++[s]),HS h (T++[s]) C):=by
 unfold app
 have hx:allV 1 [V.d (.str s)]=true:=cell_s [s]
 have hr:=HS_T h T C
 simp only[elems,Option.bind_some,List.map_cons,List.map_nil,norm_d,hx,if_true,tV]
 have hlen:T.length+1≤2 ^ 21:=by omega
 simp only[hr,Option.bind_some,List.length_map,Nat.zero_add,Nat.le_refl,and_self,if_true,List.isEmpty_cons,Bool.false_eq_true,if_false,List.length_cons,List.length_nil,List.length_append]
 rw[if_neg (by omega),if_pos (by unfold roomB;omega),List.take_of_length_le (by simp)]
 congr 2
 unfold HS cT Hp.set
 split
 ·simp[upd]
 ·simp[upd]
theorem HS_aC (T C) (s:ByteArray) (hl:C.length<2 ^ 20):app 1 16 (HS h T C) (cV h C) (.tl [.d (.str s)] (some false))=some (cV h (C++[s]),HS h T (C++[s])):=by
 have hx:allV 1 [V.d (.str s)]=true:=cell_s [s]
 have hne:C++[s]≠[]:=by simp
 by_cases h0:C=[]
 ·subst h0
  unfold app
  simp only[elems,Option.bind_some,List.map_cons,List.map_nil,norm_d,hx,if_true]
  simp[cV,HS,cT,cQ,Hp.alloc,allV,roomB]
 ·have e1:cV h C=.own (h.next+1) 1 C.length 0 C.length:=by unfold cV;rw[if_neg h0]
  have e2:cV h (C++[s])=.own (h.next+1) 1 (C.length+1) 0 (C.length+1):=by unfold cV;rw[if_neg hne];simp
  have hr:=HS_C h T C h0
  rw[e1,e2]
  unfold app
  simp only[elems,Option.bind_some,List.map_cons,List.map_nil,norm_d,hx,if_true]
  simp only[hr,Option.bind_some,List.length_map,Nat.zero_add,Nat.le_refl,and_self,if_true,List.isEmpty_cons,Bool.false_eq_true,if_false,List.length_cons,List.length_nil]
  rw[if_neg (by omega),if_pos (by unfold roomB;omega),List.take_of_length_le (by simp)]
  congr 2
  unfold HS cT cQ Hp.set
  rw[if_neg h0,if_neg hne,if_neg h0,if_neg hne]
  simp[upd]
theorem HS_fin (T C) (x:D):finS h (HS h T C) [.d x]=some (.d x,h):=by
 refine finS_suf (vs:=[x]) ?_
 unfold HS cT
 split
 ·exact suf_one _ _
 ·exact suf_two _ _ _
end
theorem rtwice_ok {d:List Dt} (B:Bd d) (h:Hp):callW tab 117 [.d (eDs d)] h=some (.d (.bool (twiceS d)),h):=by
 refine call_wp (fn:=f117) rfl rfl ?_
 have hbl:=B.len
 have ha0:app 1 16 h (.tl [] (some true)) (.tl [.d (.str sInt)] (some false))=some (tV h (tyN d 0),HS h (tyN d 0) (coN d 0)):=by
  unfold app
  have hx:allV 1 [V.d (.str sInt)]=true:=cell_s [sInt]
  simp only[elems,Option.bind_some,List.map_cons,List.map_nil,norm_d,hx,if_true]
  simp[tyN,coN,tV,HS,cT,cQ,Hp.alloc,allV,roomB]
 have hc0:(.tl [] (some true):V)=cV h (coN d 0):=rfl
 have tl:∀ n,(tyN d n).length≤101:=by intro n;unfold tyN;simp;omega
 have tn:∀ n,tyN d n≠[]:=by intro n;simp[tyN]
 have cl:∀ n y k,d[n]? = some y→(coK d n y k).length≤3030:=by
  intro n y k hy
  have b:=B.at hy
  have h1:(coN d n).length≤n*30:=by
   clear hy b
   induction n with
   |zero=>simp[coN]
   |succ n ih=>
    by_cases hlt:n<d.length
    ·obtain ⟨z,hz⟩:=get_of_lt hlt
     have b:=B.at hz
     rw[coN_succ hz,List.length_append,List.length_map]
     omega
    ·have:coN d (n+1)=coN d n:=by unfold coN;rw[List.take_of_length_le (by omega),List.take_of_length_le (by omega)]
     rw[this];omega
  unfold coK
  rw[List.length_append,List.length_map,List.length_take]
  omega
 have inner:∀ (m:Nat) (y:Dt),d[m]? = some y→(coN d m).Nodup→wp tab (.loop f117l0) [(0,.d (eDs d)),(3,tV h (tyN d (m+1))),(4,cV h (coN d m)),(5,.d (.int .i64 m)),(6,.d (.int .i64 0))] (HS h (tyN d (m+1)) (coN d m))
   (fun o=>∃ T C,(o=(.ret,[(2,.d (.bool true))],HS h T C)∧twiceS d=true)∨(o=(.exit 2,[(0,.d (eDs d)),(3,tV h (tyN d (m+1))),(4,cV h (coN d (m+1))),(5,.d (.int .i64 m)),(6,.d (.int .i64 y.cons.length)),(38,.d (.bool false))],HS h (tyN d (m+1)) (coN d (m+1)))∧(coN d (m+1)).Nodup)):=by
  intro m y hy hnd
  have b:=B.at hy
  refine loop_wp y.cons.length (fun k e h'=>h'=HS h (tyN d (m+1)) (coK d m y k)∧e=[(0,.d (eDs d)),(3,tV h (tyN d (m+1))),(4,cV h (coK d m y k)),(5,.d (.int .i64 m)),(6,.d (.int .i64 k))]∧(coK d m y k).Nodup) _ ?_ ?_ y.cons.length 0 _ _ (by omega) ⟨by rw[coK_zero],by rw[coK_zero];rfl,by rw[coK_zero];exact hnd⟩
  ·rintro k e h' hk ⟨rfl,rfl,hn⟩
   obtain ⟨c,hc⟩:=get_of_lt hk
   have hw:=wrap_succ (show k<2 ^ 62 by omega)
   have bl:=cl m y k hy
   have hin:=in_ok (HS_sC h (tyN d (m+1)) (coK d m y k)) (by omega) c.name
   by_cases hm:c.name ∈ coK d m y k
   ·have ht:=twice_t2 hy hc hm
    (simp only[e117,hk,iaD hy,iaC hc,hin,hm,ht,wz,opX,intBin,↓reduceIte,simprocAttr]<;>repeat' (first | refine wpG_s ?_ ?_ | refine wpC_s ?_ ?_)<;>intro hgo<;>(try simp only[dq] at hgo)<;>simp only[hgo,e117,hk,iaD hy,iaC hc,hin,hm,ht,wz,opX,intBin,↓reduceIte,simprocAttr])
    exact⟨_,_,rfl⟩
   ·have hp:=HS_aC h (tyN d (m+1)) (coK d m y k) c.name (by omega)
    rw[←coK_succ hc] at hp
    (simp only[e117,hk,iaD hy,iaC hc,hin,hm,hp,hw,wz,opX,intBin,↓reduceIte,simprocAttr]<;>repeat' (first | refine wpG_s ?_ ?_ | refine wpC_s ?_ ?_)<;>intro hgo<;>(try simp only[dq] at hgo)<;>simp only[hgo,e117,hk,iaD hy,iaC hc,hin,hm,hp,hw,wz,opX,intBin,↓reduceIte,simprocAttr])
    rw[coK_succ hc];exact nd_add hn hm
  ·rintro e h' ⟨rfl,rfl,hn⟩
   rw[coK_all hy] at hn
   (simp only[e117,iaD hy,coK_all hy,wz,opX,intBin,↓reduceIte,simprocAttr]<;>repeat' (first | refine wpG_s ?_ ?_ | refine wpC_s ?_ ?_)<;>intro hgo<;>(try simp only[dq] at hgo)<;>simp only[hgo,e117,iaD hy,coK_all hy,wz,opX,intBin,↓reduceIte,simprocAttr])
   exact⟨[],[],hn⟩
 (simp only[e117,ha0,wz,opX,intBin,↓reduceIte,simprocAttr]<;>repeat' (first | refine wpG_s ?_ ?_ | refine wpC_s ?_ ?_)<;>intro hgo<;>(try simp only[dq] at hgo)<;>simp only[hgo,e117,ha0,wz,opX,intBin,↓reduceIte,simprocAttr])
 refine loop_wp d.length (fun k e h'=>h'=HS h (tyN d k) (coN d k)∧e=[(0,.d (eDs d)),(3,tV h (tyN d k)),(4,cV h (coN d k)),(5,.d (.int .i64 k))]∧(tyN d k).Nodup∧(coN d k).Nodup) _ ?_ ?_ d.length 0 _ _ (by omega) ⟨rfl,rfl,by simp[tyN],by simp[coN]⟩
 ·rintro k e h' hk ⟨rfl,rfl,hn1,hn2⟩
  obtain ⟨y,hy⟩:=get_of_lt hk
  have hw:=wrap_succ (show k<2 ^ 62 by omega)
  have bl:=tl k
  have hin:=in_ok (HS_sT h (tyN d k) (coN d k)) (by omega) y.name
  by_cases hm:y.name ∈ tyN d k
  ·have ht:=twice_t1 hy hm
   (simp only[e117,hk,iaD hy,tV_norm,hin,hm,ht,HS_fin,wz,opX,intBin,↓reduceIte,simprocAttr]<;>repeat' (first | refine wpG_s ?_ ?_ | refine wpC_s ?_ ?_)<;>intro hgo<;>(try simp only[dq] at hgo)<;>simp only[hgo,e117,hk,iaD hy,tV_norm,hin,hm,ht,HS_fin,wz,opX,intBin,↓reduceIte,simprocAttr])
  ·have hp:=HS_aT h (tyN d k) (coN d k) y.name (tn k) (by omega)
   rw[←tyN_succ hy] at hp
   (simp only[e117,hk,iaD hy,tV_norm,hin,hm,hp,wz,opX,intBin,↓reduceIte,simprocAttr]<;>repeat' (first | refine wpG_s ?_ ?_ | refine wpC_s ?_ ?_)<;>intro hgo<;>(try simp only[dq] at hgo)<;>simp only[hgo,e117,hk,iaD hy,tV_norm,hin,hm,hp,wz,opX,intBin,↓reduceIte,simprocAttr])
   refine wq_mono (inner k y hy hn2) ?_
   rintro o ⟨T,C,⟨rfl,ht⟩ | ⟨rfl,hn3⟩⟩
   ·(simp only[e117,ht,HS_fin,wz,opX,intBin,↓reduceIte,simprocAttr]<;>repeat' (first | refine wpG_s ?_ ?_ | refine wpC_s ?_ ?_)<;>intro hgo<;>(try simp only[dq] at hgo)<;>simp only[hgo,e117,ht,HS_fin,wz,opX,intBin,↓reduceIte,simprocAttr])
   ·(simp only[e117,hw,wz,opX,intBin,↓reduceIte,simprocAttr]<;>repeat' (first | refine wpG_s ?_ ?_ | refine wpC_s ?_ ?_)<;>intro hgo<;>(try simp only[dq] at hgo)<;>simp only[hgo,e117,hw,wz,opX,intBin,↓reduceIte,simprocAttr])
    exact⟨by rw[tyN_succ hy];exact nd_add hn1 hm,hn3⟩
 ·rintro e h' ⟨rfl,rfl,hn1,hn2⟩
  (simp only[e117,HS_fin,twice_f hn1 hn2,wz,opX,intBin,↓reduceIte,simprocAttr]<;>repeat' (first | refine wpG_s ?_ ?_ | refine wpC_s ?_ ?_)<;>intro hgo<;>(try simp only[dq] at hgo)<;>simp only[hgo,e117,HS_fin,twice_f hn1 hn2,wz,opX,intBin,↓reduceIte,simprocAttr])
end Zc28
end
section
set_option maxHeartbeats 4000000
namespace Zc28
open Go Zv Zs
def mk (M:List Bool) (f:Int):Bool:=M.getD f.toNat false
def allD (M:List Bool) (c:Cn):Bool:=c.flds.all (mk M)
def stp (d:List Dt) (M:List Bool) (i:Nat):List Bool:=match d[i]? with
 |some y=>if y.cons.any (allD M)=true then M.set (i+1) true else M
 |none=>M
def passN (d:List Dt) (M:List Bool):Nat→List Bool
 |0=>M
 |n+1=>stp d (passN d M n) n
def pass (d:List Dt) (M:List Bool):List Bool:=passN d M d.length
def iter (d:List Dt) (M:List Bool):Nat→List Bool
 |0=>M
 |n+1=>pass d (iter d M n)
def marks (d:List Dt):List Bool:=true::List.replicate d.length false
def finiteS (d:List Dt):Bool:=(iter d (marks d) (d.length+1)).all id
theorem set_cnt:∀ (M:List Bool) (k:Nat),M.set k true=M∨cnt M<cnt (M.set k true)
 | [],_=>.inl rfl
 |b::M,0=>by
  cases b with
  |true=>exact .inl rfl
  |false=>right;simp[cnt]
 |b::M,k+1=>by
  rcases set_cnt M k with h | h
  ·left;rw[List.set_cons_succ,h]
  ·right
   unfold cnt at h ⊢
   rw[List.set_cons_succ,List.countP_cons,List.countP_cons]
   omega
theorem set_true {M:List Bool} {k:Nat} (h:M[k]? = some true):M.set k true=M:=by
 obtain ⟨hlt,h⟩:=List.getElem?_eq_some_iff.1 h
 rw[←h];exact List.set_getElem_self hlt
theorem set_false {M:List Bool} {k:Nat} (h:M[k]? = some false):M.set k false=M:=by
 obtain ⟨hlt,h⟩:=List.getElem?_eq_some_iff.1 h
 rw[←h];exact List.set_getElem_self hlt
theorem stp_at {d:List Dt} {M:List Bool} {i:Nat} {y:Dt} (hy:d[i]? = some y):stp d M i=if y.cons.any (allD M)=true then M.set (i+1) true else M:=by
 unfold stp;rw[hy]
theorem stp_len (d:List Dt) (M:List Bool) (i:Nat):(stp d M i).length=M.length:=by
 unfold stp
 split
 ·split
  ·exact List.length_set
  ·rfl
 ·rfl
theorem stp_cnt (d:List Dt) (M:List Bool) (i:Nat):stp d M i=M∨cnt M<cnt (stp d M i):=by
 unfold stp
 split
 ·split
  ·exact set_cnt M (i+1)
  ·exact .inl rfl
 ·exact .inl rfl
theorem passN_len (d:List Dt) (M:List Bool):∀ n,(passN d M n).length=M.length
 |0=>rfl
 |n+1=>by rw[passN,stp_len,passN_len d M n]
theorem passN_cnt (d:List Dt) (M:List Bool):∀ n,passN d M n=M∨cnt M<cnt (passN d M n)
 |0=>.inl rfl
 |n+1=>by
  rw[passN]
  rcases passN_cnt d M n with h | h<;>rcases stp_cnt d (passN d M n) n with k | k
  ·left;rw[k,h]
  ·right;rw[h] at k ⊢; exact k
  ·right;rw[k];exact h
  ·right;omega
theorem iter_len (d:List Dt) (M:List Bool):∀ n,(iter d M n).length=M.length
 |0=>rfl
 |n+1=>by rw[iter,pass,passN_len,iter_len d M n]
theorem cnt_le (M:List Bool):cnt M≤M.length:=List.countP_le_length
theorem iter_cnt (d:List Dt):∀ n,pass d (iter d (marks d) n)=iter d (marks d) n∨n+1<cnt (iter d (marks d) (n+1))
 |0=>by
  rcases passN_cnt d (marks d) d.length with h | h
  ·exact .inl h
  ·right
   have:1≤cnt (marks d):=by unfold cnt marks;rw[List.countP_cons];simp
   show 1<cnt (pass d (marks d))
   unfold pass;omega
 |n+1=>by
  rcases iter_cnt d n with h | h
  ·left
   show pass d (pass d (iter d (marks d) n))=pass d (iter d (marks d) n)
   rw[h,h]
  ·rcases passN_cnt d (iter d (marks d) (n+1)) d.length with k | k
   ·exact .inl k
   ·right
    show n+1+1<cnt (pass d (iter d (marks d) (n+1)))
    unfold pass;omega
theorem iter_fix (d:List Dt):pass d (iter d (marks d) (d.length+1))=iter d (marks d) (d.length+1):=by
 rcases iter_cnt d (d.length+1) with h | h
 ·exact h
 ·have h1:=cnt_le (iter d (marks d) (d.length+1+1))
  have h2:(marks d).length=d.length+1:=by simp[marks]
  rw[iter_len,h2] at h1
  omega
theorem iter_more {d:List Dt} {M:List Bool} {j:Nat} (h:pass d (iter d M j)=iter d M j):∀ k,iter d M (j+k)=iter d M j
 |0=>rfl
 |k+1=>by
  show pass d (iter d M (j+k))=_
  rw[iter_more h k,h]
theorem fix_eq {d:List Dt} {j:Nat} (h:pass d (iter d (marks d) j)=iter d (marks d) j):iter d (marks d) j=iter d (marks d) (d.length+1):=by
 by_cases hj:j≤d.length+1
 ·have:=iter_more h (d.length+1 - j)
  rw[show j+(d.length+1 - j)=d.length+1 by omega] at this
  exact this.symm
 ·have:=iter_more (iter_fix d) (j - (d.length+1))
  rw[show d.length+1+(j - (d.length+1))=j by omega] at this
  exact this
def typedS (d:List Dt):Bool:=d.all fun y=>y.cons.all fun c=>c.flds.all (isT d)
theorem typed_at {d:List Dt} (h:typedS d=true) {y:Dt} {c:Cn} {f:Int} (hy:y ∈ d) (hc:c ∈ y.cons) (hf:f ∈ c.flds):∃ n:Nat,f=n∧n<d.length+1:=by
 have:=List.all_eq_true.1 (List.all_eq_true.1 (List.all_eq_true.1 h y hy) c hc) f hf
 simp only[isT,Bool.and_eq_true,decide_eq_true_eq] at this
 exact⟨f.toNat,by omega,by omega⟩
theorem mk_at {M:List Bool} {n:Nat} {b:Bool} (h:M[n]? = some b):mk M (n:Int)=b:=by
 unfold mk
 rw[Int.toNat_natCast,List.getD_eq_getElem?_getD,h];rfl
theorem fold_and {α:Type} (p:α→Bool):∀ (l:List α) (b:Bool),l.foldl (fun b x=>if b=true then p x else false) b=(b && l.all p)
 | [],b=>by simp
 |x::l,b=>by
  rw[List.foldl_cons,fold_and p l,List.all_cons]
  cases b<;>simp
section
variable (h:Hp)
def HQ (M:List Bool):Hp:=⟨(h.next,.arr 1 (M.map bV))::h.objs,h.next+1⟩
theorem HQ_row (M:List Bool) {L:Nat} (hL:M.length=L):(HQ h M).row h.next L=some (1,M.map bV):=row_look (look_hd ..) (by simp[hL])
theorem HQ_st (M:List Bool) {L j:Nat} (hL:M.length=L) (b:Bool) (hj:j<L):st 1 (HQ h M) (.ptr h.next L j 0) (.d (.bool b))=some (HQ h (M.set j b)):=by
 unfold st
 have:(M.map bV)[j]? = some (bV (M[j]'(by omega))):=by simp[show j<M.length by omega]
 simp only[HQ_row h M hL,Option.bind_some,this]
 rw[if_pos (by simp[stor,V.cells,D.cells]),if_pos (by simp)]
 unfold HQ Hp.set
 simp[upd,List.map_set]
theorem HQ_fin (M:List Bool) (x:D):finS h (HQ h M) [.d x]=some (.d x,h):=finS1c ..
end
theorem ref_fold (M:List Bool) (i:Nat) (hi:i<M.length) (cs:List Cn) :
  cs.foldl (fun M c=>M.set i (if mk M (i:Int)=true then true else allD M c)) M=if cs.any (allD M)=true then M.set i true else M:=by
 have hget:=List.getElem?_eq_getElem hi
 by_cases hb:M[i]=true
 ·rw[hb] at hget
  have:∀ cs:List Cn,cs.foldl (fun M c=>M.set i (if mk M (i:Int)=true then true else allD M c)) M=M:=by
   intro cs
   induction cs with
   |nil=>rfl
   |cons c cs ih=>rw[List.foldl_cons,mk_at hget,if_pos rfl,set_true hget];exact ih
  rw[this,set_true hget];simp
 ·have hb:M[i]=false:=by simpa using hb
  rw[hb] at hget
  have h2:∀ cs:List Cn,cs.foldl (fun M c=>M.set i (if mk M (i:Int)=true then true else allD M c)) (M.set i true)=M.set i true:=by
   intro cs
   have hg2:(M.set i true)[i]? = some true:=by simp[hi]
   induction cs with
   |nil=>rfl
   |cons c cs ih=>rw[List.foldl_cons,mk_at hg2,if_pos rfl,set_true hg2];exact ih
  induction cs with
  |nil=>simp
  |cons c cs ih=>
   rw[List.foldl_cons,mk_at hget,List.any_cons]
   cases hc:allD M c with
   |true=>simp only[Bool.false_eq_true,if_false,Bool.true_or,if_true];exact h2 cs
   |false=>simp only[Bool.false_eq_true,if_false,Bool.false_or,set_false hget];exact ih
theorem rfinite_ok {d:List Dt} (B:Bd d) (Ty:typedS d=true) (h:Hp):callW tab 119 [.d (eDs d)] h=some (.d (.bool (finiteS d)),h):=by
 refine call_wp (fn:=f119) rfl rfl ?_
 have hbl:=B.len
 have hw0:=wrap_succ (show d.length<2 ^ 62 by omega)
 have hmk:mkslO (.d (.bool false)) 1 1 h (.d (.int .i64 ((d.length+1:Nat):Int)))=some (.own h.next 1 (d.length+1) 0 (d.length+1),HQ h (List.replicate (d.length+1) false)):=by
  simp only[mkslO,ixOf_nat,Option.bind_some]
  rw[if_pos (by unfold roomB;omega)]
  simp[HQ,Hp.alloc]
 have hi0:ia 1 (.own h.next 1 (d.length+1) 0 (d.length+1)) (.d (.int .i64 0))=some (.ptr h.next (d.length+1) 0 0):=ia_own (j:=0) .i64 (by omega)
 have hs0:st 1 (HQ h (List.replicate (d.length+1) false)) (.ptr h.next (d.length+1) 0 0) (.d (.bool true))=some (HQ h (marks d)):=by
  rw[HQ_st h _ (by simp) true (by omega)];rfl
 let ow:V:=.own h.next 1 (d.length+1) 0 (d.length+1)
 have l0:∀ (M:List Bool) (r i k:Nat) (y:Dt) (c:Cn),M.length=d.length+1→d[i]? = some y→y.cons[k]? = some c →
   ex tab (.loop f119l0) [(0,.d (eDs d)),(3,.own h.next 1 (d.length+1) 0 (d.length+1)),(4,.d (.int .i64 r)),(5,.d (.int .i64 i)),(6,.d (.int .i64 k)),(7,.d (.bool true)),(8,.d (eIs c.flds)),(9,.d (.int .i64 0))] (HQ h M) =
    some (.exit 6,[(0,.d (eDs d)),(3,.own h.next 1 (d.length+1) 0 (d.length+1)),(4,.d (.int .i64 r)),(5,.d (.int .i64 i)),(6,.d (.int .i64 k)),(7,.d (.bool (allD M c))),(8,.d (eIs c.flds)),(9,.d (.int .i64 c.flds.length)),(51,.d (.bool false))],HQ h M):=by
  intro M r i k y c hM hy hc
  have bc:=B.cat hy hc
  have:=loop_fold (T:=tab) (a:=f119l0) (l:=c.flds) (fun j s=>[(0,.d (eDs d)),(3,.own h.next 1 (d.length+1) 0 (d.length+1)),(4,.d (.int .i64 r)),(5,.d (.int .i64 i)),(6,.d (.int .i64 k)),(7,.d (.bool s)),(8,.d (eIs c.flds)),(9,int j)]) (fun _ _=>HQ h M) (fun _ _=>True)
   (fun s f=>if s=true then mk M f else false) (fun s=>(.exit 6,[(0,.d (eDs d)),(3,.own h.next 1 (d.length+1) 0 (d.length+1)),(4,.d (.int .i64 r)),(5,.d (.int .i64 i)),(6,.d (.int .i64 k)),(7,.d (.bool s)),(8,.d (eIs c.flds)),(9,.d (.int .i64 c.flds.length)),(51,.d (.bool false))],HQ h M))
   (by
    intro j s x hx hlt _
    refine ⟨?_,trivial⟩
    obtain ⟨n,rfl,hn⟩:=typed_at Ty (List.mem_of_getElem? hy) (List.mem_of_getElem? hc) (List.mem_of_getElem? hx)
    obtain ⟨b,hb⟩:=get_of_lt (l:=M) (n:=n) (by omega)
    apply wq_ex.1
    have hl:=ld_bit (HQ_row h M hM) hb
    have hio:=ia_own (es:=1) (n:=h.next) (tot:=d.length+1) .i64 hn
    cases s<;>(simp only[e119,hlt,iaI hx,hio,hl,mk_at hb,wrap_succ (show j<2 ^ 62 by omega),wz,opX,intBin,↓reduceIte,simprocAttr]<;>repeat' (first | refine wpG_s ?_ ?_ | refine wpC_s ?_ ?_)<;>intro hgo<;>(try simp only[dq] at hgo)<;>simp only[hgo,e119,hlt,iaI hx,hio,hl,mk_at hb,wrap_succ (show j<2 ^ 62 by omega),wz,opX,intBin,↓reduceIte,simprocAttr]))
   (by
    intro s _
    apply wq_ex.1
    (simp only[e119,wz,opX,intBin,↓reduceIte,simprocAttr]<;>repeat' (first | refine wpG_s ?_ ?_ | refine wpC_s ?_ ?_)<;>intro hgo<;>(try simp only[dq] at hgo)<;>simp only[hgo,e119,wz,opX,intBin,↓reduceIte,simprocAttr]))
   (by intro s;simp) true trivial
  rw[fold_and,Bool.true_and] at this
  simp only[int,Int.cast_ofNat_Int] at this
  exact this
 have l1:∀ (M:List Bool) (r i:Nat) (y:Dt),M.length=d.length+1→d[i]? = some y →
   ex tab (.loop f119l1) [(0,.d (eDs d)),(3,.own h.next 1 (d.length+1) 0 (d.length+1)),(4,.d (.int .i64 r)),(5,.d (.int .i64 i)),(6,.d (.int .i64 0))] (HQ h M) =
    some (.exit 4,[(0,.d (eDs d)),(3,.own h.next 1 (d.length+1) 0 (d.length+1)),(4,.d (.int .i64 r)),(5,.d (.int .i64 i)),(6,.d (.int .i64 y.cons.length)),(36,.d (.bool false))],HQ h (stp d M i)):=by
  intro M r i y hM hy
  have b:=B.at hy
  have hw1:=wrap_succ (show i<2 ^ 62 by omega)
  have hi1:=ia_own (es:=1) (n:=h.next) (tot:=d.length+1) (j:=i+1) (len:=d.length+1) .i64 (by omega)
  have:=loop_fold (T:=tab) (a:=f119l1) (l:=y.cons) (fun j _=>[(0,.d (eDs d)),(3,.own h.next 1 (d.length+1) 0 (d.length+1)),(4,.d (.int .i64 r)),(5,.d (.int .i64 i)),(6,int j)]) (fun _ s=>HQ h s) (fun _ s=>s.length=d.length+1)
   (fun M c=>M.set (i+1) (if mk M ((i+1:Nat):Int)=true then true else allD M c)) (fun s=>(.exit 4,[(0,.d (eDs d)),(3,.own h.next 1 (d.length+1) 0 (d.length+1)),(4,.d (.int .i64 r)),(5,.d (.int .i64 i)),(6,.d (.int .i64 y.cons.length)),(36,.d (.bool false))],HQ h s))
   (by
    intro j s x hx hlt hs
    refine ⟨?_,by rw[List.length_set];exact hs⟩
    obtain ⟨b,hb⟩:=get_of_lt (l:=s) (n:=i+1) (by omega)
    have hl:=ld_bit (HQ_row h s hs) hb
    have hin:=l0 s r i j y x hs hy hx
    have hst:=fun b=>HQ_st h s (j:=i+1) hs b (by omega)
    apply wq_ex.1
    (simp only[e119,hlt,iaD hy,iaC hx,wq_of hin,hw1,hi1,hl,hst,mk_at hb,wrap_succ (show j<2 ^ 62 by omega),wz,opX,intBin,↓reduceIte,simprocAttr]<;>repeat' (first | refine wpG_s ?_ ?_ | refine wpC_s ?_ ?_)<;>intro hgo<;>(try simp only[dq] at hgo)<;>simp only[hgo,e119,hlt,iaD hy,iaC hx,wq_of hin,hw1,hi1,hl,hst,mk_at hb,wrap_succ (show j<2 ^ 62 by omega),wz,opX,intBin,↓reduceIte,simprocAttr]))
   (by
    intro s _
    apply wq_ex.1
    (simp only[e119,iaD hy,wz,opX,intBin,↓reduceIte,simprocAttr]<;>repeat' (first | refine wpG_s ?_ ?_ | refine wpC_s ?_ ?_)<;>intro hgo<;>(try simp only[dq] at hgo)<;>simp only[hgo,e119,iaD hy,wz,opX,intBin,↓reduceIte,simprocAttr]))
   (by intro s;simp) M hM
  rw[ref_fold M (i+1) (by omega),←stp_at hy] at this
  simp only[int,Int.cast_ofNat_Int] at this
  exact this
 have l2:∀ (M:List Bool) (r:Nat),M.length=d.length+1 →
   wp tab (.loop f119l2) [(0,.d (eDs d)),(3,.own h.next 1 (d.length+1) 0 (d.length+1)),(4,.d (.int .i64 r)),(5,.d (.int .i64 0))] (HQ h M)
    (fun o=>o=(.exit 2,[(0,.d (eDs d)),(3,.own h.next 1 (d.length+1) 0 (d.length+1)),(4,.d (.int .i64 r)),(5,.d (.int .i64 d.length)),(26,.d (.bool false))],HQ h (pass d M))):=by
  intro M r hM
  refine loop_wp d.length (fun i e h'=>h'=HQ h (passN d M i)∧e=[(0,.d (eDs d)),(3,.own h.next 1 (d.length+1) 0 (d.length+1)),(4,.d (.int .i64 r)),(5,.d (.int .i64 i))]) _ ?_ ?_ d.length 0 _ _ (by omega) ⟨rfl,rfl⟩
  ·rintro i e h' hi ⟨rfl,rfl⟩
   obtain ⟨y,hy⟩:=get_of_lt hi
   have hin:=l1 (passN d M i) r i y (by rw[passN_len];exact hM) hy
   (simp only[e119,hi,wq_of hin,wrap_succ (show i<2 ^ 62 by omega),wz,opX,intBin,↓reduceIte,simprocAttr]<;>repeat' (first | refine wpG_s ?_ ?_ | refine wpC_s ?_ ?_)<;>intro hgo<;>(try simp only[dq] at hgo)<;>simp only[hgo,e119,hi,wq_of hin,wrap_succ (show i<2 ^ 62 by omega),wz,opX,intBin,↓reduceIte,simprocAttr])
   rfl
  ·rintro e h' ⟨rfl,rfl⟩
   (simp only[e119,wz,opX,intBin,↓reduceIte,simprocAttr]<;>repeat' (first | refine wpG_s ?_ ?_ | refine wpC_s ?_ ?_)<;>intro hgo<;>(try simp only[dq] at hgo)<;>simp only[hgo,e119,wz,opX,intBin,↓reduceIte,simprocAttr])
   rfl
 (simp only[e119,hw0,hmk,hi0,hs0,wz,opX,intBin,↓reduceIte,simprocAttr]<;>repeat' (first | refine wpG_s ?_ ?_ | refine wpC_s ?_ ?_)<;>intro hgo<;>(try simp only[dq] at hgo)<;>simp only[hgo,e119,hw0,hmk,hi0,hs0,wz,opX,intBin,↓reduceIte,simprocAttr])
 refine loop_wp (d.length+1) (fun r e h'=>h'=HQ h (iter d (marks d) r)∧e=[(0,.d (eDs d)),(3,.own h.next 1 (d.length+1) 0 (d.length+1)),(4,.d (.int .i64 r))]) _ ?_ ?_ (d.length+1) 0 _ _ (by omega) ⟨rfl,rfl⟩
 ·rintro r e h' hr ⟨rfl,rfl⟩
  have hr':r≤d.length:=by omega
  (simp only[e119,hr',wz,opX,intBin,↓reduceIte,simprocAttr]<;>repeat' (first | refine wpG_s ?_ ?_ | refine wpC_s ?_ ?_)<;>intro hgo<;>(try simp only[dq] at hgo)<;>simp only[hgo,e119,hr',wz,opX,intBin,↓reduceIte,simprocAttr])
  refine wq_mono (l2 _ r (by rw[iter_len];simp[marks])) ?_
  rintro o rfl
  (simp only[e119,wrap_succ (show r<2 ^ 62 by omega),wz,opX,intBin,↓reduceIte,simprocAttr]<;>repeat' (first | refine wpG_s ?_ ?_ | refine wpC_s ?_ ?_)<;>intro hgo<;>(try simp only[dq] at hgo)<;>simp only[hgo,e119,wrap_succ (show r<2 ^ 62 by omega),wz,opX,intBin,↓reduceIte,simprocAttr])
  rfl
 ·rintro e h' ⟨rfl,rfl⟩
  have hr':¬ d.length+1≤d.length:=by omega
  have hlen:(iter d (marks d) (d.length+1)).length=d.length+1:=by rw[iter_len];simp[marks]
  (simp only[e119,hr',wz,opX,intBin,↓reduceIte,simprocAttr]<;>repeat' (first | refine wpG_s ?_ ?_ | refine wpC_s ?_ ?_)<;>intro hgo<;>(try simp only[dq] at hgo)<;>simp only[hgo,e119,hr',wz,opX,intBin,↓reduceIte,simprocAttr])
  have hloop:=loop_any (T:=tab) (a:=f119l4) (l:=iter d (marks d) (d.length+1)) (p:=(fun b => !b)) (f:=fun n=>[(3,.own h.next 1 (d.length+1) 0 (d.length+1)),(10,int n)]) (h:=HQ h (iter d (marks d) (d.length+1)))
    (by intro n x hx hlt hp;have hl:=ld_bit (HQ_row h _ hlen) hx;have hlt':n<d.length+1:=(by omega);have hio:=ia_own (es:=1) (n:=h.next) (tot:=d.length+1) .i64 hlt';simp only[Bool.not_eq_true',Bool.not_eq_false'] at hp;all_goals (apply wq_ex.1;(simp only[hlt,hp,e119,hlt',hio,hl,wrap_succ (show n<2 ^ 62 by omega),wz,opX,intBin,↓reduceIte,simprocAttr]<;>repeat' (first | refine wpG_s ?_ ?_ | refine wpC_s ?_ ?_)<;>intro hgo<;>(try simp only[dq] at hgo)<;>simp only[hgo,hlt,hp,e119,hlt',hio,hl,wrap_succ (show n<2 ^ 62 by omega),wz,opX,intBin,↓reduceIte,simprocAttr])))
    (by intro n x hx hlt hp;have hl:=ld_bit (HQ_row h _ hlen) hx;have hlt':n<d.length+1:=(by omega);have hio:=ia_own (es:=1) (n:=h.next) (tot:=d.length+1) .i64 hlt';simp only[Bool.not_eq_true',Bool.not_eq_false'] at hp;all_goals (apply wq_ex.1;(simp only[hlt,hp,e119,hlt',hio,hl,wrap_succ (show n<2 ^ 62 by omega),wz,opX,intBin,↓reduceIte,simprocAttr]<;>repeat' (first | refine wpG_s ?_ ?_ | refine wpC_s ?_ ?_)<;>intro hgo<;>(try simp only[dq] at hgo)<;>simp only[hgo,hlt,hp,e119,hlt',hio,hl,wrap_succ (show n<2 ^ 62 by omega),wz,opX,intBin,↓reduceIte,simprocAttr])<;>rfl))
    (by apply wq_ex.1;(simp only[e119,hlen,wz,opX,intBin,↓reduceIte,simprocAttr]<;>repeat' (first | refine wpG_s ?_ ?_ | refine wpC_s ?_ ?_)<;>intro hgo<;>(try simp only[dq] at hgo)<;>simp only[hgo,e119,hlen,wz,opX,intBin,↓reduceIte,simprocAttr])<;>rfl)
    (by simp) (by simp)
  simp only[int,Zv.bool,Int.cast_ofNat_Int] at hloop
  (simp only[e119,wq_of hloop,wz,opX,intBin,↓reduceIte,simprocAttr]<;>repeat' (first | refine wpG_s ?_ ?_ | refine wpC_s ?_ ?_)<;>intro hgo<;>(try simp only[dq] at hgo)<;>simp only[hgo,e119,wq_of hloop,wz,opX,intBin,↓reduceIte,simprocAttr])
  have:∀ l:List Bool,(l.any fun b => !b) = !l.all id:=by
   intro l;induction l with
   |nil=>rfl
   |cons b l ih=>rw[List.any_cons,List.all_cons,ih];cases b<;>simp
  rw[this]
  unfold finiteS
  cases (iter d (marks d) (d.length+1)).all id<;>(simp only[e119,HQ_fin,wz,opX,intBin,↓reduceIte,simprocAttr]<;>repeat' (first | refine wpG_s ?_ ?_ | refine wpC_s ?_ ?_)<;>intro hgo<;>(try simp only[dq] at hgo)<;>simp only[hgo,e119,HQ_fin,wz,opX,intBin,↓reduceIte,simprocAttr])
end Zc28
end
section
set_option maxHeartbeats 4000000
namespace Zc28
open Go Zv Zs
structure RM (H:Hp) (b a L:Nat) (M:List Bool):Prop where
 len:M.length=L
 box:H.row b 1=some (1,[.own a 1 L 0 L])
 row:H.row a L=some (1,M.map bV)
theorem RM.up {H:Hp} {b a L:Nat} {M:List Bool} (R:RM H b a L M) (q:Nat):RM ⟨H.objs,q⟩ b a L M:=⟨R.len,R.box,R.row⟩
theorem fin11_ok {H:Hp} {b a L n:Nat} {M:List Bool} (R:RM H b a L M) (hn:n<L):callW tab 103 [.d (eI n),.ptr b 1 0 0] H=some (.d (.bool (!mk M n)),H):=by
 refine call_wp (fn:=f103) rfl rfl ?_
 obtain ⟨x,hx⟩:=get_of_lt (l:=M) (n:=n) (by rw[R.len];exact hn)
 (simp only[e103,R.box,ia_own (es:=1) (n:=a) (tot:=L) .i64 hn,ld_bit R.row hx,mk_at hx,wz,opX,intBin,↓reduceIte,simprocAttr]<;>repeat' (first | refine wpG_s ?_ ?_ | refine wpC_s ?_ ?_)<;>intro hgo<;>(try simp only[dq] at hgo)<;>simp only[hgo,e103,R.box,ia_own (es:=1) (n:=a) (tot:=L) .i64 hn,ld_bit R.row hx,mk_at hx,wz,opX,intBin,↓reduceIte,simprocAttr])
theorem fin1_ok {H:Hp} {b a L:Nat} {M:List Bool} (R:RM H b a L M) (c:Cn) (hc:c.flds.length<2 ^ 60) (hf:∀ f,f ∈ c.flds→∃ n:Nat,f=n∧n<L):callW tab 102 [.d (eC c),.ptr b 1 0 0] H=some (.d (.bool (allD M c)),H):=by
 refine call_wp (fn:=f102) rfl rfl ?_
 have hcont:=conFT c.flds (.clo 103 [.ptr b 1 0 0]) (fun f => !mk M f) ⟨H.objs,H.next+1⟩ hc rfl
  (fun f hfm=>by obtain ⟨n,rfl,hn⟩:=hf f hfm;exact fin11_ok (R.up _) hn)
 have e:(!c.flds.any fun f => !mk M f)=allD M c:=by
  unfold allD
  have:∀ l:List Int,(!l.any fun f => !mk M f)=l.all (mk M):=by
   intro l;induction l with
   |nil=>rfl
   |cons b l ih=>rw[List.any_cons,List.all_cons,←ih];cases mk M b<;>simp
  exact this _
 (simp only[e102,hcont,e,wz,opX,intBin,↓reduceIte,simprocAttr]<;>repeat' (first | refine wpG_s ?_ ?_ | refine wpC_s ?_ ?_)<;>intro hgo<;>(try simp only[dq] at hgo)<;>simp only[hgo,e102,hcont,e,wz,opX,intBin,↓reduceIte,simprocAttr])
theorem indB {h:Hp} {a L:Nat} {M:List Bool} (hr:h.row a L=some (1,M.map bV)) (hL:M.length=L) (hl:L<2 ^ 60) (b:Bool):callW tab 114 [.own a 1 L 0 L,.d (.bool b)] h=some (.d (eI (idxZ (fun x=>b == x) M)),h):=by
 refine call_wp (fn:=f114) rfl rfl ?_
 have hloop:=loop_find (T:=tab) (a:=f114l0) (l:=M) (p:=(fun x=>b == x)) (f:=fun n=>[(0,.own a 1 L 0 L),(1,.d (.bool b)),(7,int L),(8,int n)]) (h:=h)
   (by intro n x hx hlt hp;have hlt':n<L:=(by omega);have hio:=ia_own (es:=1) (n:=a) (tot:=L) .i64 hlt';have hl:=ld_bit hr hx;all_goals (apply wq_ex.1;(simp only[hlt,hp,e114,hlt',hio,hl,wrap_succ (show n<2 ^ 62 by omega),wz,opX,intBin,↓reduceIte,simprocAttr]<;>repeat' (first | refine wpG_s ?_ ?_ | refine wpC_s ?_ ?_)<;>intro hgo<;>(try simp only[dq] at hgo)<;>simp only[hgo,hlt,hp,e114,hlt',hio,hl,wrap_succ (show n<2 ^ 62 by omega),wz,opX,intBin,↓reduceIte,simprocAttr])))
   (by intro n x hx hlt hp;have hlt':n<L:=(by omega);have hio:=ia_own (es:=1) (n:=a) (tot:=L) .i64 hlt';have hl:=ld_bit hr hx;all_goals (apply wq_ex.1;(simp only[hlt,hp,e114,hlt',hio,hl,wrap_succ (show n<2 ^ 62 by omega),wz,opX,intBin,↓reduceIte,simprocAttr]<;>repeat' (first | refine wpG_s ?_ ?_ | refine wpC_s ?_ ?_)<;>intro hgo<;>(try simp only[dq] at hgo)<;>simp only[hgo,hlt,hp,e114,hlt',hio,hl,wrap_succ (show n<2 ^ 62 by omega),wz,opX,intBin,↓reduceIte,simprocAttr])<;>rfl))
   (by apply wq_ex.1;(simp only[e114,hL,wz,opX,intBin,↓reduceIte,simprocAttr]<;>repeat' (first | refine wpG_s ?_ ?_ | refine wpC_s ?_ ?_)<;>intro hgo<;>(try simp only[dq] at hgo)<;>simp only[hgo,e114,hL,wz,opX,intBin,↓reduceIte,simprocAttr])<;>rfl)
   (by intro n x;simp) (by simp)
 simp only[int,Zv.bool,Int.cast_ofNat_Int] at hloop
 (simp only[e114,wq_of hloop,wz,opX,intBin,↓reduceIte,simprocAttr]<;>repeat' (first | refine wpG_s ?_ ?_ | refine wpC_s ?_ ?_)<;>intro hgo<;>(try simp only[dq] at hgo)<;>simp only[hgo,e114,wq_of hloop,wz,opX,intBin,↓reduceIte,simprocAttr])
 unfold idxZ
 cases fst? (fun x=>b == x) 0 M with
 |none=>(simp only[e114,wz,opX,intBin,↓reduceIte,simprocAttr]<;>repeat' (first | refine wpG_s ?_ ?_ | refine wpC_s ?_ ?_)<;>intro hgo<;>(try simp only[dq] at hgo)<;>simp only[hgo,e114,wz,opX,intBin,↓reduceIte,simprocAttr])
 |some n=>(simp only[e114,wz,opX,intBin,↓reduceIte,simprocAttr]<;>repeat' (first | refine wpG_s ?_ ?_ | refine wpC_s ?_ ?_)<;>intro hgo<;>(try simp only[dq] at hgo)<;>simp only[hgo,e114,wz,opX,intBin,↓reduceIte,simprocAttr])
theorem containsB {h:Hp} {a L:Nat} {M:List Bool} (hr:h.row a L=some (1,M.map bV)) (hL:M.length=L) (hl:L<2 ^ 60) (b:Bool):callW tab 70 [.own a 1 L 0 L,.d (.bool b)] h=some (.d (.bool (M.any fun x=>b == x)),h):=by
 refine call_wp (fn:=f70) rfl rfl ?_
 (simp only[e70,indB hr hL hl b,idxZ_nn,Bool.decide_eq_true,wz,opX,intBin,↓reduceIte,simprocAttr]<;>repeat' (first | refine wpG_s ?_ ?_ | refine wpC_s ?_ ?_)<;>intro hgo<;>(try simp only[dq] at hgo)<;>simp only[hgo,e70,indB hr hL hl b,idxZ_nn,Bool.decide_eq_true,wz,opX,intBin,↓reduceIte,simprocAttr])
section
variable (h:Hp) (L:Nat)
def HP (M:List Bool):Hp:=⟨(h.next+1,.arr 1 [.own h.next 1 L 0 L])::(h.next,.arr 1 (M.map bV))::h.objs,h.next+2⟩
theorem HP_R (M:List Bool) (hL:M.length=L):RM (HP h L M) (h.next+1) h.next L M:=by
 refine ⟨hL,row_look (look_hd ..) rfl,row_look ?_ (by simp[hL])⟩
 unfold HP
 rw[look_tl _ _ (by omega),look_hd]
theorem HP_st (M:List Bool) {j:Nat} (hL:M.length=L) (b:Bool) (hj:j<L):st 1 (HP h L M) (.ptr h.next L j 0) (.d (.bool b))=some (HP h L (M.set j b)):=by
 unfold st
 have:(M.map bV)[j]? = some (bV (M[j]'(by omega))):=by simp[show j<M.length by omega]
 simp only[(HP_R h L M hL).row,Option.bind_some,this]
 rw[if_pos (by simp[stor,V.cells,D.cells]),if_pos (by simp)]
 unfold HP Hp.set
 simp[upd,List.map_set]
theorem HP_fin (M:List Bool) (x:D):finS h (HP h L M) [.d x]=some (.d x,h):=finS1cc ..
end
theorem pfinite_ok {d:List Dt} (B:Bd d) (Ty:typedS d=true) (h:Hp):callW tab 59 [.d (eDs d)] h=some (.d (.bool (finiteS d)),h):=by
 refine call_wp (fn:=f59) rfl rfl ?_
 have hbl:=B.len
 have hw0:=wrap_succ (show d.length<2 ^ 62 by omega)
 have hmk:mkslO (.d (.bool false)) 1 1 h (.d (.int .i64 ((d.length+1:Nat):Int)))=some (.own h.next 1 (d.length+1) 0 (d.length+1),⟨(h.next,.arr 1 ((List.replicate (d.length+1) false).map bV))::h.objs,h.next+1⟩):=by
  simp only[mkslO,ixOf_nat,Option.bind_some]
  rw[if_pos (by unfold roomB;omega)]
  simp[Hp.alloc]
 have hH:(⟨(h.next+1,.arr 1 [.own h.next 1 (d.length+1) 0 (d.length+1)])::(h.next,.arr 1 ((List.replicate (d.length+1) false).map bV))::h.objs,h.next+1+1⟩:Hp)=HP h (d.length+1) (List.replicate (d.length+1) false):=rfl
 have hR0:=(HP_R h (d.length+1) (List.replicate (d.length+1) false) (by simp)).box
 have hi0:ia 1 (.own h.next 1 (d.length+1) 0 (d.length+1)) (.d (.int .i64 0))=some (.ptr h.next (d.length+1) 0 0):=ia_own (j:=0) .i64 (by omega)
 have hs0:st 1 (HP h (d.length+1) (List.replicate (d.length+1) false)) (.ptr h.next (d.length+1) 0 0) (.d (.bool true))=some (HP h (d.length+1) (marks d)):=by
  rw[HP_st h _ _ (by simp) true (by omega)];rfl
 have l0:∀ (M:List Bool),M.length=d.length+1 →
   wp tab (.loop f59l0) [(0,.d (eDs d)),(3,.ptr (h.next+1) 1 0 0),(4,.d (.bool false)),(15,.d (.int .i64 d.length)),(16,.d (.int .i64 0))] (HP h (d.length+1) M)
    (fun o=>∃ b,o=(.exit 2,[(0,.d (eDs d)),(3,.ptr (h.next+1) 1 0 0),(4,.d (.bool b)),(15,.d (.int .i64 d.length)),(16,.d (.int .i64 d.length)),(17,.d (.bool false))],HP h (d.length+1) (pass d M))∧(b=false→pass d M=M)∧(b=true→cnt M<cnt (pass d M))):=by
  intro M hM
  refine loop_wp d.length (fun i e h'=>∃ b,h'=HP h (d.length+1) (passN d M i)∧e=[(0,.d (eDs d)),(3,.ptr (h.next+1) 1 0 0),(4,.d (.bool b)),(15,.d (.int .i64 d.length)),(16,.d (.int .i64 i))]∧(b=false→passN d M i=M)∧(b=true→cnt M<cnt (passN d M i))) _ ?_ ?_ d.length 0 _ _ (by omega) ⟨false,rfl,rfl,fun _=>rfl,fun h=>by cases h⟩
  ·rintro i e h' hi ⟨b,rfl,rfl,hb0,hb1⟩
   obtain ⟨y,hy⟩:=get_of_lt hi
   have by_:=B.at hy
   have hlen:(passN d M i).length=d.length+1:=by rw[passN_len];exact hM
   have R:=HP_R h (d.length+1) (passN d M i) hlen
   have hcont:=conFC y.cons (.clo 102 [.ptr (h.next+1) 1 0 0]) (allD (passN d M i)) (HP h (d.length+1) (passN d M i)) (by omega) rfl
    (fun c hc=>fin1_ok R c (by have:=B.flds y (List.mem_of_getElem? hy) c hc;omega) (fun f hf=>typed_at Ty (List.mem_of_getElem? hy) hc hf))
   have hw:=wrap_succ (show i<2 ^ 62 by omega)
   obtain ⟨x,hx⟩:=get_of_lt (l:=passN d M i) (n:=i+1) (by omega)
   have hi1:=ia_own (es:=1) (n:=h.next) (tot:=d.length+1) (j:=i+1) (len:=d.length+1) .i64 (by omega)
   have hl:=ld_bit R.row hx
   have hst:=HP_st h (d.length+1) (passN d M i) (j:=i+1) hlen true (by omega)
   have hs:=stp_at (M:=passN d M i) hy
   have hbx:=R.box
   cases hr:y.cons.any (allD (passN d M i)) with
   |false=>
    rw[hr,if_neg (by simp)] at hs
    (simp only[e59,hi,iaD hy,hcont,hr,hw,wz,opX,intBin,↓reduceIte,simprocAttr]<;>repeat' (first | refine wpG_s ?_ ?_ | refine wpC_s ?_ ?_)<;>intro hgo<;>(try simp only[dq] at hgo)<;>simp only[hgo,e59,hi,iaD hy,hcont,hr,hw,wz,opX,intBin,↓reduceIte,simprocAttr])
    refine ⟨b,?_,rfl,?_,?_⟩
    ·rw[passN,hs]
    ·rw[passN,hs];exact hb0
    ·rw[passN,hs];exact hb1
   |true=>
    rw[hr,if_pos rfl] at hs
    cases x with
    |true=>
     rw[set_true hx] at hs
     (simp only[e59,hi,iaD hy,hcont,hr,hw,hbx,hi1,hl,wz,opX,intBin,↓reduceIte,simprocAttr]<;>repeat' (first | refine wpG_s ?_ ?_ | refine wpC_s ?_ ?_)<;>intro hgo<;>(try simp only[dq] at hgo)<;>simp only[hgo,e59,hi,iaD hy,hcont,hr,hw,hbx,hi1,hl,wz,opX,intBin,↓reduceIte,simprocAttr])
     refine ⟨b,?_,rfl,?_,?_⟩
     ·rw[passN,hs]
     ·rw[passN,hs];exact hb0
     ·rw[passN,hs];exact hb1
    |false=>
     (simp only[e59,hi,iaD hy,hcont,hr,hw,hbx,hi1,hl,hst,wz,opX,intBin,↓reduceIte,simprocAttr]<;>repeat' (first | refine wpG_s ?_ ?_ | refine wpC_s ?_ ?_)<;>intro hgo<;>(try simp only[dq] at hgo)<;>simp only[hgo,e59,hi,iaD hy,hcont,hr,hw,hbx,hi1,hl,hst,wz,opX,intBin,↓reduceIte,simprocAttr])
     refine ⟨true,?_,rfl,(fun h=>by cases h),fun _=>?_⟩
     ·rw[passN,hs]
     ·rw[passN,hs]
      have:=set_grow hx
      rcases passN_cnt d M i with k | k
      ·rw[k] at this ⊢; omega
      ·omega
  ·rintro e h' ⟨b,rfl,rfl,hb0,hb1⟩
   (simp only[e59,wz,opX,intBin,↓reduceIte,simprocAttr]<;>repeat' (first | refine wpG_s ?_ ?_ | refine wpC_s ?_ ?_)<;>intro hgo<;>(try simp only[dq] at hgo)<;>simp only[hgo,e59,wz,opX,intBin,↓reduceIte,simprocAttr])
   exact⟨b,⟨rfl,rfl⟩,hb0,hb1⟩
 have l1:∀ (k:Nat) (M:List Bool) (b:Bool) (r:Env),M.length=d.length+1→(∃ j,M=iter d (marks d) j)→(b=true→d.length+2≤cnt M+k)→(b=false→pass d M=M) →
   wp tab (.loop f59l1) ((0,.d (eDs d))::(3,.ptr (h.next+1) 1 0 0)::(4,.d (.bool b))::r) (HP h (d.length+1) M)
    (fun o=>o=(.exit 0,[(0,.d (eDs d)),(3,.ptr (h.next+1) 1 0 0),(13,.d (.bool false))],HP h (d.length+1) (iter d (marks d) (d.length+1)))):=by
  intro k
  induction k with
  |zero=>
   intro M b r hM hj hk hb
   cases b with
   |true=>have:=hk rfl;have:=cnt_le M;omega
   |false=>
    obtain ⟨j,rfl⟩:=hj
    rw[wq_loop,fix_eq (hb rfl)]
    (simp only[e59,wz,opX,intBin,↓reduceIte,simprocAttr]<;>repeat' (first | refine wpG_s ?_ ?_ | refine wpC_s ?_ ?_)<;>intro hgo<;>(try simp only[dq] at hgo)<;>simp only[hgo,e59,wz,opX,intBin,↓reduceIte,simprocAttr])
  |succ k ih=>
   intro M b r hM hj hk hb
   cases b with
   |false=>
    obtain ⟨j,rfl⟩:=hj
    rw[wq_loop,fix_eq (hb rfl)]
    (simp only[e59,wz,opX,intBin,↓reduceIte,simprocAttr]<;>repeat' (first | refine wpG_s ?_ ?_ | refine wpC_s ?_ ?_)<;>intro hgo<;>(try simp only[dq] at hgo)<;>simp only[hgo,e59,wz,opX,intBin,↓reduceIte,simprocAttr])
   |true=>
    rw[wq_loop]
    (simp only[e59,wz,opX,intBin,↓reduceIte,simprocAttr]<;>repeat' (first | refine wpG_s ?_ ?_ | refine wpC_s ?_ ?_)<;>intro hgo<;>(try simp only[dq] at hgo)<;>simp only[hgo,e59,wz,opX,intBin,↓reduceIte,simprocAttr])
    refine wq_mono (l0 M hM) ?_
    rintro o ⟨b,rfl,h0,h1⟩
    (simp only[e59,wz,opX,intBin,↓reduceIte,simprocAttr]<;>repeat' (first | refine wpG_s ?_ ?_ | refine wpC_s ?_ ?_)<;>intro hgo<;>(try simp only[dq] at hgo)<;>simp only[hgo,e59,wz,opX,intBin,↓reduceIte,simprocAttr])
    obtain ⟨j,rfl⟩:=hj
    refine ih (pass d (iter d (marks d) j)) b _ (by rw[pass,passN_len];exact hM) ⟨j+1,rfl⟩ (fun hb=>?_) (fun hb=>?_)
    ·have:=hk rfl;have:=h1 hb;omega
    ·have:=h0 hb;rw[this,this]
 (simp only[e59,hw0,hmk,hH,hR0,hi0,hs0,wz,opX,intBin,↓reduceIte,simprocAttr]<;>repeat' (first | refine wpG_s ?_ ?_ | refine wpC_s ?_ ?_)<;>intro hgo<;>(try simp only[dq] at hgo)<;>simp only[hgo,e59,hw0,hmk,hH,hR0,hi0,hs0,wz,opX,intBin,↓reduceIte,simprocAttr])
 refine wq_mono (l1 (d.length+2) (marks d) true _ (by simp[marks]) ⟨0,rfl⟩ (fun _=>by omega) (fun h=>by cases h)) ?_
 rintro o rfl
 have hlen:(iter d (marks d) (d.length+1)).length=d.length+1:=by rw[iter_len];simp[marks]
 have R:=HP_R h (d.length+1) (iter d (marks d) (d.length+1)) hlen
 have hcB:=containsB R.row hlen (by omega) false
 have e:(!(iter d (marks d) (d.length+1)).any fun x=>false == x)=finiteS d:=by
  unfold finiteS
  have:∀ l:List Bool,(!l.any fun b=>false == b)=l.all id:=by
   intro l;induction l with
   |nil=>rfl
   |cons b l ih=>rw[List.any_cons,List.all_cons,←ih];cases b<;>simp
  exact this _
 (simp only[e59,R.box,hcB,e,HP_fin,wz,opX,intBin,↓reduceIte,simprocAttr]<;>repeat' (first | refine wpG_s ?_ ?_ | refine wpC_s ?_ ?_)<;>intro hgo<;>(try simp only[dq] at hgo)<;>simp only[hgo,e59,R.box,hcB,e,HP_fin,wz,opX,intBin,↓reduceIte,simprocAttr])
end Zc28
end
section
set_option maxHeartbeats 4000000
namespace Zc28
open Go Zv Zs
theorem typed_any (d:List Dt):typedS d = !d.any fun y=>y.cons.any fun c=>c.flds.any fun f => !isT d f:=by
 unfold typedS
 simp only[List.not_any_eq_all_not,Bool.not_not]
theorem rtyped_ok {d:List Dt} (B:Bd d) (h:Hp):callW tab 118 [.d (eDs d)] h=some (.d (.bool (typedS d)),h):=by
 refine call_wp (fn:=f118) rfl rfl ?_
 have hbl:=B.len
 have l0:∀ (m k:Nat) (y:Dt) (c:Cn),d[m]? = some y→y.cons[k]? = some c→ex tab (.loop f118l0) [(0,.d (eDs d)),(3,.d (.int .i64 m)),(4,.d (.int .i64 k)),(5,.d (eIs c.flds)),(6,.d (.int .i64 0))] h =
   some (if (c.flds.any fun f => !isT d f)=true then (.ret,[(2,.d (.bool false))],h) else (.exit 4,[(0,.d (eDs d)),(3,.d (.int .i64 m)),(4,.d (.int .i64 k)),(5,.d (eIs c.flds)),(6,.d (.int .i64 c.flds.length)),(35,.d (.bool false))],h)):=by
  intro m k y c hy hc
  have bc:=B.cat hy hc
  have hloop:=loop_any (T:=tab) (a:=f118l0) (l:=c.flds) (p:=(fun f => !isT d f)) (f:=fun n=>[(0,.d (eDs d)),(3,.d (.int .i64 m)),(4,.d (.int .i64 k)),(5,.d (eIs c.flds)),(6,int n)]) (h:=h)
    (by intro n x hx hlt hp;simp only[Bool.not_eq_true',Bool.not_eq_false'] at hp;all_goals (apply wq_ex.1;(simp only[hlt,hp,e118,iaI hx,isType_ok,wrap_succ (show n<2 ^ 62 by omega),wz,opX,intBin,↓reduceIte,simprocAttr]<;>repeat' (first | refine wpG_s ?_ ?_ | refine wpC_s ?_ ?_)<;>intro hgo<;>(try simp only[dq] at hgo)<;>simp only[hgo,hlt,hp,e118,iaI hx,isType_ok,wrap_succ (show n<2 ^ 62 by omega),wz,opX,intBin,↓reduceIte,simprocAttr])))
    (by intro n x hx hlt hp;simp only[Bool.not_eq_true',Bool.not_eq_false'] at hp;all_goals (apply wq_ex.1;(simp only[hlt,hp,e118,iaI hx,isType_ok,wrap_succ (show n<2 ^ 62 by omega),wz,opX,intBin,↓reduceIte,simprocAttr]<;>repeat' (first | refine wpG_s ?_ ?_ | refine wpC_s ?_ ?_)<;>intro hgo<;>(try simp only[dq] at hgo)<;>simp only[hgo,hlt,hp,e118,iaI hx,isType_ok,wrap_succ (show n<2 ^ 62 by omega),wz,opX,intBin,↓reduceIte,simprocAttr])<;>rfl))
    (by apply wq_ex.1;(simp only[e118,wz,opX,intBin,↓reduceIte,simprocAttr]<;>repeat' (first | refine wpG_s ?_ ?_ | refine wpC_s ?_ ?_)<;>intro hgo<;>(try simp only[dq] at hgo)<;>simp only[hgo,e118,wz,opX,intBin,↓reduceIte,simprocAttr])<;>rfl)
    (by simp) (by simp)
  simp only[int,Zv.bool,Int.cast_ofNat_Int] at hloop
  exact hloop
 have l1:∀ (m:Nat) (y:Dt),d[m]? = some y→ex tab (.loop f118l1) [(0,.d (eDs d)),(3,.d (.int .i64 m)),(4,.d (.int .i64 0))] h =
   some (if (y.cons.any fun c=>c.flds.any fun f => !isT d f)=true then (.ret,[(2,.d (.bool false))],h) else (.exit 2,[(0,.d (eDs d)),(3,.d (.int .i64 m)),(4,.d (.int .i64 y.cons.length)),(20,.d (.bool false))],h)):=by
  intro m y hy
  have b:=B.at hy
  have hloop:=loop_any (T:=tab) (a:=f118l1) (l:=y.cons) (p:=(fun c=>c.flds.any fun f => !isT d f)) (f:=fun n=>[(0,.d (eDs d)),(3,.d (.int .i64 m)),(4,int n)]) (h:=h)
    (by intro n x hx hlt hp;have hin:=l0 m n y x hy hx;simp only[hp,if_true,if_false,Bool.false_eq_true] at hin;all_goals (apply wq_ex.1;(simp only[hlt,hp,e118,iaD hy,iaC hx,wq_of hin,wrap_succ (show n<2 ^ 62 by omega),wz,opX,intBin,↓reduceIte,simprocAttr]<;>repeat' (first | refine wpG_s ?_ ?_ | refine wpC_s ?_ ?_)<;>intro hgo<;>(try simp only[dq] at hgo)<;>simp only[hgo,hlt,hp,e118,iaD hy,iaC hx,wq_of hin,wrap_succ (show n<2 ^ 62 by omega),wz,opX,intBin,↓reduceIte,simprocAttr])))
    (by intro n x hx hlt hp;have hin:=l0 m n y x hy hx;simp only[hp,if_true,if_false,Bool.false_eq_true] at hin;all_goals (apply wq_ex.1;(simp only[hlt,hp,e118,iaD hy,iaC hx,wq_of hin,wrap_succ (show n<2 ^ 62 by omega),wz,opX,intBin,↓reduceIte,simprocAttr]<;>repeat' (first | refine wpG_s ?_ ?_ | refine wpC_s ?_ ?_)<;>intro hgo<;>(try simp only[dq] at hgo)<;>simp only[hgo,hlt,hp,e118,iaD hy,iaC hx,wq_of hin,wrap_succ (show n<2 ^ 62 by omega),wz,opX,intBin,↓reduceIte,simprocAttr])<;>rfl))
    (by apply wq_ex.1;(simp only[e118,iaD hy,wz,opX,intBin,↓reduceIte,simprocAttr]<;>repeat' (first | refine wpG_s ?_ ?_ | refine wpC_s ?_ ?_)<;>intro hgo<;>(try simp only[dq] at hgo)<;>simp only[hgo,e118,iaD hy,wz,opX,intBin,↓reduceIte,simprocAttr])<;>rfl)
    (by simp) (by simp)
  simp only[int,Zv.bool,Int.cast_ofNat_Int] at hloop
  exact hloop
 have hloop:=loop_any (T:=tab) (a:=f118l2) (l:=d) (p:=(fun y=>y.cons.any fun c=>c.flds.any fun f => !isT d f)) (f:=fun n=>[(0,.d (eDs d)),(3,int n)]) (h:=h)
   (by intro n x hx hlt hp;have hin:=l1 n x hx;simp only[hp,if_true,if_false,Bool.false_eq_true] at hin;all_goals (apply wq_ex.1;(simp only[hlt,hp,e118,wq_of hin,wrap_succ (show n<2 ^ 62 by omega),wz,opX,intBin,↓reduceIte,simprocAttr]<;>repeat' (first | refine wpG_s ?_ ?_ | refine wpC_s ?_ ?_)<;>intro hgo<;>(try simp only[dq] at hgo)<;>simp only[hgo,hlt,hp,e118,wq_of hin,wrap_succ (show n<2 ^ 62 by omega),wz,opX,intBin,↓reduceIte,simprocAttr])))
   (by intro n x hx hlt hp;have hin:=l1 n x hx;simp only[hp,if_true,if_false,Bool.false_eq_true] at hin;all_goals (apply wq_ex.1;(simp only[hlt,hp,e118,wq_of hin,wrap_succ (show n<2 ^ 62 by omega),wz,opX,intBin,↓reduceIte,simprocAttr]<;>repeat' (first | refine wpG_s ?_ ?_ | refine wpC_s ?_ ?_)<;>intro hgo<;>(try simp only[dq] at hgo)<;>simp only[hgo,hlt,hp,e118,wq_of hin,wrap_succ (show n<2 ^ 62 by omega),wz,opX,intBin,↓reduceIte,simprocAttr])<;>rfl))
   (by apply wq_ex.1;(simp only[e118,wz,opX,intBin,↓reduceIte,simprocAttr]<;>repeat' (first | refine wpG_s ?_ ?_ | refine wpC_s ?_ ?_)<;>intro hgo<;>(try simp only[dq] at hgo)<;>simp only[hgo,e118,wz,opX,intBin,↓reduceIte,simprocAttr])<;>rfl)
   (by simp) (by simp)
 simp only[int,Zv.bool,Int.cast_ofNat_Int] at hloop
 (simp only[e118,typed_any,wq_of hloop,wz,opX,intBin,↓reduceIte,simprocAttr]<;>repeat' (first | refine wpG_s ?_ ?_ | refine wpC_s ?_ ?_)<;>intro hgo<;>(try simp only[dq] at hgo)<;>simp only[hgo,e118,typed_any,wq_of hloop,wz,opX,intBin,↓reduceIte,simprocAttr])
 cases d.any fun y=>y.cons.any fun c=>c.flds.any fun f => !isT d f<;>(simp only[e118,wz,opX,intBin,↓reduceIte,simprocAttr]<;>repeat' (first | refine wpG_s ?_ ?_ | refine wpC_s ?_ ?_)<;>intro hgo<;>(try simp only[dq] at hgo)<;>simp only[hgo,e118,wz,opX,intBin,↓reduceIte,simprocAttr])
def checkS (d:List Dt):Int:=if manyS d=true then 6 else if formedS d=false then 3 else if twiceS d=true then 8 else if typedS d=false then 10 else if finiteS d=false then 7 else 0
theorem rcheck_ok {d:List Dt} (B:Bd d) (N:Nm d) (h:Hp):callW tab 71 [.d (eDs d)] h=some (.d (eI (checkS d)),h):=by
 refine call_wp (fn:=f71) rfl rfl ?_
 unfold checkS
 cases h1:manyS d with
 |true=>(simp only[e71,rmany_ok B,h1,wz,opX,intBin,↓reduceIte,simprocAttr]<;>repeat' (first | refine wpG_s ?_ ?_ | refine wpC_s ?_ ?_)<;>intro hgo<;>(try simp only[dq] at hgo)<;>simp only[hgo,e71,rmany_ok B,h1,wz,opX,intBin,↓reduceIte,simprocAttr])
 |false=>
  cases h2:formedS d with
  |false=>(simp only[e71,rmany_ok B,h1,rformed_ok B N,h2,wz,opX,intBin,↓reduceIte,simprocAttr]<;>repeat' (first | refine wpG_s ?_ ?_ | refine wpC_s ?_ ?_)<;>intro hgo<;>(try simp only[dq] at hgo)<;>simp only[hgo,e71,rmany_ok B,h1,rformed_ok B N,h2,wz,opX,intBin,↓reduceIte,simprocAttr])
  |true=>
   cases h3:twiceS d with
   |true=>(simp only[e71,rmany_ok B,h1,rformed_ok B N,h2,rtwice_ok B,h3,wz,opX,intBin,↓reduceIte,simprocAttr]<;>repeat' (first | refine wpG_s ?_ ?_ | refine wpC_s ?_ ?_)<;>intro hgo<;>(try simp only[dq] at hgo)<;>simp only[hgo,e71,rmany_ok B,h1,rformed_ok B N,h2,rtwice_ok B,h3,wz,opX,intBin,↓reduceIte,simprocAttr])
   |false=>
    cases h4:typedS d with
    |false=>(simp only[e71,rmany_ok B,h1,rformed_ok B N,h2,rtwice_ok B,h3,rtyped_ok B,h4,wz,opX,intBin,↓reduceIte,simprocAttr]<;>repeat' (first | refine wpG_s ?_ ?_ | refine wpC_s ?_ ?_)<;>intro hgo<;>(try simp only[dq] at hgo)<;>simp only[hgo,e71,rmany_ok B,h1,rformed_ok B N,h2,rtwice_ok B,h3,rtyped_ok B,h4,wz,opX,intBin,↓reduceIte,simprocAttr])
    |true=>
     cases h5:finiteS d with
     |false=>(simp only[e71,rmany_ok B,h1,rformed_ok B N,h2,rtwice_ok B,h3,rtyped_ok B,h4,rfinite_ok B h4,h5,wz,opX,intBin,↓reduceIte,simprocAttr]<;>repeat' (first | refine wpG_s ?_ ?_ | refine wpC_s ?_ ?_)<;>intro hgo<;>(try simp only[dq] at hgo)<;>simp only[hgo,e71,rmany_ok B,h1,rformed_ok B N,h2,rtwice_ok B,h3,rtyped_ok B,h4,rfinite_ok B h4,h5,wz,opX,intBin,↓reduceIte,simprocAttr])
     |true=>(simp only[e71,rmany_ok B,h1,rformed_ok B N,h2,rtwice_ok B,h3,rtyped_ok B,h4,rfinite_ok B h4,h5,wz,opX,intBin,↓reduceIte,simprocAttr]<;>repeat' (first | refine wpG_s ?_ ?_ | refine wpC_s ?_ ?_)<;>intro hgo<;>(try simp only[dq] at hgo)<;>simp only[hgo,e71,rmany_ok B,h1,rformed_ok B N,h2,rtwice_ok B,h3,rtyped_ok B,h4,rfinite_ok B h4,h5,wz,opX,intBin,↓reduceIte,simprocAttr])
theorem check1_ok (d:List Dt) (t:Int) (a:Nat) (h:Hp) (hr:h.row a 1=some (1,[.d (eDs d)])):callW tab 57 [.d (eI t),.ptr a 1 0 0] h=some (.d (.bool (!isT d t)),h):=by
 refine call_wp (fn:=f57) rfl rfl ?_
 (simp only[e57,hr,exists_ok,wz,opX,intBin,↓reduceIte,simprocAttr]<;>repeat' (first | refine wpG_s ?_ ?_ | refine wpC_s ?_ ?_)<;>intro hgo<;>(try simp only[dq] at hgo)<;>simp only[hgo,e57,hr,exists_ok,wz,opX,intBin,↓reduceIte,simprocAttr])
theorem pcheck_ok {d:List Dt} (B:Bd d) (N:Nm d) (h:Hp):callW tab 22 [.d (eDs d)] h=some (.d (eI (checkS d)),h):=by
 refine call_wp (fn:=f22) rfl rfl ?_
 have hbl:=B.len
 unfold checkS
 cases h1:manyS d with
 |true=>(simp only[e22,many_ok B,h1,wz,opX,intBin,↓reduceIte,simprocAttr]<;>repeat' (first | refine wpG_s ?_ ?_ | refine wpC_s ?_ ?_)<;>intro hgo<;>(try simp only[dq] at hgo)<;>simp only[hgo,e22,many_ok B,h1,wz,opX,intBin,↓reduceIte,simprocAttr])
 |false=>
  cases h2:formedS d with
  |false=>(simp only[e22,many_ok B,h1,pformed_ok B N,h2,wz,opX,intBin,↓reduceIte,simprocAttr]<;>repeat' (first | refine wpG_s ?_ ?_ | refine wpC_s ?_ ?_)<;>intro hgo<;>(try simp only[dq] at hgo)<;>simp only[hgo,e22,many_ok B,h1,pformed_ok B N,h2,wz,opX,intBin,↓reduceIte,simprocAttr])
  |true=>
   cases h3:twiceS d with
   |true=>(simp only[e22,many_ok B,h1,pformed_ok B N,h2,ptwice_ok B,h3,wz,opX,intBin,↓reduceIte,simprocAttr]<;>repeat' (first | refine wpG_s ?_ ?_ | refine wpC_s ?_ ?_)<;>intro hgo<;>(try simp only[dq] at hgo)<;>simp only[hgo,e22,many_ok B,h1,pformed_ok B N,h2,ptwice_ok B,h3,wz,opX,intBin,↓reduceIte,simprocAttr])
   |false=>
    have l0:∀ (q m:Nat) (y:Dt),d[m]? = some y→∃ q',ex tab (.loop f22l0) [(1,.ptr h.next 1 0 0),(14,.d (eDs d)),(15,.d (.int .i64 d.length)),(16,.d (.int .i64 m)),(21,.d (eCs y.cons)),(22,.d (.int .i64 y.cons.length)),(23,.d (.int .i64 0))] ⟨(h.next,.arr 1 [.d (eDs d)])::h.objs,q⟩ =
      some (if (y.cons.any fun c=>c.flds.any fun f => !isT d f)=true then (.ret,[(2,.d (eI 10))],⟨(h.next,.arr 1 [.d (eDs d)])::h.objs,q'⟩) else (.exit 2,[(1,.ptr h.next 1 0 0),(14,.d (eDs d)),(15,.d (.int .i64 d.length)),(16,.d (.int .i64 m)),(21,.d (eCs y.cons)),(22,.d (.int .i64 y.cons.length)),(23,.d (.int .i64 y.cons.length)),(24,.d (.bool false))],⟨(h.next,.arr 1 [.d (eDs d)])::h.objs,q'⟩)):=by
     intro q m y hy
     have b:=B.at hy
     obtain ⟨hloopq,hloop⟩:=loop_anyq (T:=tab) (a:=f22l0) (l:=y.cons) (p:=(fun c=>c.flds.any fun f => !isT d f)) (f:=fun n=>[(1,.ptr h.next 1 0 0),(14,.d (eDs d)),(15,.d (.int .i64 d.length)),(16,.d (.int .i64 m)),(21,.d (eCs y.cons)),(22,.d (.int .i64 y.cons.length)),(23,int n)]) (h:=⟨(h.next,.arr 1 [.d (eDs d)])::h.objs,q⟩)
       (by intro q n x hx hlt hp;have bc:=B.cat hy hx;have hcf:=conFT x.flds (.clo 57 [.ptr h.next 1 0 0]) (fun f => !isT d f) ⟨(h.next,.arr 1 [.d (eDs d)])::h.objs,q+1⟩ (by omega) rfl (fun f _=>check1_ok d f h.next _ (row_hd ..));all_goals ((simp only[hlt,hp,e22,iaC hx,hcf,wrap_succ (show n<2 ^ 62 by omega),wz,opX,intBin,↓reduceIte,simprocAttr]<;>repeat' (first | refine wpG_s ?_ ?_ | refine wpC_s ?_ ?_)<;>intro hgo<;>(try simp only[dq] at hgo)<;>simp only[hgo,hlt,hp,e22,iaC hx,hcf,wrap_succ (show n<2 ^ 62 by omega),wz,opX,intBin,↓reduceIte,simprocAttr])<;>(first | exact⟨_,rfl⟩ | exact⟨_,rfl,rfl⟩ | exact⟨_,rfl,rfl,rfl⟩)))
       (by intro q n x hx hlt hp;have bc:=B.cat hy hx;have hcf:=conFT x.flds (.clo 57 [.ptr h.next 1 0 0]) (fun f => !isT d f) ⟨(h.next,.arr 1 [.d (eDs d)])::h.objs,q+1⟩ (by omega) rfl (fun f _=>check1_ok d f h.next _ (row_hd ..));all_goals ((simp only[hlt,hp,e22,iaC hx,hcf,wrap_succ (show n<2 ^ 62 by omega),wz,opX,intBin,↓reduceIte,simprocAttr]<;>repeat' (first | refine wpG_s ?_ ?_ | refine wpC_s ?_ ?_)<;>intro hgo<;>(try simp only[dq] at hgo)<;>simp only[hgo,hlt,hp,e22,iaC hx,hcf,wrap_succ (show n<2 ^ 62 by omega),wz,opX,intBin,↓reduceIte,simprocAttr])<;>(first | exact⟨_,rfl⟩ | exact⟨_,rfl,rfl⟩ | exact⟨_,rfl,rfl,rfl⟩)))
       (by intro q;(simp only[e22,wz,opX,intBin,↓reduceIte,simprocAttr]<;>repeat' (first | refine wpG_s ?_ ?_ | refine wpC_s ?_ ?_)<;>intro hgo<;>(try simp only[dq] at hgo)<;>simp only[hgo,e22,wz,opX,intBin,↓reduceIte,simprocAttr])<;>(first | exact⟨_,rfl⟩ | exact⟨_,rfl,rfl⟩ | exact⟨_,rfl,rfl,rfl⟩))
       (by simp) (by simp)
     simp only[int,Zv.bool,Int.cast_ofNat_Int] at hloop
     exact⟨_,hloop⟩
    obtain ⟨hloopq,hloop⟩:=loop_anyq (T:=tab) (a:=f22l1) (l:=d) (p:=(fun y=>y.cons.any fun c=>c.flds.any fun f => !isT d f)) (f:=fun n=>[(1,.ptr h.next 1 0 0),(14,.d (eDs d)),(15,.d (.int .i64 d.length)),(16,int n)]) (h:=⟨(h.next,.arr 1 [.d (eDs d)])::h.objs,h.next+1⟩)
      (by intro q n x hx hlt hp;obtain ⟨q',hin⟩:=l0 (q+1) n x hx;simp only[hp,if_true,if_false,Bool.false_eq_true] at hin;all_goals ((simp only[hlt,hp,e22,iaD hx,wq_of hin,wrap_succ (show n<2 ^ 62 by omega),wz,opX,intBin,↓reduceIte,simprocAttr]<;>repeat' (first | refine wpG_s ?_ ?_ | refine wpC_s ?_ ?_)<;>intro hgo<;>(try simp only[dq] at hgo)<;>simp only[hgo,hlt,hp,e22,iaD hx,wq_of hin,wrap_succ (show n<2 ^ 62 by omega),wz,opX,intBin,↓reduceIte,simprocAttr])<;>(first | exact⟨_,rfl⟩ | exact⟨_,rfl,rfl⟩ | exact⟨_,rfl,rfl,rfl⟩)))
      (by intro q n x hx hlt hp;obtain ⟨q',hin⟩:=l0 (q+1) n x hx;simp only[hp,if_true,if_false,Bool.false_eq_true] at hin;all_goals ((simp only[hlt,hp,e22,iaD hx,wq_of hin,wrap_succ (show n<2 ^ 62 by omega),wz,opX,intBin,↓reduceIte,simprocAttr]<;>repeat' (first | refine wpG_s ?_ ?_ | refine wpC_s ?_ ?_)<;>intro hgo<;>(try simp only[dq] at hgo)<;>simp only[hgo,hlt,hp,e22,iaD hx,wq_of hin,wrap_succ (show n<2 ^ 62 by omega),wz,opX,intBin,↓reduceIte,simprocAttr])<;>(first | exact⟨_,rfl⟩ | exact⟨_,rfl,rfl⟩ | exact⟨_,rfl,rfl,rfl⟩)))
      (by intro q;(simp only[e22,wz,opX,intBin,↓reduceIte,simprocAttr]<;>repeat' (first | refine wpG_s ?_ ?_ | refine wpC_s ?_ ?_)<;>intro hgo<;>(try simp only[dq] at hgo)<;>simp only[hgo,e22,wz,opX,intBin,↓reduceIte,simprocAttr])<;>(first | exact⟨_,rfl⟩ | exact⟨_,rfl,rfl⟩ | exact⟨_,rfl,rfl,rfl⟩))
      (by simp) (by simp)
    simp only[int,Zv.bool,Int.cast_ofNat_Int] at hloop
    have hty:=typed_any d
    cases h4:typedS d with
    |false=>
     have h4':(d.any fun y=>y.cons.any fun c=>c.flds.any fun f => !isT d f)=true:=by rw[h4] at hty;simpa using hty.symm
     rw[h4',if_pos rfl] at hloop
     (simp only[e22,many_ok B,h1,pformed_ok B N,h2,ptwice_ok B,h3,wq_of hloop,wz,opX,intBin,↓reduceIte,simprocAttr]<;>repeat' (first | refine wpG_s ?_ ?_ | refine wpC_s ?_ ?_)<;>intro hgo<;>(try simp only[dq] at hgo)<;>simp only[hgo,e22,many_ok B,h1,pformed_ok B N,h2,ptwice_ok B,h3,wq_of hloop,wz,opX,intBin,↓reduceIte,simprocAttr])
    |true=>
     have h4':(d.any fun y=>y.cons.any fun c=>c.flds.any fun f => !isT d f)=false:=by rw[h4] at hty;simpa using hty.symm
     rw[h4',if_neg (by simp)] at hloop
     cases h5:finiteS d with
     |false=>(simp only[e22,many_ok B,h1,pformed_ok B N,h2,ptwice_ok B,h3,wq_of hloop,pfinite_ok B h4,h5,wz,opX,intBin,↓reduceIte,simprocAttr]<;>repeat' (first | refine wpG_s ?_ ?_ | refine wpC_s ?_ ?_)<;>intro hgo<;>(try simp only[dq] at hgo)<;>simp only[hgo,e22,many_ok B,h1,pformed_ok B N,h2,ptwice_ok B,h3,wq_of hloop,pfinite_ok B h4,h5,wz,opX,intBin,↓reduceIte,simprocAttr])
     |true=>(simp only[e22,many_ok B,h1,pformed_ok B N,h2,ptwice_ok B,h3,wq_of hloop,pfinite_ok B h4,h5,wz,opX,intBin,↓reduceIte,simprocAttr]<;>repeat' (first | refine wpG_s ?_ ?_ | refine wpC_s ?_ ?_)<;>intro hgo<;>(try simp only[dq] at hgo)<;>simp only[hgo,e22,many_ok B,h1,pformed_ok B N,h2,ptwice_ok B,h3,wq_of hloop,pfinite_ok B h4,h5,wz,opX,intBin,↓reduceIte,simprocAttr])
end Zc28
end
section
set_option maxHeartbeats 4000000
namespace Zc28
open Go Zv Zs
def smC (c:Cn):Prop:=c.name.size≤40∧c.flds.length≤8
def smD (y:Dt):Prop:=y.name.size≤40∧y.cons.length≤8∧∀ c,c ∈ y.cons→smC c
structure Sml (d:List Dt):Prop where
 len:d.length≤10
 ds:∀ y,y ∈ d→smD y
theorem mem_get {α:Type} {l:List α} {x:α} (h:x ∈ l):∃ k,k<l.length∧l[k]? = some x:=by
 obtain ⟨k,hk1,hk2⟩:=List.getElem_of_mem h
 exact⟨k,hk1,by rw[List.getElem?_eq_getElem hk1,hk2]⟩
theorem small_in {d:List Dt} {y:Dt} {j:Nat} (hy:d[j]? = some y) (hj:j<10) (hc:y.cons.length≤8) (h:Hp) :
  wp tab (.loop f27l0) [(0,.d (eDs d)),(3,.d (.int .i64 (j:Int))),(4,.d (.int .i64 0))] h
   (fun o=>o=(.ret,[(2,.d (.bool false))],h)∨(o=(.exit 2,[(0,.d (eDs d)),(3,.d (.int .i64 (j:Int))),(4,.d (.int .i64 y.cons.length)),(38,.d (.bool false))],h)∧∀ c,c ∈ y.cons→smC c)):=by
 refine loop_wp y.cons.length (fun n e h'=>h'=h∧e=[(0,.d (eDs d)),(3,.d (.int .i64 (j:Int))),(4,.d (.int .i64 n))]∧∀ c k,y.cons[k]? = some c→k<n→smC c) _ ?_ ?_ y.cons.length 0 _ _ (by omega) ⟨rfl,rfl,fun c k _ hk=>by omega⟩
 ·rintro n e h' hn ⟨rfl,rfl,hk⟩
  obtain ⟨c,hcn⟩:=get_of_lt hn
  by_cases h1:(40:Int)<(c.name.size:Int)
  ·(simp only[e27,iaD hy,iaC hcn,hn,h1,wz,opX,intBin,↓reduceIte,simprocAttr]<;>repeat' (first | refine wpG_s ?_ ?_ | refine wpC_s ?_ ?_)<;>intro hgo<;>(try simp only[dq] at hgo)<;>simp only[hgo,e27,iaD hy,iaC hcn,hn,h1,wz,opX,intBin,↓reduceIte,simprocAttr])
  ·by_cases h2:(8:Int)<(c.flds.length:Int)
   ·(simp only[e27,iaD hy,iaC hcn,hn,h1,h2,wz,opX,intBin,↓reduceIte,simprocAttr]<;>repeat' (first | refine wpG_s ?_ ?_ | refine wpC_s ?_ ?_)<;>intro hgo<;>(try simp only[dq] at hgo)<;>simp only[hgo,e27,iaD hy,iaC hcn,hn,h1,h2,wz,opX,intBin,↓reduceIte,simprocAttr])
   ·(simp only[e27,iaD hy,iaC hcn,hn,h1,h2,wrap_succ (show n<2 ^ 62 by omega),wz,opX,intBin,↓reduceIte,simprocAttr]<;>repeat' (first | refine wpG_s ?_ ?_ | refine wpC_s ?_ ?_)<;>intro hgo<;>(try simp only[dq] at hgo)<;>simp only[hgo,e27,iaD hy,iaC hcn,hn,h1,h2,wrap_succ (show n<2 ^ 62 by omega),wz,opX,intBin,↓reduceIte,simprocAttr])
    intro c' k hc' hkn
    by_cases hkk:k=n
    ·subst hkk;rw[hcn] at hc';cases hc';exact⟨by omega,by omega⟩
    ·exact hk c' k hc' (by omega)
 ·rintro e h' ⟨rfl,rfl,hk⟩
  (simp only[e27,iaD hy,wz,opX,intBin,↓reduceIte,simprocAttr]<;>repeat' (first | refine wpG_s ?_ ?_ | refine wpC_s ?_ ?_)<;>intro hgo<;>(try simp only[dq] at hgo)<;>simp only[hgo,e27,iaD hy,wz,opX,intBin,↓reduceIte,simprocAttr])
  intro c hc
  obtain ⟨k,h1,h2⟩:=mem_get hc
  exact hk c k h2 h1
theorem small_ok (d:List Dt) (h:Hp):∃ b,callW tab 27 [.d (eDs d)] h=some (.d (.bool b),h)∧(b=true→Sml d):=by
 obtain ⟨r,h1,b,rfl,h2⟩:∃ r,callW tab 27 [.d (eDs d)] h=some r∧∃ b,r=(.d (.bool b),h)∧(b=true→Sml d):=by
  refine call_wpE (fn:=f27) rfl rfl ?_
  (simp only[e27,wz,opX,intBin,↓reduceIte,simprocAttr]<;>repeat' (first | refine wpG_s ?_ ?_ | refine wpC_s ?_ ?_)<;>intro hgo<;>(try simp only[dq] at hgo)<;>simp only[hgo,e27,wz,opX,intBin,↓reduceIte,simprocAttr])
  refine loop_wp (min d.length 10) (fun n e h'=>h'=h∧e=[(0,.d (eDs d)),(3,.d (.int .i64 n))]∧∀ y k,d[k]? = some y→k<n→smD y) _ ?_ ?_ (min d.length 10) 0 _ _ (by omega) ⟨rfl,rfl,fun c k _ hk=>by omega⟩
  ·rintro n e h' hn ⟨rfl,rfl,hk⟩
   have hn1:n<d.length:=by omega
   have hn2:(n:Int)<10:=by omega
   obtain ⟨y,hy⟩:=get_of_lt hn1
   by_cases h1:(40:Int)<(y.name.size:Int)
   ·(simp only[e27,iaD hy,hn1,hn2,h1,wz,opX,intBin,↓reduceIte,simprocAttr]<;>repeat' (first | refine wpG_s ?_ ?_ | refine wpC_s ?_ ?_)<;>intro hgo<;>(try simp only[dq] at hgo)<;>simp only[hgo,e27,iaD hy,hn1,hn2,h1,wz,opX,intBin,↓reduceIte,simprocAttr])
    exact⟨_,rfl,false,rfl,fun h=>(by cases h)⟩
   ·by_cases h2:(8:Int)<(y.cons.length:Int)
    ·(simp only[e27,iaD hy,hn1,hn2,h1,h2,wz,opX,intBin,↓reduceIte,simprocAttr]<;>repeat' (first | refine wpG_s ?_ ?_ | refine wpC_s ?_ ?_)<;>intro hgo<;>(try simp only[dq] at hgo)<;>simp only[hgo,e27,iaD hy,hn1,hn2,h1,h2,wz,opX,intBin,↓reduceIte,simprocAttr])
     exact⟨_,rfl,false,rfl,fun h=>(by cases h)⟩
    ·(simp only[e27,iaD hy,hn1,hn2,h1,h2,wz,opX,intBin,↓reduceIte,simprocAttr]<;>repeat' (first | refine wpG_s ?_ ?_ | refine wpC_s ?_ ?_)<;>intro hgo<;>(try simp only[dq] at hgo)<;>simp only[hgo,e27,iaD hy,hn1,hn2,h1,h2,wz,opX,intBin,↓reduceIte,simprocAttr])
     refine wq_mono (small_in hy (by omega) (by omega) h') ?_
     rintro o (rfl | ⟨rfl,hall⟩)
     ·(simp only[e27,wz,opX,intBin,↓reduceIte,simprocAttr]<;>repeat' (first | refine wpG_s ?_ ?_ | refine wpC_s ?_ ?_)<;>intro hgo<;>(try simp only[dq] at hgo)<;>simp only[hgo,e27,wz,opX,intBin,↓reduceIte,simprocAttr])
      exact⟨_,rfl,false,rfl,fun h=>(by cases h)⟩
     ·(simp only[e27,wrap_succ (show n<2 ^ 62 by omega),wz,opX,intBin,↓reduceIte,simprocAttr]<;>repeat' (first | refine wpG_s ?_ ?_ | refine wpC_s ?_ ?_)<;>intro hgo<;>(try simp only[dq] at hgo)<;>simp only[hgo,e27,wrap_succ (show n<2 ^ 62 by omega),wz,opX,intBin,↓reduceIte,simprocAttr])
      intro y' k hy' hkn
      by_cases hkk:k=n
      ·subst hkk;rw[hy] at hy';cases hy';exact⟨by omega,by omega,hall⟩
      ·exact hk y' k hy' (by omega)
  ·rintro e h' ⟨rfl,rfl,hk⟩
   by_cases h3:d.length<10
   ·have e1:min d.length 10=d.length:=by omega
    rw[e1]
    have hle:(d.length:Int)≤10:=by omega
    (simp only[e27,hle,wz,opX,intBin,↓reduceIte,simprocAttr]<;>repeat' (first | refine wpG_s ?_ ?_ | refine wpC_s ?_ ?_)<;>intro hgo<;>(try simp only[dq] at hgo)<;>simp only[hgo,e27,hle,wz,opX,intBin,↓reduceIte,simprocAttr])
    refine ⟨_,rfl,true,rfl,fun _=>⟨by omega,fun y hy=>?_⟩⟩
    obtain ⟨k,k1,k2⟩:=mem_get hy
    exact hk y k k2 (by omega)
   ·have e1:min d.length 10=10:=by omega
    rw[e1]
    have hnl:¬ ((10:Int)<10):=by omega
    by_cases h4:(10:Int)<(d.length:Int)
    ·have hnle:¬ (d.length:Int)≤10:=by omega
     (simp only[e27,h4,hnle,wz,opX,intBin,↓reduceIte,simprocAttr]<;>repeat' (first | refine wpG_s ?_ ?_ | refine wpC_s ?_ ?_)<;>intro hgo<;>(try simp only[dq] at hgo)<;>simp only[hgo,e27,h4,hnle,wz,opX,intBin,↓reduceIte,simprocAttr])
     exact⟨_,rfl,false,rfl,fun h=>(by cases h)⟩
    ·have hle:(d.length:Int)≤10:=by omega
     (simp only[e27,h4,hle,wz,opX,intBin,↓reduceIte,simprocAttr]<;>repeat' (first | refine wpG_s ?_ ?_ | refine wpC_s ?_ ?_)<;>intro hgo<;>(try simp only[dq] at hgo)<;>simp only[hgo,e27,h4,hle,wz,opX,intBin,↓reduceIte,simprocAttr])
     refine ⟨_,rfl,true,rfl,fun _=>⟨by omega,fun y hy=>?_⟩⟩
     obtain ⟨k,k1,k2⟩:=mem_get hy
     exact hk y k k2 (by omega)
 exact⟨b,h1,h2⟩
end Zc28
end
section
set_option maxHeartbeats 4000000
namespace Zc28
open Go Zv Zs
structure Kn where
 path:List Int
 ty:Int
 done:Bool
 nots:List Int
theorem eqI_ok (a b:List Int) (ha:a.length<2 ^ 60) (hb:b.length<2 ^ 60) (h:Hp):callW tab 21 [.d (eIs a),.d (eIs b)] h=some (.d (.bool (decide (a=b))),h):=by
  refine call_wp (fn:=f21) rfl rfl ?_
  by_cases hl:a.length=b.length
  ·have hl2:((a.length:Int) == (b.length:Int))=true:=by rw[hl];exact beq_self_eq_true _
   (simp only[e21,hl2,bne,wz,opX,intBin,↓reduceIte,simprocAttr]<;>repeat' (first | refine wpG_s ?_ ?_ | refine wpC_s ?_ ?_)<;>intro hgo<;>(try simp only[dq] at hgo)<;>simp only[hgo,e21,hl2,bne,wz,opX,intBin,↓reduceIte,simprocAttr])
   refine loop_wp a.length (fun n e h'=>h'=h∧a.take n=b.take n∧e=[(0,.d (eIs a)),(1,.d (eIs b)),(12,.d (.int .i64 a.length)),(13,.d (.int .i64 (n:Int)))]) _ ?_ ?_ a.length 0 _ _ (by omega) ⟨rfl,rfl,rfl⟩
   ·rintro n e h' hn ⟨rfl,ht,rfl⟩
    obtain ⟨x,hx⟩:=get_of_lt hn
    obtain ⟨y,hy⟩:=get_of_lt (l:=b) (n:=n) (by omega)
    have hwr:IntKind.i64.wrap ((n:Int)+1)=((n+1:Nat):Int):=by rw[wrap_ok (by omega) (by omega)];rfl
    by_cases hxy:x=y
    ·subst hxy
     (simp only[e21,hn,iaI hx,iaI hy,hwr,wz,opX,intBin,↓reduceIte,simprocAttr]<;>repeat' (first | refine wpG_s ?_ ?_ | refine wpC_s ?_ ?_)<;>intro hgo<;>(try simp only[dq] at hgo)<;>simp only[hgo,e21,hn,iaI hx,iaI hy,hwr,wz,opX,intBin,↓reduceIte,simprocAttr])
     rw[List.take_add_one,List.take_add_one,ht,hx,hy]
    ·have hne:(x == y)=false:=beq_eq_false_iff_ne.2 hxy
     have hab:decide (a=b)=false:=decide_eq_false (fun e=>by subst e;rw[hx] at hy;cases hy;exact hxy rfl)
     (simp only[e21,hn,iaI hx,iaI hy,hne,bne,hab,wz,opX,intBin,↓reduceIte,simprocAttr]<;>repeat' (first | refine wpG_s ?_ ?_ | refine wpC_s ?_ ?_)<;>intro hgo<;>(try simp only[dq] at hgo)<;>simp only[hgo,e21,hn,iaI hx,iaI hy,hne,bne,hab,wz,opX,intBin,↓reduceIte,simprocAttr])
   ·rintro e h' ⟨rfl,ht,rfl⟩
    have hab:a=b:=by
     rw[List.take_length] at ht
     rw[ht];exact List.take_of_length_le (by omega)
    have hd:decide (a=b)=true:=decide_eq_true hab
    (simp only[e21,hd,wz,opX,intBin,↓reduceIte,simprocAttr]<;>repeat' (first | refine wpG_s ?_ ?_ | refine wpC_s ?_ ?_)<;>intro hgo<;>(try simp only[dq] at hgo)<;>simp only[hgo,e21,hd,wz,opX,intBin,↓reduceIte,simprocAttr])
  ·have hl2:((a.length:Int) == (b.length:Int))=false:=beq_eq_false_iff_ne.2 (fun e=>hl (by omega))
   have hab:decide (a=b)=false:=decide_eq_false (fun e=>hl (by rw[e]))
   (simp only[e21,hl2,bne,hab,wz,opX,intBin,↓reduceIte,simprocAttr]<;>repeat' (first | refine wpG_s ?_ ?_ | refine wpC_s ?_ ?_)<;>intro hgo<;>(try simp only[dq] at hgo)<;>simp only[hgo,e21,hl2,bne,hab,wz,opX,intBin,↓reduceIte,simprocAttr])
theorem longer_ok (p:List Int) (i:Int) (hp:p.length≤5000) (h:Hp):callW tab 41 [.d (eIs p),.d (eI i)] h=some (.d (eIs (p++[i])),h):=by
 refine call_wp (fn:=f41) rfl rfl ?_
 have hsl:slc3 1 (.d (eIs p)) none (some (.d (.int .i64 (p.length:Int)))) (some (.d (.int .i64 (p.length:Int))))=some (.tl ((p.map eI).map .d) none):=by
  have h1:Zv.allD 1 (p.map eI)=true:=by
   unfold Zv.allD
   exact List.all_eq_true.2 fun y hy=>by obtain ⟨q,_,rfl⟩:=List.mem_map.1 hy;rfl
  have h2:List.take p.length (p.map (V.d ∘ eI))=p.map (V.d ∘ eI):=List.take_of_length_le (by simp)
  simp[slc3,bnd,ixOf,h1,h2]
 have hap:app 1 8 h (.tl ((p.map eI).map .d) none) (.tl [.d (eI i)] (some false))=some (.own h.next 1 (p.length+1) 0 (p.length+1),⟨(h.next,.arr 1 (((p++[i]).map eI).map .d))::h.objs,h.next+1⟩):=by
  have h2:(p.length+1)*8≤roomB:=by unfold roomB;omega
  simp[app,elems,allV,V.cells,norm_d,stor,h2,Hp.alloc]
  exact⟨rfl,fun _ _=>rfl⟩
 have hf:finS h ⟨(h.next,.arr 1 (((p++[i]).map eI).map .d))::h.objs,h.next+1⟩ [.own h.next 1 (p.length+1) 0 (p.length+1)]=some (.d (.lst ((p++[i]).map eI)),h):=by
  have:=finS_clo (h:=h) (nl:=none) (es:=1) (n:=h.next) (l:=(p++[i]).map eI) (Nat.le_refl _)
  unfold cloO cloV at this
  simpa using this
 (simp only[e41,hsl,hap,hf,wz,opX,intBin,↓reduceIte,simprocAttr]<;>repeat' (first | refine wpG_s ?_ ?_ | refine wpC_s ?_ ?_)<;>intro hgo<;>(try simp only[dq] at hgo)<;>simp only[hgo,e41,hsl,hap,hf,wz,opX,intBin,↓reduceIte,simprocAttr])
theorem with_ok (p:List Int) (i:Int) (hp:p.length≤5000) (h:Hp):callW tab 93 [.d (eIs p),.d (eI i)] h=some (.d (eIs (p++[i])),h):=by
 refine call_wp (fn:=f93) rfl rfl ?_
 have hb:p.length*8≤roomB:=by unfold roomB;omega
 have ha:=fun (hh:Hp)=>tl_app (nl:=some true) (es:=1) (b:=8) (h:=hh) (r:=p.map eI) icells (by simpa using hb)
 have ha2:=fun (o:List (Nat × Ob)) (n:Nat)=>clo_app (nl:=some true) (es:=1) (b:=8) (n:=n) (o:=o) (l:=p.map eI) (r:=[eI i]) icells (by intro y hy;rw[List.mem_singleton] at hy;subst hy;rfl) (by simp only[List.length_map,List.length_cons,List.length_nil,roomB];omega)
 have e:∀ (hh:Hp) (s:V),app 1 8 hh s (.tl [.d (eI i)] (some false))=app 1 8 hh s (.d (.lst [eI i])):=by
  intro hh s
  simp[app,elems,norm_d]
 have hf:=finS_clo (h:=h) (nl:=some true) (es:=1) (n:=h.next) (l:=p.map eI++[eI i]) (Nat.le_refl _)
 (simp only[e93,ha,e,ha2,hf,wz,opX,intBin,↓reduceIte,simprocAttr]<;>repeat' (first | refine wpG_s ?_ ?_ | refine wpC_s ?_ ?_)<;>intro hgo<;>(try simp only[dq] at hgo)<;>simp only[hgo,e93,ha,e,ha2,hf,wz,opX,intBin,↓reduceIte,simprocAttr])
 simp
end Zc28
end
section
set_option maxHeartbeats 4000000
namespace Zc28
open Go Zv Zs
theorem slc_all {es:Nat} {l:List D} {n:Nat} (hl:∀ y,y ∈ l→y.cells.length=es) (hn:n≤l.length):slc es (.d (.lst l)) none (some (.d (.int .i64 (n:Int))))=some (.d (.lst (l.take n))):=by
 have h:Zv.allD es l=true:=by
  unfold Zv.allD
  exact List.all_eq_true.2 fun y hy=>by simpa using hl y hy
 simp only[slc,bnd,Option.bind_some,ixOf,h]
 simp[hn]
theorem slc_from {es:Nat} {l:List D} {n:Nat} (hl:∀ y,y ∈ l→y.cells.length=es) (hn:n≤l.length):slc es (.d (.lst l)) (some (.d (.int .i64 (n:Int)))) none=some (.d (.lst (l.drop n))):=by
 have h:Zv.allD es l=true:=by
  unfold Zv.allD
  exact List.all_eq_true.2 fun y hy=>by simpa using hl y hy
 simp only[slc,bnd,Option.bind_some,ixOf,h]
 simp[hn]
theorem app_in {es b m tot q:Nat} {o:List (Nat × Ob)} {l r z:List D} (hr:∀ y,y ∈ r→y.cells.length=es) (ht:tot=l.length+z.length) (hz:r.length≤z.length) :
  app es b ⟨(m,.arr es ((l++z).map .d))::o,q⟩ (.own m es tot 0 l.length) (.d (.lst r))=some (.own m es tot 0 (l++r).length,⟨(m,.arr es (((l++r)++z.drop r.length).map .d))::o,q⟩):=by
 subst ht
 have hrow:(⟨(m,.arr es ((l++z).map V.d))::o,q⟩:Hp).row m (l.length+z.length)=some (es,(l++z).map .d):=by rw[row_cons];simp
 unfold app
 simp only[elems,Option.bind_some,norm_map_d,allV_d hr,if_true,hrow,List.length_map,Nat.zero_add,List.length_append,Nat.le_add_right,and_self]
 by_cases h0:r=[]
 ·subst h0;simp
 ·have he:(r.map V.d).isEmpty=false:=by cases r with | nil=>exact absurd rfl h0 | cons=>rfl
  have h1:l.length+r.length≤l.length+z.length:=by omega
  simp only[he,Bool.false_eq_true,if_false,h1,if_true]
  simp only[Hp.set,upd,if_true,List.map_append]
  congr 4
  rw[List.take_left' (by simp),List.append_assoc,List.append_assoc,List.drop_append]
  have e1:List.drop (l.length+r.length) (l.map V.d)=[]:=List.drop_of_length_le (by simp)
  rw[e1,List.nil_append,List.map_drop,List.length_map,Nat.add_sub_cancel_left]
def totL (ls:List (List D)):Nat:=ls.flatten.length
theorem totL_snoc (ls:List (List D)) (l:List D):totL (ls++[l])=totL ls+l.length:=by unfold totL;simp
theorem totL_take {ls:List (List D)} {n:Nat} {l:List D} (h:ls[n]? = some l):totL (ls.take (n+1))=totL (ls.take n)+l.length:=by
 rw[List.take_add_one,h];exact totL_snoc _ _
theorem totL_le (ls:List (List D)) (n:Nat):totL (ls.take n)≤totL ls:=by
 unfold totL
 have:ls.flatten=(ls.take n).flatten++(ls.drop n).flatten:=by rw[←List.flatten_append,List.take_append_drop]
 rw[this,List.length_append];omega
abbrev eLL (ls:List (List D)):D:=.lst (ls.map .lst)
theorem iaLL {ls:List (List D)} {n:Nat} {l:List D} (h:ls[n]? = some l):ia 1 (.d (eLL ls)) (.d (.int .i64 (n:Int)))=some (.fp (.lst l) 0):=ia_map (f:=D.lst) .i64 h rfl
theorem flat_take {ls:List (List D)} {n:Nat} {l:List D} (h:ls[n]? = some l):(ls.take (n+1)).flatten=(ls.take n).flatten++l:=by
 rw[List.take_add_one,h];simp
end Zc28
end
section
namespace Zs
open Go Zv
def rowOf (o:Option Ob) (tot:Nat):Option (Nat × List V):=match o with
 |some (.arr es els)=>if els.length=tot then some (es,els) else none
 |_=>none
theorem row_lk (h:Hp) (n tot:Nat):h.row n tot=rowOf (h.get n) tot:=rfl
theorem rowOf_arr (es:Nat) (els:List V) (tot:Nat):rowOf (some (.arr es els)) tot=if els.length=tot then some (es,els) else none:=rfl
theorem get_objs (h:Hp) (q n:Nat):Hp.get ⟨h.objs,q⟩ n=h.get n:=rfl
theorem get_mk (m:Nat) (o:Ob) (l:List (Nat × Ob)) (q n:Nat):Hp.get ⟨(m,o)::l,q⟩ n=if n=m then some o else Hp.get ⟨l,q⟩ n:=rfl
theorem look_upd (n:Nat) (x:Ob) (m:Nat):∀ l:List (Nat × Ob),look (upd l n x) m=if m=n then (look l n).map (fun _=>x) else look l m
 | []=>by simp[upd,Zv.look]
 | (k,o)::l=>by
  unfold upd
  by_cases h1:n=k
  ·subst h1
   rw[if_pos rfl]
   by_cases h2:m=n
   ·subst h2;simp[Zv.look]
   ·simp[Zv.look,h2]
  ·rw[if_neg h1]
   by_cases h2:m=k
   ·subst h2
    have:¬ m=n:=fun e=>h1 e.symm
    simp[Zv.look,this]
   ·simp only[Zv.look,h2,h1,if_false]
    exact look_upd n x m l
theorem get_sets (h:Hp) (n:Nat) (x:Ob) (m:Nat):(h.set n x).get m=if m=n then (h.get n).map (fun _=>x) else h.get m:=look_upd n x m h.objs
theorem set_next (h:Hp) (n:Nat) (x:Ob):(h.set n x).next=h.next:=rfl
theorem upd_upd (n:Nat) (x y:Ob):∀ l:List (Nat × Ob),upd (upd l n x) n y=upd l n y
 | []=>rfl
 | (k,o)::l=>by
  by_cases h:n=k
  ·subst h;simp[upd]
  ·simp only[upd,if_neg h]
   rw[upd_upd n x y l]
theorem set_set (h:Hp) (n:Nat) (x y:Ob):(h.set n x).set n y=h.set n y:=by
 unfold Hp.set;simp only[upd_upd]
theorem set_objs (h:Hp) (q n:Nat) (x:Ob):Hp.set ⟨h.objs,q⟩ n x=⟨(h.set n x).objs,q⟩:=rfl
theorem st_in {sz:Nat} {h:Hp} {n tot i off es:Nat} {els:List V} {e x:V} (hr:h.row n tot=some (es,els)) (he:els[i]? = some e) (hx:stor x=true) (hc:x.cells.length=sz) (ho:off+sz≤e.cells.length) (h1:es≠1) (h2:¬ (off=0∧sz=es)) :
  st sz h (.ptr n tot i off) x=some (h.set n (.arr es (els.set i (mkAgg (e.cells.take off++x.cells++e.cells.drop (off+sz)))))):=by
 simp only[st,hr,Option.bind_some,he]
 rw[if_pos ⟨hx,hc⟩,if_neg h2,if_pos ⟨ho,h1⟩]
theorem st_all {sz:Nat} {h:Hp} {n tot i:Nat} {els:List V} {e x:V} (hr:h.row n tot=some (sz,els)) (he:els[i]? = some e) (hx:stor x=true) (hc:x.cells.length=sz) :
  st sz h (.ptr n tot i 0) x=some (h.set n (.arr sz (els.set i x))):=by
 simp only[st,hr,Option.bind_some,he]
 rw[if_pos ⟨hx,hc⟩,if_pos (by simp)]
theorem hr:(type_of% @row_lk)∧(type_of% @rowOf_arr)∧(type_of% @get_objs)∧(type_of% @get_mk)∧(type_of% @get_sets)∧(type_of% @set_next)∧(type_of% @set_set)∧(type_of% @set_cons)∧(type_of% @set_objs):=
 ⟨@row_lk,@rowOf_arr,@get_objs,@get_mk,@get_sets,@set_next,@set_set,@set_cons,@set_objs⟩
end Zs
end
section
set_option maxHeartbeats 4000000
namespace Zc28
open Go Zv Zs
structure KnOk (d:List Dt) (k:Nat) (kn:List Kn):Prop where
 len:kn.length+8*k≤50000
 ty:∀ p,p ∈ kn→isT d p.ty=true
 nots:∀ p,p ∈ kn→p.nots.length+k≤5000
 path:∀ p,p ∈ kn→p.path.length≤150
theorem KnOk.set {d:List Dt} {k:Nat} {kn:List Kn} (K:KnOk d (k+1) kn) {i:Nat} {p:Kn} (hp:isT d p.ty=true) (hn:p.nots.length+k≤5000) (hl:p.path.length≤150):KnOk d k (kn.set i p):=by
 refine ⟨by have:=K.len;rw[List.length_set];omega,?_,?_,?_⟩<;>intro q hq<;>rcases List.mem_or_eq_of_mem_set hq with h | rfl
 ·exact K.ty q h
 ·exact hp
 ·have:=K.nots q h;omega
 ·exact hn
 ·exact K.path q h
 ·exact hl
theorem look_del {n m:Nat} (h:m≠n):∀ l:List (Nat × Ob),Zv.look (Zv.del l n) m=Zv.look l m
 | []=>rfl
 | (k,o)::l=>by
  unfold Zv.del
  split
  ·rename_i e;subst e;rw[look_tl _ _ h]
  ·by_cases hk:m=k
   ·subst hk;simp[Zv.look]
   ·rw[look_tl _ _ hk,look_tl _ _ hk,look_del h l]
theorem row_of {X:List (Nat × Ob)} {n es tot q:Nat} {els:List V} (h:Zv.look X n=some (.arr es els)) (ht:els.length=tot):(⟨X,q⟩:Hp).row n tot=some (es,els):=row_look h ht
section
variable (d:List Dt) (l:List Ts) (a dv cv:Nat)
structure VI (X:List (Nat × Ob)) (M:List Bool):Prop where
 len:M.length=l.length
 rr:Zv.look X a=some (.arr 1 (M.map bV))
 rv:Zv.look X (a+1)=some (.arr 1 [.own a 1 l.length 0 l.length])
 vv:Zv.look X (a+2)=some (.arr 1 [.clo 63 [.ptr cv 1 0 0,.ptr (a+1) 1 0 0,.ptr (a+2) 1 0 0,.ptr dv 1 0 0]])
 cv:Zv.look X cv=some (.arr 1 [.d (.agg [eTs l])])
 dv:Zv.look X dv=some (.arr 1 [.d (eDs d)])
variable {d l a dv cv}
theorem VI.cons {X:List (Nat × Ob)} {M:List Bool} (H:VI d l a dv cv X M) (hc:cv<a) (hd:dv<a) {m:Nat} (hm:a+2<m) (o:Ob):VI d l a dv cv ((m,o)::X) M:=
 ⟨H.len,by rw[look_tl _ _ (by omega)];exact H.rr,by rw[look_tl _ _ (by omega)];exact H.rv,by rw[look_tl _ _ (by omega)];exact H.vv,by rw[look_tl _ _ (by omega)];exact H.cv,by rw[look_tl _ _ (by omega)];exact H.dv⟩
theorem VI.del {X:List (Nat × Ob)} {M:List Bool} (H:VI d l a dv cv X M) (hc:cv<a) (hd:dv<a) {m:Nat} (hm:a+2<m):VI d l a dv cv (Zv.del X m) M:=
 ⟨H.len,by rw[look_del (by omega)];exact H.rr,by rw[look_del (by omega)];exact H.rv,by rw[look_del (by omega)];exact H.vv,by rw[look_del (by omega)];exact H.cv,by rw[look_del (by omega)];exact H.dv⟩
end
def Fr (a q:Nat) (X X':List (Nat × Ob)):Prop:=∀ n,n<q→n≠a→Zv.look X' n=Zv.look X n
theorem Fr.refl (a q:Nat) (X:List (Nat × Ob)):Fr a q X X:=fun _ _ _=>rfl
theorem Fr.trans {a q q':Nat} {X Y Z:List (Nat × Ob)} (h1:Fr a q X Y) (h2:Fr a q' Y Z) (h:q≤q'):Fr a q X Z:=fun n hn hna=>(h2 n (by omega) hna).trans (h1 n hn hna)
theorem Fr.cons {a q m:Nat} {X Y:List (Nat × Ob)} (h:Fr a q X Y) (hm:q≤m) (o:Ob):Fr a q X ((m,o)::Y):=fun n hn hna=>by rw[look_tl _ _ (by omega)];exact h n hn hna
theorem Fr.del {a q m:Nat} {X Y:List (Nat × Ob)} (h:Fr a q X Y) (hm:q≤m):Fr a q X (Zv.del Y m):=fun n hn hna=>by rw[look_del (by omega)];exact h n hn hna
theorem Fr.upd {a q:Nat} {X Y:List (Nat × Ob)} (h:Fr a q X Y) (o:Ob):Fr a q X (Zv.upd Y a o):=fun n hn hna=>by rw[Zs.look_upd,if_neg hna];exact h n hn hna
end Zc28
end
section
set_option maxHeartbeats 4000000
namespace Zc28
open Go Zv Zs
theorem row_cn {n m es tot nx:Nat} {o:Ob} {els:List V} {L:List (Nat × Ob)} (h:n≠m) (hr:∀ nx,Hp.row ⟨L,nx⟩ n tot=some (es,els)):Hp.row ⟨(m,o)::L,nx⟩ n tot=some (es,els):=by
 have:=hr nx
 unfold Hp.row Hp.get at this ⊢
 simp only[Zv.look,if_neg h] at this ⊢
 exact this
theorem idxZ_cases {α:Type} (p:α→Bool) (l:List α):idxZ p l = -1∨∃ (n:Nat) (x:α),idxZ p l=n∧l[n]? = some x∧p x=true:=by
 unfold idxZ
 cases h:fst? p 0 l with
 |none=>exact .inl rfl
 |some q=>
  obtain ⟨n,x⟩:=q
  obtain ⟨h0,h1,h2,_⟩:=fst_some h
  exact .inr ⟨n,x,rfl,by simpa using h1,h2⟩
theorem app_tl1 (es b:Nat) (h:Hp) (s:V) (x:D) (nl:Option Bool):app es b h s (.tl [.d x] nl)=app es b h s (.d (.lst [x])):=by
 simp[app,elems,norm_d]
end Zc28
end
section
set_option maxHeartbeats 4000000
namespace Zc28
open Go Zv Zs
end Zc28
end
section
set_option maxHeartbeats 4000000
namespace Zc28
open Go Zv Zs
structure KnD (kn:List Kn):Prop where
 nd:(kn.map Kn.path).Nodup
 par:∀ p,p ∈ kn→∀ (pp:List Int) (j:Int),p.path=pp++[j]→pp≠[]→∃ r,r ∈ kn∧r.path=pp∧r.done=true
 ne:∀ p,p ∈ kn→p.path≠[]
theorem KnD.same {kn:List Kn} (K:KnD kn) {i j:Nat} {p r:Kn} (h1:kn[i]? = some p) (h2:kn[j]? = some r) (h:p.path=r.path):i=j:=by
 have hi:=(List.getElem?_eq_some_iff.1 h1).1
 have e:(kn.map Kn.path)[i]? = (kn.map Kn.path)[j]? := by rw[List.getElem?_map,List.getElem?_map,h1,h2];simp[h]
 exact (List.getElem?_inj (by simpa using hi) K.nd).1 e
theorem set_path {kn:List Kn} {i:Nat} {p p':Kn} (h1:kn[i]? = some p) (h:p'.path=p.path):(kn.set i p').map Kn.path=kn.map Kn.path:=by
 rw[List.map_set]
 apply List.ext_getElem?
 intro n
 rw[List.getElem?_set]
 split
 ·rename_i e;subst e
  rw[List.getElem?_map,h1]
  split
  ·simp[h]
  ·rename_i h2;exact absurd (by simpa using (List.getElem?_eq_some_iff.1 h1).1) h2
 ·rfl
theorem KnD.set {kn:List Kn} (K:KnD kn) {i:Nat} {p p':Kn} (h1:kn[i]? = some p) (h:p'.path=p.path) (hd:p.done=true→p'.done=true):KnD (kn.set i p'):=by
 have hi:=(List.getElem?_eq_some_iff.1 h1).1
 have hpm:=List.mem_of_getElem? h1
 have hin:p' ∈ kn.set i p':=List.mem_set hi p'
 have hm:∀ r,r ∈ kn.set i p'→∃ r',r' ∈ kn∧r.path=r'.path:=by
  intro r hr
  rcases List.mem_or_eq_of_mem_set hr with hr | rfl
  ·exact⟨r,hr,rfl⟩
  ·exact⟨p,hpm,h⟩
 refine ⟨by rw[set_path h1 h];exact K.nd,?_,?_⟩
 ·intro r hr pp j hpp hne
  obtain ⟨r',hr',e⟩:=hm r hr
  obtain ⟨s,hs,e1,e2⟩:=K.par r' hr' pp j (by rw[←e];exact hpp) hne
  obtain ⟨n,hn⟩:=List.mem_iff_getElem?.1 hs
  by_cases hni:n=i
  ·subst hni
   rw[h1] at hn;cases hn
   exact⟨p',hin,by rw[h];exact e1,hd e2⟩
  ·exact⟨s,List.mem_of_getElem? (i:=n) (by rw[List.getElem?_set_ne (fun e=>hni e.symm)];exact hn),e1,e2⟩
 ·intro r hr
  obtain ⟨r',hr',e⟩:=hm r hr
  rw[e];exact K.ne r' hr'
end Zc28
end
section
set_option maxHeartbeats 4000000
namespace Zc28
open Go Zv Zs
end Zc28
end
section
set_option maxHeartbeats 4000000
namespace Zc28
open Go Zv Zs
theorem okIs {x:D} (h:ok (EE es) (.one (.l 2)) x):∃ a,x=eIs a∧a.length≤maxLen:=by
 obtain ⟨l,rfl,hl,h2⟩:=ok_l h
 obtain ⟨xs,rfl⟩:=okEs_map (fun _=>okI) h2
 refine ⟨xs,rfl,?_⟩
 rw[List.length_map] at hl
 exact hl
theorem Sml.bd {d:List Dt} (S:Sml d):Bd d:=⟨by have:=S.len;omega,fun y hy=>by have:=(S.ds y hy).2.1;omega,fun y hy c hc=>by have:=((S.ds y hy).2.2 c hc).2;omega⟩
theorem Sml.nm {d:List Dt} (S:Sml d):Nm d:=fun y hy=>⟨by have:=(S.ds y hy).1;omega,fun c hc=>by have:=((S.ds y hy).2.2 c hc).1;omega⟩
theorem check_typed {d:List Dt} (h:checkS d=0):typedS d=true:=by
 unfold checkS at h
 by_cases h1:manyS d=true
 ·rw[if_pos h1] at h;exact absurd h (by decide)
 rw[if_neg h1] at h
 by_cases h2:formedS d=false
 ·rw[if_pos h2] at h;exact absurd h (by decide)
 rw[if_neg h2] at h
 by_cases h3:twiceS d=true
 ·rw[if_pos h3] at h;exact absurd h (by decide)
 rw[if_neg h3] at h
 by_cases h4:typedS d=false
 ·rw[if_pos h4] at h;exact absurd h (by decide)
 simpa using h4
theorem typed_flds {d:List Dt} (h:typedS d=true):∀ y,y ∈ d→∀ c,c ∈ y.cons→∀ f,f ∈ c.flds→isT d f=true:=by
 intro y hy c hc f hf
 rw[typed_any] at h
 cases hi:isT d f with
 |true=>rfl
 |false=>
  have:(d.any fun y=>y.cons.any fun c=>c.flds.any fun f => !isT d f)=true:=
   List.any_eq_true.2 ⟨y,hy,List.any_eq_true.2 ⟨c,hc,List.any_eq_true.2 ⟨f,hf,by rw[hi];rfl⟩⟩⟩
  rw[this] at h;cases h
theorem frz_row {h:Hp} {m es:Nat} {l:List D} (hr:h.row m l.length=some (es,l.map .d)):Zv.frz h (.own m es l.length 0 l.length)=some (.d (.lst l),h.kill m):=by
 unfold Zv.frz
 simp only[hr,Option.bind_some,List.length_map,Nat.zero_add,Nat.le_refl,if_true,List.drop_zero]
 rw[List.take_of_length_le (by simp),toDs_map_d]
 rfl
end Zc28
end
section
set_option maxHeartbeats 4000000
namespace Zc28
open Go Zv Zs
end Zc28
end
section
set_option maxHeartbeats 4000000
namespace Zc28
open Go Zv Zs
inductive Pt where
 |mk (k c n:Int) (qs:List Pt)
mutual
def ePt:Pt→D
 | .mk k c n qs=>.agg [.int .i64 k,.int .i64 c,.int .i64 n,.lst (eL qs)]
def eL:List Pt→List D
 | []=>[]
 |p::r=>ePt p::eL r
end
theorem eL_map:∀ l:List Pt,eL l=l.map ePt
 | []=>rfl
 |p::r=>by rw[eL,eL_map r];rfl
theorem ePt_mk (k c n:Int) (qs:List Pt):ePt (.mk k c n qs)=.agg [.int .i64 k,.int .i64 c,.int .i64 n,.lst (qs.map ePt)]:=by rw[ePt,eL_map]
theorem ePt_cells (p:Pt):(ePt p).cells.length=4:=by
 cases p;rfl
theorem aggP (p:Pt):D.agg (List.take 4 (ePt p).cells)=ePt p:=by
 cases p;rfl
theorem pts:(∀ p,(ePt p).cells.length=4)∧(∀ p,D.agg (List.take 4 (ePt p).cells)=ePt p)∧((4:Nat)≤4 ↔ True):=⟨ePt_cells,aggP,by simp⟩
abbrev ePs (l:List Pt):D:=.lst (l.map ePt)
abbrev eRs (l:List (List Pt)):D:=.lst (l.map ePs)
theorem iaP {l:List Pt} {n:Nat} {x:Pt} (hx:l[n]? = some x):ia 4 (.d (.lst (l.map ePt))) (.d (.int .i64 (n:Int)))=some (.fp (ePt x) 0):=ia_map (f:=ePt) .i64 hx (ePt_cells x)
theorem iaR {l:List (List Pt)} {n:Nat} {x:List Pt} (hx:l[n]? = some x):ia 1 (.d (.lst (l.map ePs))) (.d (.int .i64 (n:Int)))=some (.fp (ePs x) 0):=ia_map (f:=ePs) .i64 hx rfl
mutual
def cntP:Pt→Nat
 | .mk _ _ _ qs=>cntL qs+1
def cntL:List Pt→Nat
 | []=>0
 |p::r=>cntP p+cntL r
end
theorem cntP_pos (p:Pt):1≤cntP p:=by cases p;simp[cntP]
theorem cntL_len:∀ l:List Pt,l.length≤cntL l
 | []=>Nat.le_refl _
 |p::r=>by have:=cntL_len r;have:=cntP_pos p;rw[List.length_cons,cntL];omega
theorem cntL_mem:∀ {l:List Pt} {p:Pt},p ∈ l→cntP p≤cntL l
 |q::r,p,h=>by
  rw[cntL]
  rcases List.mem_cons.1 h with rfl | h
  ·omega
  ·have:=cntL_mem h;omega
end Zc28
end
section
set_option maxHeartbeats 4000000
namespace Zc28
open Go Zv Zs
def argsP:Pt→List Pt
 | .mk _ _ _ qs=>qs
mutual
def p2P:Pt→Nat→Nat
 | .mk _ _ _ qs,n=>p2L qs n
def p2L:List Pt→Nat→Nat
 | [],n=>n
 |p::r,n=>if 60<n+1 then n+1 else p2L r (p2P p (n+1))
end
mutual
theorem p2P_eq:∀ (p:Pt) (n:Nat),n≤p2P p n∧(p2P p n≤60→p2P p n+1=n+cntP p)
 | .mk k c q qs,n=>by
  have:=p2L_eq qs n
  rw[p2P,cntP]
  exact⟨this.1,fun h=>by have:=this.2 h;omega⟩
theorem p2L_eq:∀ (l:List Pt) (n:Nat),n≤p2L l n∧(p2L l n≤60→p2L l n=n+cntL l)
 | [],n=>by rw[p2L,cntL];exact⟨Nat.le_refl _,fun _=>rfl⟩
 |p::r,n=>by
  rw[p2L,cntL]
  split
  ·exact⟨by omega,fun h=>by omega⟩
  ·have h1:=p2P_eq p (n+1)
   have h2:=p2L_eq r (p2P p (n+1))
   exact⟨by omega,fun h=>by have:=h2.2 h;have:=h1.2 (by omega);omega⟩
end
mutual
theorem p2P_le:∀ (p:Pt) (n:Nat),n≤60→p2P p n≤121 - n
 | .mk k c q qs,n,h=>by rw[p2P];exact p2L_le qs n h
theorem p2L_le:∀ (l:List Pt) (n:Nat),n≤60→p2L l n≤121 - n
 | [],n,h=>by rw[p2L];omega
 |p::r,n,h=>by
  rw[p2L]
  split
  ·omega
  ·have h1:=p2P_le p (n+1) (by omega)
   have h3:=(p2P_eq p (n+1)).1
   by_cases hm:p2P p (n+1)≤60
   ·have:=p2L_le r (p2P p (n+1)) hm;omega
   ·cases r with
    |nil=>rw[p2L];omega
    |cons q r=>rw[p2L,if_pos (by omega)];omega
end
theorem p2L_big {p:Pt} {r:List Pt} {n:Nat} (h:60≤n):p2L (p::r) n=n+1:=by rw[p2L,if_pos (by omega)]
theorem parts_ok:∀ (l:List Pt) (n:Nat),n≤60→∀ h,callW tab 32 [.d (ePs l),.d (.int .i64 n)] h=some (.d (.int .i64 (p2L l n)),h)
 |l,n,hn,h=>by
  have hrec:∀ p,p ∈ l→∀ (n:Nat),n≤60→∀ h,callW tab 32 [.d (ePs (argsP p)),.d (.int .i64 (n:Int))] h=some (.d (.int .i64 (p2P p n)),h):=by
   intro p hp n hn h
   have hc:=cntL_mem hp
   obtain ⟨k,c,q,qs⟩:=p
   rw[cntP] at hc
   have:=parts_ok qs n hn h
   have e:p2P (.mk k c q qs) n=p2L qs n:=by rw[p2P]
   show callW tab 32 [.d (ePs qs),.d (.int .i64 (n:Int))] h=_
   rw[this,e]
  refine call_wp (fn:=f32) rfl rfl ?_
  (simp only[e32,wz,opX,intBin,↓reduceIte,simprocAttr]<;>repeat' (first | refine wpG_s ?_ ?_ | refine wpC_s ?_ ?_)<;>intro hgo<;>(try simp only[dq] at hgo)<;>simp only[hgo,e32,wz,opX,intBin,↓reduceIte,simprocAttr])
  refine loop_wp l.length (fun j e h'=>∃ m:Nat,(∃ q,h'=⟨h.objs,q⟩)∧j≤m∧m≤121∧p2L l n=p2L (l.drop j) m∧e=[(1,.d (.int .i64 (m:Int))),(7,.d (ePs l)),(8,.d (.int .i64 l.length)),(9,.d (.int .i64 (j:Int)))]) _ ?_ ?_ l.length 0 _ _ (by omega) ⟨n,⟨_,rfl⟩,by omega,by omega,rfl,rfl⟩
  ·rintro j e h' hj ⟨m,⟨q,rfl⟩,hjm,hm,heq,rfl⟩
   obtain ⟨p,hp⟩:=get_of_lt hj
   rw[drop_at hp] at heq
   have hw0:=wrap_succ (show m<2 ^ 62 by omega)
   by_cases hm6:m+1≤60
   ·have hle:¬ (60:Int)<((m+1:Nat):Int):=by omega
    have hr:=hrec p (List.mem_of_getElem? hp) (m+1) hm6
    have hpc:=p2P_le p (m+1) hm6
    have hpe:=p2P_eq p (m+1)
    rw[p2L,if_neg (by omega)] at heq
    obtain ⟨k,c,q',qs⟩:=p
    have hia:=iaP hp
    rw[ePt_mk] at hia
    have hcl:(D.agg [.int .i64 k,.int .i64 c,.int .i64 q',.lst (qs.map ePt)]).cells.length=4:=rfl
    have hr':∀ h,callW tab 32 [.d (.lst (qs.map ePt)),.d (.int .i64 ((m+1:Nat):Int))] h=some (.d (.int .i64 (p2P (.mk k c q' qs) (m+1))),h):=hr
    (simp only[e32,hj,hle,hia,hcl,hw0,hr',wrap_succ (show j<2 ^ 62 by omega),wz,opX,intBin,↓reduceIte,simprocAttr]<;>repeat' (first | refine wpG_s ?_ ?_ | refine wpC_s ?_ ?_)<;>intro hgo<;>(try simp only[dq] at hgo)<;>simp only[hgo,e32,hj,hle,hia,hcl,hw0,hr',wrap_succ (show j<2 ^ 62 by omega),wz,opX,intBin,↓reduceIte,simprocAttr])
    exact⟨_,⟨_,rfl⟩,by omega,by omega,heq,rfl⟩
   ·have hle:(60:Int)<((m+1:Nat):Int):=by omega
    rw[heq,p2L_big (by omega)]
    obtain ⟨k,c,q',qs⟩:=p
    have hia:=iaP hp
    rw[ePt_mk] at hia
    have hcl:(D.agg [.int .i64 k,.int .i64 c,.int .i64 q',.lst (qs.map ePt)]).cells.length=4:=rfl
    (simp only[e32,hj,hle,hia,hcl,hw0,wz,opX,intBin,↓reduceIte,simprocAttr]<;>repeat' (first | refine wpG_s ?_ ?_ | refine wpC_s ?_ ?_)<;>intro hgo<;>(try simp only[dq] at hgo)<;>simp only[hgo,e32,hj,hle,hia,hcl,hw0,wz,opX,intBin,↓reduceIte,simprocAttr])
  ·rintro e h' ⟨m,⟨q,rfl⟩,hjm,hm,heq,rfl⟩
   rw[show l.drop l.length=[] from List.drop_of_length_le (Nat.le_refl _),p2L] at heq
   rw[heq]
   (simp only[e32,wz,opX,intBin,↓reduceIte,simprocAttr]<;>repeat' (first | refine wpG_s ?_ ?_ | refine wpC_s ?_ ?_)<;>intro hgo<;>(try simp only[dq] at hgo)<;>simp only[hgo,e32,wz,opX,intBin,↓reduceIte,simprocAttr])
termination_by l=>cntL l
decreasing_by
 have:=cntL_mem hp
 rw[cntP] at this
 omega
structure Few8 (d:List Dt) (ts:List Int) (l:List (List Pt)):Prop where
 sml:Sml d
 ts:ts.length≤4
 rows:l.length≤6
 row:∀ r,r ∈ l→r.length≤5∧cntL r≤12
theorem few_ok (d:List Dt) (ts:List Int) (l:List (List Pt)) (h:Hp):∃ b,callW tab 9 [.d (eDs d),.d (eIs ts),.d (eRs l)] h=some (.d (.bool b),h)∧(b=true→Few8 d ts l):=by
 obtain ⟨b,hb,hs⟩:=small_ok d h
 obtain ⟨r,h1,b',rfl,h2⟩:∃ r,callW tab 9 [.d (eDs d),.d (eIs ts),.d (eRs l)] h=some r∧∃ b,r=(.d (.bool b),h)∧(b=true→Few8 d ts l):=by
  refine call_wpE (fn:=f9) rfl rfl ?_
  cases b with
  |false=>
   (simp only[e9,hb,wz,opX,intBin,↓reduceIte,simprocAttr]<;>repeat' (first | refine wpG_s ?_ ?_ | refine wpC_s ?_ ?_)<;>intro hgo<;>(try simp only[dq] at hgo)<;>simp only[hgo,e9,hb,wz,opX,intBin,↓reduceIte,simprocAttr])
   exact⟨_,rfl,false,rfl,fun h=>by cases h⟩
  |true=>
   by_cases q1:(4:Int)<(ts.length:Int)
   ·(simp only[e9,hb,q1,wz,opX,intBin,↓reduceIte,simprocAttr]<;>repeat' (first | refine wpG_s ?_ ?_ | refine wpC_s ?_ ?_)<;>intro hgo<;>(try simp only[dq] at hgo)<;>simp only[hgo,e9,hb,q1,wz,opX,intBin,↓reduceIte,simprocAttr])
    exact⟨_,rfl,false,rfl,fun h=>by cases h⟩
   by_cases q2:(6:Int)<(l.length:Int)
   ·(simp only[e9,hb,q1,q2,wz,opX,intBin,↓reduceIte,simprocAttr]<;>repeat' (first | refine wpG_s ?_ ?_ | refine wpC_s ?_ ?_)<;>intro hgo<;>(try simp only[dq] at hgo)<;>simp only[hgo,e9,hb,q1,q2,wz,opX,intBin,↓reduceIte,simprocAttr])
    exact⟨_,rfl,false,rfl,fun h=>by cases h⟩
   (simp only[e9,hb,q1,q2,wz,opX,intBin,↓reduceIte,simprocAttr]<;>repeat' (first | refine wpG_s ?_ ?_ | refine wpC_s ?_ ?_)<;>intro hgo<;>(try simp only[dq] at hgo)<;>simp only[hgo,e9,hb,q1,q2,wz,opX,intBin,↓reduceIte,simprocAttr])
   refine loop_wp l.length (fun n e h'=>h'=h∧(∀ (j:Nat) r,j<n→l[j]? = some r→r.length≤5∧cntL r≤12)∧e=[(22,.d (eRs l)),(23,.d (.int .i64 l.length)),(24,.d (.int .i64 (n:Int)))]) _ ?_ ?_ l.length 0 _ _ (by omega) ⟨rfl,fun j r hj=>by omega,rfl⟩
   ·rintro n e h' hn ⟨rfl,hall,rfl⟩
    obtain ⟨r,hr⟩:=get_of_lt hn
    have hp:∀ h,callW tab 32 [.d (ePs r),.d (.int .i64 0)] h=some (.d (.int .i64 (p2L r 0)),h):=fun h=>parts_ok r 0 (by omega) h
    have hpe:=p2L_eq r 0
    by_cases q3:(5:Int)<(r.length:Int)
    ·(simp only[e9,hn,iaR hr,q3,wz,opX,intBin,↓reduceIte,simprocAttr]<;>repeat' (first | refine wpG_s ?_ ?_ | refine wpC_s ?_ ?_)<;>intro hgo<;>(try simp only[dq] at hgo)<;>simp only[hgo,e9,hn,iaR hr,q3,wz,opX,intBin,↓reduceIte,simprocAttr])
     exact⟨_,rfl,false,rfl,fun h=>by cases h⟩
    by_cases q4:(12:Int)<((p2L r 0:Nat):Int)
    ·(simp only[e9,hn,iaR hr,q3,hp,q4,wz,opX,intBin,↓reduceIte,simprocAttr]<;>repeat' (first | refine wpG_s ?_ ?_ | refine wpC_s ?_ ?_)<;>intro hgo<;>(try simp only[dq] at hgo)<;>simp only[hgo,e9,hn,iaR hr,q3,hp,q4,wz,opX,intBin,↓reduceIte,simprocAttr])
     exact⟨_,rfl,false,rfl,fun h=>by cases h⟩
    (simp only[e9,hn,iaR hr,q3,hp,q4,wrap_succ (show n<2 ^ 62 by omega),wz,opX,intBin,↓reduceIte,simprocAttr]<;>repeat' (first | refine wpG_s ?_ ?_ | refine wpC_s ?_ ?_)<;>intro hgo<;>(try simp only[dq] at hgo)<;>simp only[hgo,e9,hn,iaR hr,q3,hp,q4,wrap_succ (show n<2 ^ 62 by omega),wz,opX,intBin,↓reduceIte,simprocAttr])
    intro j r' hj hr'
    by_cases e:j=n
    ·subst e;rw[hr] at hr';cases hr'
     have:=hpe.2 (by omega)
     exact⟨by omega,by omega⟩
    ·exact hall j r' (by omega) hr'
   ·rintro e h' ⟨rfl,hall,rfl⟩
    (simp only[e9,wz,opX,intBin,↓reduceIte,simprocAttr]<;>repeat' (first | refine wpG_s ?_ ?_ | refine wpC_s ?_ ?_)<;>intro hgo<;>(try simp only[dq] at hgo)<;>simp only[hgo,e9,wz,opX,intBin,↓reduceIte,simprocAttr])
    refine ⟨_,rfl,true,rfl,fun _=>⟨hs rfl,by omega,by omega,fun r hr=>?_⟩⟩
    obtain ⟨j,hj,hjr⟩:=mem_get hr
    exact hall j r hj hjr
 exact⟨b',h1,h2⟩
end Zc28
end
section
set_option maxHeartbeats 4000000
namespace Zc28
open Go Zv Zs
theorem idxFP (l:List Pt) (cv:V) (p:Pt→Bool) (h:Hp) (hl:l.length<2 ^ 60) (hcv:norm cv=cv) (hc:∀ c,c ∈ l→cW tab cv [.d (ePt c)] h=some (.d (.bool (p c)),h)) :
  callW tab 38 [.d (.lst (l.map ePt)),cv] h=some (.d (eI (idxZ p l)),h):=by
 refine call_wp (fn:=f38) rfl rfl ?_
 have hloop:=loop_find (T:=tab) (a:=f38l0) (l:=l) (p:=p) (f:=fun n=>[(0,.d (.lst (l.map ePt))),(1,cv),(7,int l.length),(8,int n)]) (h:=h)
   (by intro n x hx hlt hp;have hcall:=hc x (List.mem_of_getElem? hx);all_goals (apply wq_ex.1;(simp only[hlt,hp,e38,iaP hx,pts,hcall,wrap_succ (show n<2 ^ 62 by omega),wz,opX,intBin,↓reduceIte,simprocAttr]<;>repeat' (first | refine wpG_s ?_ ?_ | refine wpC_s ?_ ?_)<;>intro hgo<;>(try simp only[dq] at hgo)<;>simp only[hgo,hlt,hp,e38,iaP hx,pts,hcall,wrap_succ (show n<2 ^ 62 by omega),wz,opX,intBin,↓reduceIte,simprocAttr])))
   (by intro n x hx hlt hp;have hcall:=hc x (List.mem_of_getElem? hx);all_goals (apply wq_ex.1;(simp only[hlt,hp,e38,iaP hx,pts,hcall,wrap_succ (show n<2 ^ 62 by omega),wz,opX,intBin,↓reduceIte,simprocAttr]<;>repeat' (first | refine wpG_s ?_ ?_ | refine wpC_s ?_ ?_)<;>intro hgo<;>(try simp only[dq] at hgo)<;>simp only[hgo,hlt,hp,e38,iaP hx,pts,hcall,wrap_succ (show n<2 ^ 62 by omega),wz,opX,intBin,↓reduceIte,simprocAttr])<;>rfl))
   (by apply wq_ex.1;(simp only[e38,wz,opX,intBin,↓reduceIte,simprocAttr]<;>repeat' (first | refine wpG_s ?_ ?_ | refine wpC_s ?_ ?_)<;>intro hgo<;>(try simp only[dq] at hgo)<;>simp only[hgo,e38,wz,opX,intBin,↓reduceIte,simprocAttr])<;>rfl)
   (by intro n x;simp) (by simp)
 simp only[int,Zv.bool,Int.cast_ofNat_Int] at hloop
 (simp only[e38,hcv,wq_of hloop,wz,opX,intBin,↓reduceIte,simprocAttr]<;>repeat' (first | refine wpG_s ?_ ?_ | refine wpC_s ?_ ?_)<;>intro hgo<;>(try simp only[dq] at hgo)<;>simp only[hgo,e38,hcv,wq_of hloop,wz,opX,intBin,↓reduceIte,simprocAttr])
 unfold idxZ
 cases fst? p 0 l with
 |none=>(simp only[e38,wz,opX,intBin,↓reduceIte,simprocAttr]<;>repeat' (first | refine wpG_s ?_ ?_ | refine wpC_s ?_ ?_)<;>intro hgo<;>(try simp only[dq] at hgo)<;>simp only[hgo,e38,wz,opX,intBin,↓reduceIte,simprocAttr])
 |some n=>(simp only[e38,wz,opX,intBin,↓reduceIte,simprocAttr]<;>repeat' (first | refine wpG_s ?_ ?_ | refine wpC_s ?_ ?_)<;>intro hgo<;>(try simp only[dq] at hgo)<;>simp only[hgo,e38,wz,opX,intBin,↓reduceIte,simprocAttr])
theorem conFP (l:List Pt) (cv:V) (p:Pt→Bool) (h:Hp) (hl:l.length<2 ^ 60) (hcv:norm cv=cv) (hc:∀ c,c ∈ l→cW tab cv [.d (ePt c)] h=some (.d (.bool (p c)),h)) :
  callW tab 78 [.d (.lst (l.map ePt)),cv] h=some (.d (.bool (l.any p)),h):=by
 refine call_wp (fn:=f78) rfl rfl ?_
 have hi:=idxFP l cv p h hl hcv hc
 (simp only[e78,hcv,hi,idxZ_nn,Bool.decide_eq_true,wz,opX,intBin,↓reduceIte,simprocAttr]<;>repeat' (first | refine wpG_s ?_ ?_ | refine wpC_s ?_ ?_)<;>intro hgo<;>(try simp only[dq] at hgo)<;>simp only[hgo,e78,hcv,hi,idxZ_nn,Bool.decide_eq_true,wz,opX,intBin,↓reduceIte,simprocAttr])
mutual
def deepP:Pt→Nat→Bool
 | .mk _ _ _ qs,k=>decide (64<k) || deepL qs (k+1)
def deepL:List Pt→Nat→Bool
 | [],_=>false
 |p::r,k=>deepP p k || deepL r k
end
theorem deepL_any (k:Nat):∀ l:List Pt,deepL l k=l.any fun p=>deepP p k
 | []=>by rw[deepL];rfl
 |p::r=>by rw[deepL,deepL_any k r,List.any_cons]
theorem deep_ok:∀ (p:Pt) (k:Nat),k≤65→cntP p<2 ^ 60→∀ h,callW tab 80 [.d (ePt p),.d (.int .i64 (k:Int))] h=some (.d (.bool (deepP p k)),h)
 | .mk kd c m qs,k,hk,hc,h=>by
  have hlen:=cntL_len qs
  rw[cntP] at hc
  rw[deepP,ePt_mk]
  refine call_wp (fn:=f80) rfl rfl ?_
  by_cases h6:64<k
  ·have hk':(64:Int)<(k:Int):=by omega
   have e:(decide (64<k) || deepL qs (k+1))=true:=by simp[h6]
   rw[e]
   (simp only[e80,hk',wz,opX,intBin,↓reduceIte,simprocAttr]<;>repeat' (first | refine wpG_s ?_ ?_ | refine wpC_s ?_ ?_)<;>intro hgo<;>(try simp only[dq] at hgo)<;>simp only[hgo,e80,hk',wz,opX,intBin,↓reduceIte,simprocAttr])
  ·have hk':¬ (64:Int)<(k:Int):=by omega
   have e:(decide (64<k) || deepL qs (k+1))=qs.any fun p=>deepP p (k+1):=by simp[h6,deepL_any]
   rw[e]
   have hcl:=conFP qs (.clo 126 [.ptr (h.next+1) 1 0 0]) (fun p=>deepP p (k+1)) ⟨(h.next+1,.arr 1 [.d (.int .i64 (k:Int))])::h.objs,h.next+2⟩ (by omega) rfl (by
    intro p hp
    have hcp:=cntL_mem hp
    have hr:=fun h=>deep_ok p (k+1) (by omega) (by omega) h
    rw[cW_clo]
    simp only[Nat.reduceBEq,Bool.false_eq_true,if_false]
    refine call_wp (fn:=f126) rfl rfl ?_
    have hw:=wrap_succ (show k<2 ^ 62 by omega)
    have hrow:∀ (v:V) (nx:Nat),Hp.row ⟨(h.next+1+1,.arr 4 [v])::(h.next+1,.arr 1 [.d (.int .i64 (k:Int))])::h.objs,nx⟩ (h.next+1) 1=some (1,[.d (.int .i64 (k:Int))]):=fun v nx=>by
     unfold Hp.row Hp.get;simp[Zv.look]
    (simp only[e126,pts,hrow,hw,hr,wz,opX,intBin,↓reduceIte,simprocAttr]<;>repeat' (first | refine wpG_s ?_ ?_ | refine wpC_s ?_ ?_)<;>intro hgo<;>(try simp only[dq] at hgo)<;>simp only[hgo,e126,pts,hrow,hw,hr,wz,opX,intBin,↓reduceIte,simprocAttr]))
   (simp only[e80,hk',hcl,wz,opX,intBin,↓reduceIte,simprocAttr]<;>repeat' (first | refine wpG_s ?_ ?_ | refine wpC_s ?_ ?_)<;>intro hgo<;>(try simp only[dq] at hgo)<;>simp only[hgo,e80,hk',hcl,wz,opX,intBin,↓reduceIte,simprocAttr])
termination_by p=>cntP p
decreasing_by
 have:=cntL_mem hp
 rw[cntP]
 omega
theorem rdeep_ok:∀ (p:Pt) (k:Nat),k≤65→cntP p<2 ^ 60→∀ h,callW tab 85 [.d (ePt p),.d (.int .i64 (64 - (k:Int)))] h=some (.d (.bool (deepP p k)),h)
 | .mk kd c m qs,k,hk,hc,h=>by
  have hlen:=cntL_len qs
  rw[cntP] at hc
  rw[deepP,ePt_mk]
  refine call_wp (fn:=f85) rfl rfl ?_
  by_cases h6:64<k
  ·have hk':(64:Int) - (k:Int)<0:=by omega
   have e:(decide (64<k) || deepL qs (k+1))=true:=by simp[h6]
   rw[e]
   (simp only[e85,hk',wz,opX,intBin,↓reduceIte,simprocAttr]<;>repeat' (first | refine wpG_s ?_ ?_ | refine wpC_s ?_ ?_)<;>intro hgo<;>(try simp only[dq] at hgo)<;>simp only[hgo,e85,hk',wz,opX,intBin,↓reduceIte,simprocAttr])
  ·have hk':¬ (64:Int) - (k:Int)<0:=by omega
   have e:(decide (64<k) || deepL qs (k+1))=qs.any fun p=>deepP p (k+1):=by simp[h6,deepL_any]
   rw[e]
   have hw:IntKind.i64.wrap (64 - (k:Int) - 1)=64 - ((k+1:Nat):Int):=by
    have:(64:Int) - (k:Int) - 1=64 - ((k+1:Nat):Int):=by omega
    rw[this]
    exact wrap_ok (by omega) (by omega)
   have hloop:=loop_any (T:=tab) (a:=f85l0) (l:=qs) (p:=(fun p=>deepP p (k+1))) (f:=fun n=>[(1,.d (.int .i64 (64 - (k:Int)))),(2,.fp (.agg [.int .i64 kd,.int .i64 c,.int .i64 m,.lst (qs.map ePt)]) 0),(5,int n)]) (h:=⟨h.objs,h.next+1⟩)
     (by intro n x hx hlt hp;(have hcp:=cntL_mem (List.mem_of_getElem? hx));(have hr:=fun h=>rdeep_ok x (k+1) (by omega) (by omega) h);all_goals (apply wq_ex.1;(simp only[hlt,hp,e85,iaP hx,pts,hw,hr,wrap_succ (show n<2 ^ 62 by omega),wz,opX,intBin,↓reduceIte,simprocAttr]<;>repeat' (first | refine wpG_s ?_ ?_ | refine wpC_s ?_ ?_)<;>intro hgo<;>(try simp only[dq] at hgo)<;>simp only[hgo,hlt,hp,e85,iaP hx,pts,hw,hr,wrap_succ (show n<2 ^ 62 by omega),wz,opX,intBin,↓reduceIte,simprocAttr])))
     (by intro n x hx hlt hp;(have hcp:=cntL_mem (List.mem_of_getElem? hx));(have hr:=fun h=>rdeep_ok x (k+1) (by omega) (by omega) h);all_goals (apply wq_ex.1;(simp only[hlt,hp,e85,iaP hx,pts,hw,hr,wrap_succ (show n<2 ^ 62 by omega),wz,opX,intBin,↓reduceIte,simprocAttr]<;>repeat' (first | refine wpG_s ?_ ?_ | refine wpC_s ?_ ?_)<;>intro hgo<;>(try simp only[dq] at hgo)<;>simp only[hgo,hlt,hp,e85,iaP hx,pts,hw,hr,wrap_succ (show n<2 ^ 62 by omega),wz,opX,intBin,↓reduceIte,simprocAttr])<;>rfl))
     (by apply wq_ex.1;(simp only[e85,wz,opX,intBin,↓reduceIte,simprocAttr]<;>repeat' (first | refine wpG_s ?_ ?_ | refine wpC_s ?_ ?_)<;>intro hgo<;>(try simp only[dq] at hgo)<;>simp only[hgo,e85,wz,opX,intBin,↓reduceIte,simprocAttr])<;>rfl)
     (by simp) (by simp)
   simp only[int,Zv.bool,Int.cast_ofNat_Int] at hloop
   (simp only[e85,hk',wq_of hloop,wz,opX,intBin,↓reduceIte,simprocAttr]<;>repeat' (first | refine wpG_s ?_ ?_ | refine wpC_s ?_ ?_)<;>intro hgo<;>(try simp only[dq] at hgo)<;>simp only[hgo,e85,hk',wq_of hloop,wz,opX,intBin,↓reduceIte,simprocAttr])
   cases qs.any fun p=>deepP p (k+1)<;>(simp only[e85,wz,opX,intBin,↓reduceIte,simprocAttr]<;>repeat' (first | refine wpG_s ?_ ?_ | refine wpC_s ?_ ?_)<;>intro hgo<;>(try simp only[dq] at hgo)<;>simp only[hgo,e85,wz,opX,intBin,↓reduceIte,simprocAttr])
termination_by p=>cntP p
decreasing_by
 all_goals
  have:=cntL_mem (List.mem_of_getElem? hx)
  rw[cntP]
  omega
mutual
def fitsP (d:List Dt) (t:Int):Pt→Bool
 | .mk k c m qs=>if k=0 then decide (c=0) && decide (m=0) && decide (qs.length=0) else if k=2 then decide (t=0) && decide (c=0) && decide (qs.length=0) else if k=1 then
   (!(decide (t=0) || !decide (m=0) || decide (c<0) || decide (((consOf d t).length:Int)≤c))) && (match (consOf d t)[c.toNat]? with
    |some y=>decide (y.flds.length=qs.length) && fitsL d y.flds qs
    |none=>false) else false
def fitsL (d:List Dt):List Int→List Pt→Bool
 |f::fs,q::qs=>fitsP d f q && fitsL d fs qs
 |_,_=>true
end
theorem fld_isT27 {d:List Dt} (T:typedS d=true) {t f:Int} {c:Cn} (hc:c ∈ consOf d t) (hf:f ∈ c.flds):isT d f=true:=by
 rcases tcase d t with h0 | h0 | ⟨n,y,rfl,hy⟩
 ·rw[consOf_lo h0] at hc;cases hc
 ·rw[consOf_hi h0] at hc;cases hc
 ·rw[consOf_at hy] at hc
  unfold typedS at T
  rw[List.all_eq_true] at T
  have:=T y (List.mem_of_getElem? hy)
  rw[List.all_eq_true] at this
  have:=this c hc
  rw[List.all_eq_true] at this
  exact this f hf
def badF (d:List Dt) (x:Int × Pt):Bool := !fitsP d x.1 x.2
theorem fitsL_any (d:List Dt):∀ (fs:List Int) (qs:List Pt),fitsL d fs qs = !(fs.zip qs).any (badF d)
 | [],[]=>by simp[fitsL]
 | [],_::_=>by simp[fitsL]
 |_::_,[]=>by simp[fitsL]
 |f::fs,q::qs=>by
  rw[fitsL,fitsL_any d fs qs,List.zip_cons_cons,List.any_cons]
  simp[badF]
theorem zip_at {α β:Type} {l:List α} {r:List β} {n:Nat} {x:α × β} (h:(l.zip r)[n]? = some x):l[n]? = some x.1∧r[n]? = some x.2:=by
 rw[List.getElem?_zip_eq_some] at h
 exact h
theorem fits_ok {d:List Dt} (B:Bd d) (T:typedS d=true):∀ (p:Pt) (t:Int),isT d t=true→cntP p<2 ^ 60→∀ h,callW tab 81 [.d (eDs d),.d (eI t),.d (ePt p)] h=some (.d (.bool (fitsP d t p)),h)
 | .mk kd c m qs,t,hT,hc,h=>by
  have hlen:=cntL_len qs
  rw[cntP] at hc
  rw[fitsP,ePt_mk]
  refine call_wp (fn:=f81) rfl rfl ?_
  by_cases k0:kd=0
  ·subst k0
   rw[if_pos rfl]
   by_cases c0:c=0<;>by_cases m0:m=0<;>by_cases q0:qs.length=0<;>(have q0':((qs.length:Int) == 0)=decide (qs.length=0):=by simp[ibeq])<;>(simp only[e81,ibeq,c0,m0,q0,q0',wz,opX,intBin,↓reduceIte,simprocAttr]<;>repeat' (first | refine wpG_s ?_ ?_ | refine wpC_s ?_ ?_)<;>intro hgo<;>(try simp only[dq] at hgo)<;>simp only[hgo,e81,ibeq,c0,m0,q0,q0',wz,opX,intBin,↓reduceIte,simprocAttr])
  ·rw[if_neg k0]
   by_cases k2:kd=2
   ·subst k2
    rw[if_pos rfl]
    by_cases c0:c=0<;>by_cases t0:t=0<;>by_cases q0:qs.length=0<;>(have q0':((qs.length:Int) == 0)=decide (qs.length=0):=by simp[ibeq])<;>(simp only[e81,ibeq,c0,t0,q0,q0',wz,opX,intBin,↓reduceIte,simprocAttr]<;>repeat' (first | refine wpG_s ?_ ?_ | refine wpC_s ?_ ?_)<;>intro hgo<;>(try simp only[dq] at hgo)<;>simp only[hgo,e81,ibeq,c0,t0,q0,q0',wz,opX,intBin,↓reduceIte,simprocAttr])
   ·rw[if_neg k2]
    by_cases k1:kd=1
    ·subst k1
     rw[if_pos rfl]
     by_cases t0:t=0
     ·(simp only[e81,ibeq,t0,wz,opX,intBin,↓reduceIte,simprocAttr]<;>repeat' (first | refine wpG_s ?_ ?_ | refine wpC_s ?_ ?_)<;>intro hgo<;>(try simp only[dq] at hgo)<;>simp only[hgo,e81,ibeq,t0,wz,opX,intBin,↓reduceIte,simprocAttr])
      simp
     ·by_cases m0:m=0
      ·by_cases cn:c<0
       ·(simp only[e81,ibeq,ibne,t0,m0,cn,wz,opX,intBin,↓reduceIte,simprocAttr]<;>repeat' (first | refine wpG_s ?_ ?_ | refine wpC_s ?_ ?_)<;>intro hgo<;>(try simp only[dq] at hgo)<;>simp only[hgo,e81,ibeq,ibne,t0,m0,cn,wz,opX,intBin,↓reduceIte,simprocAttr])
        simp
       ·rcases tcase d t with h0 | h0 | ⟨j,y,rfl,hy⟩
        ·exfalso;simp only[isT,Bool.and_eq_true,decide_eq_true_eq] at hT;omega
        ·exfalso;simp only[isT,Bool.and_eq_true,decide_eq_true_eq] at hT;omega
        ·have b:=B.at hy
         have hw:=wrap_sub1 (n:=j) (by omega)
         rw[consOf_at hy]
         by_cases hge:(y.cons.length:Int)≤c
         ·(simp only[e81,ibeq,ibne,t0,m0,cn,hw,iaD hy,hge,wz,opX,intBin,↓reduceIte,simprocAttr]<;>repeat' (first | refine wpG_s ?_ ?_ | refine wpC_s ?_ ?_)<;>intro hgo<;>(try simp only[dq] at hgo)<;>simp only[hgo,e81,ibeq,ibne,t0,m0,cn,hw,iaD hy,hge,wz,opX,intBin,↓reduceIte,simprocAttr])
          simp
         ·obtain ⟨i,rfl⟩:∃ i:Nat,c=(i:Int):=⟨c.toNat,by omega⟩
          obtain ⟨z,hz⟩:=get_of_lt (l:=y.cons) (n:=i) (by omega)
          rw[Int.toNat_natCast,hz]
          simp only
          have hge':¬ y.cons.length≤i:=by omega
          have bc:=B.cat hy hz
          have e0:(decide (((j:Int)+1)=0) || !decide (m=0) || decide ((i:Int)<0) || decide ((y.cons.length:Int)≤(i:Int)))=false:=by
           have a1:¬ ((j:Int)+1=0):=by omega
           have a2:¬ ((i:Int)<0):=by omega
           have a3:¬ ((y.cons.length:Int)≤(i:Int)):=hge
           simp[a1,a2,a3,m0]
          rw[e0,Bool.not_false,Bool.true_and]
          by_cases hl:z.flds.length=qs.length
          ·rw[decide_eq_true hl,Bool.true_and,fitsL_any]
           have hl':((z.flds.length:Int) != (qs.length:Int))=false:=by simp[hl]
           have hzl:(z.flds.zip qs).length=qs.length:=by rw[List.length_zip];omega
           obtain ⟨hloopq,hloop⟩:=loop_anyq (T:=tab) (a:=f81l0) (l:=z.flds.zip qs) (p:=badF d) (f:=fun n=>[(0,.d (eDs d)),(7,.d (eIs z.flds)),(87,.d (ePs qs)),(88,.d (.int .i64 qs.length)),(89,int n)]) (h:=⟨h.objs,h.next+1⟩)
             (by intro q n x hx hlt hp;(have hxz:=zip_at hx);(have hcp:=cntL_mem (List.mem_of_getElem? hxz.2));(have hfT:=fld_isT27 T (t:=(j:Int)+1) (by rw[consOf_at hy];exact List.mem_of_getElem? hz) (List.mem_of_getElem? hxz.1));(have hr:=fun h=>fits_ok B T x.2 x.1 hfT (by omega) h);(have hlt':n<qs.length:=by omega);(have hpb:fitsP d x.1 x.2 = !(badF d x):=by simp[badF]);rw[hp] at hpb;all_goals ((simp only[hlt,hp,e81,iaP hxz.2,iaI hxz.1,pts,hr,hlt',hpb,wrap_succ (show n<2 ^ 62 by omega),wz,opX,intBin,↓reduceIte,simprocAttr]<;>repeat' (first | refine wpG_s ?_ ?_ | refine wpC_s ?_ ?_)<;>intro hgo<;>(try simp only[dq] at hgo)<;>simp only[hgo,hlt,hp,e81,iaP hxz.2,iaI hxz.1,pts,hr,hlt',hpb,wrap_succ (show n<2 ^ 62 by omega),wz,opX,intBin,↓reduceIte,simprocAttr])<;>(first | exact⟨_,rfl⟩ | exact⟨_,rfl,rfl⟩ | exact⟨_,rfl,rfl,rfl⟩)))
             (by intro q n x hx hlt hp;(have hxz:=zip_at hx);(have hcp:=cntL_mem (List.mem_of_getElem? hxz.2));(have hfT:=fld_isT27 T (t:=(j:Int)+1) (by rw[consOf_at hy];exact List.mem_of_getElem? hz) (List.mem_of_getElem? hxz.1));(have hr:=fun h=>fits_ok B T x.2 x.1 hfT (by omega) h);(have hlt':n<qs.length:=by omega);(have hpb:fitsP d x.1 x.2 = !(badF d x):=by simp[badF]);rw[hp] at hpb;all_goals ((simp only[hlt,hp,e81,iaP hxz.2,iaI hxz.1,pts,hr,hlt',hpb,wrap_succ (show n<2 ^ 62 by omega),wz,opX,intBin,↓reduceIte,simprocAttr]<;>repeat' (first | refine wpG_s ?_ ?_ | refine wpC_s ?_ ?_)<;>intro hgo<;>(try simp only[dq] at hgo)<;>simp only[hgo,hlt,hp,e81,iaP hxz.2,iaI hxz.1,pts,hr,hlt',hpb,wrap_succ (show n<2 ^ 62 by omega),wz,opX,intBin,↓reduceIte,simprocAttr])<;>(first | exact⟨_,rfl⟩ | exact⟨_,rfl,rfl⟩ | exact⟨_,rfl,rfl,rfl⟩)))
             (by intro q;(simp only[e81,hzl,wz,opX,intBin,↓reduceIte,simprocAttr]<;>repeat' (first | refine wpG_s ?_ ?_ | refine wpC_s ?_ ?_)<;>intro hgo<;>(try simp only[dq] at hgo)<;>simp only[hgo,e81,hzl,wz,opX,intBin,↓reduceIte,simprocAttr])<;>(first | exact⟨_,rfl⟩ | exact⟨_,rfl,rfl⟩ | exact⟨_,rfl,rfl,rfl⟩))
             (by simp) (by simp)
           simp only[int,Zv.bool,Int.cast_ofNat_Int] at hloop
           (simp only[e81,ibeq,ibne,t0,m0,cn,hw,iaD hy,iaC hz,hge',hl',wq_of hloop,wz,opX,intBin,↓reduceIte,simprocAttr]<;>repeat' (first | refine wpG_s ?_ ?_ | refine wpC_s ?_ ?_)<;>intro hgo<;>(try simp only[dq] at hgo)<;>simp only[hgo,e81,ibeq,ibne,t0,m0,cn,hw,iaD hy,iaC hz,hge',hl',wq_of hloop,wz,opX,intBin,↓reduceIte,simprocAttr])
           cases (z.flds.zip qs).any (badF d)<;>(simp only[e81,wz,opX,intBin,↓reduceIte,simprocAttr]<;>repeat' (first | refine wpG_s ?_ ?_ | refine wpC_s ?_ ?_)<;>intro hgo<;>(try simp only[dq] at hgo)<;>simp only[hgo,e81,wz,opX,intBin,↓reduceIte,simprocAttr])
          ·rw[decide_eq_false hl,Bool.false_and]
           have hl':((z.flds.length:Int) != (qs.length:Int))=true:=by simp;omega
           (simp only[e81,ibeq,ibne,t0,m0,cn,hw,iaD hy,iaC hz,hge',hl',wz,opX,intBin,↓reduceIte,simprocAttr]<;>repeat' (first | refine wpG_s ?_ ?_ | refine wpC_s ?_ ?_)<;>intro hgo<;>(try simp only[dq] at hgo)<;>simp only[hgo,e81,ibeq,ibne,t0,m0,cn,hw,iaD hy,iaC hz,hge',hl',wz,opX,intBin,↓reduceIte,simprocAttr])
      ·(simp only[e81,ibeq,ibne,t0,m0,wz,opX,intBin,↓reduceIte,simprocAttr]<;>repeat' (first | refine wpG_s ?_ ?_ | refine wpC_s ?_ ?_)<;>intro hgo<;>(try simp only[dq] at hgo)<;>simp only[hgo,e81,ibeq,ibne,t0,m0,wz,opX,intBin,↓reduceIte,simprocAttr])
       simp[m0]
    ·rw[if_neg k1]
     (simp only[e81,ibeq,k0,k1,k2,wz,opX,intBin,↓reduceIte,simprocAttr]<;>repeat' (first | refine wpG_s ?_ ?_ | refine wpC_s ?_ ?_)<;>intro hgo<;>(try simp only[dq] at hgo)<;>simp only[hgo,e81,ibeq,k0,k1,k2,wz,opX,intBin,↓reduceIte,simprocAttr])
termination_by p=>cntP p
decreasing_by
 all_goals
  have:=cntL_mem (List.mem_of_getElem? (zip_at hx).2)
  rw[cntP]
  omega
end Zc28
end
section
set_option maxHeartbeats 4000000
namespace Zc28
open Go Zv Zs
theorem rfits_ok {d:List Dt} (B:Bd d) (T:typedS d=true):∀ (p:Pt) (t:Int),isT d t=true→cntP p<2 ^ 60→∀ h,callW tab 86 [.d (eDs d),.d (eI t),.d (ePt p)] h=some (.d (.bool (fitsP d t p)),h)
 | .mk kd c m qs,t,hT,hc,h=>by
  have hlen:=cntL_len qs
  rw[cntP] at hc
  rw[fitsP,ePt_mk]
  refine call_wp (fn:=f86) rfl rfl ?_
  by_cases k0:kd=0
  ·subst k0
   rw[if_pos rfl]
   by_cases c0:c=0<;>by_cases m0:m=0<;>by_cases q0:qs.length=0<;>(have q0':((qs.length:Int) == 0)=decide (qs.length=0):=by simp[ibeq])<;>(simp only[e86,ibeq,c0,m0,q0,q0',wz,opX,intBin,↓reduceIte,simprocAttr]<;>repeat' (first | refine wpG_s ?_ ?_ | refine wpC_s ?_ ?_)<;>intro hgo<;>(try simp only[dq] at hgo)<;>simp only[hgo,e86,ibeq,c0,m0,q0,q0',wz,opX,intBin,↓reduceIte,simprocAttr])
  ·rw[if_neg k0]
   by_cases k2:kd=2
   ·subst k2
    rw[if_pos rfl]
    by_cases c0:c=0<;>by_cases t0:t=0<;>by_cases q0:qs.length=0<;>(have q0':((qs.length:Int) == 0)=decide (qs.length=0):=by simp[ibeq])<;>(simp only[e86,ibeq,c0,t0,q0,q0',wz,opX,intBin,↓reduceIte,simprocAttr]<;>repeat' (first | refine wpG_s ?_ ?_ | refine wpC_s ?_ ?_)<;>intro hgo<;>(try simp only[dq] at hgo)<;>simp only[hgo,e86,ibeq,c0,t0,q0,q0',wz,opX,intBin,↓reduceIte,simprocAttr])
   ·rw[if_neg k2]
    by_cases k1:kd=1
    ·subst k1
     rw[if_pos rfl]
     by_cases t0:t=0
     ·(simp only[e86,ibeq,t0,wz,opX,intBin,↓reduceIte,simprocAttr]<;>repeat' (first | refine wpG_s ?_ ?_ | refine wpC_s ?_ ?_)<;>intro hgo<;>(try simp only[dq] at hgo)<;>simp only[hgo,e86,ibeq,t0,wz,opX,intBin,↓reduceIte,simprocAttr])
      simp
     ·by_cases m0:m=0
      ·by_cases cn:c<0
       ·(simp only[e86,ibeq,ibne,t0,m0,cn,wz,opX,intBin,↓reduceIte,simprocAttr]<;>repeat' (first | refine wpG_s ?_ ?_ | refine wpC_s ?_ ?_)<;>intro hgo<;>(try simp only[dq] at hgo)<;>simp only[hgo,e86,ibeq,ibne,t0,m0,cn,wz,opX,intBin,↓reduceIte,simprocAttr])
        simp
       ·rcases tcase d t with h0 | h0 | ⟨j,y,rfl,hy⟩
        ·exfalso;simp only[isT,Bool.and_eq_true,decide_eq_true_eq] at hT;omega
        ·exfalso;simp only[isT,Bool.and_eq_true,decide_eq_true_eq] at hT;omega
        ·have b:=B.at hy
         have hw:=wrap_sub1 (n:=j) (by omega)
         rw[consOf_at hy]
         by_cases hge:(y.cons.length:Int)≤c
         ·(simp only[e86,ibeq,ibne,t0,m0,cn,hw,iaD hy,hge,wz,opX,intBin,↓reduceIte,simprocAttr]<;>repeat' (first | refine wpG_s ?_ ?_ | refine wpC_s ?_ ?_)<;>intro hgo<;>(try simp only[dq] at hgo)<;>simp only[hgo,e86,ibeq,ibne,t0,m0,cn,hw,iaD hy,hge,wz,opX,intBin,↓reduceIte,simprocAttr])
          simp
         ·obtain ⟨i,rfl⟩:∃ i:Nat,c=(i:Int):=⟨c.toNat,by omega⟩
          obtain ⟨z,hz⟩:=get_of_lt (l:=y.cons) (n:=i) (by omega)
          rw[Int.toNat_natCast,hz]
          simp only
          have hge':¬ y.cons.length≤i:=by omega
          have bc:=B.cat hy hz
          have e0:(decide (((j:Int)+1)=0) || !decide (m=0) || decide ((i:Int)<0) || decide ((y.cons.length:Int)≤(i:Int)))=false:=by
           have a1:¬ ((j:Int)+1=0):=by omega
           have a2:¬ ((i:Int)<0):=by omega
           have a3:¬ ((y.cons.length:Int)≤(i:Int)):=hge
           simp[a1,a2,a3,m0]
          rw[e0,Bool.not_false,Bool.true_and]
          obtain rfl:=m0
          have m0:(0:Int)=0:=rfl
          by_cases hl:z.flds.length=qs.length
          ·rw[decide_eq_true hl,Bool.true_and,fitsL_any]
           have hl':((z.flds.length:Int) != (qs.length:Int))=false:=by simp[hl]
           have hzl:(z.flds.zip qs).length=qs.length:=by rw[List.length_zip];omega
           have hzf:(z.flds.zip qs).length=z.flds.length:=by rw[List.length_zip];omega
           have hfe:(z.flds.length:Int)=(qs.length:Int):=by omega
           have hloop:=loop_any (T:=tab) (a:=f86l0) (l:=z.flds.zip qs) (p:=badF d) (f:=fun n=>[(0,.d (eDs d)),(5,.fp (.agg [.int .i64 1,.int .i64 (i:Int),.int .i64 0,.lst (qs.map ePt)]) 0),(7,.d (eIs z.flds)),(8,int n)]) (h:=⟨h.objs,h.next+1⟩)
             (by intro n x hx hlt hp;(have hxz:=zip_at hx);(have hcp:=cntL_mem (List.mem_of_getElem? hxz.2));(have hfT:=fld_isT27 T (t:=(j:Int)+1) (by rw[consOf_at hy];exact List.mem_of_getElem? hz) (List.mem_of_getElem? hxz.1));(have hr:=fun h=>rfits_ok B T x.2 x.1 hfT (by omega) h);(have hlt':n<qs.length:=by omega);(have hpb:fitsP d x.1 x.2 = !(badF d x):=by simp[badF]);rw[hp] at hpb;all_goals (apply wq_ex.1;(simp only[hlt,hp,e86,hfe,iaP hxz.2,iaI hxz.1,pts,hr,hlt',hpb,wrap_succ (show n<2 ^ 62 by omega),wz,opX,intBin,↓reduceIte,simprocAttr]<;>repeat' (first | refine wpG_s ?_ ?_ | refine wpC_s ?_ ?_)<;>intro hgo<;>(try simp only[dq] at hgo)<;>simp only[hgo,hlt,hp,e86,hfe,iaP hxz.2,iaI hxz.1,pts,hr,hlt',hpb,wrap_succ (show n<2 ^ 62 by omega),wz,opX,intBin,↓reduceIte,simprocAttr])))
             (by intro n x hx hlt hp;(have hxz:=zip_at hx);(have hcp:=cntL_mem (List.mem_of_getElem? hxz.2));(have hfT:=fld_isT27 T (t:=(j:Int)+1) (by rw[consOf_at hy];exact List.mem_of_getElem? hz) (List.mem_of_getElem? hxz.1));(have hr:=fun h=>rfits_ok B T x.2 x.1 hfT (by omega) h);(have hlt':n<qs.length:=by omega);(have hpb:fitsP d x.1 x.2 = !(badF d x):=by simp[badF]);rw[hp] at hpb;all_goals (apply wq_ex.1;(simp only[hlt,hp,e86,hfe,iaP hxz.2,iaI hxz.1,pts,hr,hlt',hpb,wrap_succ (show n<2 ^ 62 by omega),wz,opX,intBin,↓reduceIte,simprocAttr]<;>repeat' (first | refine wpG_s ?_ ?_ | refine wpC_s ?_ ?_)<;>intro hgo<;>(try simp only[dq] at hgo)<;>simp only[hgo,hlt,hp,e86,hfe,iaP hxz.2,iaI hxz.1,pts,hr,hlt',hpb,wrap_succ (show n<2 ^ 62 by omega),wz,opX,intBin,↓reduceIte,simprocAttr])<;>rfl))
             (by apply wq_ex.1;(simp only[e86,hzl,hfe,wz,opX,intBin,↓reduceIte,simprocAttr]<;>repeat' (first | refine wpG_s ?_ ?_ | refine wpC_s ?_ ?_)<;>intro hgo<;>(try simp only[dq] at hgo)<;>simp only[hgo,e86,hzl,hfe,wz,opX,intBin,↓reduceIte,simprocAttr])<;>rfl)
             (by simp) (by simp)
           simp only[int,Zv.bool,Int.cast_ofNat_Int] at hloop
           (simp only[e86,ibeq,ibne,t0,m0,cn,hw,iaD hy,iaC hz,hge',hl',wq_of hloop,wz,opX,intBin,↓reduceIte,simprocAttr]<;>repeat' (first | refine wpG_s ?_ ?_ | refine wpC_s ?_ ?_)<;>intro hgo<;>(try simp only[dq] at hgo)<;>simp only[hgo,e86,ibeq,ibne,t0,m0,cn,hw,iaD hy,iaC hz,hge',hl',wq_of hloop,wz,opX,intBin,↓reduceIte,simprocAttr])
           cases (z.flds.zip qs).any (badF d)<;>(simp only[e86,wz,opX,intBin,↓reduceIte,simprocAttr]<;>repeat' (first | refine wpG_s ?_ ?_ | refine wpC_s ?_ ?_)<;>intro hgo<;>(try simp only[dq] at hgo)<;>simp only[hgo,e86,wz,opX,intBin,↓reduceIte,simprocAttr])
          ·rw[decide_eq_false hl,Bool.false_and]
           have hl':((z.flds.length:Int) != (qs.length:Int))=true:=by simp;omega
           (simp only[e86,ibeq,ibne,t0,m0,cn,hw,iaD hy,iaC hz,hge',hl',wz,opX,intBin,↓reduceIte,simprocAttr]<;>repeat' (first | refine wpG_s ?_ ?_ | refine wpC_s ?_ ?_)<;>intro hgo<;>(try simp only[dq] at hgo)<;>simp only[hgo,e86,ibeq,ibne,t0,m0,cn,hw,iaD hy,iaC hz,hge',hl',wz,opX,intBin,↓reduceIte,simprocAttr])
      ·(simp only[e86,ibeq,ibne,t0,m0,wz,opX,intBin,↓reduceIte,simprocAttr]<;>repeat' (first | refine wpG_s ?_ ?_ | refine wpC_s ?_ ?_)<;>intro hgo<;>(try simp only[dq] at hgo)<;>simp only[hgo,e86,ibeq,ibne,t0,m0,wz,opX,intBin,↓reduceIte,simprocAttr])
       simp[m0]
    ·rw[if_neg k1]
     (simp only[e86,ibeq,k0,k1,k2,wz,opX,intBin,↓reduceIte,simprocAttr]<;>repeat' (first | refine wpG_s ?_ ?_ | refine wpC_s ?_ ?_)<;>intro hgo<;>(try simp only[dq] at hgo)<;>simp only[hgo,e86,ibeq,k0,k1,k2,wz,opX,intBin,↓reduceIte,simprocAttr])
termination_by p=>cntP p
decreasing_by
 all_goals
  have:=cntL_mem (List.mem_of_getElem? (zip_at hx).2)
  rw[cntP]
  omega
def badT (d:List Dt) (t:Int):Bool := !isT d t
def deepR (r:List Pt):Bool:=r.any fun p=>deepP p 0
def badR (d:List Dt) (ts:List Int) (r:List Pt):Bool := !(decide (r.length=ts.length) && !(ts.zip r).any (badF d))
def chk27 (d:List Dt) (ts:List Int) (l:List (List Pt)):Int:=
 if checkS d≠0 then 3 else if 8<ts.length∨64<l.length then 6 else if ts.any (badT d)=true then 2 else if l.any deepR=true then 7 else if l.any (badR d ts)=true then 10 else 0
structure Rng (d:List Dt) (ts:List Int) (l:List (List Pt)):Prop where
 bd:Bd d
 nm:Nm d
 ts:ts.length<2 ^ 60
 rows:l.length<2 ^ 60
 cnt:∀ r,r ∈ l→cntL r<2 ^ 60
theorem tests (d:List Dt) (t:Int):badT d t=(decide (t<0) || decide ((d.length:Int)<t)):=by
 unfold badT isT
 by_cases h1:t<0<;>by_cases h2:(d.length:Int)<t<;>simp[h1,h2]<;>omega
theorem chk_ok {d:List Dt} {ts:List Int} {l:List (List Pt)} (R:Rng d ts l) (h:Hp):callW tab 35 [.d (eDs d),.d (eIs ts),.d (eRs l)] h=some (.d (eI (chk27 d ts l)),h):=by
 refine call_wp (fn:=f35) rfl rfl ?_
 have B:=R.bd
 have hts:=R.ts
 have hll:=R.rows
 have hbl:=B.len
 have hch:=fun hh=>pcheck_ok B R.nm hh
 unfold chk27
 by_cases hC:checkS d=0
 ·rw[if_neg (by simp[hC])]
  have T:=check_typed hC
  by_cases h8:8<ts.length
  ·rw[if_pos (.inl h8)]
   have h8':(8:Int)<(ts.length:Int):=by omega
   (simp only[e35,hch,hC,h8',wz,opX,intBin,↓reduceIte,simprocAttr]<;>repeat' (first | refine wpG_s ?_ ?_ | refine wpC_s ?_ ?_)<;>intro hgo<;>(try simp only[dq] at hgo)<;>simp only[hgo,e35,hch,hC,h8',wz,opX,intBin,↓reduceIte,simprocAttr])
  ·have h8':¬ (8:Int)<(ts.length:Int):=by omega
   by_cases h64:64<l.length
   ·rw[if_pos (.inr h64)]
    have h64':(64:Int)<(l.length:Int):=by omega
    (simp only[e35,hch,hC,h8',h64',wz,opX,intBin,↓reduceIte,simprocAttr]<;>repeat' (first | refine wpG_s ?_ ?_ | refine wpC_s ?_ ?_)<;>intro hgo<;>(try simp only[dq] at hgo)<;>simp only[hgo,e35,hch,hC,h8',h64',wz,opX,intBin,↓reduceIte,simprocAttr])
   ·rw[if_neg (by simp[h8,h64])]
    have h64':¬ (64:Int)<(l.length:Int):=by omega
    have hcT:=conFT ts (.clo 77 [.ptr h.next 1 0 0]) (badT d) ⟨(h.next,.arr 1 [.d (eDs d)])::h.objs,h.next+1⟩ (by omega) rfl (by
     intro t ht
     rw[cW_clo]
     simp only[Nat.reduceBEq,Bool.false_eq_true,if_false]
     refine call_wp (fn:=f77) rfl rfl ?_
     rw[tests]
     by_cases t1:t<0
     ·(simp only[e77,t1,Bool.true_or,wz,opX,intBin,↓reduceIte,simprocAttr]<;>repeat' (first | refine wpG_s ?_ ?_ | refine wpC_s ?_ ?_)<;>intro hgo<;>(try simp only[dq] at hgo)<;>simp only[hgo,e77,t1,Bool.true_or,wz,opX,intBin,↓reduceIte,simprocAttr])
     ·by_cases t2:(d.length:Int)<t<;>(simp only[e77,t1,t2,Bool.false_or,wz,opX,intBin,↓reduceIte,simprocAttr]<;>repeat' (first | refine wpG_s ?_ ?_ | refine wpC_s ?_ ?_)<;>intro hgo<;>(try simp only[dq] at hgo)<;>simp only[hgo,e77,t1,t2,Bool.false_or,wz,opX,intBin,↓reduceIte,simprocAttr]))
    cases hbt:ts.any (badT d) with
    |true=>
     rw[if_pos rfl]
     (simp only[e35,hch,hC,h8',h64',hcT,hbt,wz,opX,intBin,↓reduceIte,simprocAttr]<;>repeat' (first | refine wpG_s ?_ ?_ | refine wpC_s ?_ ?_)<;>intro hgo<;>(try simp only[dq] at hgo)<;>simp only[hgo,e35,hch,hC,h8',h64',hcT,hbt,wz,opX,intBin,↓reduceIte,simprocAttr])
    |false=>
     rw[if_neg (by simp)]
     have hdp:∀ r,r ∈ l→∀ h,callW tab 78 [.d (ePs r),.clo 79 []] h=some (.d (.bool (deepR r)),h):=by
      intro r hr h
      have hcr:=R.cnt r hr
      have hlr:=cntL_len r
      refine conFP r (.clo 79 []) (fun p=>deepP p 0) h (by omega) rfl (fun p hp=>?_)
      have hcp:=cntL_mem hp
      have hd:=fun h=>deep_ok p 0 (by omega) (by omega) h
      rw[cW_clo]
      simp only[Nat.reduceBEq,Bool.false_eq_true,if_false]
      refine call_wp (fn:=f79) rfl rfl ?_
      simp only[Int.cast_ofNat_Int] at hd
      (simp only[e79,pts,hd,wz,opX,intBin,↓reduceIte,simprocAttr]<;>repeat' (first | refine wpG_s ?_ ?_ | refine wpC_s ?_ ?_)<;>intro hgo<;>(try simp only[dq] at hgo)<;>simp only[hgo,e79,pts,hd,wz,opX,intBin,↓reduceIte,simprocAttr])
     have hA:=loop_any (T:=tab) (a:=f35l0) (l:=l) (p:=deepR) (f:=fun n=>[(1,.d (eIs ts)),(2,.d (eRs l)),(3,.ptr h.next 1 0 0),(27,.d (eRs l)),(28,.d (.int .i64 l.length)),(29,int n)]) (h:=⟨(h.next,.arr 1 [.d (eDs d)])::h.objs,h.next+1⟩)
       (by intro n x hx hlt hp;(have hr:=hdp x (List.mem_of_getElem? hx));all_goals (apply wq_ex.1;(simp only[hlt,hp,e35,iaR hx,hr,wrap_succ (show n<2 ^ 62 by omega),wz,opX,intBin,↓reduceIte,simprocAttr]<;>repeat' (first | refine wpG_s ?_ ?_ | refine wpC_s ?_ ?_)<;>intro hgo<;>(try simp only[dq] at hgo)<;>simp only[hgo,hlt,hp,e35,iaR hx,hr,wrap_succ (show n<2 ^ 62 by omega),wz,opX,intBin,↓reduceIte,simprocAttr])))
       (by intro n x hx hlt hp;(have hr:=hdp x (List.mem_of_getElem? hx));all_goals (apply wq_ex.1;(simp only[hlt,hp,e35,iaR hx,hr,wrap_succ (show n<2 ^ 62 by omega),wz,opX,intBin,↓reduceIte,simprocAttr]<;>repeat' (first | refine wpG_s ?_ ?_ | refine wpC_s ?_ ?_)<;>intro hgo<;>(try simp only[dq] at hgo)<;>simp only[hgo,hlt,hp,e35,iaR hx,hr,wrap_succ (show n<2 ^ 62 by omega),wz,opX,intBin,↓reduceIte,simprocAttr])<;>rfl))
       (by apply wq_ex.1;(simp only[e35,wz,opX,intBin,↓reduceIte,simprocAttr]<;>repeat' (first | refine wpG_s ?_ ?_ | refine wpC_s ?_ ?_)<;>intro hgo<;>(try simp only[dq] at hgo)<;>simp only[hgo,e35,wz,opX,intBin,↓reduceIte,simprocAttr])<;>rfl)
       (by simp) (by simp)
     simp only[int,Zv.bool,Int.cast_ofNat_Int] at hA
     cases hdr:l.any deepR with
     |true=>
      rw[hdr] at hA
      rw[if_pos rfl]
      (simp only[e35,hch,hC,h8',h64',hcT,hbt,wq_of hA,wz,opX,intBin,↓reduceIte,simprocAttr]<;>repeat' (first | refine wpG_s ?_ ?_ | refine wpC_s ?_ ?_)<;>intro hgo<;>(try simp only[dq] at hgo)<;>simp only[hgo,e35,hch,hC,h8',h64',hcT,hbt,wq_of hA,wz,opX,intBin,↓reduceIte,simprocAttr])
     |false=>
      rw[hdr] at hA
      rw[if_neg (by simp)]
      have tyT:∀ t,t ∈ ts→isT d t=true:=by
       intro t ht
       have:=List.any_eq_false.1 hbt t ht
       simpa [badT] using this
      have inner:∀ (j:Nat) (r:List Pt) (q:Nat),r ∈ l→r.length=ts.length→∃ q',ex tab (.loop f35l1) [(1,.d (eIs ts)),(3,.ptr h.next 1 0 0),(36,.d (eRs l)),(37,.d (.int .i64 l.length)),(38,.d (.int .i64 (j:Int))),(47,.d (ePs r)),(48,.d (.int .i64 r.length)),(49,.d (.int .i64 0))] ⟨(h.next,.arr 1 [.d (eDs d)])::h.objs,q⟩ =
        some (if (ts.zip r).any (badF d)=true then (.ret,[(6,.d (.int .i64 10))],⟨(h.next,.arr 1 [.d (eDs d)])::h.objs,q'⟩) else (.exit 4,[(1,.d (eIs ts)),(3,.ptr h.next 1 0 0),(36,.d (eRs l)),(37,.d (.int .i64 l.length)),(38,.d (.int .i64 (j:Int))),(47,.d (ePs r)),(48,.d (.int .i64 r.length)),(49,.d (.int .i64 r.length)),(50,.d (.bool false))],⟨(h.next,.arr 1 [.d (eDs d)])::h.objs,q'⟩)):=by
       intro j r q hr hrl
       have hcr:=R.cnt r hr
       have hzl:(ts.zip r).length=r.length:=by rw[List.length_zip];omega
       obtain ⟨hloopq,hloop⟩:=loop_anyq (T:=tab) (a:=f35l1) (l:=ts.zip r) (p:=badF d) (f:=fun n=>[(1,.d (eIs ts)),(3,.ptr h.next 1 0 0),(36,.d (eRs l)),(37,.d (.int .i64 l.length)),(38,.d (.int .i64 (j:Int))),(47,.d (ePs r)),(48,.d (.int .i64 r.length)),(49,int n)]) (h:=⟨(h.next,.arr 1 [.d (eDs d)])::h.objs,q⟩)
         (by intro q n x hx hlt hp;(have hxz:=zip_at hx);(have hcp:=cntL_mem (List.mem_of_getElem? hxz.2));(have hf:=fun h=>fits_ok B T x.2 x.1 (tyT _ (List.mem_of_getElem? hxz.1)) (by omega) h);(have hlt':n<r.length:=by omega);(have hpb:fitsP d x.1 x.2 = !(badF d x):=by simp[badF]);rw[hp] at hpb;all_goals ((simp only[hlt,hp,e35,iaP hxz.2,iaI hxz.1,pts,hf,hlt',hpb,wrap_succ (show n<2 ^ 62 by omega),wz,opX,intBin,↓reduceIte,simprocAttr]<;>repeat' (first | refine wpG_s ?_ ?_ | refine wpC_s ?_ ?_)<;>intro hgo<;>(try simp only[dq] at hgo)<;>simp only[hgo,hlt,hp,e35,iaP hxz.2,iaI hxz.1,pts,hf,hlt',hpb,wrap_succ (show n<2 ^ 62 by omega),wz,opX,intBin,↓reduceIte,simprocAttr])<;>(first | exact⟨_,rfl⟩ | exact⟨_,rfl,rfl⟩ | exact⟨_,rfl,rfl,rfl⟩)))
         (by intro q n x hx hlt hp;(have hxz:=zip_at hx);(have hcp:=cntL_mem (List.mem_of_getElem? hxz.2));(have hf:=fun h=>fits_ok B T x.2 x.1 (tyT _ (List.mem_of_getElem? hxz.1)) (by omega) h);(have hlt':n<r.length:=by omega);(have hpb:fitsP d x.1 x.2 = !(badF d x):=by simp[badF]);rw[hp] at hpb;all_goals ((simp only[hlt,hp,e35,iaP hxz.2,iaI hxz.1,pts,hf,hlt',hpb,wrap_succ (show n<2 ^ 62 by omega),wz,opX,intBin,↓reduceIte,simprocAttr]<;>repeat' (first | refine wpG_s ?_ ?_ | refine wpC_s ?_ ?_)<;>intro hgo<;>(try simp only[dq] at hgo)<;>simp only[hgo,hlt,hp,e35,iaP hxz.2,iaI hxz.1,pts,hf,hlt',hpb,wrap_succ (show n<2 ^ 62 by omega),wz,opX,intBin,↓reduceIte,simprocAttr])<;>(first | exact⟨_,rfl⟩ | exact⟨_,rfl,rfl⟩ | exact⟨_,rfl,rfl,rfl⟩)))
         (by intro q;(simp only[e35,hzl,wz,opX,intBin,↓reduceIte,simprocAttr]<;>repeat' (first | refine wpG_s ?_ ?_ | refine wpC_s ?_ ?_)<;>intro hgo<;>(try simp only[dq] at hgo)<;>simp only[hgo,e35,hzl,wz,opX,intBin,↓reduceIte,simprocAttr])<;>(first | exact⟨_,rfl⟩ | exact⟨_,rfl,rfl⟩ | exact⟨_,rfl,rfl,rfl⟩))
         (by simp) (by simp)
       simp only[int,Zv.bool,Int.cast_ofNat_Int] at hloop
       exact⟨hloopq,hloop⟩
      obtain ⟨q',hB⟩:=loop_anyq (T:=tab) (a:=f35l2) (l:=l) (p:=badR d ts) (f:=fun n=>[(1,.d (eIs ts)),(3,.ptr h.next 1 0 0),(36,.d (eRs l)),(37,.d (.int .i64 l.length)),(38,int n)]) (h:=⟨(h.next,.arr 1 [.d (eDs d)])::h.objs,h.next+1⟩)
       (x1:=.ret) (e1:=[(6,.d (.int .i64 10))]) (x2:=.exit 2) (e2:=[(1,.d (eIs ts)),(3,.ptr h.next 1 0 0),(36,.d (eRs l)),(37,.d (.int .i64 l.length)),(38,.d (.int .i64 l.length)),(39,.d (.bool false))])
       (by
        intro q n x hx hlt hp
        have hmem:=List.mem_of_getElem? hx
        unfold badR at hp
        simp only[Bool.not_eq_false',Bool.and_eq_true,decide_eq_true_eq,Bool.not_eq_true'] at hp
        obtain ⟨hrl,hany⟩:=hp
        have hne:((x.length:Int) != (ts.length:Int))=false:=by simp[hrl]
        obtain ⟨q',hin⟩:=inner n x q hmem hrl
        rw[hany,if_neg (by simp)] at hin
        (simp only[e35,hlt,iaR hx,hne,wq_of hin,wrap_succ (show n<2 ^ 62 by omega),wz,opX,intBin,↓reduceIte,simprocAttr]<;>repeat' (first | refine wpG_s ?_ ?_ | refine wpC_s ?_ ?_)<;>intro hgo<;>(try simp only[dq] at hgo)<;>simp only[hgo,e35,hlt,iaR hx,hne,wq_of hin,wrap_succ (show n<2 ^ 62 by omega),wz,opX,intBin,↓reduceIte,simprocAttr])
        exact⟨_,rfl⟩)
       (by
        intro q n x hx hlt hp
        have hmem:=List.mem_of_getElem? hx
        by_cases hrl:x.length=ts.length
        ·unfold badR at hp
         rw[decide_eq_true hrl,Bool.true_and,Bool.not_not] at hp
         have hne:((x.length:Int) != (ts.length:Int))=false:=by simp[hrl]
         obtain ⟨q',hin⟩:=inner n x q hmem hrl
         rw[hp,if_pos rfl] at hin
         (simp only[e35,hlt,iaR hx,hne,wq_of hin,wz,opX,intBin,↓reduceIte,simprocAttr]<;>repeat' (first | refine wpG_s ?_ ?_ | refine wpC_s ?_ ?_)<;>intro hgo<;>(try simp only[dq] at hgo)<;>simp only[hgo,e35,hlt,iaR hx,hne,wq_of hin,wz,opX,intBin,↓reduceIte,simprocAttr])
         exact⟨_,rfl⟩
        ·have hne:((x.length:Int) != (ts.length:Int))=true:=by simp;omega
         (simp only[e35,hlt,iaR hx,hne,wz,opX,intBin,↓reduceIte,simprocAttr]<;>repeat' (first | refine wpG_s ?_ ?_ | refine wpC_s ?_ ?_)<;>intro hgo<;>(try simp only[dq] at hgo)<;>simp only[hgo,e35,hlt,iaR hx,hne,wz,opX,intBin,↓reduceIte,simprocAttr])
         exact⟨_,rfl⟩)
       (by intro q;(simp only[e35,wz,opX,intBin,↓reduceIte,simprocAttr]<;>repeat' (first | refine wpG_s ?_ ?_ | refine wpC_s ?_ ?_)<;>intro hgo<;>(try simp only[dq] at hgo)<;>simp only[hgo,e35,wz,opX,intBin,↓reduceIte,simprocAttr]);exact⟨_,rfl⟩) (by simp) (by simp)
      simp only[int,Int.cast_ofNat_Int] at hB
      cases hbr:l.any (badR d ts) with
      |true=>
       rw[hbr,if_pos rfl] at hB
       rw[if_pos rfl]
       (simp only[e35,hch,hC,h8',h64',hcT,hbt,wq_of hA,wq_of hB,wz,opX,intBin,↓reduceIte,simprocAttr]<;>repeat' (first | refine wpG_s ?_ ?_ | refine wpC_s ?_ ?_)<;>intro hgo<;>(try simp only[dq] at hgo)<;>simp only[hgo,e35,hch,hC,h8',h64',hcT,hbt,wq_of hA,wq_of hB,wz,opX,intBin,↓reduceIte,simprocAttr])
      |false=>
       rw[hbr,if_neg (by simp)] at hB
       rw[if_neg (by simp)]
       (simp only[e35,hch,hC,h8',h64',hcT,hbt,wq_of hA,wq_of hB,wz,opX,intBin,↓reduceIte,simprocAttr]<;>repeat' (first | refine wpG_s ?_ ?_ | refine wpC_s ?_ ?_)<;>intro hgo<;>(try simp only[dq] at hgo)<;>simp only[hgo,e35,hch,hC,h8',h64',hcT,hbt,wq_of hA,wq_of hB,wz,opX,intBin,↓reduceIte,simprocAttr])
 ·rw[if_pos hC]
  have e:(checkS d != 0)=true:=by simp[hC]
  (simp only[e35,hch,e,wz,opX,intBin,↓reduceIte,simprocAttr]<;>repeat' (first | refine wpG_s ?_ ?_ | refine wpC_s ?_ ?_)<;>intro hgo<;>(try simp only[dq] at hgo)<;>simp only[hgo,e35,hch,e,wz,opX,intBin,↓reduceIte,simprocAttr])
end Zc28
end
