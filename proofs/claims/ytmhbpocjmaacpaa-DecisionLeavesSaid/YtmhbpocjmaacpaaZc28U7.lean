/-
  Parts of the proof.
-/
import Derived.Test.YtmhbpocjmaacpaaZc28G5
import Derived.KernelRfl
set_option linter.unusedSimpArgs false
set_option linter.unusedVariables false
section
set_option maxHeartbeats 4000000
namespace Zc28
open Go Zv Zs
section
variable (a:Nat) (L0:List (Nat × Ob)) (clo:V) (n:Nat)
def hW (M:List Bool):Option (List V × Nat)→Hp
 |none=>⟨(a+3,.arr 1 [clo])::(a+2,.arr 1 [.tl [] (some true)])::(a+1,.arr 1 [.own a 1 n 0 n])::(a,.arr 1 (M.map bV))::L0,a+4⟩
 |some (els,k)=>⟨(a+4,.arr 5 els)::(a+3,.arr 1 [clo])::(a+2,.arr 1 [.own (a+4) 5 els.length 0 k])::(a+1,.arr 1 [.own a 1 n 0 n])::(a,.arr 1 (M.map bV))::L0,a+5⟩
def stkV:Option (List V × Nat)→V
 |none=>.tl [] (some true)
 |some (els,k)=>.own (a+4) 5 els.length 0 k
def StkOk (s:List Ts):Option (List V × Nat)→Prop
 |none=>s=[]
 |some (els,k)=>k=s.length∧k≤els.length∧els.take k=s.map (fun t=>V.d (eT t))∧els.length≤20000
theorem hW_met (M:List Bool) (o:Option (List V × Nat)):(hW a L0 clo n M o).row (a+1) 1=some (1,[.own a 1 n 0 n]):=by
 rcases o with _ | ⟨els,k⟩<;>refine row_look ?_ rfl<;>simp[hW,Zv.look]
theorem hW_stk (M:List Bool) (o:Option (List V × Nat)):(hW a L0 clo n M o).row (a+2) 1=some (1,[stkV a o]):=by
 rcases o with _ | ⟨els,k⟩<;>refine row_look ?_ rfl<;>simp[hW,Zv.look,stkV]
theorem hW_clo (M:List Bool) (o:Option (List V × Nat)):(hW a L0 clo n M o).row (a+3) 1=some (1,[clo]):=by
 rcases o with _ | ⟨els,k⟩<;>refine row_look ?_ rfl<;>simp[hW,Zv.look]
theorem hW_row (M:List Bool) (hM:M.length=n) (o:Option (List V × Nat)):(hW a L0 clo n M o).row a n=some (1,M.map bV):=by
 rcases o with _ | ⟨els,k⟩<;>refine row_look ?_ (by simp[hM])<;>simp[hW,Zv.look]
theorem hW_mark (M:List Bool) (hM:M.length=n) (o:Option (List V × Nat)) (j:Nat) (hj:j<n) (b:Bool):st 1 (hW a L0 clo n M o) (.ptr a n j 0) (.d (.bool b))=some (hW a L0 clo n (M.set j b) o):=by
 unfold st
 have:(M.map bV)[j]? = some (bV (M[j]'(by omega))):=by simp[show j<M.length by omega]
 simp only[hW_row a L0 clo n M hM,Option.bind_some,this]
 rw[if_pos (by simp[stor,V.cells,D.cells]),if_pos (by simp)]
 rcases o with _ | ⟨els,k⟩<;>simp[hW,Hp.set,upd,List.map_set]
theorem hW_push (M:List Bool) (t:Ts):∀ (s:List Ts) (o:Option (List V × Nat)),StkOk s o→s.length≤5000→∃ o' v H',app 5 72 (hW a L0 clo n M o) (stkV a o) (.tl [.d (eT t)] (some false))=some (v,H')∧stor v=true∧v.cells.length=1∧st 1 H' (.ptr (a+2) 1 0 0) v=some (hW a L0 clo n M o')∧StkOk (s++[t]) o':=by
 rintro s (_ | ⟨els,k⟩) hS hs
 ·obtain rfl:s=[]:=hS
  refine ⟨some ([.d (eT t)],1),.own (a+4) 5 1 0 1,_,app_0 (eT t) rfl _ _ _,rfl,rfl,?_,rfl,by simp,rfl,by simp⟩
  have hr:Hp.row ⟨(a+4,.arr 5 [.d (eT t)])::(a+3,.arr 1 [clo])::(a+2,.arr 1 [.tl [] (some true)])::(a+1,.arr 1 [.own a 1 n 0 n])::(a,.arr 1 (M.map bV))::L0,a+4+1⟩ (a+2) 1=some (1,[.tl [] (some true)]):=row_look (by simp[Zv.look]) rfl
  simp[st,hr,hW,Hp.set,upd,stor,V.cells]
 ·obtain ⟨rfl,h1,h2,h3⟩:=hS
  have hlen:(els.take s.length).length=s.length:=by rw[List.length_take];omega
  have hr:(hW a L0 clo n M (some (els,s.length))).row (a+4) els.length=some (5,els):=row_look (by simp[hW,Zv.look]) rfl
  have hset:∀ y,(hW a L0 clo n M (some (els,s.length))).set (a+4) y=⟨(a+4,y)::(a+3,.arr 1 [clo])::(a+2,.arr 1 [.own (a+4) 5 els.length 0 s.length])::(a+1,.arr 1 [.own a 1 n 0 n])::(a,.arr 1 (M.map bV))::L0,a+5⟩:=by
   intro y;simp[hW,Hp.set,upd]
  have hb:(s.length+1)*72≤roomB:=by unfold roomB;omega
  have hcl:(eT t).cells.length=5:=rfl
  have hr2:∀ e:List V,Hp.row ⟨(a+4,.arr 5 e)::(a+3,.arr 1 [clo])::(a+2,.arr 1 [.own (a+4) 5 els.length 0 s.length])::(a+1,.arr 1 [.own a 1 n 0 n])::(a,.arr 1 (M.map bV))::L0,a+5⟩ (a+2) 1=some (1,[.own (a+4) 5 els.length 0 s.length]):=fun e=>row_look (by simp[Zv.look]) rfl
  refine ⟨some (els.take s.length++[.d (eT t)]++els.drop (s.length+1),s.length+1),.own (a+4) 5 (els.take s.length++[V.d (eT t)]++els.drop (s.length+1)).length 0 (s.length+1),⟨(a+4,.arr 5 (els.take s.length++[.d (eT t)]++els.drop (s.length+1)))::(a+3,.arr 1 [clo])::(a+2,.arr 1 [.own (a+4) 5 els.length 0 s.length])::(a+1,.arr 1 [.own a 1 n 0 n])::(a,.arr 1 (M.map bV))::L0,a+5⟩,?_,rfl,rfl,?_,by simp,?_,?_,?_⟩
  ·by_cases hk:s.length+1≤els.length
   ·have e:(els.take s.length++[V.d (eT t)]++els.drop (s.length+1)).length=els.length:=by simp;omega
    rw[e]
    simp[app,elems,allV,V.cells,norm_d,stkV,hr,hset,hk,h1]
    rfl
   ·have e:els.length=s.length:=by omega
    have e2:els.drop (s.length+1)=[]:=List.drop_of_length_le (by omega)
    rw[e2]
    simp[app,elems,allV,V.cells,norm_d,stkV,hr,hset,hk,h1,hb,hlen]
    rfl
  ·simp[st,hr2,hW,Hp.set,upd,stor,V.cells]
  ·simp;omega
  ·rw[List.take_left' (by rw[List.length_append,hlen];rfl),h2,List.map_append];rfl
  ·simp;omega
end
end Zc28
end
section
set_option maxHeartbeats 4000000
namespace Zc28
open Go Zv Zs
abbrev cloS (l:List Ts) (to:Int) (a:Nat):V:=.clo 95 [.fp (.agg [eTs l]) 0,.ptr (a+1) 1 0 0,.fp (eI to) 0,.ptr (a+2) 1 0 0,.ptr (a+3) 1 0 0]
abbrev hpS (l:List Ts) (to:Int) (a:Nat) (L0:List (Nat × Ob)) (M:List Bool) (o:Option (List V × Nat)):Hp:=hW a L0 (cloS l to a) l.length M o
theorem stk_cell (a:Nat) (o:Option (List V × Nat)):(stkV a o).cells[0]? = some (stkV a o):=by
 rcases o with _ | ⟨els,k⟩<;>rfl
theorem hW_pop (a:Nat) (L0:List (Nat × Ob)) (clo:V) (n:Nat) (M:List Bool) (s:List Ts) (t:Ts):∀ (o:Option (List V × Nat)),StkOk (s++[t]) o→∃ o' v,lenL (stkV a o)=some (.d (.int .i64 ((s.length+1:Nat):Int)))∧slc 5 (stkV a o) none (some (.d (.int .i64 (s.length:Int))))=some v∧stor v=true∧v.cells.length=1∧st 1 (hW a L0 clo n M o) (.ptr (a+2) 1 0 0) v=some (hW a L0 clo n M o')∧StkOk s o':=by
 rintro (_ | ⟨els,k⟩) hS
 ·have:s++[t]=[]:=hS
  simp at this
 ·obtain ⟨rfl,h1,h2,h3⟩:=hS
  have hkl:(s++[t]).length=s.length+1:=by simp
  rw[hkl] at h1 h2 ⊢
  have hr:=hW_stk a L0 clo n M (some (els,s.length+1))
  refine ⟨some (els,s.length),.own (a+4) 5 els.length 0 s.length,rfl,?_,rfl,rfl,?_,rfl,by omega,?_,h3⟩
  ·simp[stkV,slc,bnd,ixOf]
  ·show (Hp.row _ (a+2) 1).bind _=_
   rw[hr,Option.bind_some]
   simp[hW,Hp.set,upd,stor,V.cells]
  ·have:=congrArg (List.take s.length) h2
   rw[List.take_take,Nat.min_eq_left (by omega),List.map_append,List.take_left' (by simp)] at this
   exact this
theorem search_ok (l:List Ts) (hl:Light l) (to:Int) (a:Nat) (L0:List (Nat × Ob)):∀ (k:Nat) (M:List Bool) (x:Int) (s:List Ts) (o:Option (List V × Nat)),M.length=l.length→l.length - cnt M<k→StkOk s o→s.length+k≤5000 →
  ∃ r,callW tab 95 [.d (eI x),.fp (.agg [eTs l]) 0,.ptr (a+1) 1 0 0,.fp (eI to) 0,.ptr (a+2) 1 0 0,.ptr (a+3) 1 0 0] (hpS l to a L0 M o)=some r ∧
   ∃ o',r=(.d (.bool (srS l to k M x).2.isSome),hpS l to a L0 (srS l to k M x).1 o')∧StkOk (s++(srS l to k M x).2.getD []) o':=by
 intro k
 induction k with
 |zero=>intro M x s o _ h;omega
 |succ k ih=>
  intro M x s o hM hk hS hsk
  have hlen:=hl.len
  have hcl:=cnt_len M
  refine call_wpE (fn:=f95) rfl rfl ?_
  unfold srS
  rcases getI_cases l x with ⟨h1,h2⟩ | ⟨h1,h2,h3⟩ | ⟨j,t,rfl,hj,ht,hgt⟩
  ·rw[h2]
   simp only[e95,h1,wz,opX,intBin,↓reduceIte,simprocAttr]
   exact⟨_,rfl,o,rfl,by simpa using hS⟩
  ·rw[h3]
   simp only[e95,h1,h2,wz,opX,intBin,↓reduceIte,simprocAttr]
   exact⟨_,rfl,o,rfl,by simpa using hS⟩
  ·rw[hgt]
   obtain ⟨b,hb⟩:=get_of_lt (l:=M) (n:=j) (by omega)
   have hj2:¬ (l.length:Int)≤(j:Int):=by omega
   have hio:=ia_own (es:=1) (n:=a) (tot:=l.length) .i64 hj
   have hmet:=fun M o=>hW_met a L0 (cloS l to a) l.length M o
   have hstk:=fun M o=>hW_stk a L0 (cloS l to a) l.length M o
   have hclo:=fun M o=>hW_clo a L0 (cloS l to a) l.length M o
   have hlb:=ld_bit (hW_row a L0 (cloS l to a) l.length M hM o) hb
   have hgM:getI M (j:Int)=some b:=by rw[getI_nat];exact hb
   cases b with
   |true=>
    rw[hgM]
    simp only[e95,hj2,hmet,hio,hlb,wz,opX,intBin,↓reduceIte,simprocAttr]
    exact⟨_,rfl,o,rfl,by simpa using hS⟩
   |false=>
    have hst:=hW_mark a L0 (cloS l to a) l.length M hM o j hj true
    have hgr:=set_grow hb
    rw[hgM]
    simp only[Int.toNat_natCast]
    by_cases hto:(j:Int)=to
    ·have hb2:((j:Int) == to)=true:=by rw[hto];exact beq_self_eq_true _
     rw[if_neg (by simp),if_pos hto]
     simp only[e95,hj2,hmet,hio,hlb,hst,hb2,wz,opX,intBin,↓reduceIte,simprocAttr]
     exact⟨_,rfl,o,rfl,by simpa using hS⟩
    ·have hb2:((j:Int) == to)=false:=beq_eq_false_iff_ne.2 hto
     rw[if_neg (by simp),if_neg hto]
     obtain ⟨hpl,hnl⟩:=hl.ts t (List.mem_of_getElem? ht)
     obtain ⟨o1,v,H',p1,p2,p3,p4,hS1⟩:=hW_push a L0 (cloS l to a) l.length (M.set j true) t s o hS (by omega)
     have hM1:(M.set j true).length=l.length:=by rw[List.length_set];exact hM
     have hcl2:=cnt_len (M.set j true)
     obtain ⟨b,H2,hc,hK,hJ⟩:=conI t.next (cloS l to a)
      (fun n H=>∃ Mn on,H=hpS l to a L0 Mn on∧Mn.length=l.length∧l.length - cnt Mn<k∧StkOk (s++[t]) on∧srL (srS l to k) t t.next (M.set j true)=srL (srS l to k) t (t.next.drop n) Mn)
      (fun H=>∃ on T,H=hpS l to a L0 (srL (srS l to k) t t.next (M.set j true)).1 on∧(srL (srS l to k) t t.next (M.set j true)).2=some T∧StkOk (s++T) on)
      (by omega) rfl (by
       rintro n y H hy ⟨Mn,on,rfl,hMn,hkn,hSn,hw⟩
       obtain ⟨r,hr,o',rfl,hS'⟩:=ih Mn y (s++[t]) on hMn hkn hSn (by simp;omega)
       have hmo:=srS_mono l to k Mn y
       rw[drop_at hy] at hw
       refine ⟨_,_,by rw[cW_clo,if_neg (by decide)];exact hr,?_,?_⟩
       ·intro hb
        obtain ⟨T,hT⟩:=Option.isSome_iff_exists.1 hb
        rw[srL_some hT] at hw
        rw[hT] at hS'
        exact⟨o',t::T,by rw[hw],by rw[hw],by simpa using hS'⟩
       ·intro hb
        have hT:(srS l to k Mn y).2=none:=by simpa using hb
        rw[srL_none hT] at hw
        rw[hT] at hS'
        exact⟨_,o',rfl,hmo.1.trans hMn,by omega,by simpa using hS',hw⟩)
      (hpS l to a L0 (M.set j true) o1) ⟨_,o1,rfl,hM1,by rw[hM1] at hcl2;omega,hS1,rfl⟩
     have hsc:=stk_cell a o
     cases b with
     |true=>
      obtain ⟨on,T,rfl,hT,hST⟩:=hK rfl
      simp only[e95,hj2,hmet,hio,hlb,hst,hb2,hstk,hsc,iaT ht,p1,p2,p3,p4,hclo,hc,wz,opX,intBin,↓reduceIte,simprocAttr]
      exact⟨_,rfl,on,by rw[hT];rfl,by rw[hT];exact hST⟩
     |false=>
      obtain ⟨Mn,on,rfl,hMn,hkn,hSn,hw⟩:=hJ rfl
      obtain ⟨o',v2,q1,q2,q3,q4,q5,q6⟩:=hW_pop a L0 (cloS l to a) l.length Mn s t on hSn
      have hsc2:=stk_cell a on
      have hwr:IntKind.i64.wrap (((s.length+1:Nat):Int) - 1)=(s.length:Int):=by rw[wrap_ok (by omega) (by omega)];omega
      rw[List.drop_length] at hw
      have hw:srL (srS l to k) t t.next (M.set j true)=(Mn,none):=hw
      simp only[e95,hj2,hmet,hio,hlb,hst,hb2,hstk,hsc,hsc2,iaT ht,p1,p2,p3,p4,hclo,hc,q1,hwr,q2,q3,q4,q5,wz,opX,intBin,↓reduceIte,simprocAttr]
      exact⟨_,rfl,o',by rw[hw];rfl,by rw[hw];simpa using q6⟩
end Zc28
end
section
set_option maxHeartbeats 4000000
namespace Zc28
open Go Zv Zs
end Zc28
end
section
set_option maxHeartbeats 4000000
namespace Zc28
open Go Zv Zs
abbrev wayT (l:List Ts) (to:Int):List Ts:=(srS l to (l.length+1) (List.replicate l.length false) 0).2.getD []
theorem ld_T {H:Hp} {m n:Nat} {els:List V} {t:Ts} (hr:H.row m els.length=some (5,els)) (ht:els[n]? = some (.d (eT t))):ld true 5 H (.ptr m els.length n 0)=some (.d (eT t)):=by
 simp[ld,hr,ht]
theorem way1_ok (l:List Ts) (hl:Light l) (to:Int) (yv:V) (hy:norm yv=yv) (L0:List (Nat × Ob)) (a:Nat) (J:List V→Nat→Hp→Prop)
  (h0:∀ M els k,StkOk (wayT l to) (some (els,k))→J els 0 (hpS l to a L0 M (some (els,k))))
  (hrow:∀ els n H,J els n H→H.row (a+4) els.length=some (5,els))
  (hJ:∀ els n t H,(wayT l to)[n]? = some t→J els n H→∃ H',cW tab yv [.d (eT t)] ⟨H.objs,H.next+1⟩=some (.d (.bool true),H')∧J els (n+1) H') :
  ∃ r,callW tab 94 [yv,.fp (.agg [eTs l]) 0,.fp (eI to) 0] ⟨L0,a⟩=some r∧∃ H',r=(.tup [],H')∧((wayT l to=[]∧∃ M o,H'=hpS l to a L0 M o)∨∃ els,J els (wayT l to).length H'):=by
 have hlen:=hl.len
 have hmk:mkslO (.d (.bool false)) 1 1 ⟨L0,a⟩ (.d (.int .i64 (l.length:Int)))=some (.own a 1 l.length 0 l.length,⟨(a,.arr 1 ((List.replicate l.length false).map bV))::L0,a+1⟩):=by
  simp only[mkslO,ixOf_nat,Option.bind_some]
  rw[if_pos (by unfold roomB;omega)]
  simp[Hp.alloc]
 obtain ⟨r,hr,o',rfl,hS⟩:=search_ok l hl to a L0 (l.length+1) (List.replicate l.length false) 0 [] none (by simp) (by omega) rfl (by simp;omega)
 have hr':callW tab 95 [.d (.int .i64 0),.fp (.agg [eTs l]) 0,.ptr (a+1) 1 0 0,.fp (eI to) 0,.ptr (a+2) 1 0 0,.ptr (a+3) 1 0 0] ⟨(a+3,.arr 1 [cloS l to a])::(a+2,.arr 1 [.tl [] (some true)])::(a+1,.arr 1 [.own a 1 l.length 0 l.length])::(a,.arr 1 ((List.replicate l.length false).map bV))::L0,a+4⟩=_:=hr
 have hS:StkOk (wayT l to) o':=by simpa using hS
 refine call_wpE (fn:=f94) rfl rfl ?_
 cases hR:(srS l to (l.length+1) (List.replicate l.length false) 0).2 with
 |none=>
  rw[hR] at hr'
  have hT:wayT l to=[]:=by unfold wayT;rw[hR];rfl
  simp only[e94,hmk,hy,hr',Option.isSome_none,wz,opX,intBin,↓reduceIte,simprocAttr]
  exact⟨_,rfl,_,rfl,.inl ⟨hT,_,_,rfl⟩⟩
 |some T=>
  rw[hR] at hr'
  have hT:wayT l to=T:=by unfold wayT;rw[hR];rfl
  rw[hT] at hS
  have hstk:(hpS l to a L0 (srS l to (l.length+1) (List.replicate l.length false) 0).1 o').row (a+1+1) 1=some (1,[stkV a o']):=hW_stk ..
  have hsc:=stk_cell a o'
  rcases o' with _ | ⟨els,k⟩
  ·obtain rfl:T=[]:=hS
   simp only[e94,hmk,hy,hr',Option.isSome_some,hstk,hsc,stkV,wz,opX,intBin,↓reduceIte,simprocAttr]
   rw[wq_loop]
   simp only[e94,wz,opX,intBin,↓reduceIte,simprocAttr]
   exact⟨_,rfl,_,rfl,.inl ⟨hT,_,_,rfl⟩⟩
  ·have hS2:=hS
   obtain ⟨rfl,h1,h2,h3⟩:=hS2
   simp only[e94,hmk,hy,hr',Option.isSome_some,hstk,hsc,stkV,wz,opX,intBin,↓reduceIte,simprocAttr]
   refine loop_wp T.length (fun n e h'=>J els n h'∧e=[(0,yv),(17,.own (a+4) 5 els.length 0 T.length),(18,.d (.int .i64 T.length)),(19,.d (.int .i64 (n:Int)))]) _ ?_ ?_ T.length 0 _ _ (by omega) ⟨h0 _ _ _ (by rw[hT];exact hS),rfl⟩
   ·rintro n e h' hn ⟨hJn,rfl⟩
    obtain ⟨t,ht⟩:=get_of_lt hn
    have hwr:IntKind.i64.wrap ((n:Int)+1)=((n+1:Nat):Int):=by rw[wrap_ok (by omega) (by omega)];rfl
    have hio:=ia_own (es:=5) (n:=a+4) (tot:=els.length) .i64 hn
    have he:els[n]? = some (.d (eT t)):=by
     rw[←List.getElem?_take_of_lt hn,h2,List.getElem?_map,ht];rfl
    have hld:=ld_T (hrow els n h' hJn) he
    obtain ⟨H',hc,hJ'⟩:=hJ els n t h' (by rw[hT];exact ht) hJn
    simp only[e94,hn,hio,hld,hy,hc,hwr,hJ',wz,opX,intBin,↓reduceIte,simprocAttr]
   ·rintro e h' ⟨hJn,rfl⟩
    simp only[e94,wz,opX,intBin,↓reduceIte,simprocAttr]
    exact⟨_,rfl,_,rfl,.inr ⟨els,by rw[hT];exact hJn⟩⟩
end Zc28
end
section
set_option maxHeartbeats 4000000
namespace Zc28
open Go Zv Zs
theorem icells {l:List Int}:∀ y,y ∈ l.map eI→y.cells.length=1:=by
 intro y hy
 obtain ⟨p,_,rfl⟩:=List.mem_map.1 hy
 rfl
theorem cloneI_ok (l:List Int) (hl:l.length≤1000000) (h:Hp):callW tab 40 [.d (eIs l)] h=some (.d (eIs l),h):=by
 refine call_wp (fn:=f40) rfl rfl ?_
 have hb:wp tab b40 (args 0 [.d (eIs l)]) h (· = (.ret,[(2,cloV none h.next 1 (l.map eI))],cloO h.objs h.next 1 (l.map eI))):=by
  cases l with
  |nil=>
   have hn0:nilBin NK.s BinOp.eql (.d (eIs []))=some .ub:=rfl
   have happ:app 1 8 h (.tl [] (some false)) (.d (.lst []))=some (.tl [] (some false),h):=rfl
   simp only[e40,wz,opX,intBin,↓reduceIte,simprocAttr]
   refine wq_ex.2 (ex_ambU (e1:=[(0,.d (.lst [])),(4,.ub)]) (h1:=h) (o:=(.ret,[(2,.tl [] (some true))],h)) (q:=(.ret,[(2,.tl [] (some false))],h)) ?_ rfl ?_ ?_ ?_)
   ·apply wq_ex.1;simp only[e40,hn0,wz,opX,intBin,↓reduceIte,simprocAttr]
    rfl
   ·apply wq_ex.1;simp only[e40,wz,opX,intBin,↓reduceIte,simprocAttr]
   ·apply wq_ex.1;simp only[e40,happ,wz,opX,intBin,↓reduceIte,simprocAttr]
   ·unfold outJoin
    rw[if_pos ⟨rfl,objsBeq_refl _,rfl⟩]
    rfl
  |cons p r=>
   have happ:=tl_app (nl:=some false) (es:=1) (b:=8) (h:=h) (r:=(p::r).map eI) icells (by simp only[roomB,List.length_map];omega)
   rw[List.map_cons] at happ
   have hn0:nilBin NK.s BinOp.eql (.d (eIs (p::r)))=some (.d (.bool false)):=rfl
   simp only[e40,wz,opX,intBin,↓reduceIte,simprocAttr]
   refine wq_ex.2 (ex_ambD (e1:=[(0,.d (.lst ((p::r).map eI))),(4,.d (.bool false))]) (h1:=h) false ?_ rfl ?_)
   ·apply wq_ex.1;simp only[e40,hn0,wz,opX,intBin,↓reduceIte,simprocAttr]
    rfl
   ·apply wq_ex.1;simp only[e40,happ,wz,opX,intBin,↓reduceIte,simprocAttr]
    rfl
 obtain ⟨o,h1,rfl⟩:=hb
 exact⟨_,h1,finS_clo (Nat.le_refl _)⟩
theorem way_ok (l:List Ts) (to:Int) (h:Hp):callW tab 52 [.d (.agg [eTs l]),.d (eI to)] h=some (.clo 94 [.fp (.agg [eTs l]) 0,.fp (eI to) 0],⟨h.objs,h.next+2⟩):=by
 refine call_wp (fn:=f52) rfl rfl ?_
 have h1:(D.agg [eTs l]).cells.length=1:=rfl
 simp only[e52,h1,wz,opX,intBin,↓reduceIte,simprocAttr]
theorem look_pre {n:Nat} {l:List (Nat × Ob)}:∀ {P:List (Nat × Ob)},(∀ x,x ∈ P→x.1≠n)→Zv.look (P++l) n=Zv.look l n
 | [],_=>rfl
 |x::P,h=>by
  rw[List.cons_append]
  show (if n=x.1 then _ else Zv.look (P++l) n)=_
  rw[if_neg (fun e=>h x (.head _) e.symm),look_pre fun y hy=>h y (.tail _ hy)]
theorem upd_pre {n:Nat} {o:Ob} {l:List (Nat × Ob)}:∀ {P:List (Nat × Ob)},(∀ x,x ∈ P→x.1≠n)→Zv.upd (P++l) n o=P++Zv.upd l n o
 | [],_=>rfl
 |x::P,h=>by
  rw[List.cons_append]
  show (if n=x.1 then _ else (x.1,x.2)::Zv.upd (P++l) n o)=_
  rw[if_neg (fun e=>h x (.head _) e.symm),upd_pre fun y hy=>h y (.tail _ hy)]
  rfl
theorem del_pre {n:Nat} {l:List (Nat × Ob)}:∀ {P:List (Nat × Ob)},(∀ x,x ∈ P→x.1≠n)→Zv.del (P++l) n=P++Zv.del l n
 | [],_=>rfl
 |x::P,h=>by
  rw[List.cons_append]
  show (if n=x.1 then _ else (x.1,x.2)::Zv.del (P++l) n)=_
  rw[if_neg (fun e=>h x (.head _) e.symm),del_pre fun y hy=>h y (.tail _ hy)]
  rfl
section
variable {P:List (Nat × Ob)} {C m:Nat} (hC:∀ x,x ∈ P→x.1≠C) (hm:∀ x,x ∈ P→x.1≠m) (hmC:m≠C) (b:Nat) (e0:List (Nat × V)) (O:List (Nat × Ob))
def HX (P:List (Nat × Ob)) (C m b:Nat) (e0:List (Nat × V)) (O:List (Nat × Ob)) (s0:Option Ex) (v:V) (q:Nat):Hp:=⟨P++(C,.lp b e0 s0)::(m,.arr 1 [v])::O,q⟩
include hC in
theorem HX_get (s0 v q):(HX P C m b e0 O s0 v q).get C=some (.lp b e0 s0):=by
 unfold HX Hp.get;rw[look_pre hC];simp[Zv.look]
include hC in
theorem HX_set (s0 s1 v q):(HX P C m b e0 O s0 v q).set C (.lp b e0 s1)=HX P C m b e0 O s1 v q:=by
 unfold HX Hp.set;simp only;rw[upd_pre hC];simp[upd]
include hm hmC in
theorem HX_look (s0 v q):(HX P C m b e0 O s0 v q).get m=some (.arr 1 [v]):=by
 unfold HX Hp.get;rw[look_pre hm];simp[Zv.look,hmC]
include hm hmC in
theorem HX_row (s0 v q):(HX P C m b e0 O s0 v q).row m 1=some (1,[v]):=by
 unfold Hp.row;rw[HX_look hm hmC];rfl
include hm hmC in
theorem HX_st (s0 v x q) (h1:stor x=true) (h2:x.cells.length=1):st 1 (HX P C m b e0 O s0 v q) (.ptr m 1 0 0) x=some (HX P C m b e0 O s0 x q):=by
 have hs:∀ w,(HX P C m b e0 O s0 v q).set m (.arr 1 [w])=HX P C m b e0 O s0 w q:=by
  intro w;unfold HX Hp.set;simp only;rw[upd_pre hm];simp[upd,hmC]
 simp[st,HX_row hm hmC,h1,h2,hs]
include hm hmC in
theorem HX_same (s0 v q):sameAt (HX P C m b e0 O s0 v q) (HX P C m b e0 O s0 v q) (.ptr m 1 0 0)=true:=by
 simp only[sameAt,HX_look hm hmC,Ob.beq_refl]
include hC in
theorem HX_end (v q):rngEnd e0 (HX P C m b e0 O none v q) C=some (.norm,e0,⟨P++(m,.arr 1 [v])::O,q⟩):=by
 unfold rngEnd
 rw[HX_get hC]
 have:(HX P C m b e0 O none v q).kill C=⟨P++(m,.arr 1 [v])::O,q⟩:=by
  unfold HX Hp.kill;simp only;rw[del_pre hC];simp[del]
 rw[this]
include hm in
theorem HM_row (v q):(⟨P++(m,.arr 1 [v])::O,q⟩:Hp).row m 1=some (1,[v]):=by
 unfold Hp.row Hp.get;simp only;rw[look_pre hm];simp[Zv.look]
include hm in
theorem HM_kill (v q):(⟨P++(m,.arr 1 [v])::O,q⟩:Hp).kill m=⟨P++O,q⟩:=by
 unfold Hp.kill;simp only;rw[del_pre hm];simp[del]
end
def preR (mm:Nat) (s:List D):List (Nat × Ob):=if s=[] then [] else [(mm,.arr 1 (s.map .d))]
theorem preR_keys {mm n:Nat} {s:List D} (h:s≠[]→mm≠n):∀ x,x ∈ preR mm s→x.1≠n:=by
 unfold preR
 split
 ·intro x hx;cases hx
 ·rename_i h0
  intro x hx
  rw[List.mem_singleton] at hx
  subst hx
  exact h h0
theorem preR_app {Q:List (Nat × Ob)} {C m b q mm:Nat} {e0:List (Nat × V)} {O:List (Nat × Ob)} {s0:Option Ex} {v:V} {s:List D} {x:D} {nl:Option Bool} (hx:x.cells.length=1) (hlen:(s.length+1)*24≤roomB) (hl:∀ y,y ∈ s→y.cells.length=1) :
  app 1 24 (HX (preR mm s++Q) C m b e0 O s0 v q) (rowN mm 1 s) (.tl [.d x] nl)=some (rowN (nmQ s mm q) 1 (s++[x]),HX (preR (nmQ s mm q) (s++[x])++Q) C m b e0 O s0 v (nqQ s q)):=by
 have e:∀ (mm:Nat) (s:List D) (q:Nat),HX (preR mm s++Q) C m b e0 O s0 v q=rowQ (HX Q C m b e0 O s0 v q) mm 1 s q:=by
  intro mm s q
  unfold rowQ preR HX
  split<;>simp
 rw[e,rowQ_app _ hx hlen hl,e]
 unfold rowQ HX
 rfl
theorem fin_pre {h:Hp} {mm q:Nat} {Q:List (Nat × Ob)} {s:List D} (hm:s≠[]→h.next≤mm):finS h ⟨(preR mm s++Q)++h.objs,q⟩ [rowN mm 1 s]=some (.d (.lst s),h):=by
 rw[finS,if_pos (suf_app _ _)]
 have e:(⟨(preR mm s++Q)++h.objs,q⟩:Hp)=rowQ ⟨Q++h.objs,q⟩ mm 1 s q:=by
  unfold rowQ preR
  split<;>simp
 rw[e]
 simp only[List.mapM_cons,List.mapM_nil,back1,rowQ_deep _ s q hm]
 rfl
end Zc28
end
section
set_option maxHeartbeats 4000000
namespace Zc28
open Go Zv Zs
theorem preT_len (t:Ts):(preT t).length≤1:=by unfold preT;split<;>simp
theorem pthT_len:∀ (T:List Ts),(pthT T).length≤T.length
 | []=>Nat.le_refl _
 |t::T=>by
  have h1:=pthT_len T
  have h2:=preT_len t
  unfold pthT at h1 ⊢
  rw[List.flatMap_cons,List.length_append,List.length_cons];omega
theorem pthT_snoc (T:List Ts) (t:Ts):pthT (T++[t])=pthT T++preT t:=by
 unfold pthT;rw[List.flatMap_append];simp
theorem way_ne {l:List Ts} {to:Int}:∀ t,t ∈ wayT l to→t.next≠[]:=by
 intro t ht
 unfold wayT at ht
 cases hs:(srS l to (l.length+1) (List.replicate l.length false) 0).2 with
 |none=>rw[hs] at ht;cases ht
 |some T=>rw[hs] at ht;exact srS_ne l to _ _ _ T hs t ht
theorem partR (mm:Nat) (s:List D):partV false 0 1 (rowN mm 1 s).cells=some (rowN mm 1 s):=by
 by_cases h:s=[]
 ·subst h;rfl
 ·rw[show rowN mm 1 s=.own mm 1 s.length 0 s.length from if_neg h];rfl
section
variable {Q:List (Nat × Ob)} {C m:Nat} (hQC:∀ x,x ∈ Q→x.1≠C) (hQm:∀ x,x ∈ Q→x.1≠m) (hmC:m<C) (cl:V) (O:List (Nat × Ob))
include hQC hQm hmC
theorem tround_ok (t:Ts) (hp:t.path.length≤1000000) (ht:t.next≠[]) (s:Pth) (hs:s.length≤100000) (mm q:Nat) (hmm:s≠[]→C<mm) (hq:C<q) :
  let e0:List (Nat × V):=[(5,.ptr m 1 0 0),(9,cl)]
  ∃ mm' q',(s++preT t≠[]→q≤mm'∨(mm'=mm∧s≠[]))∧q≤q'∧cW tab (.yld C) [.d (eT t)] (HX (preR mm (s.map eIs)++Q) C m 288 e0 O none (rowN mm 1 (s.map eIs)) q) =
   some (.d (.bool true),HX (preR mm' ((s++preT t).map eIs)++Q) C m 288 e0 O none (rowN mm' 1 ((s++preT t).map eIs)) q'):=by
 intro e0
 have kC:∀ (mm:Nat) (s:Pth),(s≠[]→C<mm)→∀ x,x ∈ preR mm (s.map eIs)++Q→x.1≠C:=by
  intro mm s h x hx
  rcases List.mem_append.1 hx with hx | hx
  ·exact preR_keys (fun h1=>by have:=h (by simpa using h1);omega) x hx
  ·exact hQC x hx
 have km:∀ (mm:Nat) (s:Pth),(s≠[]→C<mm)→∀ x,x ∈ preR mm (s.map eIs)++Q→x.1≠m:=by
  intro mm s h x hx
  rcases List.mem_append.1 hx with hx | hx
  ·exact preR_keys (fun h1=>by have:=h (by simpa using h1);omega) x hx
  ·exact hQm x hx
 have hcl:(eT t).cells.length=5:=rfl
 have hne:(0:Int)<(t.next.length:Int):=by have:=List.length_pos_iff.2 ht;omega
 have mk:∀ P s0 v q q',(⟨(HX P C m 288 e0 O s0 v q).objs,q'⟩:Hp)=HX P C m 288 e0 O s0 v q':=fun _ _ _ _ _=>rfl
 have nx:∀ P s0 v q,(HX P C m 288 e0 O s0 v q).next=q:=fun _ _ _ _=>rfl
 have hasg:∀ h:Hp,ex tab a18q0 [(10,.d (eT t)),(5,.ptr m 1 0 0),(9,cl)] h=some (.norm,[(5,.ptr m 1 0 0),(6,.fp (eT t) 0)],⟨h.objs,h.next+1⟩):=by
  intro h
  unfold a18q0;apply wq_ex.1;simp only[e18,hcl,wz,opX,intBin,↓reduceIte,simprocAttr]
 have fin:∀ (mm' q':Nat) (s':Pth) (e2:Env),(s'≠[]→C<mm')→ex tab d18q0 [(5,.ptr m 1 0 0),(6,.fp (eT t) 0)] (HX (preR mm (s.map eIs)++Q) C m 288 e0 O (some .norm) (rowN mm 1 (s.map eIs)) (q+1))=some (.norm,e2,HX (preR mm' (s'.map eIs)++Q) C m 288 e0 O (some .norm) (rowN mm' 1 (s'.map eIs)) q') →
   cW tab (.yld C) [.d (eT t)] (HX (preR mm (s.map eIs)++Q) C m 288 e0 O none (rowN mm 1 (s.map eIs)) q)=some (.d (.bool true),HX (preR mm' (s'.map eIs)++Q) C m 288 e0 O none (rowN mm' 1 (s'.map eIs)) q'):=by
  intro mm' q' s' e2 hs' hbody
  have:=cW_yld (T:=tab) (n:=C) (b:=288) (e:=e0) (vs:=[.d (eT t)]) (h:=HX (preR mm (s.map eIs)++Q) C m 288 e0 O none (rowN mm 1 (s.map eIs)) q) (fn:=f1000288) (asg:=a18q0) (bdy:=d18q0) (e1:=[(5,.ptr m 1 0 0),(6,.fp (eT t) 0)]) (h1:=HX (preR mm (s.map eIs)++Q) C m 288 e0 O none (rowN mm 1 (s.map eIs)) (q+1)) (b':=288) (e':=e0)
   (HX_get (kC mm s hmm) ..) rfl rfl rfl (hasg _) (HX_get (kC mm s hmm) ..) (by rw[HX_set (kC mm s hmm)];exact hbody)
  rw[this]
  unfold rndEnd
  simp only[HX_get (kC mm' s' hs'),HX_set (kC mm' s' hs')]
  rfl
 cases hc:t.con with
 |false=>
  have hpr:preT t=[]:=by unfold preT;rw[hc];rfl
  refine ⟨mm,q+1,fun h=>.inr ⟨rfl,by simpa [hpr] using h⟩,by omega,?_⟩
  rw[hpr,List.append_nil]
  refine fin mm _ s [(5,.ptr m 1 0 0),(6,.fp (eT t) 0),(18,.d (.bool false))] hmm ?_
  unfold d18q0
  apply wq_ex.1
  simp only[e18,hcl,hc,wz,opX,intBin,↓reduceIte,simprocAttr]
 |true=>
  have hpr:preT t=[t.path]:=by unfold preT;rw[hc];rfl
  have happ:=fun q=>preR_app (Q:=Q) (C:=C) (m:=m) (b:=288) (q:=q) (mm:=mm) (e0:=e0) (O:=O) (s0:=some .norm) (v:=rowN mm 1 (s.map eIs)) (s:=s.map eIs) (x:=eIs t.path) (nl:=some false) rfl (by simp only[List.length_map,roomB];omega) (by intro y hy;obtain ⟨p,_,rfl⟩:=List.mem_map.1 hy;rfl)
  have hm2:s++[t.path]≠[]→C<nmQ (s.map eIs) mm (q+1):=by
   intro _
   unfold nmQ
   split
   ·omega
   ·exact hmm (fun h=>by subst h;simp at *)
  refine ⟨nmQ (s.map eIs) mm (q+1),nqQ (s.map eIs) (q+1),?_,by unfold nqQ;split<;>omega,?_⟩
  ·intro _
   unfold nmQ
   by_cases h0:s=[]
   ·subst h0;left;simp
   ·right;exact⟨if_neg (by simpa using h0),h0⟩
  rw[hpr]
  refine fin _ _ _ [] hm2 ?_
  have hmn:m≠C:=by omega
  have hsm:=HX_same (km mm s hmm) hmn 288 e0 O (some .norm) (rowN mm 1 (s.map eIs)) (q+1)
  have hrw:=HX_row (km mm s hmm) hmn 288 e0 O (some .norm) (rowN mm 1 (s.map eIs)) (q+1)
  have hst:=HX_st (P:=preR (nmQ (s.map eIs) mm (q+1)) ((s++[t.path]).map eIs)++Q) (km _ _ hm2) hmn 288 e0 O (some .norm) (rowN mm 1 (s.map eIs)) (rowN (nmQ (s.map eIs) mm (q+1)) 1 (s.map eIs++[eIs t.path])) (nqQ (s.map eIs) (q+1)) (by unfold rowN;split<;>rfl) (by unfold rowN;split<;>rfl)
  have hld:ldk false 1 (HX (preR mm (s.map eIs)++Q) C m 288 e0 O (some .norm) (rowN mm 1 (s.map eIs)) (q+1)) (.ptr m 1 0 0) (.ptr m 1 0 0)=some (rowN mm 1 (s.map eIs)):=by simp[ldk,ld,hrw,partR]
  have hcn:=fun h=>cloneI_ok t.path hp h
  have hfd:∀ (h:Hp) (x:D),frz h (.d x)=some (.d x,h):=fun _ _=>rfl
  simp only[List.map_append,List.map_cons,List.map_nil] at hst ⊢
  unfold d18q0
  apply wq_ex.1
  simp only[e18,hcl,hc,hne,hld,hcn,hfd,hsm,happ,hst,wz,opX,intBin,↓reduceIte,simprocAttr]
end
end Zc28
end
section
set_option maxHeartbeats 4000000
namespace Zc28
open Go Zv Zs
theorem way_mem {l:List Ts} {to:Int}:∀ t,t ∈ wayT l to→t ∈ l:=by
 have hL:∀ (g:List Bool→Int→List Bool × Option (List Ts)),(∀ M a T,(g M a).2=some T→∀ t,t ∈ T→t ∈ l)→∀ (t:Ts),t ∈ l→∀ (r:List Int) (M:List Bool) (T:List Ts),(srL g t r M).2=some T→∀ x,x ∈ T→x ∈ l:=by
  intro g hg t ht r
  induction r with
  |nil=>intro M T hT;cases hT
  |cons n r ih=>
   intro M T hT
   cases h2:(g M n).2 with
   |none=>rw[srL_none h2] at hT;exact ih _ T hT
   |some U=>
    rw[srL_some h2] at hT
    cases hT
    intro x hx
    rcases List.mem_cons.1 hx with rfl | hx
    ·exact ht
    ·exact hg M n U h2 x hx
 have hS:∀ (k:Nat) (M:List Bool) (a:Int) (T:List Ts),(srS l to k M a).2=some T→∀ t,t ∈ T→t ∈ l:=by
  intro k
  induction k with
  |zero=>intro M a T h;cases h
  |succ k ih=>
   intro M a T h
   unfold srS at h
   cases hg:getI l a with
   |none=>rw[hg] at h;cases h
   |some t=>
    rw[hg] at h
    simp only at h
    split at h
    ·cases h
    ·split at h
     ·cases h;intro t ht;cases ht
     ·have hm:t ∈ l:=by
       unfold getI at hg
       split at hg
       ·exact List.mem_of_getElem? hg
       ·cases hg
      exact hL _ ih t hm t.next _ T h
 intro t ht
 unfold wayT at ht
 cases hs:(srS l to (l.length+1) (List.replicate l.length false) 0).2 with
 |none=>rw[hs] at ht;cases ht
 |some T=>rw[hs] at ht;exact hS _ _ _ T hs t ht
theorem ptested_ok {l:List Ts} (S:Light l) (hpl:∀ t,t ∈ l→t.path.length≤1000000) (to:Int) (h:Hp):callW tab 18 [.d (.agg [eTs l]),.d (eI to)] h=some (.d (.lst ((tstS l to).map eIs)),h):=by
 refine call_wp (fn:=f18) rfl rfl ?_
 have h1:(D.agg [eTs l]).cells.length=1:=rfl
 have hway:=fun h=>way_ok l to h
 let cl:V:=.clo 94 [.fp (.agg [eTs l]) 0,.fp (eI to) 0]
 let e0:List (Nat × V):=[(5,.ptr (h.next+1) 1 0 0),(9,cl)]
 obtain ⟨r,hr,H',rfl,hH⟩:=way1_ok l S to (.yld (h.next+1+1+2)) rfl ((h.next+1+1+2,.lp 288 e0 none)::(h.next+1,.arr 1 [.tl [] (some true)])::h.objs) (h.next+1+1+2+1)
  (fun els n H=>∃ (Q0:List (Nat × Ob)) (mm q:Nat),(∀ x,x ∈ Q0→h.next+1+1+2<x.1∧x.1<h.next+1+1+2+1+4)∧els.length≤20000∧(wayT l to).length≤els.length∧(pthT ((wayT l to).take n)≠[]→h.next+1+1+2+1+4<mm)∧h.next+1+1+2+1+4<q ∧
   H=HX (preR mm ((pthT ((wayT l to).take n)).map eIs)++((h.next+1+1+2+1+4,.arr 5 els)::Q0)) (h.next+1+1+2) (h.next+1) 288 e0 h.objs none (rowN mm 1 ((pthT ((wayT l to).take n)).map eIs)) q)
  (by
   intro M els k hS
   obtain ⟨rfl,k1,k2,k3⟩:=hS
   refine ⟨[_,_,_,_],0,_,?_,k3,k1,fun h=>absurd rfl h,?_,rfl⟩
   ·intro x hx
    simp only[List.mem_cons,List.not_mem_nil,or_false] at hx
    rcases hx with rfl | rfl | rfl | rfl<;>simp only<;>omega
   ·omega)
  (by
   rintro els n H ⟨Q0,mm,q,a1,a2,a3,a4,a5,rfl⟩
   refine row_look ?_ rfl
   unfold HX
   simp only
   rw[List.append_assoc,look_pre (preR_keys fun h1=>by have:=a4 (by simpa using h1);omega)]
   simp[Zv.look])
  (by
   rintro els n t H ht ⟨Q0,mm,q,a1,a2,a3,a4,a5,rfl⟩
   have hlen:(pthT ((wayT l to).take n)).length≤100000:=by
    have:=pthT_len ((wayT l to).take n)
    rw[List.length_take] at this;omega
   have htm:=List.mem_of_getElem? ht
   obtain ⟨mm',q',b1,b2,b3⟩:=tround_ok (Q:=(h.next+1+1+2+1+4,.arr 5 els)::Q0) (C:=h.next+1+1+2) (m:=h.next+1)
    (by intro x hx;rcases List.mem_cons.1 hx with rfl | hx;(· simp only;omega);have:=a1 x hx;omega)
    (by intro x hx;rcases List.mem_cons.1 hx with rfl | hx;(· simp only;omega);have:=a1 x hx;omega)
    (by omega) cl h.objs t (hpl t (way_mem t htm)) (way_ne t htm) (pthT ((wayT l to).take n)) hlen mm (q+1) (fun h=>by have:=a4 h;omega) (by omega)
   refine ⟨_,b3,Q0,mm',q',a1,a2,a3,?_,by omega,?_⟩
   ·have htk:(wayT l to).take (n+1)=(wayT l to).take n++[t]:=by rw[List.take_add_one,ht];rfl
    rw[htk,pthT_snoc]
    intro hne
    rcases b1 hne with b1 | ⟨b1,b4⟩
    ·omega
    ·rw[b1];exact a4 b4
   ·have htk:(wayT l to).take (n+1)=(wayT l to).take n++[t]:=by rw[List.take_add_one,ht];rfl
    rw[htk,pthT_snoc])
 have hE:∃ (P:List (Nat × Ob)) (Q:List (Nat × Ob)) (mm q:Nat),(∀ x,x ∈ P→h.next+1+1+2<x.1)∧P=preR mm ((tstS l to).map eIs)++Q∧((tstS l to).map eIs≠[]→h.next≤mm)∧H'=HX P (h.next+1+1+2) (h.next+1) 288 e0 h.objs none (rowN mm 1 ((tstS l to).map eIs)) q:=by
  rcases hH with ⟨hT,M,o,rfl⟩ | ⟨els,Q0,mm,q,a1,a2,a3,a4,a5,rfl⟩
  ·have ht:tstS l to=[]:=by rw[tstS_sr];show pthT (wayT l to)=[];rw[hT];rfl
   rw[ht]
   rcases o with _ | ⟨els,k⟩
   ·refine ⟨[_,_,_,_],_,0,_,?_,rfl,fun h=>absurd rfl h,rfl⟩
    intro x hx
    simp only[List.mem_cons,List.not_mem_nil,or_false] at hx
    rcases hx with rfl | rfl | rfl | rfl<;>simp only<;>omega
   ·refine ⟨[_,_,_,_,_],_,0,_,?_,rfl,fun h=>absurd rfl h,rfl⟩
    intro x hx
    simp only[List.mem_cons,List.not_mem_nil,or_false] at hx
    rcases hx with rfl | rfl | rfl | rfl | rfl<;>simp only<;>omega
  ·rw[List.take_length] at a4 ⊢
   have ht:tstS l to=pthT (wayT l to):=tstS_sr l to
   rw[←ht] at a4 ⊢
   refine ⟨_,_,mm,q,?_,rfl,fun h=>by have:=a4 (by simpa using h);omega,rfl⟩
   intro x hx
   rcases List.mem_append.1 hx with hx | hx
   ·unfold preR at hx
    split at hx
    ·cases hx
    ·rename_i hs
     rw[List.mem_singleton] at hx
     subst hx
     have:=a4 (by simpa using hs)
     simp only;omega
   ·rcases List.mem_cons.1 hx with rfl | hx
    ·simp only;omega
    ·have:=a1 x hx;omega
 obtain ⟨P,Q,mm,q,hP,rfl,hmm,rfl⟩:=hE
 have kC:∀ x,x ∈ preR mm ((tstS l to).map eIs)++Q→x.1≠h.next+1+1+2:=fun x hx=>by have:=hP x hx;omega
 have km:∀ x,x ∈ preR mm ((tstS l to).map eIs)++Q→x.1≠h.next+1:=fun x hx=>by have:=hP x hx;omega
 have hrng:ex tab (.rng (.t 9) 288) [(5,.ptr (h.next+1) 1 0 0),(9,.clo 94 [.fp (.agg [eTs l]) 0,.fp (eI to) 0])] ⟨(h.next+1,.arr 1 [.tl [] (some true)])::h.objs,h.next+1+1+2⟩=some (.norm,[(5,.ptr (h.next+1) 1 0 0),(9,.clo 94 [.fp (.agg [eTs l]) 0,.fp (eI to) 0])],⟨(preR mm ((tstS l to).map eIs)++Q)++(h.next+1,.arr 1 [rowN mm 1 ((tstS l to).map eIs)])::h.objs,q⟩):=
  ex_rng (f:=94) rfl hr (HX_end kC 288 e0 h.objs _ q)
 have hrow:=HM_row (m:=h.next+1) km h.objs (rowN mm 1 ((tstS l to).map eIs)) q
 have hkill:=HM_kill (m:=h.next+1) km h.objs (rowN mm 1 ((tstS l to).map eIs)) q
 have hld:ld false 1 ⟨(preR mm ((tstS l to).map eIs)++Q)++(h.next+1,.arr 1 [rowN mm 1 ((tstS l to).map eIs)])::h.objs,q⟩ (.ptr (h.next+1) 1 0 0)=some (rowN mm 1 ((tstS l to).map eIs)):=by simp only[ld,hrow,Option.bind_some,List.getElem?_cons_zero,partR];simp[partR]
 have hfin:=fin_pre (h:=h) (mm:=mm) (q:=q) (Q:=Q) (s:=(tstS l to).map eIs) hmm
 simp only[e18,h1,hway,wq_of hrng,hld,hkill,hfin,wz,opX,intBin,↓reduceIte,simprocAttr]
theorem tstS_path {l:List Ts} {to:Int}:∀ p,p ∈ tstS l to→∃ t,t ∈ l∧p=t.path:=by
 intro p hp
 rw[show tstS l to=pthT (wayT l to) from tstS_sr l to] at hp
 obtain ⟨t,ht,hp⟩:=List.mem_flatMap.1 hp
 unfold preT at hp
 split at hp
 ·rw[List.mem_singleton] at hp
  exact⟨t,way_mem t ht,hp⟩
 ·cases hp
theorem tstS_len (l:List Ts) (to:Int):(tstS l to).length≤l.length+1:=by
 unfold tstS
 cases hs:(wayS l to (l.length+1) (List.replicate l.length false) 0).2 with
 |none=>simp
 |some p=>exact wayS_len l to _ _ _ p hs
end Zc28
end
section
set_option maxHeartbeats 4000000
namespace Zc28
open Go Zv Zs
structure Cn where
 name:ByteArray
 flds:List Int
structure Dt where
 name:ByteArray
 cons:List Cn
abbrev eC (c:Cn):D:=.agg [.str c.name,.lst (c.flds.map eI)]
abbrev eCs (l:List Cn):D:=.lst (l.map eC)
abbrev eD (d:Dt):D:=.agg [.str d.name,.lst (d.cons.map eC)]
abbrev eDs (l:List Dt):D:=.lst (l.map eD)
theorem iaC {l:List Cn} {n:Nat} {x:Cn} (hx:l[n]? = some x):ia 2 (.d (.lst (l.map eC))) (.d (.int .i64 (n:Int)))=some (.fp (eC x) 0):=ia_map (f:=eC) .i64 hx rfl
theorem iaD {l:List Dt} {n:Nat} {x:Dt} (hx:l[n]? = some x):ia 2 (.d (.lst (l.map eD))) (.d (.int .i64 (n:Int)))=some (.fp (eD x) 0):=ia_map (f:=eD) .i64 hx rfl
def isT (d:List Dt) (t:Int):Bool:=decide (0≤t) && decide (t≤d.length)
theorem exists_ok (d:List Dt) (t:Int) (h:Hp):callW tab 58 [.d (eDs d),.d (eI t)] h=some (.d (.bool (isT d t)),h):=by
 refine call_wp (fn:=f58) rfl rfl ?_
 (simp only[e58,isT,wz,opX,intBin,↓reduceIte,simprocAttr]<;>repeat' (first | refine wpG_s ?_ ?_ | refine wpC_s ?_ ?_)<;>intro hgo<;>(try simp only[dq] at hgo)<;>simp only[hgo,e58,isT,wz,opX,intBin,↓reduceIte,simprocAttr])
def consOf (d:List Dt) (t:Int):List Cn:=if 1≤t then ((d[(t - 1).toNat]?).map Dt.cons).getD [] else []
theorem consOf_nat (d:List Dt) (n:Nat):consOf d ((n:Int)+1)=((d[n]?).map Dt.cons).getD []:=by
 unfold consOf
 rw[if_pos (by omega),show ((n:Int)+1 - 1).toNat=n by omega]
theorem consOf_at {d:List Dt} {n:Nat} {y:Dt} (hy:d[n]? = some y):consOf d ((n:Int)+1)=y.cons:=by rw[consOf_nat,hy];rfl
theorem lt_of_get {α:Type} {l:List α} {n:Nat} {x:α} (h:l[n]? = some x):n<l.length:=(List.getElem?_eq_some_iff.1 h).1
theorem wrap_sub1 {n:Nat} (h:n<2 ^ 62):IntKind.i64.wrap ((n:Int)+1 - 1)=(n:Int):=by rw[wrap_ok (by omega) (by omega)];omega
theorem tcase (d:List Dt) (t:Int):t<1∨(d.length:Int)<t∨∃ n:Nat,∃ y,t=(n:Int)+1∧d[n]? = some y:=by
 by_cases h0:t<1
 ·exact .inl h0
 ·by_cases h1:(d.length:Int)<t
  ·exact .inr (.inl h1)
  ·obtain ⟨y,hy⟩:=get_of_lt (l:=d) (n:=(t - 1).toNat) (by omega)
   exact .inr (.inr ⟨(t - 1).toNat,y,by omega,hy⟩)
theorem idxFC (l:List Cn) (cv:V) (p:Cn→Bool) (h:Hp) (hl:l.length<2 ^ 60) (hcv:norm cv=cv) (hc:∀ c,c ∈ l→cW tab cv [.d (eC c)] h=some (.d (.bool (p c)),h)) :
  callW tab 132 [.d (.lst (l.map eC)),cv] h=some (.d (eI (idxZ p l)),h):=by
 refine call_wp (fn:=f132) rfl rfl ?_
 have hloop:=loop_find (T:=tab) (a:=f132l0) (l:=l) (p:=p) (f:=fun n=>[(0,.d (.lst (l.map eC))),(1,cv),(7,int l.length),(8,int n)]) (h:=h)
   (by intro n x hx hlt hp;have hcall:=hc x (List.mem_of_getElem? hx);all_goals (apply wq_ex.1;simp only[hlt,hp,e132,iaC hx,hcall,wrap_succ (show n<2 ^ 62 by omega),wz,opX,intBin,↓reduceIte,simprocAttr]))
   (by intro n x hx hlt hp;have hcall:=hc x (List.mem_of_getElem? hx);all_goals (apply wq_ex.1;simp only[hlt,hp,e132,iaC hx,hcall,wrap_succ (show n<2 ^ 62 by omega),wz,opX,intBin,↓reduceIte,simprocAttr]<;>rfl))
   (by apply wq_ex.1;simp only[e132,wz,opX,intBin,↓reduceIte,simprocAttr]<;>rfl)
   (by intro n x;simp) (by simp)
 simp only[int,Zv.bool,Int.cast_ofNat_Int] at hloop
 simp only[e132,hcv,wq_of hloop,wz,opX,intBin,↓reduceIte,simprocAttr]
 unfold idxZ
 cases fst? p 0 l with
 |none=>simp only[e132,wz,opX,intBin,↓reduceIte,simprocAttr]
 |some n=>simp only[e132,wz,opX,intBin,↓reduceIte,simprocAttr]
theorem conFC (l:List Cn) (cv:V) (p:Cn→Bool) (h:Hp) (hl:l.length<2 ^ 60) (hcv:norm cv=cv) (hc:∀ c,c ∈ l→cW tab cv [.d (eC c)] h=some (.d (.bool (p c)),h)) :
  callW tab 97 [.d (.lst (l.map eC)),cv] h=some (.d (.bool (l.any p)),h):=by
 refine call_wp (fn:=f97) rfl rfl ?_
 have hi:=idxFC l cv p h hl hcv hc
 simp only[e97,hcv,hi,idxZ_nn,Bool.decide_eq_true,wz,opX,intBin,↓reduceIte,simprocAttr]
theorem idxFT (l:List Int) (cv:V) (p:Int→Bool) (h:Hp) (hl:l.length<2 ^ 60) (hcv:norm cv=cv) (hc:∀ c,c ∈ l→cW tab cv [.d (eI c)] h=some (.d (.bool (p c)),h)) :
  callW tab 101 [.d (.lst (l.map eI)),cv] h=some (.d (eI (idxZ p l)),h):=by
 refine call_wp (fn:=f101) rfl rfl ?_
 have hloop:=loop_find (T:=tab) (a:=f101l0) (l:=l) (p:=p) (f:=fun n=>[(0,.d (.lst (l.map eI))),(1,cv),(7,int l.length),(8,int n)]) (h:=h)
   (by intro n x hx hlt hp;have hcall:=hc x (List.mem_of_getElem? hx);all_goals (apply wq_ex.1;simp only[hlt,hp,e101,iaI hx,hcall,wrap_succ (show n<2 ^ 62 by omega),wz,opX,intBin,↓reduceIte,simprocAttr]))
   (by intro n x hx hlt hp;have hcall:=hc x (List.mem_of_getElem? hx);all_goals (apply wq_ex.1;simp only[hlt,hp,e101,iaI hx,hcall,wrap_succ (show n<2 ^ 62 by omega),wz,opX,intBin,↓reduceIte,simprocAttr]<;>rfl))
   (by apply wq_ex.1;simp only[e101,wz,opX,intBin,↓reduceIte,simprocAttr]<;>rfl)
   (by intro n x;simp) (by simp)
 simp only[int,Zv.bool,Int.cast_ofNat_Int] at hloop
 simp only[e101,hcv,wq_of hloop,wz,opX,intBin,↓reduceIte,simprocAttr]
 unfold idxZ
 cases fst? p 0 l with
 |none=>simp only[e101,wz,opX,intBin,↓reduceIte,simprocAttr]
 |some n=>simp only[e101,wz,opX,intBin,↓reduceIte,simprocAttr]
theorem conFT (l:List Int) (cv:V) (p:Int→Bool) (h:Hp) (hl:l.length<2 ^ 60) (hcv:norm cv=cv) (hc:∀ c,c ∈ l→cW tab cv [.d (eI c)] h=some (.d (.bool (p c)),h)) :
  callW tab 56 [.d (.lst (l.map eI)),cv] h=some (.d (.bool (l.any p)),h):=by
 refine call_wp (fn:=f56) rfl rfl ?_
 have hi:=idxFT l cv p h hl hcv hc
 simp only[e56,hcv,hi,idxZ_nn,Bool.decide_eq_true,wz,opX,intBin,↓reduceIte,simprocAttr]
end Zc28
end
section
set_option maxHeartbeats 4000000
namespace Zc28
open Go Zv Zs
structure Bd (d:List Dt):Prop where
 len:d.length≤100
 cons:∀ y,y ∈ d→y.cons.length≤30
 flds:∀ y,y ∈ d→∀ c,c ∈ y.cons→c.flds.length≤20
theorem Bd.at {d:List Dt} (B:Bd d) {m:Nat} {y:Dt} (hy:d[m]? = some y):m<100∧m<d.length∧y.cons.length≤30:=by
 have:=lt_of_get hy
 have:=B.len
 exact⟨by omega,by omega,B.cons y (List.mem_of_getElem? hy)⟩
theorem Bd.cat {d:List Dt} (B:Bd d) {m k:Nat} {y:Dt} {c:Cn} (hy:d[m]? = some y) (hc:y.cons[k]? = some c):k<30∧c.flds.length≤20:=by
 have:=(B.at hy).2.2
 have:=lt_of_get hc
 exact⟨by omega,B.flds y (List.mem_of_getElem? hy) c (List.mem_of_getElem? hc)⟩
theorem consOf_lo {d:List Dt} {t:Int} (h:t<1):consOf d t=[]:=by unfold consOf;rw[if_neg (by omega)]
theorem consOf_hi {d:List Dt} {t:Int} (h:(d.length:Int)<t):consOf d t=[]:=by
 unfold consOf
 split
 ·rw[List.getElem?_eq_none (by omega)];rfl
 ·rfl
abbrev sInt:ByteArray:=⟨#[73,110,116]⟩
end Zc28
end
section
set_option maxHeartbeats 4000000
namespace Zc28
open Go Zv Zs
theorem okC {x:D} (h:ok (EE es) (.st [.s,.l 2]) x):∃ a,x=eC a:=by
 obtain ⟨l,rfl,h1⟩:=ok_st h
 obtain ⟨y,r,rfl,ha,h1⟩:=okCs_cons h1
 obtain ⟨z,r,rfl,hb,h1⟩:=okCs_cons h1
 obtain rfl:=okCs_nil h1
 obtain ⟨s,rfl,_⟩:=ok_s ha
 obtain ⟨l,rfl,_,h2⟩:=ok_l hb
 obtain ⟨xs,rfl⟩:=okEs_map (fun _=>okI) h2
 exact⟨⟨s,xs⟩,rfl⟩
theorem okD {x:D} (h:ok (EE es) (.st [.s,.l 1]) x):∃ a,x=eD a:=by
 obtain ⟨l,rfl,h1⟩:=ok_st h
 obtain ⟨y,r,rfl,ha,h1⟩:=okCs_cons h1
 obtain ⟨z,r,rfl,hb,h1⟩:=okCs_cons h1
 obtain rfl:=okCs_nil h1
 obtain ⟨s,rfl,_⟩:=ok_s ha
 obtain ⟨l,rfl,_,h2⟩:=ok_l hb
 obtain ⟨xs,rfl⟩:=okEs_map (fun _=>okC) h2
 exact⟨⟨s,xs⟩,rfl⟩
theorem okDs {x:D} (h:ok (EE es) (.one (.l 0)) x):∃ a,x=eDs a:=by
 obtain ⟨l,rfl,_,h2⟩:=ok_l h
 obtain ⟨xs,rfl⟩:=okEs_map (fun _=>okD) h2
 exact⟨xs,rfl⟩
def Nm (d:List Dt):Prop:=∀ y,y ∈ d→y.name.size<2 ^ 60∧∀ c,c ∈ y.cons→c.name.size<2 ^ 60
end Zc28
end
section
set_option maxHeartbeats 4000000
namespace Zc28
open Go Zv Zs
def manyS (d:List Dt):Bool:=decide (64<d.length) || d.any fun y=>decide (16<y.cons.length) || y.cons.any fun c=>decide (6<c.flds.length)
theorem ofNat_lt_lit (a b:Nat):((a:Int)<(b:Int))=(a<b):=by simp
theorem many1_ok (c:Cn) (h:Hp):callW tab 98 [.d (eC c)] h=some (.d (.bool (decide (6<c.flds.length))),h):=by
 refine call_wp (fn:=f98) rfl rfl ?_
 have e:((6:Int)<(c.flds.length:Int))=(6<c.flds.length):=ofNat_lt_lit 6 _
 simp only[e98,e,wz,opX,intBin,↓reduceIte,simprocAttr]
theorem many_ok {d:List Dt} (B:Bd d) (h:Hp):callW tab 53 [.d (eDs d)] h=some (.d (.bool (manyS d)),h):=by
 refine call_wp (fn:=f53) rfl rfl ?_
 have hbl:=B.len
 have e:((64:Int)<(d.length:Int))=(64<d.length):=ofNat_lt_lit 64 _
 by_cases h0:64<d.length
 ·simp only[e53,manyS,e,h0,Bool.true_or,wz,opX,intBin,↓reduceIte,simprocAttr]
 ·skip
  obtain ⟨hloopq,hloop⟩:=loop_anyq (T:=tab) (a:=f53l0) (l:=d) (p:=(fun y=>decide (16<y.cons.length) || y.cons.any fun c=>decide (6<c.flds.length))) (f:=fun n=>[(8,.d (eDs d)),(9,int d.length),(10,int n)]) (h:=h)
    (by intro q n x hx hlt hp;have b:=B.at hx;have hc:=fun h=>conFC x.cons (.clo 98 []) (fun c=>decide (6<c.flds.length)) h (by omega) rfl (fun c _=>many1_ok c h);have e2:((16:Int)<(x.cons.length:Int))=(16<x.cons.length):=ofNat_lt_lit 16 _;by_cases h16:16<x.cons.length;all_goals simp only[h16,decide_true,decide_false,Bool.true_or,Bool.false_or,Bool.true_eq_false] at hp;all_goals (simp only[hlt,hp,e53,iaD hx,hc,e2,h16,wrap_succ (show n<2 ^ 62 by omega),wz,opX,intBin,↓reduceIte,simprocAttr]<;>(first | exact⟨_,rfl⟩ | exact⟨_,rfl,rfl⟩ | exact⟨_,rfl,rfl,rfl⟩)))
    (by intro q n x hx hlt hp;have b:=B.at hx;have hc:=fun h=>conFC x.cons (.clo 98 []) (fun c=>decide (6<c.flds.length)) h (by omega) rfl (fun c _=>many1_ok c h);have e2:((16:Int)<(x.cons.length:Int))=(16<x.cons.length):=ofNat_lt_lit 16 _;by_cases h16:16<x.cons.length;all_goals simp only[h16,decide_true,decide_false,Bool.true_or,Bool.false_or,Bool.true_eq_false] at hp;all_goals (simp only[hlt,hp,e53,iaD hx,hc,e2,h16,wrap_succ (show n<2 ^ 62 by omega),wz,opX,intBin,↓reduceIte,simprocAttr]<;>(first | exact⟨_,rfl⟩ | exact⟨_,rfl,rfl⟩ | exact⟨_,rfl,rfl,rfl⟩)))
    (by intro q;simp only[e53,wz,opX,intBin,↓reduceIte,simprocAttr]<;>(first | exact⟨_,rfl⟩ | exact⟨_,rfl,rfl⟩ | exact⟨_,rfl,rfl,rfl⟩))
    (by simp) (by simp)
  simp only[int,Zv.bool,Int.cast_ofNat_Int] at hloop
  simp only[e53,manyS,e,h0,wq_of hloop,Bool.false_or,wz,opX,intBin,↓reduceIte,simprocAttr]
  cases d.any (fun y=>decide (16<y.cons.length) || y.cons.any fun c=>decide (6<c.flds.length))<;>simp only[e53,wz,opX,intBin,↓reduceIte,simprocAttr]
end Zc28
end
section
set_option maxHeartbeats 4000000
namespace Zc28
open Go Zv Zs
def up (c:UInt8):Bool:=decide ((65:Int)≤(c.toNat:Int)) && decide ((c.toNat:Int)≤90)
def other (c:UInt8):Bool:=(decide ((97:Int)≤(c.toNat:Int)) && decide ((c.toNat:Int)≤122)) || (decide ((48:Int)≤(c.toNat:Int)) && decide ((c.toNat:Int)≤57)) || decide ((c.toNat:Int)=95)
def wrong (q:UInt8 × Nat):Bool := !up q.1 && (decide (q.2=0) || !other q.1)
def nameS (s:ByteArray):Bool := !s.data.toList.zipIdx.any wrong && decide (1≤s.size) && decide (s.size≤32)
theorem size_list (s:ByteArray):s.data.toList.length=s.size:=by rw[Array.length_toList];rfl
theorem any_up (n:Nat):∀ l:List UInt8,(l.zipIdx (n+1)).any wrong=l.any fun c => !up c && !other c
 | []=>rfl
 |c::l=>by
  rw[List.zipIdx_cons,List.any_cons,List.any_cons,any_up (n+1) l]
  simp[wrong]
theorem any_up0 (l:List UInt8) (c:UInt8) (h:up c=true):(c::l).zipIdx.any wrong=(c::l).any fun c => !up c && !other c:=by
 rw[List.zipIdx_cons,List.any_cons,List.any_cons,any_up 0 l]
 simp[wrong,h]
theorem any_up1 (l:List UInt8) (c:UInt8) (h:up c=false):(c::l).zipIdx.any wrong=true:=by
 rw[List.zipIdx_cons,List.any_cons]
 simp[wrong,h]
theorem size_zero {s:ByteArray} (h:s.size=0):s=⟨#[]⟩:=by
 have:=size_list s
 rw[h] at this
 have h2:s.data.toList=[]:=List.length_eq_zero_iff.1 this
 cases s with
 |mk d=>
  congr
  exact Array.toList_inj.1 (by simpa using h2)
theorem pname_ok (s:ByteArray) (hs:s.size<2 ^ 60) (h:Hp):callW tab 99 [.d (.str s)] h=some (.d (.bool (nameS s)),h):=by
 refine call_wp (fn:=f99) rfl rfl ?_
 have hsz:=size_list s
 by_cases h0:s=⟨#[]⟩
 ·subst h0
  simp only[e99,wz,opX,intBin,↓reduceIte,simprocAttr]
  decide
 ·by_cases h1:(32:Int)<s.size
  ·have h2:¬ s.size≤32:=by omega
   simp only[e99,h0,h1,nameS,h2,Bool.and_false,wz,opX,intBin,↓reduceIte,simprocAttr]
  ·obtain ⟨c,l,hl⟩:∃ c l,s.data.toList=c::l:=by
    cases hq:s.data.toList with
    |nil=>rw[hq] at hsz;exact absurd (size_zero (by simpa using hsz.symm)) h0
    |cons c l=>exact⟨c,l,rfl⟩
   have hx0:ixS (.d (.str s)) (.d (.int .i64 0))=some (.d (.int .u8 c.toNat)):=ixS_at (n:=0) .i64 (by rw[hl];rfl)
   have hn:nameS s = !s.data.toList.zipIdx.any wrong:=by
    have a:1≤s.size:=by rw[←hsz,hl];simp
    have b:s.size≤32:=by omega
    simp[nameS,a,b]
   rw[hn,hl]
   cases hu:up c with
   |false=>
    rw[any_up1 l c hu]
    simp only[up,Bool.and_eq_false_iff,decide_eq_false_iff_not] at hu
    (simp only[e99,h0,h1,hx0,wz,opX,intBin,↓reduceIte,simprocAttr]<;>repeat' (first | refine wpG_s ?_ ?_ | refine wpC_s ?_ ?_)<;>intro hgo<;>(try simp only[dq] at hgo)<;>simp only[hgo,e99,h0,h1,hx0,wz,opX,intBin,↓reduceIte,simprocAttr])
    all_goals (exfalso;omega)
   |true=>
    rw[any_up0 l c hu]
    simp only[up,Bool.and_eq_true,decide_eq_true_eq] at hu
    have c1:¬ (c.toNat:Int)<65:=by omega
    have c2:¬ (90:Int)<(c.toNat:Int):=by omega
    have hloop:=loop_any (T:=tab) (a:=f99l0) (l:=s.data.toList) (p:=(fun c => !up c && !other c)) (f:=fun n=>[(0,.d (.str s)),(23,int s.size),(24,int n)]) (h:=h)
      (by intro n x hx hlt hp;have hlt':n<s.size:=(by omega);simp only[up,other] at hp;all_goals (apply wq_ex.1;(simp only[hlt,hp,e99,ixS_at .i64 hx,hlt',ibeq,wrap_succ (show n<2 ^ 62 by omega),wz,opX,intBin,↓reduceIte,simprocAttr]<;>repeat' (first | refine wpG_s ?_ ?_ | refine wpC_s ?_ ?_)<;>intro hgo<;>(try simp only[dq] at hgo)<;>simp only[hgo,hlt,hp,e99,ixS_at .i64 hx,hlt',ibeq,wrap_succ (show n<2 ^ 62 by omega),wz,opX,intBin,↓reduceIte,simprocAttr])<;>(first | done | rfl | (exfalso;simp_all))))
      (by intro n x hx hlt hp;have hlt':n<s.size:=(by omega);simp only[up,other] at hp;all_goals (apply wq_ex.1;(simp only[hlt,hp,e99,ixS_at .i64 hx,hlt',ibeq,wrap_succ (show n<2 ^ 62 by omega),wz,opX,intBin,↓reduceIte,simprocAttr]<;>repeat' (first | refine wpG_s ?_ ?_ | refine wpC_s ?_ ?_)<;>intro hgo<;>(try simp only[dq] at hgo)<;>simp only[hgo,hlt,hp,e99,ixS_at .i64 hx,hlt',ibeq,wrap_succ (show n<2 ^ 62 by omega),wz,opX,intBin,↓reduceIte,simprocAttr])<;>(first | done | rfl | (exfalso;simp_all))<;>rfl))
      (by apply wq_ex.1;simp only[e99,hsz,wz,opX,intBin,↓reduceIte,simprocAttr]<;>rfl)
      (by simp) (by simp)
    simp only[int,Zv.bool,Int.cast_ofNat_Int] at hloop
    simp only[e99,h0,h1,hx0,c1,c2,wq_of hloop,wz,opX,intBin,↓reduceIte,simprocAttr]
    rw[hl]
    cases (c::l).any fun c => !up c && !other c<;>simp only[e99,wz,opX,intBin,↓reduceIte,simprocAttr]
end Zc28
end
section
set_option maxHeartbeats 4000000
namespace Zc28
open Go Zv Zs
abbrev sBool:ByteArray:=⟨#[66,111,111,108]⟩
abbrev sFalse:ByteArray:=⟨#[70,97,108,115,101]⟩
abbrev sTrue:ByteArray:=⟨#[84,114,117,101]⟩
def boolS (y:Dt):Bool:=decide (y.name=sBool) && match y.cons with
 | [f,t]=>decide (f.name=sFalse) && decide (t.name=sTrue) && decide (f.flds.length=0) && decide (t.flds.length=0)
 |_=>false
def badS (y:Dt):Bool := !nameS y.name || decide (y.cons.length=0) || y.cons.any fun c => !nameS c.name
def formedS (d:List Dt):Bool:=match d with
 | []=>false
 |y::_=>boolS y && !d.any badS
theorem iaD0 {l:List Dt} {x:Dt} (hx:l[0]? = some x):ia 2 (.d (.lst (l.map eD))) (.d (.int .i64 0))=some (.fp (eD x) 0):=iaD hx
theorem iaC0 {l:List Cn} {x:Cn} (hx:l[0]? = some x):ia 2 (.d (.lst (l.map eC))) (.d (.int .i64 0))=some (.fp (eC x) 0):=iaC hx
theorem iaC1 {l:List Cn} {x:Cn} (hx:l[1]? = some x):ia 2 (.d (.lst (l.map eC))) (.d (.int .i64 1))=some (.fp (eC x) 0):=iaC (n:=1) hx
theorem formed1_ok (c:Cn) (hc:c.name.size<2 ^ 60) (h:Hp):callW tab 100 [.d (eC c)] h=some (.d (.bool (!nameS c.name)),h):=by
 refine call_wp (fn:=f100) rfl rfl ?_
 simp only[e100,pname_ok c.name hc,wz,opX,intBin,↓reduceIte,simprocAttr]
theorem pformed_ok {d:List Dt} (B:Bd d) (N:Nm d) (h:Hp):callW tab 54 [.d (eDs d)] h=some (.d (.bool (formedS d)),h):=by
 refine call_wp (fn:=f54) rfl rfl ?_
 have hbl:=B.len
 cases d with
 |nil=>simp only[e54,formedS,Int.cast_ofNat_Int,wz,opX,intBin,↓reduceIte,simprocAttr]
 |cons y ds=>
  have e0:(((y::ds).length:Int) == 0)=false:=by simp;omega
  have hy:(y::ds)[0]? = some y:=rfl
  have h3:=N y List.mem_cons_self
  generalize hd:y::ds=d at *
  have hF:formedS d=(boolS y && !d.any badS):=by rw[←hd];rfl
  by_cases h1:y.name=sBool
  ·by_cases h2:y.cons.length=2
   ·obtain ⟨f,t,hft⟩:∃ f t,y.cons=[f,t]:=by
     cases hq:y.cons with
     |nil=>rw[hq] at h2;cases h2
     |cons f r=>cases r with
      |nil=>rw[hq] at h2;cases h2
      |cons t r=>cases r with
       |nil=>exact⟨f,t,rfl⟩
       |cons x r=>rw[hq] at h2;simp at h2
    have hB:boolS y=(decide (f.name=sFalse) && decide (t.name=sTrue) && decide (f.flds.length=0) && decide (t.flds.length=0)):=by
     unfold boolS;rw[hft];simp[h1]
    have b0:=iaC0 (l:=y.cons) (x:=f) (by rw[hft];rfl)
    have b1:=iaC1 (l:=y.cons) (x:=t) (by rw[hft];rfl)
    have e2:((y.cons.length:Int) != 2)=false:=by rw[h2];rfl
    have bf:=B.flds y (by rw[←hd];exact List.mem_cons_self) f (by rw[hft];simp)
    have bt:=B.flds y (by rw[←hd];exact List.mem_cons_self) t (by rw[hft];simp)
    have ew:IntKind.i64.wrap ((f.flds.length:Int)+(t.flds.length:Int))=(f.flds.length:Int)+(t.flds.length:Int):=wrap_ok (by omega) (by omega)
    by_cases k1:f.name=sFalse
    ·by_cases k2:t.name=sTrue
     ·by_cases k3:(0:Int)<(f.flds.length:Int)+(t.flds.length:Int)
      ·have:boolS y=false:=by
        rw[hB];by_cases z1:f.flds.length=0<;>by_cases z2:t.flds.length=0<;>first | (exfalso;omega) | simp[z1,z2]
       simp only[e54,iaD0 hy,e0,h1,e2,b0,b1,k1,k2,ew,k3,hF,this,wz,opX,intBin,↓reduceIte,simprocAttr]
      ·have z1:f.flds.length=0:=by omega
       have z2:t.flds.length=0:=by omega
       have:boolS y=true:=by rw[hB];simp[k1,k2,z1,z2]
       obtain ⟨hloopq,hloop⟩:=loop_anyq (T:=tab) (a:=f54l0) (l:=d) (p:=badS) (f:=fun n=>[(55,.d (eDs d)),(56,int d.length),(57,int n)]) (h:=⟨h.objs,h.next+1+1⟩)
         (by intro q n x hx hlt hp;have b:=B.at hx;have hN:=N x (List.mem_of_getElem? hx);have hcf:=fun h=>conFC x.cons (.clo 100 []) (fun c => !nameS c.name) h (by omega) rfl (fun c hc=>formed1_ok c (hN.2 c hc) h);have hnm:=fun h=>pname_ok x.name hN.1 h;simp only[badS] at hp;have ez:((x.cons.length:Int) == 0)=decide (x.cons.length=0):=(by rw[ibeq];simp);cases hn:nameS x.name;all_goals by_cases hz:x.cons.length=0;all_goals simp only[hn,hz,decide_true,decide_false,Bool.true_or,Bool.false_or,Bool.not_true,Bool.not_false,Bool.true_eq_false] at hp;all_goals (simp only[hlt,hp,e54,iaD hx,hcf,hnm,hn,hz,ez,wrap_succ (show n<2 ^ 62 by omega),wz,opX,intBin,↓reduceIte,simprocAttr]<;>(first | exact⟨_,rfl⟩ | exact⟨_,rfl,rfl⟩ | exact⟨_,rfl,rfl,rfl⟩)))
         (by intro q n x hx hlt hp;have b:=B.at hx;have hN:=N x (List.mem_of_getElem? hx);have hcf:=fun h=>conFC x.cons (.clo 100 []) (fun c => !nameS c.name) h (by omega) rfl (fun c hc=>formed1_ok c (hN.2 c hc) h);have hnm:=fun h=>pname_ok x.name hN.1 h;simp only[badS] at hp;have ez:((x.cons.length:Int) == 0)=decide (x.cons.length=0):=(by rw[ibeq];simp);cases hn:nameS x.name;all_goals by_cases hz:x.cons.length=0;all_goals simp only[hn,hz,decide_true,decide_false,Bool.true_or,Bool.false_or,Bool.not_true,Bool.not_false,Bool.true_eq_false] at hp;all_goals (simp only[hlt,hp,e54,iaD hx,hcf,hnm,hn,hz,ez,wrap_succ (show n<2 ^ 62 by omega),wz,opX,intBin,↓reduceIte,simprocAttr]<;>(first | exact⟨_,rfl⟩ | exact⟨_,rfl,rfl⟩ | exact⟨_,rfl,rfl,rfl⟩)))
         (by intro q;simp only[e54,wz,opX,intBin,↓reduceIte,simprocAttr]<;>(first | exact⟨_,rfl⟩ | exact⟨_,rfl,rfl⟩ | exact⟨_,rfl,rfl,rfl⟩))
         (by simp) (by simp)
       simp only[int,Zv.bool,Int.cast_ofNat_Int] at hloop
       simp only[e54,iaD0 hy,e0,h1,e2,b0,b1,k1,k2,ew,k3,hF,this,wq_of hloop,wz,opX,intBin,↓reduceIte,simprocAttr]
       cases d.any badS<;>simp only[e54,wz,opX,intBin,↓reduceIte,simprocAttr]
     ·have:boolS y=false:=by rw[hB];simp[k2]
      simp only[e54,iaD0 hy,e0,h1,e2,b0,b1,k1,k2,hF,this,wz,opX,intBin,↓reduceIte,simprocAttr]
    ·have:boolS y=false:=by rw[hB];simp[k1]
     simp only[e54,iaD0 hy,e0,h1,e2,b0,b1,k1,hF,this,wz,opX,intBin,↓reduceIte,simprocAttr]
   ·have:boolS y=false:=by
     unfold boolS
     split
     ·rename_i hq;rw[hq] at h2;exact absurd rfl h2
     ·simp
    have e2:((y.cons.length:Int) != 2)=true:=by simp;omega
    simp only[e54,iaD0 hy,e0,h1,e2,hF,this,wz,opX,intBin,↓reduceIte,simprocAttr]
  ·have:boolS y=false:=by unfold boolS;simp[h1]
   simp only[e54,iaD0 hy,e0,h1,hF,this,wz,opX,intBin,↓reduceIte,simprocAttr]
end Zc28
end
section
set_option maxHeartbeats 4000000
namespace Zc28
open Go Zv Zs
instance decMem (s:ByteArray) (l:List ByteArray):Decidable (s ∈ l):=decidable_of_iff (l.any (fun x=>decide (x=s))=true) (by simp)
def tyN (d:List Dt) (n:Nat):List ByteArray:=sInt::(d.take n).map Dt.name
def coN (d:List Dt) (n:Nat):List ByteArray:=(d.take n).flatMap fun y=>y.cons.map Cn.name
def coK (d:List Dt) (n:Nat) (y:Dt) (k:Nat):List ByteArray:=coN d n++(y.cons.take k).map Cn.name
def twiceS (d:List Dt):Bool := !(decide (tyN d d.length).Nodup && decide (coN d d.length).Nodup)
theorem tyN_succ {d:List Dt} {n:Nat} {y:Dt} (hy:d[n]? = some y):tyN d (n+1)=tyN d n++[y.name]:=by
 obtain ⟨hlt,rfl⟩:=List.getElem?_eq_some_iff.1 hy
 unfold tyN;rw[List.take_succ_eq_append_getElem hlt,List.map_append];rfl
theorem coN_succ {d:List Dt} {n:Nat} {y:Dt} (hy:d[n]? = some y):coN d (n+1)=coN d n++y.cons.map Cn.name:=by
 obtain ⟨hlt,rfl⟩:=List.getElem?_eq_some_iff.1 hy
 unfold coN;rw[List.take_succ_eq_append_getElem hlt,List.flatMap_append];simp
theorem coK_zero (d:List Dt) (n:Nat) (y:Dt):coK d n y 0=coN d n:=by simp[coK]
theorem coK_succ {d:List Dt} {n:Nat} {y:Dt} {k:Nat} {c:Cn} (hc:y.cons[k]? = some c):coK d n y (k+1)=coK d n y k++[c.name]:=by
 obtain ⟨hlt,rfl⟩:=List.getElem?_eq_some_iff.1 hc
 unfold coK;rw[List.take_succ_eq_append_getElem hlt,List.map_append,List.append_assoc];rfl
theorem coK_all {d:List Dt} {n:Nat} {y:Dt} (hy:d[n]? = some y):coK d n y y.cons.length=coN d (n+1):=by
 rw[coN_succ hy];simp[coK]
theorem tyN_pre (d:List Dt) (n:Nat):tyN d n <+: tyN d d.length:=by
 unfold tyN
 rw[List.take_length]
 refine ⟨(d.drop n).map Dt.name,?_⟩
 rw[List.cons_append,←List.map_append,List.take_append_drop]
theorem coN_pre (d:List Dt) (n:Nat):coN d n <+: coN d d.length:=by
 unfold coN
 rw[List.take_length]
 refine ⟨(d.drop n).flatMap fun y=>y.cons.map Cn.name,?_⟩
 rw[←List.flatMap_append,List.take_append_drop]
theorem coK_pre {d:List Dt} {n:Nat} {y:Dt} (hy:d[n]? = some y) (k:Nat):coK d n y k <+: coN d d.length:=by
 refine List.IsPrefix.trans ?_ (coN_pre d (n+1))
 rw[coN_succ hy]
 refine ⟨(y.cons.drop k).map Cn.name,?_⟩
 unfold coK
 rw[List.append_assoc,←List.map_append,List.take_append_drop]
theorem nd_add {l:List ByteArray} {s:ByteArray} (h:l.Nodup) (hs:s ∉ l):(l++[s]).Nodup:=by
 rw[List.nodup_append]
 exact⟨h,by simp,fun a ha b hb=>by rintro rfl;simp at hb;exact hs (hb▸ha)⟩
theorem nd_not {l m:List ByteArray} {s:ByteArray} (hs:s ∈ l) (h:l++[s] <+: m):¬ m.Nodup:=by
 intro hm
 have:=h.sublist.nodup hm
 rw[List.nodup_append] at this
 exact this.2.2 s hs s (by simp) rfl
theorem twice_t1 {d:List Dt} {n:Nat} {y:Dt} (hy:d[n]? = some y) (h:y.name ∈ tyN d n):twiceS d=true:=by
 have:=nd_not h (tyN_succ hy▸tyN_pre d (n+1))
 simp[twiceS,this]
theorem twice_t2 {d:List Dt} {n k:Nat} {y:Dt} {c:Cn} (hy:d[n]? = some y) (hc:y.cons[k]? = some c) (h:c.name ∈ coK d n y k):twiceS d=true:=by
 have:=nd_not h (coK_succ (d:=d) (n:=n) hc▸coK_pre hy (k+1))
 simp[twiceS,this]
theorem twice_f {d:List Dt} (h1:(tyN d d.length).Nodup) (h2:(coN d d.length).Nodup):twiceS d=false:=by
 simp[twiceS,h1,h2]
def kvS (l:List ByteArray):List (D × V):=l.map fun s=>(.str s,.d (.bool true))
theorem kvS_find (s:ByteArray):∀ l:List ByteArray,findK .s (.str s) (kvS l)=some (if s ∈ l then some (.d (.bool true)) else none)
 | []=>rfl
 |x::l=>by
  unfold kvS
  rw[List.map_cons]
  by_cases h:s=x
  ·subst h;simp[findK,keyEq]
  ·simp only[findK,keyEq,h,decide_false,List.mem_cons,false_or]
   exact kvS_find s l
theorem kvS_put (s:ByteArray):∀ l:List ByteArray,s ∉ l→putK .s (.str s) (.d (.bool true)) (kvS l)=some (kvS (l++[s]))
 | [],_=>rfl
 |x::l,hs=>by
  have h:¬ s=x:=fun e=>hs (e▸List.mem_cons_self)
  have ih:=kvS_put s l (fun e=>hs (List.mem_cons_of_mem x e))
  unfold kvS at ih ⊢
  rw[List.map_cons]
  simp only[putK,keyEq,h,decide_false,ih,Option.map_some,List.cons_append,List.map_cons]
section
variable (h:Hp)
def HM (T C:List ByteArray) (q:Nat):Hp:=⟨(h.next+1,.mp (kvS C))::(h.next,.mp (kvS T))::h.objs,q⟩
theorem HM_T (T C q) (s:ByteArray):lk .s (.d (.bool false)) false (HM h T C q) (.map h.next) (.d (.str s))=some (.d (.bool (decide (s ∈ T)))):=by
 have:(HM h T C q).get h.next=some (.mp (kvS T)):=by
  unfold Hp.get HM;rw[look_tl _ _ (by omega),look_hd]
 unfold lk
 simp only[entries,this,Option.bind_some,kvS_find,Option.map_some]
 by_cases hs:s ∈ T<;>simp[hs]
theorem HM_C (T C q) (s:ByteArray):lk .s (.d (.bool false)) false (HM h T C q) (.map (h.next+1)) (.d (.str s))=some (.d (.bool (decide (s ∈ C)))):=by
 have:(HM h T C q).get (h.next+1)=some (.mp (kvS C)):=by
  unfold Hp.get HM;rw[look_hd]
 unfold lk
 simp only[entries,this,Option.bind_some,kvS_find,Option.map_some]
 by_cases hs:s ∈ C<;>simp[hs]
theorem HM_Tp (T C q) {s:ByteArray} (hs:s ∉ T):mu .s (HM h T C q) (.map h.next) (.d (.str s)) (.d (.bool true))=some (HM h (T++[s]) C q):=by
 have:(HM h T C q).get h.next=some (.mp (kvS T)):=by
  unfold Hp.get HM;rw[look_tl _ _ (by omega),look_hd]
 unfold mu
 simp only[this,stor_d,if_true,norm_d,kvS_put s T hs,Option.map_some]
 unfold Hp.set HM
 simp[upd]
theorem HM_Cp (T C q) {s:ByteArray} (hs:s ∉ C):mu .s (HM h T C q) (.map (h.next+1)) (.d (.str s)) (.d (.bool true))=some (HM h T (C++[s]) q):=by
 have:(HM h T C q).get (h.next+1)=some (.mp (kvS C)):=by
  unfold Hp.get HM;rw[look_hd]
 unfold mu
 simp only[this,stor_d,if_true,norm_d,kvS_put s C hs,Option.map_some]
 unfold Hp.set HM
 simp[upd]
end
theorem HM_next (h:Hp) (T C q):(HM h T C q).next=q:=rfl
theorem HM_up (h:Hp) (T C q):(⟨(HM h T C q).objs,q+1⟩:Hp)=HM h T C (q+1):=rfl
theorem HM_fin (h:Hp) (T C q) (x:D):finS h (HM h T C q) [.d x]=some (.d x,h):=finS1cc ..
theorem ptwice_ok {d:List Dt} (B:Bd d) (h:Hp):callW tab 55 [.d (eDs d)] h=some (.d (.bool (twiceS d)),h):=by
 refine call_wp (fn:=f55) rfl rfl ?_
 have hbl:=B.len
 have hmu0:mu .s ⟨(h.next,.mp [])::h.objs,h.next+1⟩ (.map h.next) (.d (.str sInt)) (.d (.bool true))=some ⟨(h.next,.mp (kvS (tyN d 0)))::h.objs,h.next+1⟩:=by
  simp[mu,Hp.get,Zv.look,putK,stor,norm_d,Hp.set,upd,kvS,tyN]
 have hH:(⟨(h.next+1,.mp [])::(h.next,.mp (kvS (tyN d 0)))::h.objs,h.next+1+1⟩:Hp)=HM h (tyN d 0) (coN d 0) (h.next+2):=rfl
 simp only[e55,hmu0,hH,wz,opX,intBin,↓reduceIte,simprocAttr]
 have inner:∀ (m:Nat) (y:Dt) (q:Nat),d[m]? = some y→(coN d m).Nodup→wp tab (.loop f55l0) [(3,.map h.next),(4,.map (h.next+1)),(12,.d (eDs d)),(13,.d (.int .i64 d.length)),(14,.d (.int .i64 m)),(26,.d (eCs y.cons)),(27,.d (.int .i64 y.cons.length)),(28,.d (.int .i64 0))] (HM h (tyN d (m+1)) (coN d m) q)
   (fun o=>∃ T C q',(o=(.ret,[(2,.d (.bool true))],HM h T C q')∧twiceS d=true)∨(o=(.exit 2,[(3,.map h.next),(4,.map (h.next+1)),(12,.d (eDs d)),(13,.d (.int .i64 d.length)),(14,.d (.int .i64 m)),(26,.d (eCs y.cons)),(27,.d (.int .i64 y.cons.length)),(28,.d (.int .i64 y.cons.length)),(29,.d (.bool false))],HM h (tyN d (m+1)) (coN d (m+1)) q')∧(coN d (m+1)).Nodup)):=by
  intro m y q hy hnd
  have b:=B.at hy
  refine loop_wp y.cons.length (fun k e h'=>(∃ q,h'=HM h (tyN d (m+1)) (coK d m y k) q)∧e=[(3,.map h.next),(4,.map (h.next+1)),(12,.d (eDs d)),(13,.d (.int .i64 d.length)),(14,.d (.int .i64 m)),(26,.d (eCs y.cons)),(27,.d (.int .i64 y.cons.length)),(28,.d (.int .i64 k))]∧(coK d m y k).Nodup) _ ?_ ?_ y.cons.length 0 _ _ (by omega) ⟨⟨q,by rw[coK_zero]⟩,rfl,by rw[coK_zero];exact hnd⟩
  ·rintro k e h' hk ⟨⟨q,rfl⟩,rfl,hn⟩
   obtain ⟨c,hc⟩:=get_of_lt hk
   have hw:=wrap_succ (show k<2 ^ 62 by omega)
   by_cases hm:c.name ∈ coK d m y k
   ·have ht:=twice_t2 hy hc hm
    simp only[e55,hk,iaC hc,HM_next,HM_up,HM_C,hm,ht,wz,opX,intBin,↓reduceIte,simprocAttr]
    exact⟨_,_,_,rfl⟩
   ·have hp:=fun q=>HM_Cp h (tyN d (m+1)) (coK d m y k) q hm
    simp only[e55,hk,iaC hc,HM_next,HM_up,HM_C,hm,hp,hw,wz,opX,intBin,↓reduceIte,simprocAttr]
    exact⟨⟨_,by rw[coK_succ hc]⟩,by rw[coK_succ hc];exact nd_add hn hm⟩
  ·rintro e h' ⟨⟨q,rfl⟩,rfl,hn⟩
   simp only[e55,wz,opX,intBin,↓reduceIte,simprocAttr]
   rw[coK_all hy] at hn ⊢
   exact⟨[],[],_,rfl,hn⟩
 refine loop_wp d.length (fun k e h'=>(∃ q,h'=HM h (tyN d k) (coN d k) q)∧e=[(3,.map h.next),(4,.map (h.next+1)),(12,.d (eDs d)),(13,.d (.int .i64 d.length)),(14,.d (.int .i64 k))]∧(tyN d k).Nodup∧(coN d k).Nodup) _ ?_ ?_ d.length 0 _ _ (by omega) ⟨⟨_,rfl⟩,rfl,by simp[tyN],by simp[coN]⟩
 ·rintro k e h' hk ⟨⟨q,rfl⟩,rfl,hn1,hn2⟩
  obtain ⟨y,hy⟩:=get_of_lt hk
  have hw:=wrap_succ (show k<2 ^ 62 by omega)
  by_cases hm:y.name ∈ tyN d k
  ·have ht:=twice_t1 hy hm
   simp only[e55,hk,iaD hy,HM_next,HM_up,HM_T,hm,ht,HM_fin,wz,opX,intBin,↓reduceIte,simprocAttr]
  ·have hp:=fun q=>HM_Tp h (tyN d k) (coN d k) q hm
   simp only[e55,hk,iaD hy,HM_next,HM_up,HM_T,hm,hp,wz,opX,intBin,↓reduceIte,simprocAttr]
   rw[←tyN_succ hy]
   refine wq_mono (inner k y _ hy hn2) ?_
   rintro o ⟨T,C,q',⟨rfl,ht⟩ | ⟨rfl,hn3⟩⟩
   ·simp only[e55,ht,HM_fin,wz,opX,intBin,↓reduceIte,simprocAttr]
   ·simp only[e55,hw,wz,opX,intBin,↓reduceIte,simprocAttr]
    exact⟨⟨_,rfl⟩,by rw[tyN_succ hy];exact nd_add hn1 hm,hn3⟩
 ·rintro e h' ⟨⟨q,rfl⟩,rfl,hn1,hn2⟩
  simp only[e55,HM_fin,twice_f hn1 hn2,wz,opX,intBin,↓reduceIte,simprocAttr]
end Zc28
end
section
set_option maxHeartbeats 4000000
namespace Zc28
open Go Zv Zs
abbrev eS (s:ByteArray):D:=.str s
structure SlS (h:Hp) (v:V) (l:List ByteArray):Prop where
 len:lenL v=some (.d (.int .i64 l.length))
 at_:∀ (n:Nat) (x:ByteArray),l[n]? = some x→∃ a,ia 1 v (.d (.int .i64 (n:Int)))=some a∧ld false 1 h a=some (.d (.str x))
theorem SlS.own {h:Hp} {n:Nat} {l:List ByteArray} (hr:h.row n l.length=some (1,(l.map eS).map .d)):SlS h (.own n 1 l.length 0 l.length) l:=by
 refine ⟨lenL_own ..,fun k x hx=>⟨.ptr n l.length k 0,?_,?_⟩⟩
 ·have:=lt_of_get hx
  simp[ia,ixOf_nat,this]
 ·rw[ld_one,hr]
  simp[hx,V.cells,D.cells]
theorem SlS.nil (h:Hp):SlS h (.d (.lst [])) []:=⟨rfl,fun n x hx=>by simp at hx⟩
section
variable (h:Hp)
end
end Zc28
end
section
set_option maxHeartbeats 4000000
namespace Zc28
open Go Zv Zs
def mk (M:List Bool) (f:Int):Bool:=M.getD f.toNat false
def allD (M:List Bool) (c:Cn):Bool:=c.flds.all (mk M)
def stp (d:List Dt) (M:List Bool) (i:Nat):List Bool:=match d[i]? with
 |some y=>if y.cons.any (allD M)=true then M.set (i+1) true else M
 |none=>M
def passN (d:List Dt) (M:List Bool):Nat→List Bool
 |0=>M
 |n+1=>stp d (passN d M n) n
def pass (d:List Dt) (M:List Bool):List Bool:=passN d M d.length
def iter (d:List Dt) (M:List Bool):Nat→List Bool
 |0=>M
 |n+1=>pass d (iter d M n)
def marks (d:List Dt):List Bool:=true::List.replicate d.length false
def finiteS (d:List Dt):Bool:=(iter d (marks d) (d.length+1)).all id
theorem set_cnt:∀ (M:List Bool) (k:Nat),M.set k true=M∨cnt M<cnt (M.set k true)
 | [],_=>.inl rfl
 |b::M,0=>by
  cases b with
  |true=>exact .inl rfl
  |false=>right;simp[cnt]
 |b::M,k+1=>by
  rcases set_cnt M k with h | h
  ·left;rw[List.set_cons_succ,h]
  ·right
   unfold cnt at h ⊢
   rw[List.set_cons_succ,List.countP_cons,List.countP_cons]
   omega
theorem set_true {M:List Bool} {k:Nat} (h:M[k]? = some true):M.set k true=M:=by
 obtain ⟨hlt,h⟩:=List.getElem?_eq_some_iff.1 h
 rw[←h];exact List.set_getElem_self hlt
theorem stp_at {d:List Dt} {M:List Bool} {i:Nat} {y:Dt} (hy:d[i]? = some y):stp d M i=if y.cons.any (allD M)=true then M.set (i+1) true else M:=by
 unfold stp;rw[hy]
theorem stp_len (d:List Dt) (M:List Bool) (i:Nat):(stp d M i).length=M.length:=by
 unfold stp
 split
 ·split
  ·exact List.length_set
  ·rfl
 ·rfl
theorem stp_cnt (d:List Dt) (M:List Bool) (i:Nat):stp d M i=M∨cnt M<cnt (stp d M i):=by
 unfold stp
 split
 ·split
  ·exact set_cnt M (i+1)
  ·exact .inl rfl
 ·exact .inl rfl
theorem passN_len (d:List Dt) (M:List Bool):∀ n,(passN d M n).length=M.length
 |0=>rfl
 |n+1=>by rw[passN,stp_len,passN_len d M n]
theorem passN_cnt (d:List Dt) (M:List Bool):∀ n,passN d M n=M∨cnt M<cnt (passN d M n)
 |0=>.inl rfl
 |n+1=>by
  rw[passN]
  rcases passN_cnt d M n with h | h<;>rcases stp_cnt d (passN d M n) n with k | k
  ·left;rw[k,h]
  ·right;rw[h] at k ⊢; exact k
  ·right;rw[k];exact h
  ·right;omega
theorem iter_len (d:List Dt) (M:List Bool):∀ n,(iter d M n).length=M.length
 |0=>rfl
 |n+1=>by rw[iter,pass,passN_len,iter_len d M n]
theorem cnt_le (M:List Bool):cnt M≤M.length:=List.countP_le_length
theorem iter_cnt (d:List Dt):∀ n,pass d (iter d (marks d) n)=iter d (marks d) n∨n+1<cnt (iter d (marks d) (n+1))
 |0=>by
  rcases passN_cnt d (marks d) d.length with h | h
  ·exact .inl h
  ·right
   have:1≤cnt (marks d):=by unfold cnt marks;rw[List.countP_cons];simp
   show 1<cnt (pass d (marks d))
   unfold pass;omega
 |n+1=>by
  rcases iter_cnt d n with h | h
  ·left
   show pass d (pass d (iter d (marks d) n))=pass d (iter d (marks d) n)
   rw[h,h]
  ·rcases passN_cnt d (iter d (marks d) (n+1)) d.length with k | k
   ·exact .inl k
   ·right
    show n+1+1<cnt (pass d (iter d (marks d) (n+1)))
    unfold pass;omega
theorem iter_fix (d:List Dt):pass d (iter d (marks d) (d.length+1))=iter d (marks d) (d.length+1):=by
 rcases iter_cnt d (d.length+1) with h | h
 ·exact h
 ·have h1:=cnt_le (iter d (marks d) (d.length+1+1))
  have h2:(marks d).length=d.length+1:=by simp[marks]
  rw[iter_len,h2] at h1
  omega
theorem iter_more {d:List Dt} {M:List Bool} {j:Nat} (h:pass d (iter d M j)=iter d M j):∀ k,iter d M (j+k)=iter d M j
 |0=>rfl
 |k+1=>by
  show pass d (iter d M (j+k))=_
  rw[iter_more h k,h]
theorem fix_eq {d:List Dt} {j:Nat} (h:pass d (iter d (marks d) j)=iter d (marks d) j):iter d (marks d) j=iter d (marks d) (d.length+1):=by
 by_cases hj:j≤d.length+1
 ·have:=iter_more h (d.length+1 - j)
  rw[show j+(d.length+1 - j)=d.length+1 by omega] at this
  exact this.symm
 ·have:=iter_more (iter_fix d) (j - (d.length+1))
  rw[show d.length+1+(j - (d.length+1))=j by omega] at this
  exact this
def typedS (d:List Dt):Bool:=d.all fun y=>y.cons.all fun c=>c.flds.all (isT d)
theorem typed_at {d:List Dt} (h:typedS d=true) {y:Dt} {c:Cn} {f:Int} (hy:y ∈ d) (hc:c ∈ y.cons) (hf:f ∈ c.flds):∃ n:Nat,f=n∧n<d.length+1:=by
 have:=List.all_eq_true.1 (List.all_eq_true.1 (List.all_eq_true.1 h y hy) c hc) f hf
 simp only[isT,Bool.and_eq_true,decide_eq_true_eq] at this
 exact⟨f.toNat,by omega,by omega⟩
theorem mk_at {M:List Bool} {n:Nat} {b:Bool} (h:M[n]? = some b):mk M (n:Int)=b:=by
 unfold mk
 rw[Int.toNat_natCast,List.getD_eq_getElem?_getD,h];rfl
section
variable (h:Hp)
end
end Zc28
end
section
set_option maxHeartbeats 4000000
namespace Zc28
open Go Zv Zs
structure RM (H:Hp) (b a L:Nat) (M:List Bool):Prop where
 len:M.length=L
 box:H.row b 1=some (1,[.own a 1 L 0 L])
 row:H.row a L=some (1,M.map bV)
theorem RM.up {H:Hp} {b a L:Nat} {M:List Bool} (R:RM H b a L M) (q:Nat):RM ⟨H.objs,q⟩ b a L M:=⟨R.len,R.box,R.row⟩
theorem fin11_ok {H:Hp} {b a L n:Nat} {M:List Bool} (R:RM H b a L M) (hn:n<L):callW tab 103 [.d (eI n),.ptr b 1 0 0] H=some (.d (.bool (!mk M n)),H):=by
 refine call_wp (fn:=f103) rfl rfl ?_
 obtain ⟨x,hx⟩:=get_of_lt (l:=M) (n:=n) (by rw[R.len];exact hn)
 simp only[e103,R.box,ia_own (es:=1) (n:=a) (tot:=L) .i64 hn,ld_bit R.row hx,mk_at hx,wz,opX,intBin,↓reduceIte,simprocAttr]
theorem fin1_ok {H:Hp} {b a L:Nat} {M:List Bool} (R:RM H b a L M) (c:Cn) (hc:c.flds.length<2 ^ 60) (hf:∀ f,f ∈ c.flds→∃ n:Nat,f=n∧n<L):callW tab 102 [.d (eC c),.ptr b 1 0 0] H=some (.d (.bool (allD M c)),H):=by
 refine call_wp (fn:=f102) rfl rfl ?_
 have hcont:=conFT c.flds (.clo 103 [.ptr b 1 0 0]) (fun f => !mk M f) ⟨H.objs,H.next+1⟩ hc rfl
  (fun f hfm=>by obtain ⟨n,rfl,hn⟩:=hf f hfm;exact fin11_ok (R.up _) hn)
 have e:(!c.flds.any fun f => !mk M f)=allD M c:=by
  unfold allD
  have:∀ l:List Int,(!l.any fun f => !mk M f)=l.all (mk M):=by
   intro l;induction l with
   |nil=>rfl
   |cons b l ih=>rw[List.any_cons,List.all_cons,←ih];cases mk M b<;>simp
  exact this _
 simp only[e102,hcont,e,wz,opX,intBin,↓reduceIte,simprocAttr]
theorem indB {h:Hp} {a L:Nat} {M:List Bool} (hr:h.row a L=some (1,M.map bV)) (hL:M.length=L) (hl:L<2 ^ 60) (b:Bool):callW tab 114 [.own a 1 L 0 L,.d (.bool b)] h=some (.d (eI (idxZ (fun x=>b == x) M)),h):=by
 refine call_wp (fn:=f114) rfl rfl ?_
 have hloop:=loop_find (T:=tab) (a:=f114l0) (l:=M) (p:=(fun x=>b == x)) (f:=fun n=>[(0,.own a 1 L 0 L),(1,.d (.bool b)),(7,int L),(8,int n)]) (h:=h)
   (by intro n x hx hlt hp;have hlt':n<L:=(by omega);have hio:=ia_own (es:=1) (n:=a) (tot:=L) .i64 hlt';have hl:=ld_bit hr hx;all_goals (apply wq_ex.1;simp only[hlt,hp,e114,hlt',hio,hl,wrap_succ (show n<2 ^ 62 by omega),wz,opX,intBin,↓reduceIte,simprocAttr]))
   (by intro n x hx hlt hp;have hlt':n<L:=(by omega);have hio:=ia_own (es:=1) (n:=a) (tot:=L) .i64 hlt';have hl:=ld_bit hr hx;all_goals (apply wq_ex.1;simp only[hlt,hp,e114,hlt',hio,hl,wrap_succ (show n<2 ^ 62 by omega),wz,opX,intBin,↓reduceIte,simprocAttr]<;>rfl))
   (by apply wq_ex.1;simp only[e114,hL,wz,opX,intBin,↓reduceIte,simprocAttr]<;>rfl)
   (by intro n x;simp) (by simp)
 simp only[int,Zv.bool,Int.cast_ofNat_Int] at hloop
 simp only[e114,wq_of hloop,wz,opX,intBin,↓reduceIte,simprocAttr]
 unfold idxZ
 cases fst? (fun x=>b == x) 0 M with
 |none=>simp only[e114,wz,opX,intBin,↓reduceIte,simprocAttr]
 |some n=>simp only[e114,wz,opX,intBin,↓reduceIte,simprocAttr]
theorem containsB {h:Hp} {a L:Nat} {M:List Bool} (hr:h.row a L=some (1,M.map bV)) (hL:M.length=L) (hl:L<2 ^ 60) (b:Bool):callW tab 70 [.own a 1 L 0 L,.d (.bool b)] h=some (.d (.bool (M.any fun x=>b == x)),h):=by
 refine call_wp (fn:=f70) rfl rfl ?_
 simp only[e70,indB hr hL hl b,idxZ_nn,Bool.decide_eq_true,wz,opX,intBin,↓reduceIte,simprocAttr]
section
variable (h:Hp) (L:Nat)
def HP (M:List Bool):Hp:=⟨(h.next+1,.arr 1 [.own h.next 1 L 0 L])::(h.next,.arr 1 (M.map bV))::h.objs,h.next+2⟩
theorem HP_R (M:List Bool) (hL:M.length=L):RM (HP h L M) (h.next+1) h.next L M:=by
 refine ⟨hL,row_look (look_hd ..) rfl,row_look ?_ (by simp[hL])⟩
 unfold HP
 rw[look_tl _ _ (by omega),look_hd]
theorem HP_st (M:List Bool) {j:Nat} (hL:M.length=L) (b:Bool) (hj:j<L):st 1 (HP h L M) (.ptr h.next L j 0) (.d (.bool b))=some (HP h L (M.set j b)):=by
 unfold st
 have:(M.map bV)[j]? = some (bV (M[j]'(by omega))):=by simp[show j<M.length by omega]
 simp only[(HP_R h L M hL).row,Option.bind_some,this]
 rw[if_pos (by simp[stor,V.cells,D.cells]),if_pos (by simp)]
 unfold HP Hp.set
 simp[upd,List.map_set]
theorem HP_fin (M:List Bool) (x:D):finS h (HP h L M) [.d x]=some (.d x,h):=finS1cc ..
end
theorem pfinite_ok {d:List Dt} (B:Bd d) (Ty:typedS d=true) (h:Hp):callW tab 59 [.d (eDs d)] h=some (.d (.bool (finiteS d)),h):=by
 refine call_wp (fn:=f59) rfl rfl ?_
 have hbl:=B.len
 have hw0:=wrap_succ (show d.length<2 ^ 62 by omega)
 have hmk:mkslO (.d (.bool false)) 1 1 h (.d (.int .i64 ((d.length+1:Nat):Int)))=some (.own h.next 1 (d.length+1) 0 (d.length+1),⟨(h.next,.arr 1 ((List.replicate (d.length+1) false).map bV))::h.objs,h.next+1⟩):=by
  simp only[mkslO,ixOf_nat,Option.bind_some]
  rw[if_pos (by unfold roomB;omega)]
  simp[Hp.alloc]
 have hH:(⟨(h.next+1,.arr 1 [.own h.next 1 (d.length+1) 0 (d.length+1)])::(h.next,.arr 1 ((List.replicate (d.length+1) false).map bV))::h.objs,h.next+1+1⟩:Hp)=HP h (d.length+1) (List.replicate (d.length+1) false):=rfl
 have hR0:=(HP_R h (d.length+1) (List.replicate (d.length+1) false) (by simp)).box
 have hi0:ia 1 (.own h.next 1 (d.length+1) 0 (d.length+1)) (.d (.int .i64 0))=some (.ptr h.next (d.length+1) 0 0):=ia_own (j:=0) .i64 (by omega)
 have hs0:st 1 (HP h (d.length+1) (List.replicate (d.length+1) false)) (.ptr h.next (d.length+1) 0 0) (.d (.bool true))=some (HP h (d.length+1) (marks d)):=by
  rw[HP_st h _ _ (by simp) true (by omega)];rfl
 have l0:∀ (M:List Bool),M.length=d.length+1 →
   wp tab (.loop f59l0) [(0,.d (eDs d)),(3,.ptr (h.next+1) 1 0 0),(4,.d (.bool false)),(15,.d (.int .i64 d.length)),(16,.d (.int .i64 0))] (HP h (d.length+1) M)
    (fun o=>∃ b,o=(.exit 2,[(0,.d (eDs d)),(3,.ptr (h.next+1) 1 0 0),(4,.d (.bool b)),(15,.d (.int .i64 d.length)),(16,.d (.int .i64 d.length)),(17,.d (.bool false))],HP h (d.length+1) (pass d M))∧(b=false→pass d M=M)∧(b=true→cnt M<cnt (pass d M))):=by
  intro M hM
  refine loop_wp d.length (fun i e h'=>∃ b,h'=HP h (d.length+1) (passN d M i)∧e=[(0,.d (eDs d)),(3,.ptr (h.next+1) 1 0 0),(4,.d (.bool b)),(15,.d (.int .i64 d.length)),(16,.d (.int .i64 i))]∧(b=false→passN d M i=M)∧(b=true→cnt M<cnt (passN d M i))) _ ?_ ?_ d.length 0 _ _ (by omega) ⟨false,rfl,rfl,fun _=>rfl,fun h=>by cases h⟩
  ·rintro i e h' hi ⟨b,rfl,rfl,hb0,hb1⟩
   obtain ⟨y,hy⟩:=get_of_lt hi
   have by_:=B.at hy
   have hlen:(passN d M i).length=d.length+1:=by rw[passN_len];exact hM
   have R:=HP_R h (d.length+1) (passN d M i) hlen
   have hcont:=conFC y.cons (.clo 102 [.ptr (h.next+1) 1 0 0]) (allD (passN d M i)) (HP h (d.length+1) (passN d M i)) (by omega) rfl
    (fun c hc=>fin1_ok R c (by have:=B.flds y (List.mem_of_getElem? hy) c hc;omega) (fun f hf=>typed_at Ty (List.mem_of_getElem? hy) hc hf))
   have hw:=wrap_succ (show i<2 ^ 62 by omega)
   obtain ⟨x,hx⟩:=get_of_lt (l:=passN d M i) (n:=i+1) (by omega)
   have hi1:=ia_own (es:=1) (n:=h.next) (tot:=d.length+1) (j:=i+1) (len:=d.length+1) .i64 (by omega)
   have hl:=ld_bit R.row hx
   have hst:=HP_st h (d.length+1) (passN d M i) (j:=i+1) hlen true (by omega)
   have hs:=stp_at (M:=passN d M i) hy
   have hbx:=R.box
   cases hr:y.cons.any (allD (passN d M i)) with
   |false=>
    rw[hr,if_neg (by simp)] at hs
    simp only[e59,hi,iaD hy,hcont,hr,hw,wz,opX,intBin,↓reduceIte,simprocAttr]
    refine ⟨b,?_,rfl,?_,?_⟩
    ·rw[passN,hs]
    ·rw[passN,hs];exact hb0
    ·rw[passN,hs];exact hb1
   |true=>
    rw[hr,if_pos rfl] at hs
    cases x with
    |true=>
     rw[set_true hx] at hs
     simp only[e59,hi,iaD hy,hcont,hr,hw,hbx,hi1,hl,wz,opX,intBin,↓reduceIte,simprocAttr]
     refine ⟨b,?_,rfl,?_,?_⟩
     ·rw[passN,hs]
     ·rw[passN,hs];exact hb0
     ·rw[passN,hs];exact hb1
    |false=>
     simp only[e59,hi,iaD hy,hcont,hr,hw,hbx,hi1,hl,hst,wz,opX,intBin,↓reduceIte,simprocAttr]
     refine ⟨true,?_,rfl,(fun h=>by cases h),fun _=>?_⟩
     ·rw[passN,hs]
     ·rw[passN,hs]
      have:=set_grow hx
      rcases passN_cnt d M i with k | k
      ·rw[k] at this ⊢; omega
      ·omega
  ·rintro e h' ⟨b,rfl,rfl,hb0,hb1⟩
   simp only[e59,wz,opX,intBin,↓reduceIte,simprocAttr]
   exact⟨b,⟨rfl,rfl⟩,hb0,hb1⟩
 have l1:∀ (k:Nat) (M:List Bool) (b:Bool) (r:Env),M.length=d.length+1→(∃ j,M=iter d (marks d) j)→(b=true→d.length+2≤cnt M+k)→(b=false→pass d M=M) →
   wp tab (.loop f59l1) ((0,.d (eDs d))::(3,.ptr (h.next+1) 1 0 0)::(4,.d (.bool b))::r) (HP h (d.length+1) M)
    (fun o=>o=(.exit 0,[(0,.d (eDs d)),(3,.ptr (h.next+1) 1 0 0),(13,.d (.bool false))],HP h (d.length+1) (iter d (marks d) (d.length+1)))):=by
  intro k
  induction k with
  |zero=>
   intro M b r hM hj hk hb
   cases b with
   |true=>have:=hk rfl;have:=cnt_le M;omega
   |false=>
    obtain ⟨j,rfl⟩:=hj
    rw[wq_loop,fix_eq (hb rfl)]
    simp only[e59,wz,opX,intBin,↓reduceIte,simprocAttr]
  |succ k ih=>
   intro M b r hM hj hk hb
   cases b with
   |false=>
    obtain ⟨j,rfl⟩:=hj
    rw[wq_loop,fix_eq (hb rfl)]
    simp only[e59,wz,opX,intBin,↓reduceIte,simprocAttr]
   |true=>
    rw[wq_loop]
    simp only[e59,wz,opX,intBin,↓reduceIte,simprocAttr]
    refine wq_mono (l0 M hM) ?_
    rintro o ⟨b,rfl,h0,h1⟩
    simp only[e59,wz,opX,intBin,↓reduceIte,simprocAttr]
    obtain ⟨j,rfl⟩:=hj
    refine ih (pass d (iter d (marks d) j)) b _ (by rw[pass,passN_len];exact hM) ⟨j+1,rfl⟩ (fun hb=>?_) (fun hb=>?_)
    ·have:=hk rfl;have:=h1 hb;omega
    ·have:=h0 hb;rw[this,this]
 simp only[e59,hw0,hmk,hH,hR0,hi0,hs0,wz,opX,intBin,↓reduceIte,simprocAttr]
 refine wq_mono (l1 (d.length+2) (marks d) true _ (by simp[marks]) ⟨0,rfl⟩ (fun _=>by omega) (fun h=>by cases h)) ?_
 rintro o rfl
 have hlen:(iter d (marks d) (d.length+1)).length=d.length+1:=by rw[iter_len];simp[marks]
 have R:=HP_R h (d.length+1) (iter d (marks d) (d.length+1)) hlen
 have hcB:=containsB R.row hlen (by omega) false
 have e:(!(iter d (marks d) (d.length+1)).any fun x=>false == x)=finiteS d:=by
  unfold finiteS
  have:∀ l:List Bool,(!l.any fun b=>false == b)=l.all id:=by
   intro l;induction l with
   |nil=>rfl
   |cons b l ih=>rw[List.any_cons,List.all_cons,←ih];cases b<;>simp
  exact this _
 simp only[e59,R.box,hcB,e,HP_fin,wz,opX,intBin,↓reduceIte,simprocAttr]
end Zc28
end
section
set_option maxHeartbeats 4000000
namespace Zc28
open Go Zv Zs
theorem typed_any (d:List Dt):typedS d = !d.any fun y=>y.cons.any fun c=>c.flds.any fun f => !isT d f:=by
 unfold typedS
 simp only[List.not_any_eq_all_not,Bool.not_not]
def checkS (d:List Dt):Int:=if manyS d=true then 6 else if formedS d=false then 3 else if twiceS d=true then 8 else if typedS d=false then 10 else if finiteS d=false then 7 else 0
theorem check1_ok (d:List Dt) (t:Int) (a:Nat) (h:Hp) (hr:h.row a 1=some (1,[.d (eDs d)])):callW tab 57 [.d (eI t),.ptr a 1 0 0] h=some (.d (.bool (!isT d t)),h):=by
 refine call_wp (fn:=f57) rfl rfl ?_
 simp only[e57,hr,exists_ok,wz,opX,intBin,↓reduceIte,simprocAttr]
theorem pcheck_ok {d:List Dt} (B:Bd d) (N:Nm d) (h:Hp):callW tab 22 [.d (eDs d)] h=some (.d (eI (checkS d)),h):=by
 refine call_wp (fn:=f22) rfl rfl ?_
 have hbl:=B.len
 unfold checkS
 cases h1:manyS d with
 |true=>simp only[e22,many_ok B,h1,wz,opX,intBin,↓reduceIte,simprocAttr]
 |false=>
  cases h2:formedS d with
  |false=>simp only[e22,many_ok B,h1,pformed_ok B N,h2,wz,opX,intBin,↓reduceIte,simprocAttr]
  |true=>
   cases h3:twiceS d with
   |true=>simp only[e22,many_ok B,h1,pformed_ok B N,h2,ptwice_ok B,h3,wz,opX,intBin,↓reduceIte,simprocAttr]
   |false=>
    have l0:∀ (q m:Nat) (y:Dt),d[m]? = some y→∃ q',ex tab (.loop f22l0) [(1,.ptr h.next 1 0 0),(14,.d (eDs d)),(15,.d (.int .i64 d.length)),(16,.d (.int .i64 m)),(21,.d (eCs y.cons)),(22,.d (.int .i64 y.cons.length)),(23,.d (.int .i64 0))] ⟨(h.next,.arr 1 [.d (eDs d)])::h.objs,q⟩ =
      some (if (y.cons.any fun c=>c.flds.any fun f => !isT d f)=true then (.ret,[(2,.d (eI 10))],⟨(h.next,.arr 1 [.d (eDs d)])::h.objs,q'⟩) else (.exit 2,[(1,.ptr h.next 1 0 0),(14,.d (eDs d)),(15,.d (.int .i64 d.length)),(16,.d (.int .i64 m)),(21,.d (eCs y.cons)),(22,.d (.int .i64 y.cons.length)),(23,.d (.int .i64 y.cons.length)),(24,.d (.bool false))],⟨(h.next,.arr 1 [.d (eDs d)])::h.objs,q'⟩)):=by
     intro q m y hy
     have b:=B.at hy
     obtain ⟨hloopq,hloop⟩:=loop_anyq (T:=tab) (a:=f22l0) (l:=y.cons) (p:=(fun c=>c.flds.any fun f => !isT d f)) (f:=fun n=>[(1,.ptr h.next 1 0 0),(14,.d (eDs d)),(15,.d (.int .i64 d.length)),(16,.d (.int .i64 m)),(21,.d (eCs y.cons)),(22,.d (.int .i64 y.cons.length)),(23,int n)]) (h:=⟨(h.next,.arr 1 [.d (eDs d)])::h.objs,q⟩)
       (by intro q n x hx hlt hp;have bc:=B.cat hy hx;have hcf:=conFT x.flds (.clo 57 [.ptr h.next 1 0 0]) (fun f => !isT d f) ⟨(h.next,.arr 1 [.d (eDs d)])::h.objs,q+1⟩ (by omega) rfl (fun f _=>check1_ok d f h.next _ (row_hd ..));all_goals (simp only[hlt,hp,e22,iaC hx,hcf,wrap_succ (show n<2 ^ 62 by omega),wz,opX,intBin,↓reduceIte,simprocAttr]<;>(first | exact⟨_,rfl⟩ | exact⟨_,rfl,rfl⟩ | exact⟨_,rfl,rfl,rfl⟩)))
       (by intro q n x hx hlt hp;have bc:=B.cat hy hx;have hcf:=conFT x.flds (.clo 57 [.ptr h.next 1 0 0]) (fun f => !isT d f) ⟨(h.next,.arr 1 [.d (eDs d)])::h.objs,q+1⟩ (by omega) rfl (fun f _=>check1_ok d f h.next _ (row_hd ..));all_goals (simp only[hlt,hp,e22,iaC hx,hcf,wrap_succ (show n<2 ^ 62 by omega),wz,opX,intBin,↓reduceIte,simprocAttr]<;>(first | exact⟨_,rfl⟩ | exact⟨_,rfl,rfl⟩ | exact⟨_,rfl,rfl,rfl⟩)))
       (by intro q;simp only[e22,wz,opX,intBin,↓reduceIte,simprocAttr]<;>(first | exact⟨_,rfl⟩ | exact⟨_,rfl,rfl⟩ | exact⟨_,rfl,rfl,rfl⟩))
       (by simp) (by simp)
     simp only[int,Zv.bool,Int.cast_ofNat_Int] at hloop
     exact⟨_,hloop⟩
    obtain ⟨hloopq,hloop⟩:=loop_anyq (T:=tab) (a:=f22l1) (l:=d) (p:=(fun y=>y.cons.any fun c=>c.flds.any fun f => !isT d f)) (f:=fun n=>[(1,.ptr h.next 1 0 0),(14,.d (eDs d)),(15,.d (.int .i64 d.length)),(16,int n)]) (h:=⟨(h.next,.arr 1 [.d (eDs d)])::h.objs,h.next+1⟩)
      (by intro q n x hx hlt hp;obtain ⟨q',hin⟩:=l0 (q+1) n x hx;simp only[hp,if_true,if_false,Bool.false_eq_true] at hin;all_goals (simp only[hlt,hp,e22,iaD hx,wq_of hin,wrap_succ (show n<2 ^ 62 by omega),wz,opX,intBin,↓reduceIte,simprocAttr]<;>(first | exact⟨_,rfl⟩ | exact⟨_,rfl,rfl⟩ | exact⟨_,rfl,rfl,rfl⟩)))
      (by intro q n x hx hlt hp;obtain ⟨q',hin⟩:=l0 (q+1) n x hx;simp only[hp,if_true,if_false,Bool.false_eq_true] at hin;all_goals (simp only[hlt,hp,e22,iaD hx,wq_of hin,wrap_succ (show n<2 ^ 62 by omega),wz,opX,intBin,↓reduceIte,simprocAttr]<;>(first | exact⟨_,rfl⟩ | exact⟨_,rfl,rfl⟩ | exact⟨_,rfl,rfl,rfl⟩)))
      (by intro q;simp only[e22,wz,opX,intBin,↓reduceIte,simprocAttr]<;>(first | exact⟨_,rfl⟩ | exact⟨_,rfl,rfl⟩ | exact⟨_,rfl,rfl,rfl⟩))
      (by simp) (by simp)
    simp only[int,Zv.bool,Int.cast_ofNat_Int] at hloop
    have hty:=typed_any d
    cases h4:typedS d with
    |false=>
     have h4':(d.any fun y=>y.cons.any fun c=>c.flds.any fun f => !isT d f)=true:=by rw[h4] at hty;simpa using hty.symm
     rw[h4',if_pos rfl] at hloop
     simp only[e22,many_ok B,h1,pformed_ok B N,h2,ptwice_ok B,h3,wq_of hloop,wz,opX,intBin,↓reduceIte,simprocAttr]
    |true=>
     have h4':(d.any fun y=>y.cons.any fun c=>c.flds.any fun f => !isT d f)=false:=by rw[h4] at hty;simpa using hty.symm
     rw[h4',if_neg (by simp)] at hloop
     cases h5:finiteS d with
     |false=>simp only[e22,many_ok B,h1,pformed_ok B N,h2,ptwice_ok B,h3,wq_of hloop,pfinite_ok B h4,h5,wz,opX,intBin,↓reduceIte,simprocAttr]
     |true=>simp only[e22,many_ok B,h1,pformed_ok B N,h2,ptwice_ok B,h3,wq_of hloop,pfinite_ok B h4,h5,wz,opX,intBin,↓reduceIte,simprocAttr]
end Zc28
end
section
set_option maxHeartbeats 4000000
namespace Zc28
open Go Zv Zs
def smC (c:Cn):Prop:=c.name.size≤40∧c.flds.length≤8
def smD (y:Dt):Prop:=y.name.size≤40∧y.cons.length≤8∧∀ c,c ∈ y.cons→smC c
structure Sml (d:List Dt):Prop where
 len:d.length≤10
 ds:∀ y,y ∈ d→smD y
theorem mem_get {α:Type} {l:List α} {x:α} (h:x ∈ l):∃ k,k<l.length∧l[k]? = some x:=by
 obtain ⟨k,hk1,hk2⟩:=List.getElem_of_mem h
 exact⟨k,hk1,by rw[List.getElem?_eq_getElem hk1,hk2]⟩
theorem small_in {d:List Dt} {y:Dt} {j:Nat} (hy:d[j]? = some y) (hj:j<10) (hc:y.cons.length≤8) (h:Hp) :
  wp tab (.loop f27l0) [(0,.d (eDs d)),(3,.d (.int .i64 (j:Int))),(4,.d (.int .i64 0))] h
   (fun o=>o=(.ret,[(2,.d (.bool false))],h)∨(o=(.exit 2,[(0,.d (eDs d)),(3,.d (.int .i64 (j:Int))),(4,.d (.int .i64 y.cons.length)),(38,.d (.bool false))],h)∧∀ c,c ∈ y.cons→smC c)):=by
 refine loop_wp y.cons.length (fun n e h'=>h'=h∧e=[(0,.d (eDs d)),(3,.d (.int .i64 (j:Int))),(4,.d (.int .i64 n))]∧∀ c k,y.cons[k]? = some c→k<n→smC c) _ ?_ ?_ y.cons.length 0 _ _ (by omega) ⟨rfl,rfl,fun c k _ hk=>by omega⟩
 ·rintro n e h' hn ⟨rfl,rfl,hk⟩
  obtain ⟨c,hcn⟩:=get_of_lt hn
  by_cases h1:(40:Int)<(c.name.size:Int)
  ·simp only[e27,iaD hy,iaC hcn,hn,h1,wz,opX,intBin,↓reduceIte,simprocAttr]
  ·by_cases h2:(8:Int)<(c.flds.length:Int)
   ·simp only[e27,iaD hy,iaC hcn,hn,h1,h2,wz,opX,intBin,↓reduceIte,simprocAttr]
   ·simp only[e27,iaD hy,iaC hcn,hn,h1,h2,wrap_succ (show n<2 ^ 62 by omega),wz,opX,intBin,↓reduceIte,simprocAttr]
    intro c' k hc' hkn
    by_cases hkk:k=n
    ·subst hkk;rw[hcn] at hc';cases hc';exact⟨by omega,by omega⟩
    ·exact hk c' k hc' (by omega)
 ·rintro e h' ⟨rfl,rfl,hk⟩
  simp only[e27,iaD hy,wz,opX,intBin,↓reduceIte,simprocAttr]
  intro c hc
  obtain ⟨k,h1,h2⟩:=mem_get hc
  exact hk c k h2 h1
theorem small_ok (d:List Dt) (h:Hp):∃ b,callW tab 27 [.d (eDs d)] h=some (.d (.bool b),h)∧(b=true→Sml d):=by
 obtain ⟨r,h1,b,rfl,h2⟩:∃ r,callW tab 27 [.d (eDs d)] h=some r∧∃ b,r=(.d (.bool b),h)∧(b=true→Sml d):=by
  refine call_wpE (fn:=f27) rfl rfl ?_
  simp only[e27,wz,opX,intBin,↓reduceIte,simprocAttr]
  refine loop_wp (min d.length 10) (fun n e h'=>h'=h∧e=[(0,.d (eDs d)),(3,.d (.int .i64 n))]∧∀ y k,d[k]? = some y→k<n→smD y) _ ?_ ?_ (min d.length 10) 0 _ _ (by omega) ⟨rfl,rfl,fun c k _ hk=>by omega⟩
  ·rintro n e h' hn ⟨rfl,rfl,hk⟩
   have hn1:n<d.length:=by omega
   have hn2:(n:Int)<10:=by omega
   obtain ⟨y,hy⟩:=get_of_lt hn1
   by_cases h1:(40:Int)<(y.name.size:Int)
   ·simp only[e27,iaD hy,hn1,hn2,h1,wz,opX,intBin,↓reduceIte,simprocAttr]
    exact⟨_,rfl,false,rfl,fun h=>(by cases h)⟩
   ·by_cases h2:(8:Int)<(y.cons.length:Int)
    ·simp only[e27,iaD hy,hn1,hn2,h1,h2,wz,opX,intBin,↓reduceIte,simprocAttr]
     exact⟨_,rfl,false,rfl,fun h=>(by cases h)⟩
    ·simp only[e27,iaD hy,hn1,hn2,h1,h2,wz,opX,intBin,↓reduceIte,simprocAttr]
     refine wq_mono (small_in hy (by omega) (by omega) h') ?_
     rintro o (rfl | ⟨rfl,hall⟩)
     ·simp only[e27,wz,opX,intBin,↓reduceIte,simprocAttr]
      exact⟨_,rfl,false,rfl,fun h=>(by cases h)⟩
     ·simp only[e27,wrap_succ (show n<2 ^ 62 by omega),wz,opX,intBin,↓reduceIte,simprocAttr]
      intro y' k hy' hkn
      by_cases hkk:k=n
      ·subst hkk;rw[hy] at hy';cases hy';exact⟨by omega,by omega,hall⟩
      ·exact hk y' k hy' (by omega)
  ·rintro e h' ⟨rfl,rfl,hk⟩
   by_cases h3:d.length<10
   ·have e1:min d.length 10=d.length:=by omega
    rw[e1]
    have hle:(d.length:Int)≤10:=by omega
    simp only[e27,hle,wz,opX,intBin,↓reduceIte,simprocAttr]
    refine ⟨_,rfl,true,rfl,fun _=>⟨by omega,fun y hy=>?_⟩⟩
    obtain ⟨k,k1,k2⟩:=mem_get hy
    exact hk y k k2 (by omega)
   ·have e1:min d.length 10=10:=by omega
    rw[e1]
    have hnl:¬ ((10:Int)<10):=by omega
    by_cases h4:(10:Int)<(d.length:Int)
    ·have hnle:¬ (d.length:Int)≤10:=by omega
     simp only[e27,h4,hnle,wz,opX,intBin,↓reduceIte,simprocAttr]
     exact⟨_,rfl,false,rfl,fun h=>(by cases h)⟩
    ·have hle:(d.length:Int)≤10:=by omega
     simp only[e27,h4,hle,wz,opX,intBin,↓reduceIte,simprocAttr]
     refine ⟨_,rfl,true,rfl,fun _=>⟨by omega,fun y hy=>?_⟩⟩
     obtain ⟨k,k1,k2⟩:=mem_get hy
     exact hk y k k2 (by omega)
 exact⟨b,h1,h2⟩
end Zc28
end
section
set_option maxHeartbeats 4000000
namespace Zc28
open Go Zv Zs
structure Kn where
 path:List Int
 ty:Int
 done:Bool
 nots:List Int
theorem eqI_ok (a b:List Int) (ha:a.length<2 ^ 60) (hb:b.length<2 ^ 60) (h:Hp):callW tab 21 [.d (eIs a),.d (eIs b)] h=some (.d (.bool (decide (a=b))),h):=by
  refine call_wp (fn:=f21) rfl rfl ?_
  by_cases hl:a.length=b.length
  ·have hl2:((a.length:Int) == (b.length:Int))=true:=by rw[hl];exact beq_self_eq_true _
   simp only[e21,hl2,bne,wz,opX,intBin,↓reduceIte,simprocAttr]
   refine loop_wp a.length (fun n e h'=>h'=h∧a.take n=b.take n∧e=[(0,.d (eIs a)),(1,.d (eIs b)),(12,.d (.int .i64 a.length)),(13,.d (.int .i64 (n:Int)))]) _ ?_ ?_ a.length 0 _ _ (by omega) ⟨rfl,rfl,rfl⟩
   ·rintro n e h' hn ⟨rfl,ht,rfl⟩
    obtain ⟨x,hx⟩:=get_of_lt hn
    obtain ⟨y,hy⟩:=get_of_lt (l:=b) (n:=n) (by omega)
    have hwr:IntKind.i64.wrap ((n:Int)+1)=((n+1:Nat):Int):=by rw[wrap_ok (by omega) (by omega)];rfl
    by_cases hxy:x=y
    ·subst hxy
     simp only[e21,hn,iaI hx,iaI hy,hwr,wz,opX,intBin,↓reduceIte,simprocAttr]
     rw[List.take_add_one,List.take_add_one,ht,hx,hy]
    ·have hne:(x == y)=false:=beq_eq_false_iff_ne.2 hxy
     have hab:decide (a=b)=false:=decide_eq_false (fun e=>by subst e;rw[hx] at hy;cases hy;exact hxy rfl)
     simp only[e21,hn,iaI hx,iaI hy,hne,bne,hab,wz,opX,intBin,↓reduceIte,simprocAttr]
   ·rintro e h' ⟨rfl,ht,rfl⟩
    have hab:a=b:=by
     rw[List.take_length] at ht
     rw[ht];exact List.take_of_length_le (by omega)
    have hd:decide (a=b)=true:=decide_eq_true hab
    simp only[e21,hd,wz,opX,intBin,↓reduceIte,simprocAttr]
  ·have hl2:((a.length:Int) == (b.length:Int))=false:=beq_eq_false_iff_ne.2 (fun e=>hl (by omega))
   have hab:decide (a=b)=false:=decide_eq_false (fun e=>hl (by rw[e]))
   simp only[e21,hl2,bne,hab,wz,opX,intBin,↓reduceIte,simprocAttr]
theorem longer_ok (p:List Int) (i:Int) (hp:p.length≤5000) (h:Hp):callW tab 41 [.d (eIs p),.d (eI i)] h=some (.d (eIs (p++[i])),h):=by
 refine call_wp (fn:=f41) rfl rfl ?_
 have hsl:slc3 1 (.d (eIs p)) none (some (.d (.int .i64 (p.length:Int)))) (some (.d (.int .i64 (p.length:Int))))=some (.tl ((p.map eI).map .d) none):=by
  have h1:Zv.allD 1 (p.map eI)=true:=by
   unfold Zv.allD
   exact List.all_eq_true.2 fun y hy=>by obtain ⟨q,_,rfl⟩:=List.mem_map.1 hy;rfl
  have h2:List.take p.length (p.map (V.d ∘ eI))=p.map (V.d ∘ eI):=List.take_of_length_le (by simp)
  simp[slc3,bnd,ixOf,h1,h2]
 have hap:app 1 8 h (.tl ((p.map eI).map .d) none) (.tl [.d (eI i)] (some false))=some (.own h.next 1 (p.length+1) 0 (p.length+1),⟨(h.next,.arr 1 (((p++[i]).map eI).map .d))::h.objs,h.next+1⟩):=by
  have h2:(p.length+1)*8≤roomB:=by unfold roomB;omega
  simp[app,elems,allV,V.cells,norm_d,stor,h2,Hp.alloc]
  exact⟨rfl,fun _ _=>rfl⟩
 have hf:finS h ⟨(h.next,.arr 1 (((p++[i]).map eI).map .d))::h.objs,h.next+1⟩ [.own h.next 1 (p.length+1) 0 (p.length+1)]=some (.d (.lst ((p++[i]).map eI)),h):=by
  have:=finS_clo (h:=h) (nl:=none) (es:=1) (n:=h.next) (l:=(p++[i]).map eI) (Nat.le_refl _)
  unfold cloO cloV at this
  simpa using this
 simp only[e41,hsl,hap,hf,wz,opX,intBin,↓reduceIte,simprocAttr]
end Zc28
end
section
set_option maxHeartbeats 4000000
namespace Zc28
open Go Zv Zs
theorem slc_all {es:Nat} {l:List D} {n:Nat} (hl:∀ y,y ∈ l→y.cells.length=es) (hn:n≤l.length):slc es (.d (.lst l)) none (some (.d (.int .i64 (n:Int))))=some (.d (.lst (l.take n))):=by
 have h:Zv.allD es l=true:=by
  unfold Zv.allD
  exact List.all_eq_true.2 fun y hy=>by simpa using hl y hy
 simp only[slc,bnd,Option.bind_some,ixOf,h]
 simp[hn]
theorem slc_from {es:Nat} {l:List D} {n:Nat} (hl:∀ y,y ∈ l→y.cells.length=es) (hn:n≤l.length):slc es (.d (.lst l)) (some (.d (.int .i64 (n:Int)))) none=some (.d (.lst (l.drop n))):=by
 have h:Zv.allD es l=true:=by
  unfold Zv.allD
  exact List.all_eq_true.2 fun y hy=>by simpa using hl y hy
 simp only[slc,bnd,Option.bind_some,ixOf,h]
 simp[hn]
theorem app_in {es b m tot q:Nat} {o:List (Nat × Ob)} {l r z:List D} (hr:∀ y,y ∈ r→y.cells.length=es) (ht:tot=l.length+z.length) (hz:r.length≤z.length) :
  app es b ⟨(m,.arr es ((l++z).map .d))::o,q⟩ (.own m es tot 0 l.length) (.d (.lst r))=some (.own m es tot 0 (l++r).length,⟨(m,.arr es (((l++r)++z.drop r.length).map .d))::o,q⟩):=by
 subst ht
 have hrow:(⟨(m,.arr es ((l++z).map V.d))::o,q⟩:Hp).row m (l.length+z.length)=some (es,(l++z).map .d):=by rw[row_cons];simp
 unfold app
 simp only[elems,Option.bind_some,norm_map_d,allV_d hr,if_true,hrow,List.length_map,Nat.zero_add,List.length_append,Nat.le_add_right,and_self]
 by_cases h0:r=[]
 ·subst h0;simp
 ·have he:(r.map V.d).isEmpty=false:=by cases r with | nil=>exact absurd rfl h0 | cons=>rfl
  have h1:l.length+r.length≤l.length+z.length:=by omega
  simp only[he,Bool.false_eq_true,if_false,h1,if_true]
  simp only[Hp.set,upd,if_true,List.map_append]
  congr 4
  rw[List.take_left' (by simp),List.append_assoc,List.append_assoc,List.drop_append]
  have e1:List.drop (l.length+r.length) (l.map V.d)=[]:=List.drop_of_length_le (by simp)
  rw[e1,List.nil_append,List.map_drop,List.length_map,Nat.add_sub_cancel_left]
def totL (ls:List (List D)):Nat:=ls.flatten.length
theorem totL_snoc (ls:List (List D)) (l:List D):totL (ls++[l])=totL ls+l.length:=by unfold totL;simp
theorem totL_take {ls:List (List D)} {n:Nat} {l:List D} (h:ls[n]? = some l):totL (ls.take (n+1))=totL (ls.take n)+l.length:=by
 rw[List.take_add_one,h];exact totL_snoc _ _
theorem totL_le (ls:List (List D)) (n:Nat):totL (ls.take n)≤totL ls:=by
 unfold totL
 have:ls.flatten=(ls.take n).flatten++(ls.drop n).flatten:=by rw[←List.flatten_append,List.take_append_drop]
 rw[this,List.length_append];omega
abbrev eLL (ls:List (List D)):D:=.lst (ls.map .lst)
theorem iaLL {ls:List (List D)} {n:Nat} {l:List D} (h:ls[n]? = some l):ia 1 (.d (eLL ls)) (.d (.int .i64 (n:Int)))=some (.fp (.lst l) 0):=ia_map (f:=D.lst) .i64 h rfl
theorem flat_take {ls:List (List D)} {n:Nat} {l:List D} (h:ls[n]? = some l):(ls.take (n+1)).flatten=(ls.take n).flatten++l:=by
 rw[List.take_add_one,h];simp
end Zc28
end
section
namespace Zs
open Go Zv
def rowOf (o:Option Ob) (tot:Nat):Option (Nat × List V):=match o with
 |some (.arr es els)=>if els.length=tot then some (es,els) else none
 |_=>none
theorem row_lk (h:Hp) (n tot:Nat):h.row n tot=rowOf (h.get n) tot:=rfl
theorem rowOf_arr (es:Nat) (els:List V) (tot:Nat):rowOf (some (.arr es els)) tot=if els.length=tot then some (es,els) else none:=rfl
theorem get_objs (h:Hp) (q n:Nat):Hp.get ⟨h.objs,q⟩ n=h.get n:=rfl
theorem get_mk (m:Nat) (o:Ob) (l:List (Nat × Ob)) (q n:Nat):Hp.get ⟨(m,o)::l,q⟩ n=if n=m then some o else Hp.get ⟨l,q⟩ n:=rfl
theorem look_upd (n:Nat) (x:Ob) (m:Nat):∀ l:List (Nat × Ob),look (upd l n x) m=if m=n then (look l n).map (fun _=>x) else look l m
 | []=>by simp[upd,Zv.look]
 | (k,o)::l=>by
  unfold upd
  by_cases h1:n=k
  ·subst h1
   rw[if_pos rfl]
   by_cases h2:m=n
   ·subst h2;simp[Zv.look]
   ·simp[Zv.look,h2]
  ·rw[if_neg h1]
   by_cases h2:m=k
   ·subst h2
    have:¬ m=n:=fun e=>h1 e.symm
    simp[Zv.look,this]
   ·simp only[Zv.look,h2,h1,if_false]
    exact look_upd n x m l
theorem get_sets (h:Hp) (n:Nat) (x:Ob) (m:Nat):(h.set n x).get m=if m=n then (h.get n).map (fun _=>x) else h.get m:=look_upd n x m h.objs
theorem set_next (h:Hp) (n:Nat) (x:Ob):(h.set n x).next=h.next:=rfl
theorem upd_upd (n:Nat) (x y:Ob):∀ l:List (Nat × Ob),upd (upd l n x) n y=upd l n y
 | []=>rfl
 | (k,o)::l=>by
  by_cases h:n=k
  ·subst h;simp[upd]
  ·simp only[upd,if_neg h]
   rw[upd_upd n x y l]
theorem set_set (h:Hp) (n:Nat) (x y:Ob):(h.set n x).set n y=h.set n y:=by
 unfold Hp.set;simp only[upd_upd]
theorem set_objs (h:Hp) (q n:Nat) (x:Ob):Hp.set ⟨h.objs,q⟩ n x=⟨(h.set n x).objs,q⟩:=rfl
theorem st_in {sz:Nat} {h:Hp} {n tot i off es:Nat} {els:List V} {e x:V} (hr:h.row n tot=some (es,els)) (he:els[i]? = some e) (hx:stor x=true) (hc:x.cells.length=sz) (ho:off+sz≤e.cells.length) (h1:es≠1) (h2:¬ (off=0∧sz=es)) :
  st sz h (.ptr n tot i off) x=some (h.set n (.arr es (els.set i (mkAgg (e.cells.take off++x.cells++e.cells.drop (off+sz)))))):=by
 simp only[st,hr,Option.bind_some,he]
 rw[if_pos ⟨hx,hc⟩,if_neg h2,if_pos ⟨ho,h1⟩]
theorem st_all {sz:Nat} {h:Hp} {n tot i:Nat} {els:List V} {e x:V} (hr:h.row n tot=some (sz,els)) (he:els[i]? = some e) (hx:stor x=true) (hc:x.cells.length=sz) :
  st sz h (.ptr n tot i 0) x=some (h.set n (.arr sz (els.set i x))):=by
 simp only[st,hr,Option.bind_some,he]
 rw[if_pos ⟨hx,hc⟩,if_pos (by simp)]
theorem hr:(type_of% @row_lk)∧(type_of% @rowOf_arr)∧(type_of% @get_objs)∧(type_of% @get_mk)∧(type_of% @get_sets)∧(type_of% @set_next)∧(type_of% @set_set)∧(type_of% @set_cons)∧(type_of% @set_objs):=
 ⟨@row_lk,@rowOf_arr,@get_objs,@get_mk,@get_sets,@set_next,@set_set,@set_cons,@set_objs⟩
end Zs
end
section
set_option maxHeartbeats 4000000
namespace Zc28
open Go Zv Zs
structure KnOk (d:List Dt) (k:Nat) (kn:List Kn):Prop where
 len:kn.length+8*k≤50000
 ty:∀ p,p ∈ kn→isT d p.ty=true
 nots:∀ p,p ∈ kn→p.nots.length+k≤5000
 path:∀ p,p ∈ kn→p.path.length≤150
theorem KnOk.set {d:List Dt} {k:Nat} {kn:List Kn} (K:KnOk d (k+1) kn) {i:Nat} {p:Kn} (hp:isT d p.ty=true) (hn:p.nots.length+k≤5000) (hl:p.path.length≤150):KnOk d k (kn.set i p):=by
 refine ⟨by have:=K.len;rw[List.length_set];omega,?_,?_,?_⟩<;>intro q hq<;>rcases List.mem_or_eq_of_mem_set hq with h | rfl
 ·exact K.ty q h
 ·exact hp
 ·have:=K.nots q h;omega
 ·exact hn
 ·exact K.path q h
 ·exact hl
theorem look_del {n m:Nat} (h:m≠n):∀ l:List (Nat × Ob),Zv.look (Zv.del l n) m=Zv.look l m
 | []=>rfl
 | (k,o)::l=>by
  unfold Zv.del
  split
  ·rename_i e;subst e;rw[look_tl _ _ h]
  ·by_cases hk:m=k
   ·subst hk;simp[Zv.look]
   ·rw[look_tl _ _ hk,look_tl _ _ hk,look_del h l]
theorem row_of {X:List (Nat × Ob)} {n es tot q:Nat} {els:List V} (h:Zv.look X n=some (.arr es els)) (ht:els.length=tot):(⟨X,q⟩:Hp).row n tot=some (es,els):=row_look h ht
section
variable (d:List Dt) (l:List Ts) (a dv cv:Nat)
structure VI (X:List (Nat × Ob)) (M:List Bool):Prop where
 len:M.length=l.length
 rr:Zv.look X a=some (.arr 1 (M.map bV))
 rv:Zv.look X (a+1)=some (.arr 1 [.own a 1 l.length 0 l.length])
 vv:Zv.look X (a+2)=some (.arr 1 [.clo 63 [.ptr cv 1 0 0,.ptr (a+1) 1 0 0,.ptr (a+2) 1 0 0,.ptr dv 1 0 0]])
 cv:Zv.look X cv=some (.arr 1 [.d (.agg [eTs l])])
 dv:Zv.look X dv=some (.arr 1 [.d (eDs d)])
variable {d l a dv cv}
theorem VI.cons {X:List (Nat × Ob)} {M:List Bool} (H:VI d l a dv cv X M) (hc:cv<a) (hd:dv<a) {m:Nat} (hm:a+2<m) (o:Ob):VI d l a dv cv ((m,o)::X) M:=
 ⟨H.len,by rw[look_tl _ _ (by omega)];exact H.rr,by rw[look_tl _ _ (by omega)];exact H.rv,by rw[look_tl _ _ (by omega)];exact H.vv,by rw[look_tl _ _ (by omega)];exact H.cv,by rw[look_tl _ _ (by omega)];exact H.dv⟩
theorem VI.del {X:List (Nat × Ob)} {M:List Bool} (H:VI d l a dv cv X M) (hc:cv<a) (hd:dv<a) {m:Nat} (hm:a+2<m):VI d l a dv cv (Zv.del X m) M:=
 ⟨H.len,by rw[look_del (by omega)];exact H.rr,by rw[look_del (by omega)];exact H.rv,by rw[look_del (by omega)];exact H.vv,by rw[look_del (by omega)];exact H.cv,by rw[look_del (by omega)];exact H.dv⟩
end
def Fr (a q:Nat) (X X':List (Nat × Ob)):Prop:=∀ n,n<q→n≠a→Zv.look X' n=Zv.look X n
theorem Fr.refl (a q:Nat) (X:List (Nat × Ob)):Fr a q X X:=fun _ _ _=>rfl
theorem Fr.trans {a q q':Nat} {X Y Z:List (Nat × Ob)} (h1:Fr a q X Y) (h2:Fr a q' Y Z) (h:q≤q'):Fr a q X Z:=fun n hn hna=>(h2 n (by omega) hna).trans (h1 n hn hna)
theorem Fr.cons {a q m:Nat} {X Y:List (Nat × Ob)} (h:Fr a q X Y) (hm:q≤m) (o:Ob):Fr a q X ((m,o)::Y):=fun n hn hna=>by rw[look_tl _ _ (by omega)];exact h n hn hna
theorem Fr.del {a q m:Nat} {X Y:List (Nat × Ob)} (h:Fr a q X Y) (hm:q≤m):Fr a q X (Zv.del Y m):=fun n hn hna=>by rw[look_del (by omega)];exact h n hn hna
theorem Fr.upd {a q:Nat} {X Y:List (Nat × Ob)} (h:Fr a q X Y) (o:Ob):Fr a q X (Zv.upd Y a o):=fun n hn hna=>by rw[Zs.look_upd,if_neg hna];exact h n hn hna
end Zc28
end
section
set_option maxHeartbeats 4000000
namespace Zc28
open Go Zv Zs
theorem row_cn {n m es tot nx:Nat} {o:Ob} {els:List V} {L:List (Nat × Ob)} (h:n≠m) (hr:∀ nx,Hp.row ⟨L,nx⟩ n tot=some (es,els)):Hp.row ⟨(m,o)::L,nx⟩ n tot=some (es,els):=by
 have:=hr nx
 unfold Hp.row Hp.get at this ⊢
 simp only[Zv.look,if_neg h] at this ⊢
 exact this
theorem idxZ_cases {α:Type} (p:α→Bool) (l:List α):idxZ p l = -1∨∃ (n:Nat) (x:α),idxZ p l=n∧l[n]? = some x∧p x=true:=by
 unfold idxZ
 cases h:fst? p 0 l with
 |none=>exact .inl rfl
 |some q=>
  obtain ⟨n,x⟩:=q
  obtain ⟨h0,h1,h2,_⟩:=fst_some h
  exact .inr ⟨n,x,rfl,by simpa using h1,h2⟩
theorem app_tl1 (es b:Nat) (h:Hp) (s:V) (x:D) (nl:Option Bool):app es b h s (.tl [.d x] nl)=app es b h s (.d (.lst [x])):=by
 simp[app,elems,norm_d]
end Zc28
end
section
set_option maxHeartbeats 4000000
namespace Zc28
open Go Zv Zs
end Zc28
end
section
set_option maxHeartbeats 4000000
namespace Zc28
open Go Zv Zs
structure KnD (kn:List Kn):Prop where
 nd:(kn.map Kn.path).Nodup
 par:∀ p,p ∈ kn→∀ (pp:List Int) (j:Int),p.path=pp++[j]→pp≠[]→∃ r,r ∈ kn∧r.path=pp∧r.done=true
 ne:∀ p,p ∈ kn→p.path≠[]
theorem KnD.same {kn:List Kn} (K:KnD kn) {i j:Nat} {p r:Kn} (h1:kn[i]? = some p) (h2:kn[j]? = some r) (h:p.path=r.path):i=j:=by
 have hi:=(List.getElem?_eq_some_iff.1 h1).1
 have e:(kn.map Kn.path)[i]? = (kn.map Kn.path)[j]? := by rw[List.getElem?_map,List.getElem?_map,h1,h2];simp[h]
 exact (List.getElem?_inj (by simpa using hi) K.nd).1 e
theorem set_path {kn:List Kn} {i:Nat} {p p':Kn} (h1:kn[i]? = some p) (h:p'.path=p.path):(kn.set i p').map Kn.path=kn.map Kn.path:=by
 rw[List.map_set]
 apply List.ext_getElem?
 intro n
 rw[List.getElem?_set]
 split
 ·rename_i e;subst e
  rw[List.getElem?_map,h1]
  split
  ·simp[h]
  ·rename_i h2;exact absurd (by simpa using (List.getElem?_eq_some_iff.1 h1).1) h2
 ·rfl
theorem KnD.set {kn:List Kn} (K:KnD kn) {i:Nat} {p p':Kn} (h1:kn[i]? = some p) (h:p'.path=p.path) (hd:p.done=true→p'.done=true):KnD (kn.set i p'):=by
 have hi:=(List.getElem?_eq_some_iff.1 h1).1
 have hpm:=List.mem_of_getElem? h1
 have hin:p' ∈ kn.set i p':=List.mem_set hi p'
 have hm:∀ r,r ∈ kn.set i p'→∃ r',r' ∈ kn∧r.path=r'.path:=by
  intro r hr
  rcases List.mem_or_eq_of_mem_set hr with hr | rfl
  ·exact⟨r,hr,rfl⟩
  ·exact⟨p,hpm,h⟩
 refine ⟨by rw[set_path h1 h];exact K.nd,?_,?_⟩
 ·intro r hr pp j hpp hne
  obtain ⟨r',hr',e⟩:=hm r hr
  obtain ⟨s,hs,e1,e2⟩:=K.par r' hr' pp j (by rw[←e];exact hpp) hne
  obtain ⟨n,hn⟩:=List.mem_iff_getElem?.1 hs
  by_cases hni:n=i
  ·subst hni
   rw[h1] at hn;cases hn
   exact⟨p',hin,by rw[h];exact e1,hd e2⟩
  ·exact⟨s,List.mem_of_getElem? (i:=n) (by rw[List.getElem?_set_ne (fun e=>hni e.symm)];exact hn),e1,e2⟩
 ·intro r hr
  obtain ⟨r',hr',e⟩:=hm r hr
  rw[e];exact K.ne r' hr'
end Zc28
end
section
set_option maxHeartbeats 4000000
namespace Zc28
open Go Zv Zs
end Zc28
end
section
set_option maxHeartbeats 4000000
namespace Zc28
open Go Zv Zs
theorem okIs {x:D} (h:ok (EE es) (.one (.l 2)) x):∃ a,x=eIs a∧a.length≤maxLen:=by
 obtain ⟨l,rfl,hl,h2⟩:=ok_l h
 obtain ⟨xs,rfl⟩:=okEs_map (fun _=>okI) h2
 refine ⟨xs,rfl,?_⟩
 rw[List.length_map] at hl
 exact hl
theorem Sml.bd {d:List Dt} (S:Sml d):Bd d:=⟨by have:=S.len;omega,fun y hy=>by have:=(S.ds y hy).2.1;omega,fun y hy c hc=>by have:=((S.ds y hy).2.2 c hc).2;omega⟩
theorem Sml.nm {d:List Dt} (S:Sml d):Nm d:=fun y hy=>⟨by have:=(S.ds y hy).1;omega,fun c hc=>by have:=((S.ds y hy).2.2 c hc).1;omega⟩
theorem check_typed {d:List Dt} (h:checkS d=0):typedS d=true:=by
 unfold checkS at h
 by_cases h1:manyS d=true
 ·rw[if_pos h1] at h;exact absurd h (by decide)
 rw[if_neg h1] at h
 by_cases h2:formedS d=false
 ·rw[if_pos h2] at h;exact absurd h (by decide)
 rw[if_neg h2] at h
 by_cases h3:twiceS d=true
 ·rw[if_pos h3] at h;exact absurd h (by decide)
 rw[if_neg h3] at h
 by_cases h4:typedS d=false
 ·rw[if_pos h4] at h;exact absurd h (by decide)
 simpa using h4
theorem typed_flds {d:List Dt} (h:typedS d=true):∀ y,y ∈ d→∀ c,c ∈ y.cons→∀ f,f ∈ c.flds→isT d f=true:=by
 intro y hy c hc f hf
 rw[typed_any] at h
 cases hi:isT d f with
 |true=>rfl
 |false=>
  have:(d.any fun y=>y.cons.any fun c=>c.flds.any fun f => !isT d f)=true:=
   List.any_eq_true.2 ⟨y,hy,List.any_eq_true.2 ⟨c,hc,List.any_eq_true.2 ⟨f,hf,by rw[hi];rfl⟩⟩⟩
  rw[this] at h;cases h
theorem frz_row {h:Hp} {m es:Nat} {l:List D} (hr:h.row m l.length=some (es,l.map .d)):Zv.frz h (.own m es l.length 0 l.length)=some (.d (.lst l),h.kill m):=by
 unfold Zv.frz
 simp only[hr,Option.bind_some,List.length_map,Nat.zero_add,Nat.le_refl,if_true,List.drop_zero]
 rw[List.take_of_length_le (by simp),toDs_map_d]
 rfl
end Zc28
end
section
set_option maxHeartbeats 4000000
namespace Zc28
open Go Zv Zs
theorem finS_e (n:Nat) (h:Hp) (x:D):finS ⟨[],n⟩ h [.d x]=some (.d x,⟨[],n⟩):=by
 have:sufOk [] h.objs=true:=by
  unfold sufOk
  rw[List.length_nil,Nat.sub_zero,List.drop_length]
  exact objsBeq_refl _
 rw[finS,if_pos this]
 rfl
end Zc28
end
section
set_option maxHeartbeats 4000000
namespace Zc28
open Go Zv Zs
inductive Pt where
 |mk (k c n:Int) (qs:List Pt)
mutual
def ePt:Pt→D
 | .mk k c n qs=>.agg [.int .i64 k,.int .i64 c,.int .i64 n,.lst (eL qs)]
def eL:List Pt→List D
 | []=>[]
 |p::r=>ePt p::eL r
end
theorem eL_map:∀ l:List Pt,eL l=l.map ePt
 | []=>rfl
 |p::r=>by rw[eL,eL_map r];rfl
theorem ePt_mk (k c n:Int) (qs:List Pt):ePt (.mk k c n qs)=.agg [.int .i64 k,.int .i64 c,.int .i64 n,.lst (qs.map ePt)]:=by rw[ePt,eL_map]
theorem ePt_cells (p:Pt):(ePt p).cells.length=4:=by
 cases p;rfl
theorem aggP (p:Pt):D.agg (List.take 4 (ePt p).cells)=ePt p:=by
 cases p;rfl
theorem pts:(∀ p,(ePt p).cells.length=4)∧(∀ p,D.agg (List.take 4 (ePt p).cells)=ePt p)∧((4:Nat)≤4 ↔ True):=⟨ePt_cells,aggP,by simp⟩
abbrev ePs (l:List Pt):D:=.lst (l.map ePt)
abbrev eRs (l:List (List Pt)):D:=.lst (l.map ePs)
theorem iaP {l:List Pt} {n:Nat} {x:Pt} (hx:l[n]? = some x):ia 4 (.d (.lst (l.map ePt))) (.d (.int .i64 (n:Int)))=some (.fp (ePt x) 0):=ia_map (f:=ePt) .i64 hx (ePt_cells x)
theorem iaR {l:List (List Pt)} {n:Nat} {x:List Pt} (hx:l[n]? = some x):ia 1 (.d (.lst (l.map ePs))) (.d (.int .i64 (n:Int)))=some (.fp (ePs x) 0):=ia_map (f:=ePs) .i64 hx rfl
mutual
def cntP:Pt→Nat
 | .mk _ _ _ qs=>cntL qs+1
def cntL:List Pt→Nat
 | []=>0
 |p::r=>cntP p+cntL r
end
theorem cntP_pos (p:Pt):1≤cntP p:=by cases p;simp[cntP]
theorem cntL_len:∀ l:List Pt,l.length≤cntL l
 | []=>Nat.le_refl _
 |p::r=>by have:=cntL_len r;have:=cntP_pos p;rw[List.length_cons,cntL];omega
theorem cntL_mem:∀ {l:List Pt} {p:Pt},p ∈ l→cntP p≤cntL l
 |q::r,p,h=>by
  rw[cntL]
  rcases List.mem_cons.1 h with rfl | h
  ·omega
  ·have:=cntL_mem h;omega
end Zc28
end
section
set_option maxHeartbeats 4000000
namespace Zc28
open Go Zv Zs
def argsP:Pt→List Pt
 | .mk _ _ _ qs=>qs
mutual
def p2P:Pt→Nat→Nat
 | .mk _ _ _ qs,n=>p2L qs n
def p2L:List Pt→Nat→Nat
 | [],n=>n
 |p::r,n=>if 60<n+1 then n+1 else p2L r (p2P p (n+1))
end
mutual
theorem p2P_eq:∀ (p:Pt) (n:Nat),n≤p2P p n∧(p2P p n≤60→p2P p n+1=n+cntP p)
 | .mk k c q qs,n=>by
  have:=p2L_eq qs n
  rw[p2P,cntP]
  exact⟨this.1,fun h=>by have:=this.2 h;omega⟩
theorem p2L_eq:∀ (l:List Pt) (n:Nat),n≤p2L l n∧(p2L l n≤60→p2L l n=n+cntL l)
 | [],n=>by rw[p2L,cntL];exact⟨Nat.le_refl _,fun _=>rfl⟩
 |p::r,n=>by
  rw[p2L,cntL]
  split
  ·exact⟨by omega,fun h=>by omega⟩
  ·have h1:=p2P_eq p (n+1)
   have h2:=p2L_eq r (p2P p (n+1))
   exact⟨by omega,fun h=>by have:=h2.2 h;have:=h1.2 (by omega);omega⟩
end
mutual
theorem p2P_le:∀ (p:Pt) (n:Nat),n≤60→p2P p n≤121 - n
 | .mk k c q qs,n,h=>by rw[p2P];exact p2L_le qs n h
theorem p2L_le:∀ (l:List Pt) (n:Nat),n≤60→p2L l n≤121 - n
 | [],n,h=>by rw[p2L];omega
 |p::r,n,h=>by
  rw[p2L]
  split
  ·omega
  ·have h1:=p2P_le p (n+1) (by omega)
   have h3:=(p2P_eq p (n+1)).1
   by_cases hm:p2P p (n+1)≤60
   ·have:=p2L_le r (p2P p (n+1)) hm;omega
   ·cases r with
    |nil=>rw[p2L];omega
    |cons q r=>rw[p2L,if_pos (by omega)];omega
end
theorem p2L_big {p:Pt} {r:List Pt} {n:Nat} (h:60≤n):p2L (p::r) n=n+1:=by rw[p2L,if_pos (by omega)]
theorem parts_ok:∀ (l:List Pt) (n:Nat),n≤60→∀ h,callW tab 32 [.d (ePs l),.d (.int .i64 n)] h=some (.d (.int .i64 (p2L l n)),h)
 |l,n,hn,h=>by
  have hrec:∀ p,p ∈ l→∀ (n:Nat),n≤60→∀ h,callW tab 32 [.d (ePs (argsP p)),.d (.int .i64 (n:Int))] h=some (.d (.int .i64 (p2P p n)),h):=by
   intro p hp n hn h
   have hc:=cntL_mem hp
   obtain ⟨k,c,q,qs⟩:=p
   rw[cntP] at hc
   have:=parts_ok qs n hn h
   have e:p2P (.mk k c q qs) n=p2L qs n:=by rw[p2P]
   show callW tab 32 [.d (ePs qs),.d (.int .i64 (n:Int))] h=_
   rw[this,e]
  refine call_wp (fn:=f32) rfl rfl ?_
  simp only[e32,wz,opX,intBin,↓reduceIte,simprocAttr]
  refine loop_wp l.length (fun j e h'=>∃ m:Nat,(∃ q,h'=⟨h.objs,q⟩)∧j≤m∧m≤121∧p2L l n=p2L (l.drop j) m∧e=[(1,.d (.int .i64 (m:Int))),(7,.d (ePs l)),(8,.d (.int .i64 l.length)),(9,.d (.int .i64 (j:Int)))]) _ ?_ ?_ l.length 0 _ _ (by omega) ⟨n,⟨_,rfl⟩,by omega,by omega,rfl,rfl⟩
  ·rintro j e h' hj ⟨m,⟨q,rfl⟩,hjm,hm,heq,rfl⟩
   obtain ⟨p,hp⟩:=get_of_lt hj
   rw[drop_at hp] at heq
   have hw0:=wrap_succ (show m<2 ^ 62 by omega)
   by_cases hm6:m+1≤60
   ·have hle:¬ (60:Int)<((m+1:Nat):Int):=by omega
    have hr:=hrec p (List.mem_of_getElem? hp) (m+1) hm6
    have hpc:=p2P_le p (m+1) hm6
    have hpe:=p2P_eq p (m+1)
    rw[p2L,if_neg (by omega)] at heq
    obtain ⟨k,c,q',qs⟩:=p
    have hia:=iaP hp
    rw[ePt_mk] at hia
    have hcl:(D.agg [.int .i64 k,.int .i64 c,.int .i64 q',.lst (qs.map ePt)]).cells.length=4:=rfl
    have hr':∀ h,callW tab 32 [.d (.lst (qs.map ePt)),.d (.int .i64 ((m+1:Nat):Int))] h=some (.d (.int .i64 (p2P (.mk k c q' qs) (m+1))),h):=hr
    simp only[e32,hj,hle,hia,hcl,hw0,hr',wrap_succ (show j<2 ^ 62 by omega),wz,opX,intBin,↓reduceIte,simprocAttr]
    exact⟨_,⟨_,rfl⟩,by omega,by omega,heq,rfl⟩
   ·have hle:(60:Int)<((m+1:Nat):Int):=by omega
    rw[heq,p2L_big (by omega)]
    obtain ⟨k,c,q',qs⟩:=p
    have hia:=iaP hp
    rw[ePt_mk] at hia
    have hcl:(D.agg [.int .i64 k,.int .i64 c,.int .i64 q',.lst (qs.map ePt)]).cells.length=4:=rfl
    simp only[e32,hj,hle,hia,hcl,hw0,wz,opX,intBin,↓reduceIte,simprocAttr]
  ·rintro e h' ⟨m,⟨q,rfl⟩,hjm,hm,heq,rfl⟩
   rw[show l.drop l.length=[] from List.drop_of_length_le (Nat.le_refl _),p2L] at heq
   rw[heq]
   simp only[e32,wz,opX,intBin,↓reduceIte,simprocAttr]
termination_by l=>cntL l
decreasing_by
 have:=cntL_mem hp
 rw[cntP] at this
 omega
structure Few8 (d:List Dt) (ts:List Int) (l:List (List Pt)):Prop where
 sml:Sml d
 ts:ts.length≤4
 rows:l.length≤6
 row:∀ r,r ∈ l→r.length≤5∧cntL r≤12
theorem few_ok (d:List Dt) (ts:List Int) (l:List (List Pt)) (h:Hp):∃ b,callW tab 9 [.d (eDs d),.d (eIs ts),.d (eRs l)] h=some (.d (.bool b),h)∧(b=true→Few8 d ts l):=by
 obtain ⟨b,hb,hs⟩:=small_ok d h
 obtain ⟨r,h1,b',rfl,h2⟩:∃ r,callW tab 9 [.d (eDs d),.d (eIs ts),.d (eRs l)] h=some r∧∃ b,r=(.d (.bool b),h)∧(b=true→Few8 d ts l):=by
  refine call_wpE (fn:=f9) rfl rfl ?_
  cases b with
  |false=>
   simp only[e9,hb,wz,opX,intBin,↓reduceIte,simprocAttr]
   exact⟨_,rfl,false,rfl,fun h=>by cases h⟩
  |true=>
   by_cases q1:(4:Int)<(ts.length:Int)
   ·simp only[e9,hb,q1,wz,opX,intBin,↓reduceIte,simprocAttr]
    exact⟨_,rfl,false,rfl,fun h=>by cases h⟩
   by_cases q2:(6:Int)<(l.length:Int)
   ·simp only[e9,hb,q1,q2,wz,opX,intBin,↓reduceIte,simprocAttr]
    exact⟨_,rfl,false,rfl,fun h=>by cases h⟩
   simp only[e9,hb,q1,q2,wz,opX,intBin,↓reduceIte,simprocAttr]
   refine loop_wp l.length (fun n e h'=>h'=h∧(∀ (j:Nat) r,j<n→l[j]? = some r→r.length≤5∧cntL r≤12)∧e=[(22,.d (eRs l)),(23,.d (.int .i64 l.length)),(24,.d (.int .i64 (n:Int)))]) _ ?_ ?_ l.length 0 _ _ (by omega) ⟨rfl,fun j r hj=>by omega,rfl⟩
   ·rintro n e h' hn ⟨rfl,hall,rfl⟩
    obtain ⟨r,hr⟩:=get_of_lt hn
    have hp:∀ h,callW tab 32 [.d (ePs r),.d (.int .i64 0)] h=some (.d (.int .i64 (p2L r 0)),h):=fun h=>parts_ok r 0 (by omega) h
    have hpe:=p2L_eq r 0
    by_cases q3:(5:Int)<(r.length:Int)
    ·simp only[e9,hn,iaR hr,q3,wz,opX,intBin,↓reduceIte,simprocAttr]
     exact⟨_,rfl,false,rfl,fun h=>by cases h⟩
    by_cases q4:(12:Int)<((p2L r 0:Nat):Int)
    ·simp only[e9,hn,iaR hr,q3,hp,q4,wz,opX,intBin,↓reduceIte,simprocAttr]
     exact⟨_,rfl,false,rfl,fun h=>by cases h⟩
    simp only[e9,hn,iaR hr,q3,hp,q4,wrap_succ (show n<2 ^ 62 by omega),wz,opX,intBin,↓reduceIte,simprocAttr]
    intro j r' hj hr'
    by_cases e:j=n
    ·subst e;rw[hr] at hr';cases hr'
     have:=hpe.2 (by omega)
     exact⟨by omega,by omega⟩
    ·exact hall j r' (by omega) hr'
   ·rintro e h' ⟨rfl,hall,rfl⟩
    simp only[e9,wz,opX,intBin,↓reduceIte,simprocAttr]
    refine ⟨_,rfl,true,rfl,fun _=>⟨hs rfl,by omega,by omega,fun r hr=>?_⟩⟩
    obtain ⟨j,hj,hjr⟩:=mem_get hr
    exact hall j r hj hjr
 exact⟨b',h1,h2⟩
end Zc28
end
section
set_option maxHeartbeats 4000000
namespace Zc28
open Go Zv Zs
theorem idxFP (l:List Pt) (cv:V) (p:Pt→Bool) (h:Hp) (hl:l.length<2 ^ 60) (hcv:norm cv=cv) (hc:∀ c,c ∈ l→cW tab cv [.d (ePt c)] h=some (.d (.bool (p c)),h)) :
  callW tab 38 [.d (.lst (l.map ePt)),cv] h=some (.d (eI (idxZ p l)),h):=by
 refine call_wp (fn:=f38) rfl rfl ?_
 have hloop:=loop_find (T:=tab) (a:=f38l0) (l:=l) (p:=p) (f:=fun n=>[(0,.d (.lst (l.map ePt))),(1,cv),(7,int l.length),(8,int n)]) (h:=h)
   (by intro n x hx hlt hp;have hcall:=hc x (List.mem_of_getElem? hx);all_goals (apply wq_ex.1;simp only[hlt,hp,e38,iaP hx,pts,hcall,wrap_succ (show n<2 ^ 62 by omega),wz,opX,intBin,↓reduceIte,simprocAttr]))
   (by intro n x hx hlt hp;have hcall:=hc x (List.mem_of_getElem? hx);all_goals (apply wq_ex.1;simp only[hlt,hp,e38,iaP hx,pts,hcall,wrap_succ (show n<2 ^ 62 by omega),wz,opX,intBin,↓reduceIte,simprocAttr]<;>rfl))
   (by apply wq_ex.1;simp only[e38,wz,opX,intBin,↓reduceIte,simprocAttr]<;>rfl)
   (by intro n x;simp) (by simp)
 simp only[int,Zv.bool,Int.cast_ofNat_Int] at hloop
 simp only[e38,hcv,wq_of hloop,wz,opX,intBin,↓reduceIte,simprocAttr]
 unfold idxZ
 cases fst? p 0 l with
 |none=>simp only[e38,wz,opX,intBin,↓reduceIte,simprocAttr]
 |some n=>simp only[e38,wz,opX,intBin,↓reduceIte,simprocAttr]
theorem conFP (l:List Pt) (cv:V) (p:Pt→Bool) (h:Hp) (hl:l.length<2 ^ 60) (hcv:norm cv=cv) (hc:∀ c,c ∈ l→cW tab cv [.d (ePt c)] h=some (.d (.bool (p c)),h)) :
  callW tab 78 [.d (.lst (l.map ePt)),cv] h=some (.d (.bool (l.any p)),h):=by
 refine call_wp (fn:=f78) rfl rfl ?_
 have hi:=idxFP l cv p h hl hcv hc
 simp only[e78,hcv,hi,idxZ_nn,Bool.decide_eq_true,wz,opX,intBin,↓reduceIte,simprocAttr]
mutual
def deepP:Pt→Nat→Bool
 | .mk _ _ _ qs,k=>decide (64<k) || deepL qs (k+1)
def deepL:List Pt→Nat→Bool
 | [],_=>false
 |p::r,k=>deepP p k || deepL r k
end
theorem deepL_any (k:Nat):∀ l:List Pt,deepL l k=l.any fun p=>deepP p k
 | []=>by rw[deepL];rfl
 |p::r=>by rw[deepL,deepL_any k r,List.any_cons]
theorem deep_ok:∀ (p:Pt) (k:Nat),k≤65→cntP p<2 ^ 60→∀ h,callW tab 80 [.d (ePt p),.d (.int .i64 (k:Int))] h=some (.d (.bool (deepP p k)),h)
 | .mk kd c m qs,k,hk,hc,h=>by
  have hlen:=cntL_len qs
  rw[cntP] at hc
  rw[deepP,ePt_mk]
  refine call_wp (fn:=f80) rfl rfl ?_
  by_cases h6:64<k
  ·have hk':(64:Int)<(k:Int):=by omega
   have e:(decide (64<k) || deepL qs (k+1))=true:=by simp[h6]
   rw[e]
   simp only[e80,hk',wz,opX,intBin,↓reduceIte,simprocAttr]
  ·have hk':¬ (64:Int)<(k:Int):=by omega
   have e:(decide (64<k) || deepL qs (k+1))=qs.any fun p=>deepP p (k+1):=by simp[h6,deepL_any]
   rw[e]
   have hcl:=conFP qs (.clo 126 [.ptr (h.next+1) 1 0 0]) (fun p=>deepP p (k+1)) ⟨(h.next+1,.arr 1 [.d (.int .i64 (k:Int))])::h.objs,h.next+2⟩ (by omega) rfl (by
    intro p hp
    have hcp:=cntL_mem hp
    have hr:=fun h=>deep_ok p (k+1) (by omega) (by omega) h
    rw[cW_clo]
    simp only[Nat.reduceBEq,Bool.false_eq_true,if_false]
    refine call_wp (fn:=f126) rfl rfl ?_
    have hw:=wrap_succ (show k<2 ^ 62 by omega)
    have hrow:∀ (v:V) (nx:Nat),Hp.row ⟨(h.next+1+1,.arr 4 [v])::(h.next+1,.arr 1 [.d (.int .i64 (k:Int))])::h.objs,nx⟩ (h.next+1) 1=some (1,[.d (.int .i64 (k:Int))]):=fun v nx=>by
     unfold Hp.row Hp.get;simp[Zv.look]
    simp only[e126,pts,hrow,hw,hr,wz,opX,intBin,↓reduceIte,simprocAttr])
   simp only[e80,hk',hcl,wz,opX,intBin,↓reduceIte,simprocAttr]
termination_by p=>cntP p
decreasing_by
 have:=cntL_mem hp
 rw[cntP]
 omega
mutual
def fitsP (d:List Dt) (t:Int):Pt→Bool
 | .mk k c m qs=>if k=0 then decide (c=0) && decide (m=0) && decide (qs.length=0) else if k=2 then decide (t=0) && decide (c=0) && decide (qs.length=0) else if k=1 then
   (!(decide (t=0) || !decide (m=0) || decide (c<0) || decide (((consOf d t).length:Int)≤c))) && (match (consOf d t)[c.toNat]? with
    |some y=>decide (y.flds.length=qs.length) && fitsL d y.flds qs
    |none=>false) else false
def fitsL (d:List Dt):List Int→List Pt→Bool
 |f::fs,q::qs=>fitsP d f q && fitsL d fs qs
 |_,_=>true
end
theorem fld_isT27 {d:List Dt} (T:typedS d=true) {t f:Int} {c:Cn} (hc:c ∈ consOf d t) (hf:f ∈ c.flds):isT d f=true:=by
 rcases tcase d t with h0 | h0 | ⟨n,y,rfl,hy⟩
 ·rw[consOf_lo h0] at hc;cases hc
 ·rw[consOf_hi h0] at hc;cases hc
 ·rw[consOf_at hy] at hc
  unfold typedS at T
  rw[List.all_eq_true] at T
  have:=T y (List.mem_of_getElem? hy)
  rw[List.all_eq_true] at this
  have:=this c hc
  rw[List.all_eq_true] at this
  exact this f hf
def badF (d:List Dt) (x:Int × Pt):Bool := !fitsP d x.1 x.2
theorem fitsL_any (d:List Dt):∀ (fs:List Int) (qs:List Pt),fitsL d fs qs = !(fs.zip qs).any (badF d)
 | [],[]=>by simp[fitsL]
 | [],_::_=>by simp[fitsL]
 |_::_,[]=>by simp[fitsL]
 |f::fs,q::qs=>by
  rw[fitsL,fitsL_any d fs qs,List.zip_cons_cons,List.any_cons]
  simp[badF]
theorem zip_at {α β:Type} {l:List α} {r:List β} {n:Nat} {x:α × β} (h:(l.zip r)[n]? = some x):l[n]? = some x.1∧r[n]? = some x.2:=by
 rw[List.getElem?_zip_eq_some] at h
 exact h
theorem fits_ok {d:List Dt} (B:Bd d) (T:typedS d=true):∀ (p:Pt) (t:Int),isT d t=true→cntP p<2 ^ 60→∀ h,callW tab 81 [.d (eDs d),.d (eI t),.d (ePt p)] h=some (.d (.bool (fitsP d t p)),h)
 | .mk kd c m qs,t,hT,hc,h=>by
  have hlen:=cntL_len qs
  rw[cntP] at hc
  rw[fitsP,ePt_mk]
  refine call_wp (fn:=f81) rfl rfl ?_
  by_cases k0:kd=0
  ·subst k0
   rw[if_pos rfl]
   by_cases c0:c=0<;>by_cases m0:m=0<;>by_cases q0:qs.length=0<;>(have q0':((qs.length:Int) == 0)=decide (qs.length=0):=by simp[ibeq])<;>simp only[e81,ibeq,c0,m0,q0,q0',wz,opX,intBin,↓reduceIte,simprocAttr]
  ·rw[if_neg k0]
   by_cases k2:kd=2
   ·subst k2
    rw[if_pos rfl]
    by_cases c0:c=0<;>by_cases t0:t=0<;>by_cases q0:qs.length=0<;>(have q0':((qs.length:Int) == 0)=decide (qs.length=0):=by simp[ibeq])<;>simp only[e81,ibeq,c0,t0,q0,q0',wz,opX,intBin,↓reduceIte,simprocAttr]
   ·rw[if_neg k2]
    by_cases k1:kd=1
    ·subst k1
     rw[if_pos rfl]
     by_cases t0:t=0
     ·simp only[e81,ibeq,t0,wz,opX,intBin,↓reduceIte,simprocAttr]
      simp
     ·by_cases m0:m=0
      ·by_cases cn:c<0
       ·simp only[e81,ibeq,ibne,t0,m0,cn,wz,opX,intBin,↓reduceIte,simprocAttr]
        simp
       ·rcases tcase d t with h0 | h0 | ⟨j,y,rfl,hy⟩
        ·exfalso;simp only[isT,Bool.and_eq_true,decide_eq_true_eq] at hT;omega
        ·exfalso;simp only[isT,Bool.and_eq_true,decide_eq_true_eq] at hT;omega
        ·have b:=B.at hy
         have hw:=wrap_sub1 (n:=j) (by omega)
         rw[consOf_at hy]
         by_cases hge:(y.cons.length:Int)≤c
         ·simp only[e81,ibeq,ibne,t0,m0,cn,hw,iaD hy,hge,wz,opX,intBin,↓reduceIte,simprocAttr]
          simp
         ·obtain ⟨i,rfl⟩:∃ i:Nat,c=(i:Int):=⟨c.toNat,by omega⟩
          obtain ⟨z,hz⟩:=get_of_lt (l:=y.cons) (n:=i) (by omega)
          rw[Int.toNat_natCast,hz]
          simp only
          have hge':¬ y.cons.length≤i:=by omega
          have bc:=B.cat hy hz
          have e0:(decide (((j:Int)+1)=0) || !decide (m=0) || decide ((i:Int)<0) || decide ((y.cons.length:Int)≤(i:Int)))=false:=by
           have a1:¬ ((j:Int)+1=0):=by omega
           have a2:¬ ((i:Int)<0):=by omega
           have a3:¬ ((y.cons.length:Int)≤(i:Int)):=hge
           simp[a1,a2,a3,m0]
          rw[e0,Bool.not_false,Bool.true_and]
          by_cases hl:z.flds.length=qs.length
          ·rw[decide_eq_true hl,Bool.true_and,fitsL_any]
           have hl':((z.flds.length:Int) != (qs.length:Int))=false:=by simp[hl]
           have hzl:(z.flds.zip qs).length=qs.length:=by rw[List.length_zip];omega
           obtain ⟨hloopq,hloop⟩:=loop_anyq (T:=tab) (a:=f81l0) (l:=z.flds.zip qs) (p:=badF d) (f:=fun n=>[(0,.d (eDs d)),(7,.d (eIs z.flds)),(87,.d (ePs qs)),(88,.d (.int .i64 qs.length)),(89,int n)]) (h:=⟨h.objs,h.next+1⟩)
             (by intro q n x hx hlt hp;(have hxz:=zip_at hx);(have hcp:=cntL_mem (List.mem_of_getElem? hxz.2));(have hfT:=fld_isT27 T (t:=(j:Int)+1) (by rw[consOf_at hy];exact List.mem_of_getElem? hz) (List.mem_of_getElem? hxz.1));(have hr:=fun h=>fits_ok B T x.2 x.1 hfT (by omega) h);(have hlt':n<qs.length:=by omega);(have hpb:fitsP d x.1 x.2 = !(badF d x):=by simp[badF]);rw[hp] at hpb;all_goals (simp only[hlt,hp,e81,iaP hxz.2,iaI hxz.1,pts,hr,hlt',hpb,wrap_succ (show n<2 ^ 62 by omega),wz,opX,intBin,↓reduceIte,simprocAttr]<;>(first | exact⟨_,rfl⟩ | exact⟨_,rfl,rfl⟩ | exact⟨_,rfl,rfl,rfl⟩)))
             (by intro q n x hx hlt hp;(have hxz:=zip_at hx);(have hcp:=cntL_mem (List.mem_of_getElem? hxz.2));(have hfT:=fld_isT27 T (t:=(j:Int)+1) (by rw[consOf_at hy];exact List.mem_of_getElem? hz) (List.mem_of_getElem? hxz.1));(have hr:=fun h=>fits_ok B T x.2 x.1 hfT (by omega) h);(have hlt':n<qs.length:=by omega);(have hpb:fitsP d x.1 x.2 = !(badF d x):=by simp[badF]);rw[hp] at hpb;all_goals (simp only[hlt,hp,e81,iaP hxz.2,iaI hxz.1,pts,hr,hlt',hpb,wrap_succ (show n<2 ^ 62 by omega),wz,opX,intBin,↓reduceIte,simprocAttr]<;>(first | exact⟨_,rfl⟩ | exact⟨_,rfl,rfl⟩ | exact⟨_,rfl,rfl,rfl⟩)))
             (by intro q;simp only[e81,hzl,wz,opX,intBin,↓reduceIte,simprocAttr]<;>(first | exact⟨_,rfl⟩ | exact⟨_,rfl,rfl⟩ | exact⟨_,rfl,rfl,rfl⟩))
             (by simp) (by simp)
           simp only[int,Zv.bool,Int.cast_ofNat_Int] at hloop
           simp only[e81,ibeq,ibne,t0,m0,cn,hw,iaD hy,iaC hz,hge',hl',wq_of hloop,wz,opX,intBin,↓reduceIte,simprocAttr]
           cases (z.flds.zip qs).any (badF d)<;>simp only[e81,wz,opX,intBin,↓reduceIte,simprocAttr]
          ·rw[decide_eq_false hl,Bool.false_and]
           have hl':((z.flds.length:Int) != (qs.length:Int))=true:=by simp;omega
           simp only[e81,ibeq,ibne,t0,m0,cn,hw,iaD hy,iaC hz,hge',hl',wz,opX,intBin,↓reduceIte,simprocAttr]
      ·simp only[e81,ibeq,ibne,t0,m0,wz,opX,intBin,↓reduceIte,simprocAttr]
       simp[m0]
    ·rw[if_neg k1]
     simp only[e81,ibeq,k0,k1,k2,wz,opX,intBin,↓reduceIte,simprocAttr]
termination_by p=>cntP p
decreasing_by
 all_goals
  have:=cntL_mem (List.mem_of_getElem? (zip_at hx).2)
  rw[cntP]
  omega
end Zc28
end
section
set_option maxHeartbeats 4000000
namespace Zc28
open Go Zv Zs
def badT (d:List Dt) (t:Int):Bool := !isT d t
def deepR (r:List Pt):Bool:=r.any fun p=>deepP p 0
def badR (d:List Dt) (ts:List Int) (r:List Pt):Bool := !(decide (r.length=ts.length) && !(ts.zip r).any (badF d))
def chk27 (d:List Dt) (ts:List Int) (l:List (List Pt)):Int:=
 if checkS d≠0 then 3 else if 8<ts.length∨64<l.length then 6 else if ts.any (badT d)=true then 2 else if l.any deepR=true then 7 else if l.any (badR d ts)=true then 10 else 0
structure Rng (d:List Dt) (ts:List Int) (l:List (List Pt)):Prop where
 bd:Bd d
 nm:Nm d
 ts:ts.length<2 ^ 60
 rows:l.length<2 ^ 60
 cnt:∀ r,r ∈ l→cntL r<2 ^ 60
theorem tests (d:List Dt) (t:Int):badT d t=(decide (t<0) || decide ((d.length:Int)<t)):=by
 unfold badT isT
 by_cases h1:t<0<;>by_cases h2:(d.length:Int)<t<;>simp[h1,h2]<;>omega
theorem chk_ok {d:List Dt} {ts:List Int} {l:List (List Pt)} (R:Rng d ts l) (h:Hp):callW tab 35 [.d (eDs d),.d (eIs ts),.d (eRs l)] h=some (.d (eI (chk27 d ts l)),h):=by
 refine call_wp (fn:=f35) rfl rfl ?_
 have B:=R.bd
 have hts:=R.ts
 have hll:=R.rows
 have hbl:=B.len
 have hch:=fun hh=>pcheck_ok B R.nm hh
 unfold chk27
 by_cases hC:checkS d=0
 ·rw[if_neg (by simp[hC])]
  have T:=check_typed hC
  by_cases h8:8<ts.length
  ·rw[if_pos (.inl h8)]
   have h8':(8:Int)<(ts.length:Int):=by omega
   simp only[e35,hch,hC,h8',wz,opX,intBin,↓reduceIte,simprocAttr]
  ·have h8':¬ (8:Int)<(ts.length:Int):=by omega
   by_cases h64:64<l.length
   ·rw[if_pos (.inr h64)]
    have h64':(64:Int)<(l.length:Int):=by omega
    simp only[e35,hch,hC,h8',h64',wz,opX,intBin,↓reduceIte,simprocAttr]
   ·rw[if_neg (by simp[h8,h64])]
    have h64':¬ (64:Int)<(l.length:Int):=by omega
    have hcT:=conFT ts (.clo 77 [.ptr h.next 1 0 0]) (badT d) ⟨(h.next,.arr 1 [.d (eDs d)])::h.objs,h.next+1⟩ (by omega) rfl (by
     intro t ht
     rw[cW_clo]
     simp only[Nat.reduceBEq,Bool.false_eq_true,if_false]
     refine call_wp (fn:=f77) rfl rfl ?_
     rw[tests]
     by_cases t1:t<0
     ·simp only[e77,t1,Bool.true_or,wz,opX,intBin,↓reduceIte,simprocAttr]
     ·by_cases t2:(d.length:Int)<t<;>simp only[e77,t1,t2,Bool.false_or,wz,opX,intBin,↓reduceIte,simprocAttr])
    cases hbt:ts.any (badT d) with
    |true=>
     rw[if_pos rfl]
     simp only[e35,hch,hC,h8',h64',hcT,hbt,wz,opX,intBin,↓reduceIte,simprocAttr]
    |false=>
     rw[if_neg (by simp)]
     have hdp:∀ r,r ∈ l→∀ h,callW tab 78 [.d (ePs r),.clo 79 []] h=some (.d (.bool (deepR r)),h):=by
      intro r hr h
      have hcr:=R.cnt r hr
      have hlr:=cntL_len r
      refine conFP r (.clo 79 []) (fun p=>deepP p 0) h (by omega) rfl (fun p hp=>?_)
      have hcp:=cntL_mem hp
      have hd:=fun h=>deep_ok p 0 (by omega) (by omega) h
      rw[cW_clo]
      simp only[Nat.reduceBEq,Bool.false_eq_true,if_false]
      refine call_wp (fn:=f79) rfl rfl ?_
      simp only[Int.cast_ofNat_Int] at hd
      simp only[e79,pts,hd,wz,opX,intBin,↓reduceIte,simprocAttr]
     have hA:=loop_any (T:=tab) (a:=f35l0) (l:=l) (p:=deepR) (f:=fun n=>[(1,.d (eIs ts)),(2,.d (eRs l)),(3,.ptr h.next 1 0 0),(27,.d (eRs l)),(28,.d (.int .i64 l.length)),(29,int n)]) (h:=⟨(h.next,.arr 1 [.d (eDs d)])::h.objs,h.next+1⟩)
       (by intro n x hx hlt hp;(have hr:=hdp x (List.mem_of_getElem? hx));all_goals (apply wq_ex.1;simp only[hlt,hp,e35,iaR hx,hr,wrap_succ (show n<2 ^ 62 by omega),wz,opX,intBin,↓reduceIte,simprocAttr]))
       (by intro n x hx hlt hp;(have hr:=hdp x (List.mem_of_getElem? hx));all_goals (apply wq_ex.1;simp only[hlt,hp,e35,iaR hx,hr,wrap_succ (show n<2 ^ 62 by omega),wz,opX,intBin,↓reduceIte,simprocAttr]<;>rfl))
       (by apply wq_ex.1;simp only[e35,wz,opX,intBin,↓reduceIte,simprocAttr]<;>rfl)
       (by simp) (by simp)
     simp only[int,Zv.bool,Int.cast_ofNat_Int] at hA
     cases hdr:l.any deepR with
     |true=>
      rw[hdr] at hA
      rw[if_pos rfl]
      simp only[e35,hch,hC,h8',h64',hcT,hbt,wq_of hA,wz,opX,intBin,↓reduceIte,simprocAttr]
     |false=>
      rw[hdr] at hA
      rw[if_neg (by simp)]
      have tyT:∀ t,t ∈ ts→isT d t=true:=by
       intro t ht
       have:=List.any_eq_false.1 hbt t ht
       simpa [badT] using this
      have inner:∀ (j:Nat) (r:List Pt) (q:Nat),r ∈ l→r.length=ts.length→∃ q',ex tab (.loop f35l1) [(1,.d (eIs ts)),(3,.ptr h.next 1 0 0),(36,.d (eRs l)),(37,.d (.int .i64 l.length)),(38,.d (.int .i64 (j:Int))),(47,.d (ePs r)),(48,.d (.int .i64 r.length)),(49,.d (.int .i64 0))] ⟨(h.next,.arr 1 [.d (eDs d)])::h.objs,q⟩ =
        some (if (ts.zip r).any (badF d)=true then (.ret,[(6,.d (.int .i64 10))],⟨(h.next,.arr 1 [.d (eDs d)])::h.objs,q'⟩) else (.exit 4,[(1,.d (eIs ts)),(3,.ptr h.next 1 0 0),(36,.d (eRs l)),(37,.d (.int .i64 l.length)),(38,.d (.int .i64 (j:Int))),(47,.d (ePs r)),(48,.d (.int .i64 r.length)),(49,.d (.int .i64 r.length)),(50,.d (.bool false))],⟨(h.next,.arr 1 [.d (eDs d)])::h.objs,q'⟩)):=by
       intro j r q hr hrl
       have hcr:=R.cnt r hr
       have hzl:(ts.zip r).length=r.length:=by rw[List.length_zip];omega
       obtain ⟨hloopq,hloop⟩:=loop_anyq (T:=tab) (a:=f35l1) (l:=ts.zip r) (p:=badF d) (f:=fun n=>[(1,.d (eIs ts)),(3,.ptr h.next 1 0 0),(36,.d (eRs l)),(37,.d (.int .i64 l.length)),(38,.d (.int .i64 (j:Int))),(47,.d (ePs r)),(48,.d (.int .i64 r.length)),(49,int n)]) (h:=⟨(h.next,.arr 1 [.d (eDs d)])::h.objs,q⟩)
         (by intro q n x hx hlt hp;(have hxz:=zip_at hx);(have hcp:=cntL_mem (List.mem_of_getElem? hxz.2));(have hf:=fun h=>fits_ok B T x.2 x.1 (tyT _ (List.mem_of_getElem? hxz.1)) (by omega) h);(have hlt':n<r.length:=by omega);(have hpb:fitsP d x.1 x.2 = !(badF d x):=by simp[badF]);rw[hp] at hpb;all_goals (simp only[hlt,hp,e35,iaP hxz.2,iaI hxz.1,pts,hf,hlt',hpb,wrap_succ (show n<2 ^ 62 by omega),wz,opX,intBin,↓reduceIte,simprocAttr]<;>(first | exact⟨_,rfl⟩ | exact⟨_,rfl,rfl⟩ | exact⟨_,rfl,rfl,rfl⟩)))
         (by intro q n x hx hlt hp;(have hxz:=zip_at hx);(have hcp:=cntL_mem (List.mem_of_getElem? hxz.2));(have hf:=fun h=>fits_ok B T x.2 x.1 (tyT _ (List.mem_of_getElem? hxz.1)) (by omega) h);(have hlt':n<r.length:=by omega);(have hpb:fitsP d x.1 x.2 = !(badF d x):=by simp[badF]);rw[hp] at hpb;all_goals (simp only[hlt,hp,e35,iaP hxz.2,iaI hxz.1,pts,hf,hlt',hpb,wrap_succ (show n<2 ^ 62 by omega),wz,opX,intBin,↓reduceIte,simprocAttr]<;>(first | exact⟨_,rfl⟩ | exact⟨_,rfl,rfl⟩ | exact⟨_,rfl,rfl,rfl⟩)))
         (by intro q;simp only[e35,hzl,wz,opX,intBin,↓reduceIte,simprocAttr]<;>(first | exact⟨_,rfl⟩ | exact⟨_,rfl,rfl⟩ | exact⟨_,rfl,rfl,rfl⟩))
         (by simp) (by simp)
       simp only[int,Zv.bool,Int.cast_ofNat_Int] at hloop
       exact⟨hloopq,hloop⟩
      obtain ⟨q',hB⟩:=loop_anyq (T:=tab) (a:=f35l2) (l:=l) (p:=badR d ts) (f:=fun n=>[(1,.d (eIs ts)),(3,.ptr h.next 1 0 0),(36,.d (eRs l)),(37,.d (.int .i64 l.length)),(38,int n)]) (h:=⟨(h.next,.arr 1 [.d (eDs d)])::h.objs,h.next+1⟩)
       (x1:=.ret) (e1:=[(6,.d (.int .i64 10))]) (x2:=.exit 2) (e2:=[(1,.d (eIs ts)),(3,.ptr h.next 1 0 0),(36,.d (eRs l)),(37,.d (.int .i64 l.length)),(38,.d (.int .i64 l.length)),(39,.d (.bool false))])
       (by
        intro q n x hx hlt hp
        have hmem:=List.mem_of_getElem? hx
        unfold badR at hp
        simp only[Bool.not_eq_false',Bool.and_eq_true,decide_eq_true_eq,Bool.not_eq_true'] at hp
        obtain ⟨hrl,hany⟩:=hp
        have hne:((x.length:Int) != (ts.length:Int))=false:=by simp[hrl]
        obtain ⟨q',hin⟩:=inner n x q hmem hrl
        rw[hany,if_neg (by simp)] at hin
        simp only[e35,hlt,iaR hx,hne,wq_of hin,wrap_succ (show n<2 ^ 62 by omega),wz,opX,intBin,↓reduceIte,simprocAttr]
        exact⟨_,rfl⟩)
       (by
        intro q n x hx hlt hp
        have hmem:=List.mem_of_getElem? hx
        by_cases hrl:x.length=ts.length
        ·unfold badR at hp
         rw[decide_eq_true hrl,Bool.true_and,Bool.not_not] at hp
         have hne:((x.length:Int) != (ts.length:Int))=false:=by simp[hrl]
         obtain ⟨q',hin⟩:=inner n x q hmem hrl
         rw[hp,if_pos rfl] at hin
         simp only[e35,hlt,iaR hx,hne,wq_of hin,wz,opX,intBin,↓reduceIte,simprocAttr]
         exact⟨_,rfl⟩
        ·have hne:((x.length:Int) != (ts.length:Int))=true:=by simp;omega
         simp only[e35,hlt,iaR hx,hne,wz,opX,intBin,↓reduceIte,simprocAttr]
         exact⟨_,rfl⟩)
       (by intro q;simp only[e35,wz,opX,intBin,↓reduceIte,simprocAttr];exact⟨_,rfl⟩) (by simp) (by simp)
      simp only[int,Int.cast_ofNat_Int] at hB
      cases hbr:l.any (badR d ts) with
      |true=>
       rw[hbr,if_pos rfl] at hB
       rw[if_pos rfl]
       simp only[e35,hch,hC,h8',h64',hcT,hbt,wq_of hA,wq_of hB,wz,opX,intBin,↓reduceIte,simprocAttr]
      |false=>
       rw[hbr,if_neg (by simp)] at hB
       rw[if_neg (by simp)]
       simp only[e35,hch,hC,h8',h64',hcT,hbt,wq_of hA,wq_of hB,wz,opX,intBin,↓reduceIte,simprocAttr]
 ·rw[if_pos hC]
  have e:(checkS d != 0)=true:=by simp[hC]
  simp only[e35,hch,e,wz,opX,intBin,↓reduceIte,simprocAttr]
end Zc28
end
section
set_option maxHeartbeats 4000000
namespace Zc28
open Go Zv Zs
end Zc28
end
section
set_option maxHeartbeats 4000000
namespace Zc28
open Go Zv Zs
mutual
theorem okP:∀ (x:D),ok (EE es) (.st [.i .i64,.i .i64,.i .i64,.l 4]) x→∃ p,x=ePt p
 | .agg [.int k a,.int k' b,.int k'' c,.lst qs],h=>by
  simp only[ok,okCs] at h
  obtain ⟨⟨rfl,_⟩,⟨rfl,_⟩,⟨rfl,_⟩,⟨_,hq⟩,_⟩:=h
  obtain ⟨ps,rfl⟩:=okPl qs hq
  exact⟨.mk a b c ps,by rw[ePt_mk]⟩
 |x,h=>by
  obtain ⟨l,rfl,h1⟩:=ok_st h
  obtain ⟨a,r,rfl,ha,h1⟩:=okCs_cons h1
  obtain ⟨b,r,rfl,hb,h1⟩:=okCs_cons h1
  obtain ⟨c,r,rfl,hc,h1⟩:=okCs_cons h1
  obtain ⟨q,r,rfl,hq,h1⟩:=okCs_cons h1
  obtain rfl:=okCs_nil h1
  obtain ⟨k,rfl⟩:=okI ha
  obtain ⟨n,rfl⟩:=okI hb
  obtain ⟨m,rfl⟩:=okI hc
  obtain ⟨qs,rfl,_,hq2⟩:=ok_l hq
  obtain ⟨ps,rfl⟩:=okPl qs hq2
  exact⟨.mk k n m ps,by rw[ePt_mk]⟩
termination_by x=>sizeOf x
decreasing_by
 all_goals simp_wf
 all_goals subst_vars
 all_goals simp
 all_goals omega
theorem okPl:∀ (l:List D),okEs (EE es) (EE es 4) l→∃ ps:List Pt,l=ps.map ePt
 | [],_=>⟨[],rfl⟩
 |x::l,h=>by
  simp only[okEs] at h
  obtain ⟨p,rfl⟩:=okP x h.1
  obtain ⟨ps,rfl⟩:=okPl l h.2
  exact⟨p::ps,rfl⟩
termination_by l=>sizeOf l
end
theorem okPs {x:D} (h:ok (EE es) (.one (.l 4)) x):∃ a,x=ePs a∧a.length≤maxLen:=by
 obtain ⟨l,rfl,hl,h2⟩:=ok_l h
 obtain ⟨xs,rfl⟩:=okPl l h2
 rw[List.length_map] at hl
 exact⟨xs,rfl,hl⟩
theorem okRs {x:D} (h:ok (EE es) (.one (.l 3)) x):∃ a,x=eRs a∧a.length≤maxLen:=by
 obtain ⟨l,rfl,hl,h2⟩:=ok_l h
 obtain ⟨xs,rfl⟩:=okEs_map (fun x hx=>by obtain ⟨a,ha,_⟩:=okPs (x:=x) hx;exact⟨a,ha⟩) h2
 refine ⟨xs,rfl,?_⟩
 rw[List.length_map] at hl
 exact hl
end Zc28
end
section
set_option maxHeartbeats 4000000
namespace Zc28
open Go Zv Zs
theorem ePt_cm (k c n:Int) (qs:List Pt):(ePt (.mk k c n qs)).cells=[.int .i64 k,.int .i64 c,.int .i64 n,.lst (qs.map ePt)]:=by rw[ePt_mk];rfl
abbrev zP:V:=.agg [.d (.int .i64 0),.d (.int .i64 0),.d (.int .i64 0),.tl [] (some true)]
abbrev gP (k c m:Int) (v:V):V:=.agg [.d (.int .i64 k),.d (.int .i64 c),.d (.int .i64 m),v]
theorem mk_pat1 (a b c:D):mkAgg [.d a,.d b,.d c,.tl [] (some true)]=.agg [.d a,.d b,.d c,.tl [] (some true)]:=rfl
theorem st_p (H q n:Nat) (k c m:Int) (v:V) (o1:Ob) (r:List (Nat × Ob)):st 1 ⟨(H+4,o1)::(H+2,.arr 4 [gP k c m v])::r,q⟩ (.ptr (H+2) 1 0 3) (.own (H+4) 4 n 0 n)=some ⟨(H+4,o1)::(H+2,.arr 4 [gP k c m (.own (H+4) 4 n 0 n)])::r,q⟩:=by
 have hr:Hp.row ⟨(H+4,o1)::(H+2,.arr 4 [gP k c m v])::r,q⟩ (H+2) 1=some (4,[gP k c m v]):=row_cn (by omega) (fun nx=>by rw[row_hd];rfl)
 have hs:∀ y,Hp.set ⟨(H+4,o1)::(H+2,.arr 4 [gP k c m v])::r,q⟩ (H+2) y=⟨(H+4,o1)::(H+2,y)::r,q⟩:=by
  intro y;unfold Hp.set;simp[upd]
 simp[st,hr,hs,stor,V.cells]
 rfl
theorem fz_p0 (H q:Nat) (k c m:Int) (r:List (Nat × Ob)):Zv.fzd ⟨(H,.arr 4 [gP k c m (.tl [] (some true))])::r,q⟩ (.ptr H 1 0 0)=some (.fp (ePt (.mk k c m [])) 0,⟨r,q⟩):=by
 have hr:Hp.row ⟨(H,.arr 4 [gP k c m (.tl [] (some true))])::r,q⟩ H 1=some (4,[gP k c m (.tl [] (some true))]):=by rw[row_hd];rfl
 have hs:∀ X:Hp,X.objs=(H,.arr 4 [gP k c m (.tl [] (some true))])::r→sameAt X X (.ptr H 1 0 0)=true:=by
  intro X hX;simp[sameAt,Hp.get,hX,Zv.look,Ob.beq_refl]
 unfold Zv.fzd
 simp only[hr,Option.bind_some,List.getElem?_cons_zero]
 have:frzs [V.d (.int .i64 k),.d (.int .i64 c),.d (.int .i64 m),.tl [] (some true)] ⟨(H,.arr 4 [gP k c m (.tl [] (some true))])::r,q⟩=some ([.int .i64 k,.int .i64 c,.int .i64 m,.lst []],⟨(H,.arr 4 [gP k c m (.tl [] (some true))])::r,q⟩):=rfl
 rw[this,Option.bind_some,if_pos (hs _ rfl),ePt_mk]
 simp[Hp.kill,del]
theorem fz_p (H q:Nat) (k c m:Int) (s:List Pt) (r:List (Nat × Ob)):Zv.fzd ⟨(H+4,.arr 4 ((s.map ePt).map .d))::(H+2,.arr 4 [gP k c m (.own (H+4) 4 s.length 0 s.length)])::r,q⟩ (.ptr (H+2) 1 0 0)=some (.fp (ePt (.mk k c m s)) 0,⟨r,q⟩):=by
 have hr:Hp.row ⟨(H+4,.arr 4 ((s.map ePt).map .d))::(H+2,.arr 4 [gP k c m (.own (H+4) 4 s.length 0 s.length)])::r,q⟩ (H+2) 1=some (4,[gP k c m (.own (H+4) 4 s.length 0 s.length)]):=row_cn (by omega) (fun nx=>by rw[row_hd];rfl)
 have hfz:=own_frz (es:=4) (m:=H+4) (q:=q) (o:=(H+2,.arr 4 [gP k c m (.own (H+4) 4 s.length 0 s.length)])::r) (l:=s.map ePt)
 rw[List.length_map] at hfz
 unfold Zv.fzd
 simp only[hr,Option.bind_some,List.getElem?_cons_zero]
 have:frzs [V.d (.int .i64 k),.d (.int .i64 c),.d (.int .i64 m),.own (H+4) 4 s.length 0 s.length] ⟨(H+4,.arr 4 ((s.map ePt).map .d))::(H+2,.arr 4 [gP k c m (.own (H+4) 4 s.length 0 s.length)])::r,q⟩=some ([.int .i64 k,.int .i64 c,.int .i64 m,.lst (s.map ePt)],⟨(H+2,.arr 4 [gP k c m (.own (H+4) 4 s.length 0 s.length)])::r,q⟩):=by
  have d1:∀ (hh:Hp) (x:D),Zv.frz hh (.d x)=some (.d x,hh):=fun _ _=>rfl
  simp only[frzs,d1,Option.bind_some,hfz,Option.map_some]
 rw[this,Option.bind_some]
 have hs:sameAt ⟨(H+4,.arr 4 ((s.map ePt).map .d))::(H+2,.arr 4 [gP k c m (.own (H+4) 4 s.length 0 s.length)])::r,q⟩ ⟨(H+2,.arr 4 [gP k c m (.own (H+4) 4 s.length 0 s.length)])::r,q⟩ (.ptr (H+2) 1 0 0)=true:=by
  simp[sameAt,Hp.get,Zv.look,Ob.beq_refl]
 rw[if_pos hs,ePt_mk]
 simp[Hp.kill,del]
theorem ptl (l:List Pt) (n:Nat) {x:Pt} (h:l[n]? = some x):(l.take (n+1)).map ePt=(l.take n).map ePt++[ePt x]:=by rw[List.take_add_one,h];simp
theorem pat_ok:∀ (N:Nat) (p:Pt),cntP p≤N→N≤1000→∀ h,callW tab 45 [.d (ePt p)] h=some (.d (ePt p),h):=by
 intro N
 induction N with
 |zero=>intro p hp;have:=cntP_pos p;omega
 |succ N ih=>
  intro p hp hN h
  obtain ⟨k,c,m,qs⟩:=p
  rw[cntP] at hp
  have hql:=cntL_len qs
  refine call_wp (fn:=f45) rfl rfl ?_
  have hcc:=ePt_cells (.mk k c m qs)
  simp only[e45,hcc,ePt_cm,mk_pat1,wz,opX,intBin,↓reduceIte,simprocAttr]
  refine loop_wp qs.length (fun n e h'=>(n=0→h'=⟨(h.next+1+1,.arr 4 [gP k c m (.tl [] (some true))])::(h.next+1,.arr 4 [zP])::h.objs,h.next+3⟩)∧(n≠0→∃ q,h'=⟨(h.next+4,.arr 4 (((qs.take n).map ePt).map .d))::(h.next+2,.arr 4 [gP k c m (.own (h.next+4) 4 n 0 n)])::(h.next+1,.arr 4 [zP])::h.objs,q⟩) ∧
   e=[(2,.ptr (h.next+1) 1 0 0),(3,.ptr (h.next+2) 1 0 0),(14,.d (.lst (qs.map ePt))),(15,.d (.int .i64 qs.length)),(16,.d (.int .i64 (n:Int)))]) _ ?_ ?_ qs.length 0 _ _ (by omega) ⟨fun _=>rfl,fun h=>absurd rfl h,rfl⟩
  ·rintro n e h' hn ⟨h0,h1,rfl⟩
   obtain ⟨x,hx⟩:=get_of_lt hn
   have hcm:=cntL_mem (List.mem_of_getElem? hx)
   have hf:=ih x (by omega) (by omega)
   have hwr:IntKind.i64.wrap ((n:Int)+1)=((n+1:Nat):Int):=by rw[wrap_ok (by omega) (by omega)];rfl
   have hst:=fun q v o1 r=>st_p h.next q (n+1) k c m v o1 r
   by_cases hn0:n=0
   ·subst hn0
    rw[h0 rfl]
    have happ:∀ r q,app 4 48 ⟨r,q⟩ (.tl [] (some true)) (.tl [.d (ePt x)] (some false))=some (.own q 4 1 0 1,⟨(q,.arr 4 [.d (ePt x)])::r,q+1⟩):=by
     intro r q
     simp[app,elems,allV,roomB,Hp.alloc,stor,V.cells,ePt_cells,norm_d]
    have h0l:(0:Int)<(qs.length:Int):=by omega
    have hia:ia 4 (.d (.lst (qs.map ePt))) (.d (.int .i64 0))=some (.fp (ePt x) 0):=iaP hx
    have h10:(0+1=0)=False:=by simp
    simp only[e45,h0l,hia,pts,hf,happ,hst,wz,opX,intBin,↓reduceIte,simprocAttr]
    have h1:=ptl qs 0 hx
    simp only[List.take_zero,List.map_nil,List.nil_append,Nat.zero_add] at h1
    exact⟨False.elim,fun _=>⟨_,by rw[h1];rfl⟩,rfl⟩
   ·obtain ⟨q,rfl⟩:=h1 hn0
    have happ:∀ q,app 4 48 ⟨(h.next+4,.arr 4 (((qs.take n).map ePt).map .d))::(h.next+2,.arr 4 [gP k c m (.own (h.next+4) 4 n 0 n)])::(h.next+1,.arr 4 [zP])::h.objs,q⟩ (.own (h.next+4) 4 n 0 n) (.tl [.d (ePt x)] (some false))=some (.own (h.next+4) 4 (n+1) 0 (n+1),⟨(h.next+4,.arr 4 (((qs.take (n+1)).map ePt).map .d))::(h.next+2,.arr 4 [gP k c m (.own (h.next+4) 4 n 0 n)])::(h.next+1,.arr 4 [zP])::h.objs,q⟩):=by
     intro q
     rw[app_tl1]
     have hl:((qs.take n).map ePt).length=n:=by rw[List.length_map,List.length_take];omega
     have:=own_app (es:=4) (b:=48) (m:=h.next+4) (q:=q) (o:=(h.next+2,.arr 4 [gP k c m (.own (h.next+4) 4 n 0 n)])::(h.next+1,.arr 4 [zP])::h.objs) (l:=(qs.take n).map ePt) (r:=[ePt x]) (by intro y hy;rw[List.mem_singleton] at hy;subst hy;exact ePt_cells x) (by rw[hl];simp only[List.length_cons,List.length_nil,roomB];omega)
     rw[List.length_append,hl] at this
     rw[ptl qs n hx]
     exact this
    have hrw:∀ o1 r q,Hp.row ⟨(h.next+4,o1)::(h.next+2,.arr 4 [gP k c m (.own (h.next+4) 4 n 0 n)])::r,q⟩ (h.next+2) 1=some (4,[gP k c m (.own (h.next+4) 4 n 0 n)]):=fun o1 r q=>row_cn (by omega) (fun nx=>by rw[row_hd];rfl)
    simp only[e45,hn,iaP hx,pts,hf,hrw,happ,hst,hwr,wz,opX,intBin,↓reduceIte,simprocAttr]
    exact⟨False.elim,fun _=>⟨_,rfl⟩⟩
  ·rintro e h' ⟨h0,h1,rfl⟩
   by_cases hn0:qs.length=0
   ·obtain rfl:qs=[]:=List.length_eq_zero_iff.1 hn0
    rw[h0 rfl]
    have hz:=fun q r=>fz_p0 (h.next+2) q k c m r
    have hf1:=fun h o q x=>finS1c (h:=h) (o:=o) (m:=q) x
    simp only[ePt_mk,List.map_nil] at hz ⊢
    simp only[e45,hz,pts,wz,opX,intBin,↓reduceIte,simprocAttr]
   ·obtain ⟨q,rfl⟩:=h1 hn0
    have hz:=fun q r=>fz_p h.next q k c m qs r
    rw[List.take_length]
    simp only[ePt_mk,List.map_nil] at hz ⊢
    simp only[e45,hz,pts,wz,opX,intBin,↓reduceIte,simprocAttr]
theorem prl (l:List (List Pt)) (n:Nat) {x:List Pt} (h:l[n]? = some x):(l.take (n+1)).map ePs=(l.take n).map ePs++[ePs x]:=by rw[List.take_add_one,h];simp
theorem matrixOf_ok (l:List (List Pt)) (hl:l.length≤1000) (hc:∀ r,r ∈ l→cntL r≤1000) (h:Hp):callW tab 12 [.d (eRs l)] h=some (.d (eRs l),h):=by
 refine call_wp (fn:=f12) rfl rfl ?_
 simp only[e12,wz,opX,intBin,↓reduceIte,simprocAttr]
 refine loop_wp l.length (fun n e h'=>∃ m q,h'=rowQ h m 1 ((l.take n).map ePs) q∧((l.take n).map ePs≠[]→h.next≤m)∧h.next≤q∧e=[(3,rowN m 1 ((l.take n).map ePs)),(9,.d (.lst (l.map ePs))),(10,.d (.int .i64 l.length)),(11,.d (.int .i64 (n:Int)))]) _ ?_ ?_ l.length 0 _ _ (by omega) ⟨0,h.next,rfl,fun h=>absurd rfl h,Nat.le_refl _,rfl⟩
 ·rintro n e h' hn ⟨m,q,rfl,hm,hq,rfl⟩
  obtain ⟨r,hr⟩:=get_of_lt hn
  have hrc:=hc r (List.mem_of_getElem? hr)
  have hrl:=cntL_len r
  have hwr:IntKind.i64.wrap ((n:Int)+1)=((n+1:Nat):Int):=by rw[wrap_ok (by omega) (by omega)];rfl
  simp only[e12,hn,iaR hr,wz,opX,intBin,↓reduceIte,simprocAttr]
  have hSl:((l.take n).map ePs).length=n:=by rw[List.length_map,List.length_take];omega
  have happ2:=fun q=>rowQ_app h (m:=m) (es:=1) (b:=24) (q:=q) (s:=(l.take n).map ePs) (x:=ePs r) (nl:=some false) rfl (by rw[hSl];simp only[roomB];omega) (by intro y hy;obtain ⟨z,_,rfl⟩:=List.mem_map.1 hy;rfl)
  have hmap:=prl l n hr
  generalize hS:(l.take n).map ePs=S at hm happ2 hmap hSl
  refine loop_wp r.length (fun j e h'=>∃ m2 q',q≤q'∧(j=0→h'=rowQ h m 1 S q')∧(j≠0→h'=⟨(m2,.arr 4 (((r.take j).map ePt).map .d))::(rowQ h m 1 S q').objs,q'⟩) ∧
   e=[(3,rowN m 1 S),(6,if j=0 then .tl [] (some false) else .own m2 4 j 0 j),(9,.d (.lst (l.map ePs))),(10,.d (.int .i64 l.length)),(11,.d (.int .i64 (n:Int))),(16,.d (.lst (r.map ePt))),(17,.d (.int .i64 r.length)),(18,.d (.int .i64 (j:Int)))]) _ ?_ ?_ r.length 0 _ _ (by omega) ⟨0,q,Nat.le_refl _,fun _=>rfl,fun h=>absurd rfl h,rfl⟩
  ·rintro j e h' hj ⟨m2,q',hq',h0,h1,rfl⟩
   obtain ⟨x,hx⟩:=get_of_lt hj
   have hcm:=cntL_mem (List.mem_of_getElem? hx)
   have hf:=fun h=>pat_ok 1000 x (by omega) (by omega) h
   have hwj:IntKind.i64.wrap ((j:Int)+1)=((j+1:Nat):Int):=by rw[wrap_ok (by omega) (by omega)];rfl
   by_cases hj0:j=0
   ·subst hj0
    rw[h0 rfl]
    have happ:∀ r q,app 4 48 ⟨r,q⟩ (.tl [] (some false)) (.tl [.d (ePt x)] (some false))=some (.own q 4 1 0 1,⟨(q,.arr 4 [.d (ePt x)])::r,q+1⟩):=by
     intro r q
     simp[app,elems,allV,roomB,Hp.alloc,stor,V.cells,ePt_cells,norm_d]
    have h0l:(0:Int)<(r.length:Int):=by omega
    have hia:ia 4 (.d (.lst (r.map ePt))) (.d (.int .i64 0))=some (.fp (ePt x) 0):=iaP hx
    simp only[e12,h0l,hia,pts,hf,happ,wz,opX,intBin,↓reduceIte,simprocAttr]
    have h1:=ptl r 0 hx
    simp only[List.take_zero,List.map_nil,List.nil_append,Nat.zero_add] at h1
    exact⟨q'+1,q'+1+1,by omega,False.elim,fun _=>by rw[h1];rfl,rfl⟩
   ·rw[h1 hj0]
    have happ:∀ q o,app 4 48 ⟨(m2,.arr 4 (((r.take j).map ePt).map .d))::o,q⟩ (.own m2 4 j 0 j) (.tl [.d (ePt x)] (some false))=some (.own m2 4 (j+1) 0 (j+1),⟨(m2,.arr 4 (((r.take (j+1)).map ePt).map .d))::o,q⟩):=by
     intro q o
     rw[app_tl1]
     have hl:((r.take j).map ePt).length=j:=by rw[List.length_map,List.length_take];omega
     have:=own_app (es:=4) (b:=48) (m:=m2) (q:=q) (o:=o) (l:=(r.take j).map ePt) (r:=[ePt x]) (by intro y hy;rw[List.mem_singleton] at hy;subst hy;exact ePt_cells x) (by rw[hl];simp only[List.length_cons,List.length_nil,roomB];omega)
     rw[List.length_append,hl] at this
     rw[ptl r j hx]
     exact this
    simp only[hj0,if_false]
    simp only[e12,hj,iaP hx,pts,hf,happ,hwj,wz,opX,intBin,↓reduceIte,simprocAttr]
    exact⟨m2,q'+1,by omega,False.elim,fun _=>rfl,rfl⟩
  ·rintro e h' ⟨m2,q',hq',h0,h1,rfl⟩
   have hfz:Zv.frz h' (if r.length=0 then .tl [] (some false) else .own m2 4 r.length 0 r.length)=some (.d (ePs r),rowQ h m 1 S q'):=by
    by_cases hr0:r.length=0
    ·obtain rfl:r=[]:=List.length_eq_zero_iff.1 hr0
     rw[h0 rfl];rfl
    ·rw[h1 hr0,if_neg hr0,List.take_length]
     have:=own_frz (es:=4) (m:=m2) (q:=q') (o:=(rowQ h m 1 S q').objs) (l:=r.map ePt)
     rw[List.length_map] at this
     exact this
   simp only[e12,hfz,happ2,hwr,wz,opX,intBin,↓reduceIte,simprocAttr]
   rw[hmap]
   refine ⟨_,_,rfl,?_,?_,rfl⟩
   ·intro _
    unfold nmQ
    split
    ·omega
    ·exact hm (by assumption)
   ·unfold nqQ;split<;>omega
 ·rintro e h' ⟨m,q,rfl,hm,hq,rfl⟩
  rw[List.take_length] at hm ⊢
  have hfin:=finS_rowQ (h:=h) (m:=m) (es:=1) (s:=l.map ePs) (q:=q) hm
  simp only[e12,hfin,wz,opX,intBin,↓reduceIte,simprocAttr]
end Zc28
end
section
set_option maxHeartbeats 4000000
namespace Zc28
open Go Zv Zs
def wildT:Pt:=.mk 0 0 0 []
def kdP:Pt→Int | .mk k _ _ _=>k
def cnP:Pt→Int | .mk _ c _ _=>c
def nmP:Pt→Int | .mk _ _ n _=>n
theorem argsP_mk (k c n:Int) (qs:List Pt):argsP (.mk k c n qs)=qs:=rfl
theorem slc_tl {es:Nat} {x:D} {l:List D} (hl:∀ y,y ∈ x::l→y.cells.length=es):slc es (.d (.lst (x::l))) (some (.d (.int .i64 1))) none=some (.d (.lst l)):=by
 have h:Zv.allD es (x::l)=true:=by
  unfold Zv.allD
  exact List.all_eq_true.2 fun y hy=>by simpa using hl y hy
 simp only[slc,bnd,Option.bind_some,ixOf,h]
 simp
theorem ptcells {l:List Pt}:∀ y,y ∈ l.map ePt→y.cells.length=4:=by
 intro y hy
 obtain ⟨p,_,rfl⟩:=List.mem_map.1 hy
 exact ePt_cells p
theorem iaP0 (p:Pt) (l:List Pt):ia 4 (.d (ePs (p::l))) (.d (.int .i64 0))=some (.fp (ePt p) 0):=iaP (l:=p::l) (n:=0) rfl
theorem iaP0' (p:Pt) (l:List Pt):ia 4 (.d (.lst (ePt p::l.map ePt))) (.d (.int .i64 0))=some (.fp (ePt p) 0):=iaP0 p l
theorem ePt_cs (k c n:Int) (qs:List Pt):(ePt (.mk k c n qs)).cells=[.int .i64 k,.int .i64 c,.int .i64 n,.lst (qs.map ePt)]:=by rw[ePt_mk];rfl
theorem slcP' (p:Pt) (l:List Pt):slc 4 (.d (ePs (p::l))) (some (.d (.int .i64 1))) none=some (.d (ePs l)):=
 slc_tl (l:=l.map ePt) (by rw[←List.map_cons];exact ptcells)
theorem slcP (p:Pt) (l:List Pt):slc 4 (.d (.lst (ePt p::l.map ePt))) (some (.d (.int .i64 1))) none=some (.d (.lst (l.map ePt))):=
 slc_tl (l:=l.map ePt) (by rw[←List.map_cons];exact ptcells)
theorem cloneP_ok (l:List Pt) (hl:l.length≤1000000) (h:Hp):callW tab 106 [.d (ePs l)] h=some (cloV none h.next 4 (l.map ePt),cloO h.objs h.next 4 (l.map ePt)):=by
 refine call_wp (fn:=f106) rfl rfl ?_
 have hb:wp tab b106 (args 0 [.d (ePs l)]) h (· = (.ret,[(2,cloV none h.next 4 (l.map ePt))],cloO h.objs h.next 4 (l.map ePt))):=by
  cases l with
  |nil=>
   have hn0:nilBin NK.s BinOp.eql (.d (ePs []))=some .ub:=rfl
   have happ:app 4 48 h (.tl [] (some false)) (.d (.lst []))=some (.tl [] (some false),h):=rfl
   simp only[e106,wz,opX,intBin,↓reduceIte,simprocAttr]
   refine wq_ex.2 (ex_ambU (e1:=[(0,.d (.lst [])),(4,.ub)]) (h1:=h) (o:=(.ret,[(2,.tl [] (some true))],h)) (q:=(.ret,[(2,.tl [] (some false))],h)) ?_ rfl ?_ ?_ ?_)
   ·apply wq_ex.1;simp only[e106,hn0,wz,opX,intBin,↓reduceIte,simprocAttr]
    rfl
   ·apply wq_ex.1;simp only[e106,wz,opX,intBin,↓reduceIte,simprocAttr]
   ·apply wq_ex.1;simp only[e106,happ,wz,opX,intBin,↓reduceIte,simprocAttr]
   ·unfold outJoin
    rw[if_pos ⟨rfl,objsBeq_refl _,rfl⟩]
    rfl
  |cons p r=>
   have happ:=tl_app (nl:=some false) (es:=4) (b:=48) (h:=h) (r:=(p::r).map ePt) ptcells (by simp only[roomB,List.length_map];omega)
   rw[List.map_cons] at happ
   have hn0:nilBin NK.s BinOp.eql (.d (ePs (p::r)))=some (.d (.bool false)):=rfl
   simp only[e106,wz,opX,intBin,↓reduceIte,simprocAttr]
   refine wq_ex.2 (ex_ambD (e1:=[(0,.d (.lst ((p::r).map ePt))),(4,.d (.bool false))]) (h1:=h) false ?_ rfl ?_)
   ·apply wq_ex.1;simp only[e106,hn0,wz,opX,intBin,↓reduceIte,simprocAttr]
    rfl
   ·apply wq_ex.1;simp only[e106,happ,wz,opX,intBin,↓reduceIte,simprocAttr]
    rfl
 obtain ⟨o,h1,rfl⟩:=hb
 exact⟨_,h1,rfl⟩
theorem tcells {l:List Int}:∀ y,y ∈ l.map eI→y.cells.length=1:=by
 intro y hy
 obtain ⟨p,_,rfl⟩:=List.mem_map.1 hy
 rfl
theorem cloneT_ok (l:List Int) (hl:l.length≤1000000) (h:Hp):callW tab 133 [.d (eIs l)] h=some (cloV none h.next 1 (l.map eI),cloO h.objs h.next 1 (l.map eI)):=by
 refine call_wp (fn:=f133) rfl rfl ?_
 have hb:wp tab b133 (args 0 [.d (eIs l)]) h (· = (.ret,[(2,cloV none h.next 1 (l.map eI))],cloO h.objs h.next 1 (l.map eI))):=by
  cases l with
  |nil=>
   have hn0:nilBin NK.s BinOp.eql (.d (eIs []))=some .ub:=rfl
   have happ:app 1 8 h (.tl [] (some false)) (.d (.lst []))=some (.tl [] (some false),h):=rfl
   simp only[e133,wz,opX,intBin,↓reduceIte,simprocAttr]
   refine wq_ex.2 (ex_ambU (e1:=[(0,.d (.lst [])),(4,.ub)]) (h1:=h) (o:=(.ret,[(2,.tl [] (some true))],h)) (q:=(.ret,[(2,.tl [] (some false))],h)) ?_ rfl ?_ ?_ ?_)
   ·apply wq_ex.1;simp only[e133,hn0,wz,opX,intBin,↓reduceIte,simprocAttr]
    rfl
   ·apply wq_ex.1;simp only[e133,wz,opX,intBin,↓reduceIte,simprocAttr]
   ·apply wq_ex.1;simp only[e133,happ,wz,opX,intBin,↓reduceIte,simprocAttr]
   ·unfold outJoin
    rw[if_pos ⟨rfl,objsBeq_refl _,rfl⟩]
    rfl
  |cons p r=>
   have happ:=tl_app (nl:=some false) (es:=1) (b:=8) (h:=h) (r:=(p::r).map eI) tcells (by simp only[roomB,List.length_map];omega)
   rw[List.map_cons] at happ
   have hn0:nilBin NK.s BinOp.eql (.d (eIs (p::r)))=some (.d (.bool false)):=rfl
   simp only[e133,wz,opX,intBin,↓reduceIte,simprocAttr]
   refine wq_ex.2 (ex_ambD (e1:=[(0,.d (.lst ((p::r).map eI))),(4,.d (.bool false))]) (h1:=h) false ?_ rfl ?_)
   ·apply wq_ex.1;simp only[e133,hn0,wz,opX,intBin,↓reduceIte,simprocAttr]
    rfl
   ·apply wq_ex.1;simp only[e133,happ,wz,opX,intBin,↓reduceIte,simprocAttr]
    rfl
 obtain ⟨o,h1,rfl⟩:=hb
 exact⟨_,h1,rfl⟩
theorem iaI0 (t:Int) (ts:List Int):ia 1 (.d (eIs (t::ts))) (.d (.int .i64 0))=some (.fp (eI t) 0):=iaI (l:=t::ts) (n:=0) rfl
theorem slcT' (p:Int) (l:List Int):slc 1 (.d (eIs (p::l))) (some (.d (.int .i64 1))) none=some (.d (eIs l)):=
 slc_tl (l:=l.map eI) (by rw[←List.map_cons];exact tcells)
theorem slcT (p:Int) (l:List Int):slc 1 (.d (.lst (eI p::l.map eI))) (some (.d (.int .i64 1))) none=some (.d (.lst (l.map eI))):=
 slc_tl (l:=l.map eI) (by rw[←List.map_cons];exact tcells)
theorem under_ok {d:List Dt} {n i:Nat} {y:Dt} {z:Cn} (hy:d[n]? = some y) (hz:y.cons[i]? = some z) (hd:d.length<2 ^ 60) (ts:List Int) (hf:z.flds.length≤8) (hl:ts.length≤10000) (h:Hp) :
  callW tab 104 [.d (eDs d),.d (eIs (((n:Int)+1)::ts)),.d (eI (i:Int))] h=some (.d (eIs (z.flds++ts)),h):=by
 refine call_wp (fn:=f104) rfl rfl ?_
 have hn:=(List.getElem?_eq_some_iff.1 hy).1
 have hw:=wrap_sub1 (n:=n) (by omega)
 have hc:=cloneT_ok z.flds (by omega) h
 have happ:=clo_app (nl:=none) (es:=1) (b:=8) (n:=h.next) (o:=h.objs) (l:=z.flds.map eI) (r:=ts.map eI) tcells tcells (by simp only[roomB,List.length_map];omega)
 have hs:=slcT ((n:Int)+1) ts
 have hfin:=finS_clo (h:=h) (nl:=none) (es:=1) (n:=h.next) (l:=z.flds.map eI++ts.map eI) (Nat.le_refl _)
 simp only[e104,hw,iaI0,slcT',iaD hy,iaC hz,hc,hs,happ,hfin,wz,opX,intBin,↓reduceIte,simprocAttr]
 rw[List.map_append]
def spF (c:Int) (n:Nat):List Pt→Option (List Pt)
 | []=>none
 | .mk k c' _ qs::r=>if k=0 then some (List.replicate n wildT++r) else if k=1∧c'=c then some (qs++r) else none
def spS (c:Int) (n:Nat) (l:List (List Pt)):List (List Pt):=l.filterMap (spF c n)
theorem replT (n:Nat):(List.replicate n (V.d (.agg [.int .i64 0,.int .i64 0,.int .i64 0,.lst []])))=((List.replicate n wildT).map ePt).map V.d:=by
 simp only[List.map_replicate];rfl
theorem mkslP {n:Nat} (hn:n≤1000):mkslT (.d (.agg [.int .i64 0,.int .i64 0,.int .i64 0,.lst []])) 48 (.d (.int .i64 (n:Int)))=some (.tl (((List.replicate n wildT).map ePt).map V.d) (some false)):=by
 unfold mkslT
 rw[ixOf_nat,Option.bind_some,if_pos ⟨by simp only[roomB];omega,by omega⟩,replT]
theorem appd_tl {es b:Nat} {l r:List D} {nl:Option Bool} (hl:∀ y,y ∈ l→y.cells.length=es) (hr:∀ y,y ∈ r→y.cells.length=es) (hb:(l.length+r.length)*b≤roomB):appd es b (.tl (l.map V.d) nl) (.d (.lst r))=some (.d (.lst (l++r))):=by
 simp only[appd,elems0,Option.bind_some,allV_d hr,if_true,norm_map_d]
 by_cases h0:r=[]
 ·subst h0
  simp[toD,toDs_map]
 ·have he:(r.map V.d).isEmpty=false:=by cases r with | nil=>exact absurd rfl h0 | cons=>rfl
  simp only[he,Bool.false_eq_true,if_false,List.length_map]
  rw[if_pos ⟨hb,allV_d hl⟩,←List.map_append,toDs_map]
  rfl
theorem special_ok (c:Int) (n0:Nat) (hn0:n0≤1000) (l:List (List Pt)) (hl:l.length≤1000) (hr:∀ r,r ∈ l→r≠[]∧r.length≤10000∧∀ p,p ∈ r→(argsP p).length≤10000) (h:Hp) :
  callW tab 105 [.d (eRs l),.d (eI c),.d (.int .i64 (n0:Int))] h=some (.d (eRs (spS c n0 l)),h):=by
 refine call_wp (fn:=f105) rfl rfl ?_
 obtain ⟨m,q,hm,hq,hloop⟩:=loop_acc (T:=tab) (a:=f105l0) (l:=l) (fun _=>spF c n0) ePs 1 24 (fun n r=>[(1,.d (eI c)),(2,.d (.int .i64 (n0:Int))),(7,r),(11,.d (eRs l)),(12,.d (.int .i64 (l.length:Int))),(13,.d (.int .i64 (n:Int)))]) (h:=h) (n0:=h.next) (x1:=.exit 0) (e1:=fun r=>[(1,.d (eI c)),(2,.d (.int .i64 (n0:Int))),(7,r),(11,.d (eRs l)),(12,.d (.int .i64 (l.length:Int))),(13,.d (.int .i64 (l.length:Int))),(14,.d (.bool false))]) (Nat.le_refl _)
  (fun _=>rfl) (by simp only[roomB];omega)
  (by
   intro n x s m q hx hlt hs hsl hG
   obtain ⟨hne,hxl,hxa⟩:=hr x (List.mem_of_getElem? hx)
   obtain ⟨p,r,rfl⟩:=List.exists_cons_of_ne_nil hne
   obtain ⟨k,c',m',qs⟩:=p
   simp only[spF] at hG
   by_cases k0:k=0
   ·rw[if_pos k0] at hG;cases hG
   ·rw[if_neg k0] at hG
    by_cases k1:k=1
    ·by_cases c1:c'=c
     ·rw[if_pos ⟨k1,c1⟩] at hG;cases hG
     ·simp only[hlt,e105,iaR hx,iaP0,iaP0',ePt_cs,ibeq,k0,k1,c1,rowQ_next,rowQ_mk,wrap_succ (show n<2 ^ 62 by omega),wz,opX,intBin,↓reduceIte,simprocAttr]
      exact⟨_,rfl,by omega⟩
    ·simp only[hlt,e105,iaR hx,iaP0,iaP0',ePt_cs,ibeq,k0,k1,rowQ_next,rowQ_mk,wrap_succ (show n<2 ^ 62 by omega),wz,opX,intBin,↓reduceIte,simprocAttr]
     exact⟨_,rfl,by omega⟩)
  (by
   intro n x y s m q hx hlt hs hsl hG happ
   obtain ⟨hne,hxl,hxa⟩:=hr x (List.mem_of_getElem? hx)
   obtain ⟨p,r,rfl⟩:=List.exists_cons_of_ne_nil hne
   have hqa:=hxa p (by simp)
   have hrl:r.length≤10000:=by simp at hxl;omega
   obtain ⟨k,c',m',qs⟩:=p
   rw[argsP_mk] at hqa
   simp only[spF] at hG
   by_cases k0:k=0
   ·rw[if_pos k0] at hG
    cases hG
    have h1:=mkslP hn0
    have h2:=appd_tl (es:=4) (b:=48) (l:=(List.replicate n0 wildT).map ePt) (r:=r.map ePt) (nl:=some false) ptcells ptcells (by simp only[List.length_map,List.length_replicate,roomB];omega)
    rw[←List.map_append] at h2
    simp only[hlt,e105,iaR hx,iaP0,iaP0',slcP',slcP,ePt_cs,ibeq,k0,h1,h2,happ,rowQ_next,rowQ_mk,wrap_succ (show n<2 ^ 62 by omega),wz,opX,intBin,↓reduceIte,simprocAttr]
    exact⟨_,_,⟨rfl,rfl⟩,by omega,Nat.le_refl _⟩
   ·rw[if_neg k0] at hG
    by_cases k1:k=1
    ·by_cases c1:c'=c
     ·rw[if_pos ⟨k1,c1⟩] at hG
      cases hG
      have h1:=fun h=>cloneP_ok qs (by omega) h
      have h2:=fun (n:Nat) (o:List (Nat × Ob))=>clo_app (nl:=none) (es:=4) (b:=48) (n:=n) (o:=o) (l:=qs.map ePt) (r:=r.map ePt) ptcells ptcells (by simp only[List.length_map,roomB];omega)
      rw[←List.map_append] at h2
      have h3:=fun (n:Nat) (o:List (Nat × Ob))=>clo_frz (nl:=none) (es:=4) (n:=n) (o:=o) (l:=(qs++r).map ePt)
      simp only[hlt,e105,iaR hx,iaP0,iaP0',slcP',slcP,ePt_cs,ibeq,k0,k1,c1,h1,h2,h3,happ,rowQ_next,rowQ_mk,wrap_succ (show n<2 ^ 62 by omega),wz,opX,intBin,↓reduceIte,simprocAttr]
      exact⟨_,_,⟨rfl,rfl⟩,by split<;>omega,Nat.le_refl _⟩
     ·rw[if_neg (fun e=>c1 e.2)] at hG;cases hG
    ·rw[if_neg (fun e=>k1 e.1)] at hG;cases hG)
  (by
   intro m q
   simp only[e105,wz,opX,intBin,↓reduceIte,simprocAttr]
   exact⟨_,rfl,by omega⟩)
  (by simp)
 rw[accL_fm] at hloop hm
 simp only[Int.cast_ofNat_Int] at hloop
 have hfm:l.filterMap (spF c n0)=spS c n0 l:=rfl
 rw[hfm] at hloop hm
 have hfin:=finS_rowQ (h:=h) (m:=m) (es:=1) (s:=(spS c n0 l).map ePs) (q:=q) (fun e=>(hm e).1)
 simp only[e105,wq_of hloop,hfin,wz,opX,intBin,↓reduceIte,simprocAttr]
end Zc28
end
section
set_option maxHeartbeats 4000000
namespace Zc28
open Go Zv Zs
def restF (keep:Pt→Bool):List Pt→Option (List Pt)
 | []=>none
 |p::r=>if keep p=true then some r else none
def restS (keep:Pt→Bool) (l:List (List Pt)):List (List Pt):=l.filterMap (restF keep)
theorem rests_ok (cv:V) (keep:Pt→Bool) (hcv:norm cv=cv) (l:List (List Pt)) (hl:l.length≤1000) (hr:∀ r,r ∈ l→r≠[]) (hc:∀ p r,(p::r) ∈ l→∀ h,cW tab cv [.d (ePt p)] h=some (.d (.bool (keep p)),h)) (h:Hp) :
  callW tab 107 [.d (eRs l),cv] h=some (.d (eRs (restS keep l)),h):=by
 refine call_wp (fn:=f107) rfl rfl ?_
 obtain ⟨m,q,hm,hq,hloop⟩:=loop_acc (T:=tab) (a:=f107l0) (l:=l) (fun _=>restF keep) ePs 1 24 (fun n r=>[(1,cv),(5,r),(8,.d (eRs l)),(9,.d (.int .i64 (l.length:Int))),(10,.d (.int .i64 (n:Int)))]) (h:=h) (n0:=h.next) (x1:=.exit 0) (e1:=fun r=>[(1,cv),(5,r),(8,.d (eRs l)),(9,.d (.int .i64 (l.length:Int))),(10,.d (.int .i64 (l.length:Int))),(11,.d (.bool false))]) (Nat.le_refl _)
  (fun _=>rfl) (by simp only[roomB];omega)
  (by
   intro n x s m q hx hlt hs hsl hG
   have hmem:=List.mem_of_getElem? hx
   obtain ⟨p,r,rfl⟩:=List.exists_cons_of_ne_nil (hr x hmem)
   have hcall:=hc p r hmem
   simp only[restF] at hG
   have hk:keep p=false:=by
    cases hk:keep p with
    |false=>rfl
    |true=>rw[if_pos hk] at hG;cases hG
   simp only[hlt,e107,iaR hx,iaP0,iaP0',pts,hcall,hk,rowQ_next,rowQ_mk,wrap_succ (show n<2 ^ 62 by omega),wz,opX,intBin,↓reduceIte,simprocAttr]
   exact⟨_,rfl,by omega⟩)
  (by
   intro n x y s m q hx hlt hs hsl hG happ
   have hmem:=List.mem_of_getElem? hx
   obtain ⟨p,r,rfl⟩:=List.exists_cons_of_ne_nil (hr x hmem)
   have hcall:=hc p r hmem
   simp only[restF] at hG
   have hk:keep p=true:=by
    cases hk:keep p with
    |true=>rfl
    |false=>rw[hk] at hG;cases hG
   rw[if_pos hk] at hG
   cases hG
   simp only[hlt,e107,iaR hx,iaP0,iaP0',slcP,slcP',pts,hcall,hk,happ,rowQ_next,rowQ_mk,wrap_succ (show n<2 ^ 62 by omega),wz,opX,intBin,↓reduceIte,simprocAttr]
   exact⟨_,_,⟨rfl,rfl⟩,by omega,Nat.le_refl _⟩)
  (by
   intro m q
   simp only[e107,wz,opX,intBin,↓reduceIte,simprocAttr]
   exact⟨_,rfl,by omega⟩)
  (by simp)
 rw[accL_fm] at hloop hm
 simp only[Int.cast_ofNat_Int] at hloop
 have hfm:l.filterMap (restF keep)=restS keep l:=rfl
 rw[hfm] at hloop hm
 have hfin:=finS_rowQ (h:=h) (m:=m) (es:=1) (s:=(restS keep l).map ePs) (q:=q) (fun e=>(hm e).1)
 simp only[e107,hcv,wq_of hloop,hfin,wz,opX,intBin,↓reduceIte,simprocAttr]
end Zc28
end
section
set_option maxHeartbeats 4000000
namespace Zc28
open Go Zv Zs
def sameP (a b:Pt):Bool:=decide (kdP a=kdP b) && decide (cnP a=cnP b) && decide (nmP a=nmP b)
def hdG (s:List Pt):List Pt→Option Pt
 | []=>none
 |p::_=>if (decide (kdP p=0) || s.any fun q=>sameP q p)=true then none else some p
def headsS (l:List (List Pt)):List Pt:=accL hdG l
theorem ePt_k (p:Pt):(ePt p).cells[0]? = some (.int .i64 (kdP p)):=by obtain ⟨k,c,n,qs⟩:=p;rw[ePt_cs];rfl
end Zc28
end
section
set_option maxHeartbeats 4000000
namespace Zc28
open Go Zv Zs
def wildP (p:Pt):Bool:=decide (kdP p=0)
theorem ePt_3 (p:Pt):(ePt p).cells[3]? = some (.lst ((argsP p).map ePt)):=by obtain ⟨k,c,n,qs⟩:=p;rw[ePt_cs];rfl
theorem mkslOP {n:Nat} (hn:n≤1000) (h:Hp):mkslO (.d (.agg [.int .i64 0,.int .i64 0,.int .i64 0,.lst []])) 4 48 h (.d (.int .i64 (n:Int)))=some (.own h.next 4 n 0 n,⟨(h.next,.arr 4 (((List.replicate n wildT).map ePt).map V.d))::h.objs,h.next+1⟩):=by
 unfold mkslO
 rw[ixOf_nat,Option.bind_some,if_pos ⟨by simp only[roomB];omega,by omega⟩,replT]
 rfl
end Zc28
end
section
set_option maxHeartbeats 4000000
namespace Zc28
open Go Zv Zs
def kvB (s:List Int):List (D × V):=s.map fun c=>(eI c,.d (.bool true))
def addI (s:List Int) (c:Int):List Int:=if c ∈ s then s else s++[c]
theorem putK_B (c:Int):∀ s:List Int,putK .i (eI c) (.d (.bool true)) (kvB s)=some (kvB (addI s c))
 | []=>rfl
 |x::s=>by
  show (match keyEq .i (eI c) (eI x) with
   |some true=>some ((eI c,V.d (.bool true))::kvB s)
   |some false=>(putK .i (eI c) (.d (.bool true)) (kvB s)).map fun s=>(eI x,V.d (.bool true))::s
   |none=>none)=_
  by_cases h:c=x
  ·subst h
   simp[keyEq,addI,kvB]
  ·have h1:(c == x)=false:=by simpa using h
   simp only[keyEq,if_true,h1,putK_B c s,Option.map_some]
   unfold addI
   by_cases h2:c ∈ s
   ·rw[if_pos h2,if_pos (List.mem_cons_of_mem x h2)];rfl
   ·rw[if_neg h2,if_neg (by simp[h,h2])];rfl
theorem findK_B (c:Int):∀ s:List Int,findK .i (eI c) (kvB s)=some (if c ∈ s then some (.d (.bool true)) else none)
 | []=>rfl
 |x::s=>by
  show (match keyEq .i (eI c) (eI x) with
   |some true=>some (some (V.d (.bool true)))
   |some false=>findK .i (eI c) (kvB s)
   |none=>none)=_
  by_cases h:c=x
  ·subst h
   simp[keyEq]
  ·have h1:(c == x)=false:=by simpa using h
   simp only[keyEq,if_true,h1,findK_B c s]
   simp[h]
def HM2 (o:List (Nat × Ob)) (n:Nat) (A B:List Int):Hp:=⟨(n+1,.mp (kvB B))::(n,.mp (kvB A))::o,n+2⟩
theorem HM2_muA (o:List (Nat × Ob)) (n:Nat) (A B:List Int) (c:Int):mu .i (HM2 o n A B) (.map n) (.d (.int .i64 c)) (.d (.bool true))=some (HM2 o n (addI A c) B):=by
 unfold mu HM2
 have hg:(⟨(n+1,.mp (kvB B))::(n,.mp (kvB A))::o,n+2⟩:Hp).get n=some (.mp (kvB A)):=by
  unfold Hp.get;simp[Zv.look]
 have hp:=putK_B c A
 simp only[hg,stor_d,if_true,norm_d,hp,Option.map_some]
 simp[Hp.set,upd]
theorem HM2_muB (o:List (Nat × Ob)) (n:Nat) (A B:List Int) (c:Int):mu .i (HM2 o n A B) (.map (n+1)) (.d (.int .i64 c)) (.d (.bool true))=some (HM2 o n A (addI B c)):=by
 unfold mu HM2
 have hg:(⟨(n+1,.mp (kvB B))::(n,.mp (kvB A))::o,n+2⟩:Hp).get (n+1)=some (.mp (kvB B)):=by
  unfold Hp.get;simp[Zv.look]
 have hp:=putK_B c B
 simp only[hg,stor_d,if_true,norm_d,hp,Option.map_some]
 simp[Hp.set,upd]
def cG (A:List Int):List Pt→List Int
 | []=>A
 |p::_=>if kdP p=1 then addI A (cnP p) else A
def nG (B:List Int):List Pt→List Int
 | []=>B
 |p::_=>if kdP p=2 then addI B (nmP p) else B
def consS (l:List (List Pt)):List Int:=l.foldl cG []
def numsS (l:List (List Pt)):List Int:=l.foldl nG []
theorem fold2:∀ (l:List (List Pt)) (A B:List Int),l.foldl (fun (s:List Int × List Int) r=>(cG s.1 r,nG s.2 r)) (A,B)=(l.foldl cG A,l.foldl nG B)
 | [],A,B=>rfl
 |r::l,A,B=>by rw[List.foldl_cons,fold2 l];rfl
theorem ePt_1 (p:Pt):(ePt p).cells[1]? = some (.int .i64 (cnP p)):=by obtain ⟨k,c,n,qs⟩:=p;rw[ePt_cs];rfl
theorem ePt_2 (p:Pt):(ePt p).cells[2]? = some (.int .i64 (nmP p)):=by obtain ⟨k,c,n,qs⟩:=p;rw[ePt_cs];rfl
theorem heads_ok (l:List (List Pt)) (hl:l.length≤1000) (hr:∀ r,r ∈ l→r≠[]) (h:Hp) :
  callW tab 110 [.d (eRs l)] h=some (.tup [.map h.next,.map (h.next+1)],HM2 h.objs h.next (consS l) (numsS l)):=by
 refine call_wp (fn:=f110) rfl rfl ?_
 have hloop:=loop_fold (T:=tab) (a:=f110l0) (l:=l) (fun n (_:List Int × List Int)=>[(4,.map h.next),(5,.map (h.next+1)),(10,.d (eRs l)),(11,.d (.int .i64 (l.length:Int))),(12,.d (.int .i64 (n:Int)))]) (fun _ s=>HM2 h.objs h.next s.1 s.2) (fun _ _=>True) (fun s r=>(cG s.1 r,nG s.2 r))
  (fun s=>(.exit 0,[(4,.map h.next),(5,.map (h.next+1)),(10,.d (eRs l)),(11,.d (.int .i64 (l.length:Int))),(12,.d (.int .i64 (l.length:Int))),(13,.d (.bool false))],HM2 h.objs h.next s.1 s.2))
  (by
   intro n s x hx hlt _
   refine ⟨?_,trivial⟩
   obtain ⟨p,r,rfl⟩:=List.exists_cons_of_ne_nil (hr x (List.mem_of_getElem? hx))
   apply wq_ex.1
   simp only[cG,nG]
   by_cases k1:kdP p=1
   ·have k2:¬ kdP p=2:=by omega
    simp only[hlt,e110,iaR hx,iaP0,iaP0',pts,ePt_k,ePt_1,ibeq,k1,k2,HM2_muA,wrap_succ (show n<2 ^ 62 by omega),wz,opX,intBin,↓reduceIte,simprocAttr]
   ·by_cases k2:kdP p=2
    ·simp only[hlt,e110,iaR hx,iaP0,iaP0',pts,ePt_k,ePt_2,ibeq,k1,k2,HM2_muB,wrap_succ (show n<2 ^ 62 by omega),wz,opX,intBin,↓reduceIte,simprocAttr]
    ·simp only[hlt,e110,iaR hx,iaP0,iaP0',pts,ePt_k,ibeq,k1,k2,wrap_succ (show n<2 ^ 62 by omega),wz,opX,intBin,↓reduceIte,simprocAttr])
  (by
   intro s _
   apply wq_ex.1
   simp only[e110,wz,opX,intBin,↓reduceIte,simprocAttr])
  (by intro s;simp) ([],[]) trivial
 rw[fold2] at hloop
 simp only[Int.cast_ofNat_Int] at hloop
 have e0:HM2 h.objs h.next [] []=⟨(h.next+1,.mp [])::(h.next,.mp [])::h.objs,h.next+1+1⟩:=rfl
 rw[e0] at hloop
 simp only[e110,wq_of hloop,wz,opX,intBin,↓reduceIte,simprocAttr]
 rfl
end Zc28
end
section
set_option maxHeartbeats 4000000
namespace Zc28
open Go Zv Zs
structure Co where
 path:List Int
 ty:Int
abbrev eO (p:Co):D:=.agg [eIs p.path,eI p.ty]
abbrev eOs (l:List Co):D:=.lst (l.map eO)
theorem iaO {l:List Co} {n:Nat} {x:Co} (hx:l[n]? = some x):ia 2 (.d (.lst (l.map eO))) (.d (.int .i64 (n:Int)))=some (.fp (eO x) 0):=ia_map (f:=eO) .i64 hx rfl
theorem ocells {l:List Co}:∀ y,y ∈ l.map eO→y.cells.length=2:=by
 intro y hy
 obtain ⟨p,_,rfl⟩:=List.mem_map.1 hy
 rfl
structure Rw where
 n:Int
 pats:List Pt
abbrev eW (p:Rw):D:=.agg [eI p.n,ePs p.pats]
abbrev eWs (l:List Rw):D:=.lst (l.map eW)
theorem iaW {l:List Rw} {n:Nat} {x:Rw} (hx:l[n]? = some x):ia 2 (.d (.lst (l.map eW))) (.d (.int .i64 (n:Int)))=some (.fp (eW x) 0):=ia_map (f:=eW) .i64 hx rfl
abbrev zO:D:=.agg [.lst [],.int .i64 0]
theorem growO_ok (n:Nat) (hn:n≤100000) (h:Hp):callW tab 128 [.tl [] (some true),.d (.int .i64 (n:Int))] h=some (if n=0 then (.tl [] (some true),h) else (.own h.next 2 n 0 0,⟨(h.next,.arr 2 ((List.replicate n zO).map .d))::h.objs,h.next+1⟩)):=by
 refine call_wp (fn:=f128) rfl rfl ?_
 have hc:capT (.tl [] (some true))=some (.d (.int .i64 0)):=rfl
 have h0:IntKind.i64.wrap 0=0:=rfl
 have hw:IntKind.i64.wrap ((n:Int) - IntKind.i64.wrap 0)=(n:Int):=by rw[h0,wrap_ok (by omega) (by omega)];omega
 have hneg:¬ (n:Int)<0:=by omega
 by_cases hz:n=0
 ·subst hz
  simp only[e128,hc,h0,wz,opX,intBin,↓reduceIte,simprocAttr]
 ·have hp:(0:Int)<(n:Int):=by omega
  have s1:slc 2 (.tl [] (some true)) none (some (.d (.int .i64 0)))=some (.tl [] (some true)):=rfl
  have s2:appz (.d zO) 2 32 h (.tl [] (some true)) (.d (.int .i64 (n:Int)))=some (.own h.next 2 n 0 n,⟨(h.next,.arr 2 ((List.replicate n zO).map .d))::h.objs,h.next+1⟩):=by
   have hb:n*32≤roomB∧n<2 ^ 62:=⟨by unfold roomB;omega,by omega⟩
   simp only[appz,ixOf_nat,Option.bind_some]
   rw[if_pos hb,if_neg hz]
   simp[Hp.alloc]
  have s3:∀ m,slc 2 (.own m 2 n 0 n) none (some (.d (.int .i64 0)))=some (.own m 2 n 0 0):=by
   intro m
   simp[slc,bnd,ixOf]
  have s4:(n=0)=False:=by simp[hz]
  simp only[e128,hc,hw,hneg,hp,s1,s2,s3,s4,wz,opX,intBin,↓reduceIte,simprocAttr]
theorem concatO_ok (ls:List (List D)) (hl:ls.length≤100) (hc:∀ l,l ∈ ls→∀ y,y ∈ l→y.cells.length=2) (ht:totL ls≤100000) (h:Hp) :
  callW tab 84 [.d (eLL ls)] h=some (.d (.lst ls.flatten),h):=by
 refine call_wp (fn:=f84) rfl rfl ?_
 simp only[e84,wz,opX,intBin,↓reduceIte,simprocAttr]
 have z0:totL (ls.take 0)=0:=rfl
 have hgr:=fun h=>growO_ok (totL ls) ht h
 refine loop_wp ls.length (fun n e h'=>h'=h∧e=[(0,.d (eLL ls)),(3,.d (.int .i64 ((totL (ls.take n):Nat):Int))),(9,.d (eLL ls)),(10,.d (.int .i64 ls.length)),(11,.d (.int .i64 (n:Int)))]) _ ?_ ?_ ls.length 0 _ _ (by omega) ⟨rfl,rfl⟩
 ·rintro n e h' hn ⟨rfl,rfl⟩
  obtain ⟨x,hx⟩:=get_of_lt hn
  have hwr:IntKind.i64.wrap ((n:Int)+1)=((n+1:Nat):Int):=by rw[wrap_ok (by omega) (by omega)];rfl
  have h1:=totL_take hx
  have h2:=totL_le ls (n+1)
  have hw2:IntKind.i64.wrap (((totL (ls.take n):Nat):Int)+(x.length:Int))=((totL (ls.take (n+1)):Nat):Int):=by rw[wrap_ok (by omega) (by omega)];omega
  have hneg:¬ ((totL (ls.take (n+1)):Nat):Int)<0:=by omega
  simp only[e84,hn,iaLL hx,hw2,hneg,hwr,wz,opX,intBin,↓reduceIte,simprocAttr]
 ·rintro e h' ⟨rfl,rfl⟩
  rw[List.take_length]
  by_cases hp:totL ls=0
  ·rw[hp]
   have hgr:∀ h,callW tab 128 [.tl [] (some true),.d (.int .i64 0)] h=some (.tl [] (some true),h):=fun h=>(growO_ok 0 (by omega) h).trans rfl
   have hfl:ls.flatten=[]:=List.eq_nil_of_length_eq_zero hp
   simp only[e84,hgr,wz,opX,intBin,↓reduceIte,simprocAttr]
   refine loop_wp ls.length (fun n e h''=>h''=h'∧e=[(6,.tl [] (some true)),(25,.d (eLL ls)),(26,.d (.int .i64 ls.length)),(27,.d (.int .i64 (n:Int)))]) _ ?_ ?_ ls.length 0 _ _ (by omega) ⟨rfl,rfl⟩
   ·rintro n e h'' hn ⟨rfl,rfl⟩
    obtain ⟨x,hx⟩:=get_of_lt hn
    have hwr:IntKind.i64.wrap ((n:Int)+1)=((n+1:Nat):Int):=by rw[wrap_ok (by omega) (by omega)];rfl
    have h1:=totL_take hx
    have h2:=totL_le ls (n+1)
    have hx0:x=[]:=List.eq_nil_of_length_eq_zero (by omega)
    subst hx0
    have happ:app 2 32 h'' (.tl [] (some true)) (.d (.lst []))=some (.tl [] (some true),h''):=rfl
    simp only[e84,hn,iaLL hx,happ,hwr,wz,opX,intBin,↓reduceIte,simprocAttr]
   ·rintro e h'' ⟨rfl,rfl⟩
    have hfin:finS h'' h'' [.tl [] (some true)]=some (.d (.lst []),h''):=by
     rw[finS,if_pos (suf_refl _)];rfl
    simp only[e84,hfin,hfl,wz,opX,intBin,↓reduceIte,simprocAttr]
  ·simp only[hp,if_false] at hgr
   simp only[e84,hgr,wz,opX,intBin,↓reduceIte,simprocAttr]
   refine loop_wp ls.length (fun n e h''=>h''=⟨(h'.next,.arr 2 (((ls.take n).flatten++List.replicate (totL ls - totL (ls.take n)) zO).map .d))::h'.objs,h'.next+1⟩∧e=[(6,.own h'.next 2 (totL ls) 0 (totL (ls.take n))),(25,.d (eLL ls)),(26,.d (.int .i64 ls.length)),(27,.d (.int .i64 (n:Int)))]) _ ?_ ?_ ls.length 0 _ _ (by omega) ⟨rfl,rfl⟩
   ·rintro n e h'' hn ⟨rfl,rfl⟩
    obtain ⟨x,hx⟩:=get_of_lt hn
    have hwr:IntKind.i64.wrap ((n:Int)+1)=((n+1:Nat):Int):=by rw[wrap_ok (by omega) (by omega)];rfl
    have h1:=totL_take hx
    have h2:=totL_le ls (n+1)
    have happ:=app_in (es:=2) (b:=32) (m:=h'.next) (tot:=totL ls) (q:=h'.next+1) (o:=h'.objs) (l:=(ls.take n).flatten) (r:=x) (z:=List.replicate (totL ls - totL (ls.take n)) zO)
     (hc x (List.mem_of_getElem? hx)) (by rw[List.length_replicate];unfold totL at h1 h2 ⊢; omega) (by rw[List.length_replicate];omega)
    have e1:(ls.take n).flatten.length=totL (ls.take n):=rfl
    have e2:((ls.take n).flatten++x).length=totL (ls.take (n+1)):=by rw[h1,List.length_append];rfl
    have e3:List.drop x.length (List.replicate (totL ls - totL (ls.take n)) zO)=List.replicate (totL ls - totL (ls.take (n+1))) zO:=by rw[List.drop_replicate];congr 1;omega
    rw[e1,e2,e3,←flat_take hx] at happ
    simp only[e84,hn,iaLL hx,happ,hwr,wz,opX,intBin,↓reduceIte,simprocAttr]
   ·rintro e h'' ⟨rfl,rfl⟩
    rw[List.take_length,Nat.sub_self]
    have hne:ls.flatten≠[]:=fun h=>hp (by unfold totL;rw[h];rfl)
    have hfin:=finS_clo (h:=h') (nl:=none) (es:=2) (n:=h'.next) (l:=ls.flatten) (Nat.le_refl _)
    unfold cloO cloV at hfin
    simp only[hne,if_false] at hfin
    have hfin:finS h' ⟨(h'.next,.arr 2 (ls.flatten.map .d))::h'.objs,h'.next+1⟩ [.own h'.next 2 (totL ls) 0 (totL ls)]=_:=hfin
    simp only[e84,List.replicate_zero,hfin,wz,opX,intBin,↓reduceIte,simprocAttr]
theorem replO_ok (l:List Co) (k:Nat) (ps:List Co) (hk:k<l.length) (hl:l.length≤10000) (hps:ps.length≤10000) (h:Hp) :
  callW tab 44 [.d (eOs l),.d (.int .i64 (k:Int)),.d (eOs ps)] h=some (.d (eOs (l.take k++ps++l.drop (k+1))),h):=by
 refine call_wp (fn:=f44) rfl rfl ?_
 have hw:IntKind.i64.wrap ((k:Int)+1)=((k+1:Nat):Int):=by rw[wrap_ok (by omega) (by omega)];rfl
 have s1:=slc_all (es:=2) (l:=l.map eO) (n:=k) ocells (by rw[List.length_map];omega)
 have s2:=slc_from (es:=2) (l:=l.map eO) (n:=k+1) ocells (by rw[List.length_map];omega)
 have hfl:[(l.map eO).take k,ps.map eO,(l.map eO).drop (k+1)].flatten=(l.take k++ps++l.drop (k+1)).map eO:=by
  simp[List.map_take,List.map_drop]
 have htot:totL [(l.map eO).take k,ps.map eO,(l.map eO).drop (k+1)]=(l.take k++ps++l.drop (k+1)).length:=by unfold totL;rw[hfl,List.length_map]
 have hle:(l.take k++ps++l.drop (k+1)).length≤20000:=by simp only[List.length_append,List.length_take,List.length_drop];omega
 have hcc:=concatO_ok [(l.map eO).take k,ps.map eO,(l.map eO).drop (k+1)] (by simp) (by
  intro x hx y hy
  simp only[List.mem_cons,List.not_mem_nil,or_false] at hx
  rcases hx with rfl | rfl | rfl
  ·exact ocells y (List.mem_of_mem_take hy)
  ·exact ocells y hy
  ·exact ocells y (List.mem_of_mem_drop hy)) (by omega)
 rw[hfl] at hcc
 have hcc:∀ h,callW tab 84 [.d (.lst [.lst ((l.map eO).take k),eOs ps,.lst ((l.map eO).drop (k+1))])] h=_:=hcc
 have hnt:∀ a b c:D,norm (.tl [.d a,.d b,.d c] (some false))=.d (.lst [a,b,c]):=fun _ _ _=>rfl
 simp only[e44,s1,s2,hw,hnt,hcc,wz,opX,intBin,↓reduceIte,simprocAttr]
abbrev zPt:D:=.agg [.int .i64 0,.int .i64 0,.int .i64 0,.lst []]
theorem growP_ok (n:Nat) (hn:n≤100000) (h:Hp):callW tab 127 [.tl [] (some true),.d (.int .i64 (n:Int))] h=some (if n=0 then (.tl [] (some true),h) else (.own h.next 4 n 0 0,⟨(h.next,.arr 4 ((List.replicate n zPt).map .d))::h.objs,h.next+1⟩)):=by
 refine call_wp (fn:=f127) rfl rfl ?_
 have hc:capT (.tl [] (some true))=some (.d (.int .i64 0)):=rfl
 have h0:IntKind.i64.wrap 0=0:=rfl
 have hw:IntKind.i64.wrap ((n:Int) - IntKind.i64.wrap 0)=(n:Int):=by rw[h0,wrap_ok (by omega) (by omega)];omega
 have hneg:¬ (n:Int)<0:=by omega
 by_cases hz:n=0
 ·subst hz
  simp only[e127,hc,h0,wz,opX,intBin,↓reduceIte,simprocAttr]
 ·have hp:(0:Int)<(n:Int):=by omega
  have s1:slc 4 (.tl [] (some true)) none (some (.d (.int .i64 0)))=some (.tl [] (some true)):=rfl
  have s2:appz (.d zPt) 4 48 h (.tl [] (some true)) (.d (.int .i64 (n:Int)))=some (.own h.next 4 n 0 n,⟨(h.next,.arr 4 ((List.replicate n zPt).map .d))::h.objs,h.next+1⟩):=by
   have hb:n*48≤roomB∧n<2 ^ 62:=⟨by unfold roomB;omega,by omega⟩
   simp only[appz,ixOf_nat,Option.bind_some]
   rw[if_pos hb,if_neg hz]
   simp[Hp.alloc]
  have s3:∀ m,slc 4 (.own m 4 n 0 n) none (some (.d (.int .i64 0)))=some (.own m 4 n 0 0):=by
   intro m
   simp[slc,bnd,ixOf]
  have s4:(n=0)=False:=by simp[hz]
  simp only[e127,hc,hw,hneg,hp,s1,s2,s3,s4,wz,opX,intBin,↓reduceIte,simprocAttr]
theorem concatP_ok (ls:List (List D)) (hl:ls.length≤100) (hc:∀ l,l ∈ ls→∀ y,y ∈ l→y.cells.length=4) (ht:totL ls≤100000) (h:Hp) :
  callW tab 83 [.d (eLL ls)] h=some (.d (.lst ls.flatten),h):=by
 refine call_wp (fn:=f83) rfl rfl ?_
 simp only[e83,wz,opX,intBin,↓reduceIte,simprocAttr]
 have z0:totL (ls.take 0)=0:=rfl
 have hgr:=fun h=>growP_ok (totL ls) ht h
 refine loop_wp ls.length (fun n e h'=>h'=h∧e=[(0,.d (eLL ls)),(3,.d (.int .i64 ((totL (ls.take n):Nat):Int))),(9,.d (eLL ls)),(10,.d (.int .i64 ls.length)),(11,.d (.int .i64 (n:Int)))]) _ ?_ ?_ ls.length 0 _ _ (by omega) ⟨rfl,rfl⟩
 ·rintro n e h' hn ⟨rfl,rfl⟩
  obtain ⟨x,hx⟩:=get_of_lt hn
  have hwr:IntKind.i64.wrap ((n:Int)+1)=((n+1:Nat):Int):=by rw[wrap_ok (by omega) (by omega)];rfl
  have h1:=totL_take hx
  have h2:=totL_le ls (n+1)
  have hw2:IntKind.i64.wrap (((totL (ls.take n):Nat):Int)+(x.length:Int))=((totL (ls.take (n+1)):Nat):Int):=by rw[wrap_ok (by omega) (by omega)];omega
  have hneg:¬ ((totL (ls.take (n+1)):Nat):Int)<0:=by omega
  simp only[e83,hn,iaLL hx,hw2,hneg,hwr,wz,opX,intBin,↓reduceIte,simprocAttr]
 ·rintro e h' ⟨rfl,rfl⟩
  rw[List.take_length]
  by_cases hp:totL ls=0
  ·rw[hp]
   have hgr:∀ h,callW tab 127 [.tl [] (some true),.d (.int .i64 0)] h=some (.tl [] (some true),h):=fun h=>(growP_ok 0 (by omega) h).trans rfl
   have hfl:ls.flatten=[]:=List.eq_nil_of_length_eq_zero hp
   simp only[e83,hgr,wz,opX,intBin,↓reduceIte,simprocAttr]
   refine loop_wp ls.length (fun n e h''=>h''=h'∧e=[(6,.tl [] (some true)),(25,.d (eLL ls)),(26,.d (.int .i64 ls.length)),(27,.d (.int .i64 (n:Int)))]) _ ?_ ?_ ls.length 0 _ _ (by omega) ⟨rfl,rfl⟩
   ·rintro n e h'' hn ⟨rfl,rfl⟩
    obtain ⟨x,hx⟩:=get_of_lt hn
    have hwr:IntKind.i64.wrap ((n:Int)+1)=((n+1:Nat):Int):=by rw[wrap_ok (by omega) (by omega)];rfl
    have h1:=totL_take hx
    have h2:=totL_le ls (n+1)
    have hx0:x=[]:=List.eq_nil_of_length_eq_zero (by omega)
    subst hx0
    have happ:app 4 48 h'' (.tl [] (some true)) (.d (.lst []))=some (.tl [] (some true),h''):=rfl
    simp only[e83,hn,iaLL hx,happ,hwr,wz,opX,intBin,↓reduceIte,simprocAttr]
   ·rintro e h'' ⟨rfl,rfl⟩
    have hfin:finS h'' h'' [.tl [] (some true)]=some (.d (.lst []),h''):=by
     rw[finS,if_pos (suf_refl _)];rfl
    simp only[e83,hfin,hfl,wz,opX,intBin,↓reduceIte,simprocAttr]
  ·simp only[hp,if_false] at hgr
   simp only[e83,hgr,wz,opX,intBin,↓reduceIte,simprocAttr]
   refine loop_wp ls.length (fun n e h''=>h''=⟨(h'.next,.arr 4 (((ls.take n).flatten++List.replicate (totL ls - totL (ls.take n)) zPt).map .d))::h'.objs,h'.next+1⟩∧e=[(6,.own h'.next 4 (totL ls) 0 (totL (ls.take n))),(25,.d (eLL ls)),(26,.d (.int .i64 ls.length)),(27,.d (.int .i64 (n:Int)))]) _ ?_ ?_ ls.length 0 _ _ (by omega) ⟨rfl,rfl⟩
   ·rintro n e h'' hn ⟨rfl,rfl⟩
    obtain ⟨x,hx⟩:=get_of_lt hn
    have hwr:IntKind.i64.wrap ((n:Int)+1)=((n+1:Nat):Int):=by rw[wrap_ok (by omega) (by omega)];rfl
    have h1:=totL_take hx
    have h2:=totL_le ls (n+1)
    have happ:=app_in (es:=4) (b:=48) (m:=h'.next) (tot:=totL ls) (q:=h'.next+1) (o:=h'.objs) (l:=(ls.take n).flatten) (r:=x) (z:=List.replicate (totL ls - totL (ls.take n)) zPt)
     (hc x (List.mem_of_getElem? hx)) (by rw[List.length_replicate];unfold totL at h1 h2 ⊢; omega) (by rw[List.length_replicate];omega)
    have e1:(ls.take n).flatten.length=totL (ls.take n):=rfl
    have e2:((ls.take n).flatten++x).length=totL (ls.take (n+1)):=by rw[h1,List.length_append];rfl
    have e3:List.drop x.length (List.replicate (totL ls - totL (ls.take n)) zPt)=List.replicate (totL ls - totL (ls.take (n+1))) zPt:=by rw[List.drop_replicate];congr 1;omega
    rw[e1,e2,e3,←flat_take hx] at happ
    simp only[e83,hn,iaLL hx,happ,hwr,wz,opX,intBin,↓reduceIte,simprocAttr]
   ·rintro e h'' ⟨rfl,rfl⟩
    rw[List.take_length,Nat.sub_self]
    have hne:ls.flatten≠[]:=fun h=>hp (by unfold totL;rw[h];rfl)
    have hfin:=finS_clo (h:=h') (nl:=none) (es:=4) (n:=h'.next) (l:=ls.flatten) (Nat.le_refl _)
    unfold cloO cloV at hfin
    simp only[hne,if_false] at hfin
    have hfin:finS h' ⟨(h'.next,.arr 4 (ls.flatten.map .d))::h'.objs,h'.next+1⟩ [.own h'.next 4 (totL ls) 0 (totL ls)]=_:=hfin
    simp only[e83,List.replicate_zero,hfin,wz,opX,intBin,↓reduceIte,simprocAttr]
theorem replP_ok (l:List Pt) (k:Nat) (ps:List Pt) (hk:k<l.length) (hl:l.length≤10000) (hps:ps.length≤10000) (h:Hp) :
  callW tab 43 [.d (ePs l),.d (.int .i64 (k:Int)),.d (ePs ps)] h=some (.d (ePs (l.take k++ps++l.drop (k+1))),h):=by
 refine call_wp (fn:=f43) rfl rfl ?_
 have hw:IntKind.i64.wrap ((k:Int)+1)=((k+1:Nat):Int):=by rw[wrap_ok (by omega) (by omega)];rfl
 have s1:=slc_all (es:=4) (l:=l.map ePt) (n:=k) ptcells (by rw[List.length_map];omega)
 have s2:=slc_from (es:=4) (l:=l.map ePt) (n:=k+1) ptcells (by rw[List.length_map];omega)
 have hfl:[(l.map ePt).take k,ps.map ePt,(l.map ePt).drop (k+1)].flatten=(l.take k++ps++l.drop (k+1)).map ePt:=by
  simp[List.map_take,List.map_drop]
 have htot:totL [(l.map ePt).take k,ps.map ePt,(l.map ePt).drop (k+1)]=(l.take k++ps++l.drop (k+1)).length:=by unfold totL;rw[hfl,List.length_map]
 have hle:(l.take k++ps++l.drop (k+1)).length≤20000:=by simp only[List.length_append,List.length_take,List.length_drop];omega
 have hcc:=concatP_ok [(l.map ePt).take k,ps.map ePt,(l.map ePt).drop (k+1)] (by simp) (by
  intro x hx y hy
  simp only[List.mem_cons,List.not_mem_nil,or_false] at hx
  rcases hx with rfl | rfl | rfl
  ·exact ptcells y (List.mem_of_mem_take hy)
  ·exact ptcells y hy
  ·exact ptcells y (List.mem_of_mem_drop hy)) (by omega)
 rw[hfl] at hcc
 have hcc:∀ h,callW tab 83 [.d (.lst [.lst ((l.map ePt).take k),ePs ps,.lst ((l.map ePt).drop (k+1))])] h=_:=hcc
 have hnt:∀ a b c:D,norm (.tl [.d a,.d b,.d c] (some false))=.d (.lst [a,b,c]):=fun _ _ _=>rfl
 simp only[e43,s1,s2,hw,hnt,hcc,wz,opX,intBin,↓reduceIte,simprocAttr]
end Zc28
end
section
set_option maxHeartbeats 4000000
namespace Zc28
open Go Zv Zs
mutual
def nwP:Pt→Nat
 | .mk k _ _ qs=>if k=0 then 0 else 1+nwL qs
def nwL:List Pt→Nat
 | []=>0
 |p::r=>nwP p+nwL r
end
def nwS:List (List Pt)→Nat
 | []=>0
 |r::l=>nwL r+nwS l
theorem nwL_app:∀ (a b:List Pt),nwL (a++b)=nwL a+nwL b
 | [],b=>by simp[nwL]
 |p::a,b=>by rw[List.cons_append,nwL,nwL,nwL_app a b];omega
theorem nwL_wild:∀ n:Nat,nwL (List.replicate n wildT)=0
 |0=>rfl
 |n+1=>by rw[List.replicate_succ,nwL,nwL_wild n];simp[wildT,nwP]
theorem spF_nw {c:Int} {n:Nat} {r r':List Pt} (h:spF c n r=some r'):nwL r'≤nwL r∧(∀ p s,r=p::s→kdP p=1→nwL r'+1≤nwL r):=by
 cases r with
 |nil=>cases h
 |cons p s=>
  obtain ⟨k,c',m,qs⟩:=p
  simp only[spF] at h
  by_cases k0:k=0
  ·rw[if_pos k0] at h
   cases h
   refine ⟨by rw[nwL_app,nwL_wild,nwL];omega,?_⟩
   intro p s' e k1
   cases e
   simp only[kdP] at k1
   omega
  ·rw[if_neg k0] at h
   split at h
   ·cases h
    have e:nwL (qs++s)+1=nwL (.mk k c' m qs::s):=by rw[nwL_app,nwL,nwP,if_neg k0];omega
    exact⟨by omega,fun _ _ _ _=>by omega⟩
   ·cases h
theorem spS_nw (c:Int) (n:Nat):∀ l:List (List Pt),nwS (spS c n l)≤nwS l
 | []=>Nat.le_refl _
 |r::l=>by
  have ih:=spS_nw c n l
  unfold spS at ih ⊢
  rw[List.filterMap_cons,nwS]
  cases h:spF c n r with
  |none=>simp only;omega
  |some r'=>have:=(spF_nw h).1;simp only[nwS];omega
theorem spS_nw1 (c:Int) (n:Nat):∀ l:List (List Pt),(∃ p s,(p::s) ∈ l∧kdP p=1∧cnP p=c)→nwS (spS c n l)+1≤nwS l
 | [],⟨_,_,h,_⟩=>by cases h
 |r::l,⟨p,s,hm,k1,c1⟩=>by
  rcases List.mem_cons.1 hm with e | hm
  ·subst e
   have ih:=spS_nw c n l
   unfold spS at ih ⊢
   rw[List.filterMap_cons,nwS]
   cases h:spF c n (p::s) with
   |none=>
    obtain ⟨k,c',m,qs⟩:=p
    simp only[kdP] at k1
    simp only[cnP] at c1
    simp only[spF,k1,c1] at h
    simp at h
   |some r'=>have:=(spF_nw h).2 p s rfl k1;simp only[nwS];omega
  ·have ih:=spS_nw1 c n l ⟨p,s,hm,k1,c1⟩
   unfold spS at ih ⊢
   rw[List.filterMap_cons,nwS]
   cases h:spF c n r with
   |none=>simp only;omega
   |some r'=>have:=(spF_nw h).1;simp only[nwS];omega
theorem restF_nw {keep:Pt→Bool} {r r':List Pt} (h:restF keep r=some r'):nwL r'≤nwL r:=by
 cases r with
 |nil=>cases h
 |cons p s=>
  simp only[restF] at h
  split at h
  ·cases h;rw[nwL];omega
  ·cases h
theorem restS_nw (keep:Pt→Bool):∀ l:List (List Pt),nwS (restS keep l)≤nwS l
 | []=>Nat.le_refl _
 |r::l=>by
  have ih:=restS_nw keep l
  unfold restS at ih ⊢
  rw[List.filterMap_cons,nwS]
  cases h:restF keep r with
  |none=>simp only;omega
  |some r'=>have:=restF_nw h;simp only[nwS];omega
theorem fm_len {α β:Type} (f:α→Option β) (l:List α):(l.filterMap f).length≤l.length:=List.length_filterMap_le f l
def fldsOf (d:List Dt) (t:Int) (i:Nat):List Int:=match (consOf d t)[i]? with
 |some z=>z.flds
 |none=>[]
def fitR (d:List Dt):List Int→List Pt→Bool
 | [],[]=>true
 |t::ts,p::r=>fitsP d t p && fitR d ts r
 |_,_=>false
theorem fitR_len {d:List Dt}:∀ {ts:List Int} {r:List Pt},fitR d ts r=true→r.length=ts.length
 | [],[],_=>rfl
 |t::ts,p::r,h=>by
  simp only[fitR,Bool.and_eq_true] at h
  rw[List.length_cons,List.length_cons,fitR_len h.2]
 | [],_::_,h=>by cases h
 |_::_,[],h=>by cases h
theorem fitR_app {d:List Dt}:∀ {fs ts:List Int} {qs r:List Pt},fitR d fs qs=true→fitR d ts r=true→fitR d (fs++ts) (qs++r)=true
 | [],ts,[],r,_,h=>h
 |f::fs,ts,q::qs,r,h,h'=>by
  simp only[fitR,Bool.and_eq_true] at h
  simp only[List.cons_append,fitR,Bool.and_eq_true]
  exact⟨h.1,fitR_app h.2 h'⟩
 | [],_,_::_,_,h,_=>by cases h
 |_::_,_,[],_,h,_=>by cases h
theorem fits_wild (d:List Dt) (t:Int):fitsP d t wildT=true:=by
 unfold wildT;rw[fitsP];rfl
theorem fitR_wild (d:List Dt):∀ fs:List Int,fitR d fs (List.replicate fs.length wildT)=true
 | []=>rfl
 |f::fs=>by
  rw[List.length_cons,List.replicate_succ,fitR,fits_wild,fitR_wild d fs];rfl
theorem fitR_of_L {d:List Dt}:∀ {fs:List Int} {qs:List Pt},fs.length=qs.length→fitsL d fs qs=true→fitR d fs qs=true
 | [],[],_,_=>rfl
 |f::fs,q::qs,hl,h=>by
  simp only[fitsL,Bool.and_eq_true] at h
  simp only[fitR,Bool.and_eq_true]
  exact⟨h.1,fitR_of_L (by simpa using hl) h.2⟩
 | [],_::_,h,_=>by cases h
 |_::_,[],h,_=>by cases h
theorem fits_cases {d:List Dt} {t k c m:Int} {qs:List Pt} (h:fitsP d t (.mk k c m qs)=true) :
  (k=0∧c=0∧m=0∧qs=[])∨(k=2∧t=0∧c=0∧qs=[])∨(k=1∧t≠0∧m=0∧∃ i:Nat,∃ z,c=(i:Int)∧(consOf d t)[i]? = some z∧z.flds.length=qs.length∧fitR d z.flds qs=true):=by
 rw[fitsP] at h
 by_cases k0:k=0
 ·rw[if_pos k0] at h
  simp only[Bool.and_eq_true,decide_eq_true_eq] at h
  exact .inl ⟨k0,h.1.1,h.1.2,List.eq_nil_of_length_eq_zero h.2⟩
 ·rw[if_neg k0] at h
  by_cases k2:k=2
  ·rw[if_pos k2] at h
   simp only[Bool.and_eq_true,decide_eq_true_eq] at h
   exact .inr (.inl ⟨k2,h.1.1,h.1.2,List.eq_nil_of_length_eq_zero h.2⟩)
  ·rw[if_neg k2] at h
   by_cases k1:k=1
   ·rw[if_pos k1] at h
    simp only[Bool.and_eq_true,Bool.not_eq_true',Bool.or_eq_false_iff,decide_eq_false_iff_not,Bool.not_eq_false',decide_eq_true_eq] at h
    obtain ⟨⟨⟨⟨h1,h2⟩,h3⟩,h4⟩,h5⟩:=h
    cases hz:(consOf d t)[c.toNat]? with
    |none=>rw[hz] at h5;cases h5
    |some z=>
     rw[hz] at h5
     simp only[Bool.and_eq_true,decide_eq_true_eq] at h5
     exact .inr (.inr ⟨k1,h1,h2,c.toNat,z,by omega,hz,h5.1,fitR_of_L h5.1 h5.2⟩)
   ·rw[if_neg k1] at h;cases h
theorem spF_fit {d:List Dt} {t:Int} {ts:List Int} {i:Nat} {r r':List Pt} (hf:fitR d (t::ts) r=true) (h:spF (i:Int) (fldsOf d t i).length r=some r'):fitR d (fldsOf d t i++ts) r'=true:=by
 cases r with
 |nil=>cases h
 |cons p s=>
  simp only[fitR,Bool.and_eq_true] at hf
  obtain ⟨k,c',m,qs⟩:=p
  simp only[spF] at h
  split at h
  ·cases h;exact fitR_app (fitR_wild d _) hf.2
  ·split at h
   ·rename_i hk
    cases h
    rcases fits_cases hf.1 with h1 | h1 | ⟨_,_,_,j,z,e,hz,_,hR⟩
    ·omega
    ·omega
    ·have:j=i:=by omega
     subst this
     unfold fldsOf
     rw[hz]
     exact fitR_app hR hf.2
   ·cases h
theorem restF_fit {d:List Dt} {t:Int} {ts:List Int} {keep:Pt→Bool} {r r':List Pt} (hf:fitR d (t::ts) r=true) (h:restF keep r=some r'):fitR d ts r'=true:=by
 cases r with
 |nil=>cases h
 |cons p s=>
  simp only[fitR,Bool.and_eq_true] at hf
  simp only[restF] at h
  split at h
  ·cases h;exact hf.2
  ·cases h
def fitM (d:List Dt) (ts:List Int) (l:List (List Pt)):Prop:=∀ r,r ∈ l→fitR d ts r=true
theorem spS_fit {d:List Dt} {t:Int} {ts:List Int} {l:List (List Pt)} (i:Nat) (h:fitM d (t::ts) l):fitM d (fldsOf d t i++ts) (spS (i:Int) (fldsOf d t i).length l):=by
 intro r hr
 obtain ⟨q,hq,hs⟩:=List.mem_filterMap.1 hr
 exact spF_fit (h q hq) hs
theorem restS_fit {d:List Dt} {t:Int} {ts:List Int} {l:List (List Pt)} (keep:Pt→Bool) (h:fitM d (t::ts) l):fitM d ts (restS keep l):=by
 intro r hr
 obtain ⟨q,hq,hs⟩:=List.mem_filterMap.1 hr
 exact restF_fit (h q hq) hs
def usS (d:List Dt):Nat→List Int→List (List Pt)→List Pt→Bool
 |0,_,_,_=>false
 |_+1,[],rows,_=>decide (rows.length=0)
 |k+1,t::ts,rows,.mk kd c m qs::r=>
  if kd=1 then usS d k (fldsOf d t c.toNat++ts) (spS c qs.length rows) (qs++r)
  else if kd=2 then usS d k ts (restS (fun q=>wildP q || decide (nmP q=m)) rows) r
  else if t=0∨(consS rows).length<(consOf d t).length then usS d k ts (restS wildP rows) r
  else (List.range (consOf d t).length).any fun i=>usS d k (fldsOf d t i++ts) (spS (i:Int) (fldsOf d t i).length rows) (List.replicate (fldsOf d t i).length wildT++r)
 |_+1,_::_,_,[]=>false
end Zc28
end
section
set_option maxHeartbeats 4000000
namespace Zc28
open Go Zv Zs
theorem addI_mem {s:List Int} {c x:Int}:x ∈ addI s c ↔ x ∈ s∨x=c:=by
 unfold addI
 split
 ·rename_i h
  constructor
  ·exact .inl
  ·rintro (h' | rfl)
   ·exact h'
   ·exact h
 ·simp
theorem addI_nodup {s:List Int} (c:Int) (h:s.Nodup):(addI s c).Nodup:=by
 unfold addI
 split
 ·exact h
 ·rename_i hc
  rw[List.nodup_append]
  exact⟨h,by simp,fun a ha b hb=>by simp at hb;subst hb;intro e;subst e;exact hc ha⟩
theorem cG_nodup {A:List Int} (r:List Pt) (h:A.Nodup):(cG A r).Nodup:=by
 unfold cG
 split
 ·exact h
 ·split
  ·exact addI_nodup _ h
  ·exact h
theorem foldc_nodup:∀ (l:List (List Pt)) (A:List Int),A.Nodup→(l.foldl cG A).Nodup
 | [],A,h=>h
 |r::l,A,h=>foldc_nodup l _ (cG_nodup r h)
theorem consS_nodup (l:List (List Pt)):(consS l).Nodup:=foldc_nodup l [] List.nodup_nil
theorem foldc_mem (c:Int):∀ (l:List (List Pt)) (A:List Int),c ∈ l.foldl cG A ↔ c ∈ A∨∃ p s,(p::s) ∈ l∧kdP p=1∧cnP p=c
 | [],A=>by simp
 |r::l,A=>by
  rw[List.foldl_cons,foldc_mem c l]
  cases r with
  |nil=>
   show (c ∈ A∨_) ↔ _
   simp
  |cons q s=>
   show (c ∈ (if kdP q=1 then addI A (cnP q) else A)∨_) ↔ _
   by_cases k1:kdP q=1
   ·rw[if_pos k1,addI_mem]
    constructor
    ·rintro ((h | h) | ⟨p,s',h1,h2,h3⟩)
     ·exact .inl h
     ·exact .inr ⟨q,s,List.mem_cons_self,k1,h.symm⟩
     ·exact .inr ⟨p,s',List.mem_cons_of_mem _ h1,h2,h3⟩
    ·rintro (h | ⟨p,s',h1,h2,h3⟩)
     ·exact .inl (.inl h)
     ·rcases List.mem_cons.1 h1 with e | h1
      ·cases e;exact .inl (.inr h3.symm)
      ·exact .inr ⟨p,s',h1,h2,h3⟩
   ·rw[if_neg k1]
    constructor
    ·rintro (h | ⟨p,s',h1,h2,h3⟩)
     ·exact .inl h
     ·exact .inr ⟨p,s',List.mem_cons_of_mem _ h1,h2,h3⟩
    ·rintro (h | ⟨p,s',h1,h2,h3⟩)
     ·exact .inl h
     ·rcases List.mem_cons.1 h1 with e | h1
      ·cases e;exact absurd h2 k1
      ·exact .inr ⟨p,s',h1,h2,h3⟩
theorem consS_mem (c:Int) (l:List (List Pt)):c ∈ consS l ↔ ∃ p s,(p::s) ∈ l∧kdP p=1∧cnP p=c:=by
 rw[consS,foldc_mem];simp
theorem sub_len {α:Type} [DecidableEq α]:∀ (s t:List α),s.Nodup→(∀ x,x ∈ s→x ∈ t)→s.length≤t.length
 | [],_,_,_=>Nat.zero_le _
 |x::s,t,hn,hs=>by
  rw[List.nodup_cons] at hn
  have hx:=hs x List.mem_cons_self
  have:=sub_len s (t.erase x) hn.2 (fun y hy=>(List.mem_erase_of_ne (fun (e:y=x)=>hn.1 (e▸hy))).2 (hs y (List.mem_cons_of_mem x hy)))
  rw[List.length_erase_of_mem hx] at this
  have:=List.length_pos_of_mem hx
  rw[List.length_cons];omega
theorem cons_all {s:List Int} {K:Nat} (hn:s.Nodup) (hr:∀ c,c ∈ s→∃ i:Nat,c=(i:Int)∧i<K) (hk:K≤s.length) {i:Nat} (hi:i<K):(i:Int) ∈ s:=by
 refine Decidable.byContradiction fun hc=>?_
 have:=sub_len s (((List.range K).map fun j:Nat=>(j:Int)).erase (i:Int)) hn (fun x hx=>by
  obtain ⟨j,rfl,hj⟩:=hr x hx
  refine (List.mem_erase_of_ne (fun (e:(j:Int)=(i:Int))=>hc (e▸hx))).2 (List.mem_map.2 ⟨j,List.mem_range.2 hj,rfl⟩))
 rw[List.length_erase_of_mem (List.mem_map.2 ⟨i,List.mem_range.2 hi,rfl⟩),List.length_map,List.length_range] at this
 omega
theorem consS_rng {d:List Dt} {t:Int} {ts:List Int} {l:List (List Pt)} (h:fitM d (t::ts) l):∀ c,c ∈ consS l→∃ i:Nat,c=(i:Int)∧i<(consOf d t).length:=by
 intro c hc
 obtain ⟨p,s,hm,k1,rfl⟩:=(consS_mem c l).1 hc
 have:=h _ hm
 simp only[fitR,Bool.and_eq_true] at this
 obtain ⟨k,c',m,qs⟩:=p
 simp only[kdP] at k1
 rcases fits_cases this.1 with h1 | h1 | ⟨_,_,_,i,z,e,hz,_⟩
 ·omega
 ·omega
 ·exact⟨i,e,(List.getElem?_eq_some_iff.1 hz).1⟩
theorem consS_le {d:List Dt} {t:Int} {ts:List Int} {l:List (List Pt)} (h:fitM d (t::ts) l):(consS l).length≤(consOf d t).length:=by
 have:=sub_len (consS l) ((List.range (consOf d t).length).map fun j:Nat=>(j:Int)) (consS_nodup l) (fun x hx=>by
  obtain ⟨j,rfl,hj⟩:=consS_rng h x hx
  exact List.mem_map.2 ⟨j,List.mem_range.2 hj,rfl⟩)
 simpa using this
theorem spS_down {d:List Dt} {t:Int} {ts:List Int} {l:List (List Pt)} (h:fitM d (t::ts) l) (hk:(consOf d t).length≤(consS l).length) {i:Nat} (hi:i<(consOf d t).length) (n:Nat):nwS (spS (i:Int) n l)+1≤nwS l:=
 spS_nw1 _ _ _ ((consS_mem _ l).1 (cons_all (consS_nodup l) (consS_rng h) hk hi))
theorem kdP_mk (k c n:Int) (qs:List Pt):kdP (.mk k c n qs)=k:=rfl
theorem cnP_mk (k c n:Int) (qs:List Pt):cnP (.mk k c n qs)=c:=rfl
theorem nmP_mk (k c n:Int) (qs:List Pt):nmP (.mk k c n qs)=n:=rfl
theorem sameP_mk (q:Pt) (k c n:Int) (qs:List Pt):sameP q (.mk k c n qs)=(decide (kdP q=k) && decide (cnP q=c) && decide (nmP q=n)):=rfl
end Zc28
end
