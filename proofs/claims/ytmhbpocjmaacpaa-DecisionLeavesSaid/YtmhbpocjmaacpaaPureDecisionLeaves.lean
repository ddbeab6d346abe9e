/-
  Parts of the proof.
-/
import Derived.Test.YtmhbpocjmaacpaaZc28C4
import Derived.Test.YtmhbpocjmaacpaaZc28U7
set_option linter.unusedSimpArgs false
set_option linter.unusedVariables false
section
set_option maxHeartbeats 4000000
namespace Zc28
open Go Zv Zs
def fstR (rows:List Rw) (vs:List Vl):Option Int:=(rows.find? fun r=>mtL r.pats vs).map Rw.n
theorem fst_fm {f:Rw→Option Rw} {vs vs':List Vl}:∀ (rows:List Rw),(∀ r,r ∈ rows→f r=none→mtL r.pats vs=false)→(∀ r,r ∈ rows→∀ r',f r=some r'→r'.n=r.n∧mtL r'.pats vs'=mtL r.pats vs)→fstR (rows.filterMap f) vs'=fstR rows vs
 | [],_,_=>rfl
 |r::rs,h0,h1=>by
  have ih:=fst_fm rs (fun r hr=>h0 r (.tail _ hr)) (fun r hr=>h1 r (.tail _ hr))
  unfold fstR at ih ⊢
  cases hf:f r with
  |none=>
   rw[List.filterMap_cons_none hf,ih,List.find?_cons,h0 r (.head _) hf]
  |some r'=>
   obtain ⟨e1,e2⟩:=h1 r (.head _) r' hf
   rw[List.filterMap_cons_some hf,List.find?_cons,List.find?_cons,e2]
   cases mtL r.pats vs with
   |true=>simp[e1]
   |false=>exact ih
theorem fst_some {rows:List Rw} {vs:List Vl} (h:(fstR rows vs).isSome=true):∃ r,r ∈ rows∧mtL r.pats vs=true∧fstR rows vs=some r.n:=by
 unfold fstR at h ⊢
 cases hf:rows.find? fun r=>mtL r.pats vs with
 |none=>rw[hf] at h;cases h
 |some r=>exact⟨r,List.mem_of_find?_eq_some hf,by have:=List.find?_some hf;simpa using this,rfl⟩
theorem fst_of {rows:List Rw} {vs:List Vl} {r:Rw} (hr:r ∈ rows) (hm:mtL r.pats vs=true):(fstR rows vs).isSome=true:=by
 unfold fstR
 cases hf:rows.find? fun r=>mtL r.pats vs with
 |none=>exact absurd hm (by have:=List.find?_eq_none.1 hf r hr;simpa using this)
 |some r=>rfl
theorem fst_head {rows:List Rw} {vs:List Vl} {r0:Rw} (h0:rows[0]? = some r0) (hm:mtL r0.pats vs=true):fstR rows vs=some r0.n:=by
 cases rows with
 |nil=>cases h0
 |cons r rs=>cases h0;unfold fstR;rw[List.find?_cons,hm];rfl
section
variable {d:List Dt} {k n:Nat} {cols:List Co} {rows:List Rw} {c:Co} {ca cb:List Co}
theorem At.con_fst (A:At d k n cols rows c ca cb) (ht:c.ty≠0) {i:Nat} {z:Cn} {m:Int} {va av vb:List Vl} (hz:(consOf d c.ty)[i]? = some z) (hva:va.length=n) (hav:av.length=z.flds.length):fstR (conRows n (i:Int) z.flds.length rows) (va++av++vb)=fstR rows (va++.mk m (i:Int) av::vb):=by
 refine fst_fm rows (fun r hr hf=>?_) (fun r hr r' hf=>?_)
 ·obtain ⟨pa,p,pb,hp,hpl,hpa,hput,f1,f2,f3⟩:=A.fit r hr
  unfold conRow at hf
  rw[hpa,Option.map_eq_none_iff] at hf
  rw[hp,mt_mid (by omega)]
  cases hm:mtP p (.mk m (i:Int) av) with
  |false=>simp
  |true=>
   obtain ⟨a,ha,_⟩:=args_mt f2 ht hav hm
   rw[ha] at hf;cases hf
 ·obtain ⟨pa,p,pb,hp,hpl,hpa,hput,f1,f2,f3⟩:=A.fit r hr
  unfold conRow at hf
  rw[hpa] at hf
  obtain ⟨a,ha,rfl⟩:=Option.map_eq_some_iff.1 hf
  rw[hput]
  refine ⟨rfl,?_⟩
  show mtL (pa++a++pb) _=_
  rw[hp,mt_mid (by omega)]
  have hma:mtP p (.mk m (i:Int) av)=mtL a av:=by
   obtain ⟨pk,pc,pm,pq⟩:=p
   unfold argsFor at ha
   rw[mtP]
   rcases fits_cases f2 with ⟨rfl,_⟩ | ⟨_,h2,_⟩ | ⟨rfl,_,_,j,y,rfl,hy,hyl,hfr⟩
   ·rw[if_pos (show kdP (Pt.mk 0 pc pm pq)=0 from rfl)] at ha
    cases ha
    rw[if_pos rfl,←hav];exact (mtL_wild av).symm
   ·exact absurd h2 ht
   ·rw[if_neg (show ¬ kdP (Pt.mk 1 (j:Int) pm pq)=0 from (by decide:¬ (1:Int)=0))] at ha
    split at ha
    ·rename_i hji
     have hji:(j:Int)=(i:Int):=hji
     cases ha
     rw[if_neg (by decide),if_neg (by decide),if_pos rfl,decide_eq_true hji.symm,Bool.true_and];rfl
    ·cases ha
  rw[hma]
  have hfl:=fitR_len (args_fit f2 ht hz ha)
  rw[mt_mid' (by omega) (by omega)]
theorem At.same_fst (A:At d k n cols rows c ca cb) (ht:c.ty=0) {pm m i:Int} {va av vb:List Vl} (hva:va.length=n) (hm:m=pm):fstR (sameRows n pm rows) (va++vb)=fstR rows (va++.mk m i av::vb):=by
 have key:∀ r,r ∈ rows→(sameB n pm r=true→mtL (putP r n []).pats (va++vb)=mtL r.pats (va++.mk m i av::vb))∧(sameB n pm r=false→mtL r.pats (va++.mk m i av::vb)=false):=by
  intro r hr
  obtain ⟨pa,p,pb,hp,hpl,hpa,hput,f1,f2,f3⟩:=A.fit r hr
  rw[hput,List.append_nil]
  show (_→mtL (pa++pb) _=_)∧_
  rw[hp,mt_mid (by omega),mtL_app (by omega)]
  unfold sameB
  rw[hpa]
  obtain ⟨pk,pc,pn,pq⟩:=p
  rw[mtP]
  rcases fits_cases f2 with ⟨rfl,_⟩ | ⟨rfl,_,_,_⟩ | ⟨_,h2,_⟩
  ·exact⟨fun _=>by rw[if_pos rfl,Bool.true_and],fun h=>by cases h⟩
  ·rw[if_neg (by decide),if_pos rfl]
   by_cases e:pn=pm
   ·subst e;subst hm
    exact⟨fun _=>by rw[decide_eq_true rfl,Bool.true_and],fun h=>by simp[nmP] at h⟩
   ·have e':¬ m=pn:=fun h=>e (by rw[←h,hm])
    refine ⟨fun h=>absurd h ?_,fun _=>by rw[decide_eq_false e',Bool.false_and,Bool.and_false]⟩
    show ¬ (decide ((2:Int)=0) || decide (pn=pm))=true
    rw[decide_eq_false e];decide
  ·exact absurd ht h2
 refine fst_fm rows (fun r hr hf=>?_) (fun r hr r' hf=>?_)
 ·split at hf
  ·cases hf
  ·rename_i hb
   exact (key r hr).2 (by simpa using hb)
 ·split at hf
  ·rename_i hb
   cases hf
   exact⟨rfl,(key r hr).1 hb⟩
  ·cases hf
theorem At.oth_fst (A:At d k n cols rows c ca cb) (ht:c.ty=0) {pm:Int} {v:Vl} {va vb:List Vl} (hva:va.length=n) (hm:numV v≠pm):fstR (othRows n pm rows) (va++v::vb)=fstR rows (va++v::vb):=by
 unfold othRows
 rw[filter_fm]
 refine fst_fm rows (fun r hr hf=>?_) (fun r hr r' hf=>?_)
 ·split at hf
  ·cases hf
  ·rename_i hb
   obtain ⟨pa,p,pb,hp,hpl,hpa,hput,f1,f2,f3⟩:=A.fit r hr
   rw[hp,mt_mid (by omega)]
   unfold othB at hb
   rw[hpa] at hb
   obtain ⟨pk,pc,pn,pq⟩:=p
   obtain ⟨vm,vc,vq⟩:=v
   rw[mtP]
   rcases fits_cases f2 with ⟨rfl,_⟩ | ⟨rfl,_,_,_⟩ | ⟨_,h2,_⟩
   ·exact absurd rfl hb
   ·rw[if_neg (by decide),if_pos rfl]
    have e:pn=pm:=by
     have hb:¬ (decide ((2:Int)=0) || decide (pn≠pm))=true:=hb
     by_cases e:pn=pm
     ·exact e
     ·rw[decide_eq_true e] at hb;exact absurd rfl hb
    have e':¬ vm=pn:=fun h=>hm (by show vm=pm;rw[h,e])
    rw[decide_eq_false e',Bool.false_and,Bool.and_false]
   ·exact absurd ht h2
 ·split at hf
  ·cases hf;exact⟨rfl,rfl⟩
  ·cases hf
end
def putE (es:List (List Int)) (n:Nat) (a:List (List Int)):List (List Int):=es.take n++a++es.drop (n+1)
def othE (es:List (List Int)) (n:Nat) (pm:Int):List (List Int):=putE es n [pm::es.getD n []]
theorem putE_mid {ea eb a:List (List Int)} {e:List Int} {k:Nat} (h:ea.length=k):putE (ea++e::eb) k a=ea++a++eb:=by
 unfold putE;subst h;simp
theorem othE_mid {ea eb:List (List Int)} {e:List Int} {k:Nat} {pm:Int} (h:ea.length=k):othE (ea++e::eb) k pm=ea++(pm::e)::eb:=by
 unfold othE;rw[putE_mid h];subst h;simp
structure CovE (d:List Dt) (es:List (List Int)) (cols:List Co) (rows:List Rw):Prop where
 len:es.length=cols.length
 all:∀ vs,domL d (cols.map Co.ty) es vs→(fstR rows vs).isSome=true
 fresh:∀ r,r ∈ rows→freshL (cols.map Co.ty) es r.pats
section
variable {d:List Dt} {k n:Nat} {cols:List Co} {rows:List Rw} {c:Co} {ca cb:List Co} {es:List (List Int)}
theorem At.exs (A:At d k n cols rows c ca cb) (C:CovE d es cols rows):∃ ea e eb,es=ea++e::eb∧ea.length=n∧eb.length=cb.length:=by
 have h:=C.len
 rw[A.e,List.length_append,List.length_cons] at h
 have hl:=A.l
 obtain ⟨e,he⟩:=get_of_lt (l:=es) (n:=n) (by omega)
 exact⟨_,e,_,take_drop_at he,by rw[List.length_take];omega,by rw[List.length_drop];omega⟩
theorem At.ty (A:At d k n cols rows c ca cb):cols.map Co.ty=ca.map Co.ty++c.ty::cb.map Co.ty:=by rw[A.e,List.map_append,List.map_cons]
theorem At.con_ty (A:At d k n cols rows c ca cb) (fs:List Int):(putC cols n (fldC c.path fs)).map Co.ty=ca.map Co.ty++fs++cb.map Co.ty:=by
 rw[A.e,putC_mid A.l,List.map_append,List.map_append,fldC_ty]
theorem At.same_ty (A:At d k n cols rows c ca cb):(putC cols n []).map Co.ty=ca.map Co.ty++cb.map Co.ty:=by
 rw[A.e,putC_mid A.l,List.append_nil,List.map_append]
theorem At.con_dom (A:At d k n cols rows c ca cb) (ht:c.ty≠0) {i:Nat} {z:Cn} (hz:(consOf d c.ty)[i]? = some z) (hl:es.length=cols.length) {vs:List Vl} (hv:domL d ((putC cols n (fldC c.path z.flds)).map Co.ty) (putE es n (List.replicate z.flds.length [])) vs) :
  ∃ va av vb,vs=va++av++vb∧va.length=n∧av.length=z.flds.length∧domL d (cols.map Co.ty) es (va++.mk 0 (i:Int) av::vb):=by
 have h:=hl
 rw[A.e,List.length_append,List.length_cons] at h
 have hal:=A.l
 obtain ⟨e,he⟩:=get_of_lt (l:=es) (n:=n) (by omega)
 have hes:=take_drop_at he
 have hla:(es.take n).length=n:=by rw[List.length_take];omega
 rw[A.con_ty,hes,putE_mid hla] at hv
 obtain ⟨w,vb,rfl,d1,d3⟩:=domL_split (by simp[hla,hal]) hv
 obtain ⟨va,av,rfl,d1,d2⟩:=domL_split (by rw[List.length_map,hla,hal]) d1
 have hty2:=domL_ty d2
 refine ⟨va,av,vb,rfl,by rw[(domL_len d1).1,List.length_map,hal],tyL_len hty2,?_⟩
 rw[A.ty,hes]
 exact dom_mid d1 ⟨by rw[tyV,if_neg ht];exact⟨i,z,rfl,hz,hty2⟩,fun h=>absurd h ht⟩ d3
theorem At.same_dom (A:At d k n cols rows c ca cb) (ht:c.ty=0) (hl:es.length=cols.length) {pm:Int} (hpm:pm ∉ es.getD n []) {vs:List Vl} (hv:domL d ((putC cols n []).map Co.ty) (putE es n []) vs) :
  ∃ va vb,vs=va++vb∧va.length=n∧domL d (cols.map Co.ty) es (va++.mk pm 0 []::vb):=by
 have h:=hl
 rw[A.e,List.length_append,List.length_cons] at h
 have hal:=A.l
 obtain ⟨e,he⟩:=get_of_lt (l:=es) (n:=n) (by omega)
 have hes:=take_drop_at he
 have hla:(es.take n).length=n:=by rw[List.length_take];omega
 have hpm:pm ∉ e:=by rw[List.getD_eq_getElem?_getD,he] at hpm;exact hpm
 rw[A.same_ty,hes,putE_mid hla,List.append_nil] at hv
 obtain ⟨va,vb,rfl,d1,d3⟩:=domL_split (by rw[List.length_map,hla,hal]) hv
 refine ⟨va,vb,rfl,by rw[(domL_len d1).1,List.length_map,hal],?_⟩
 rw[A.ty,hes]
 exact dom_mid d1 ⟨by rw[tyV,if_pos ht];trivial,fun _=>hpm⟩ d3
theorem At.oth_dom (A:At d k n cols rows c ca cb) (ht:c.ty=0) (hl:es.length=cols.length) {pm:Int} {vs:List Vl} (hv:domL d (cols.map Co.ty) (othE es n pm) vs) :
  ∃ va v vb,vs=va++v::vb∧va.length=n∧numV v≠pm∧domL d (cols.map Co.ty) es (va++v::vb):=by
 have h:=hl
 rw[A.e,List.length_append,List.length_cons] at h
 have hal:=A.l
 obtain ⟨e,he⟩:=get_of_lt (l:=es) (n:=n) (by omega)
 have hes:=take_drop_at he
 have hla:(es.take n).length=n:=by rw[List.length_take];omega
 rw[A.ty,hes,othE_mid hla] at hv
 obtain ⟨va,w,rfl,d1,d3⟩:=domL_split (by rw[List.length_map,hla,hal]) hv
 obtain ⟨v,vb,rfl,dv,d3⟩:∃ v vb,w=v::vb∧domV d c.ty (pm::e) v∧domL d (cb.map Co.ty) (es.drop (n+1)) vb:=by
  cases w with
  |nil=>exact d3.elim
  |cons v vb=>exact⟨v,vb,rfl,d3⟩
 have hne:=dv.2 ht
 rw[List.mem_cons,not_or] at hne
 have hnv:nbV v=numV v:=by obtain ⟨a,b,q⟩:=v;rfl
 refine ⟨va,v,vb,rfl,by rw[(domL_len d1).1,List.length_map,hal],by rw[←hnv];exact hne.1,?_⟩
 rw[A.ty,hes]
 exact dom_mid d1 ⟨dv.1,fun _=>hne.2⟩ d3
theorem CovE.getD_fresh (A:At d k n cols rows c ca cb) (C:CovE d es cols rows) (ht:c.ty=0) {r:Rw} (hr:r ∈ rows) (hk:kdP (patAt r n)≠0):nmP (patAt r n) ∉ es.getD n []:=by
 obtain ⟨ea,e,eb,rfl,hla,hlb⟩:=A.exs C
 obtain ⟨pa,p,pb,hp,hpl,hpa,hput,f1,f2,f3⟩:=A.fit r hr
 have hfr:=C.fresh r hr
 have hal:=A.l
 rw[A.ty,hp,freshL_app (by rw[List.length_map,hla,hal]) (by rw[List.length_map,hal,hpl])] at hfr
 rw[hpa] at hk ⊢
 have:=hfr.2.1 ht hk
 subst hla
 simpa using this
theorem CovE.con (A:At d k n cols rows c ca cb) (C:CovE d es cols rows) (ht:c.ty≠0) {i:Nat} {z:Cn} (hz:(consOf d c.ty)[i]? = some z):CovE d (putE es n (List.replicate z.flds.length [])) (putC cols n (fldC c.path z.flds)) (conRows n (i:Int) z.flds.length rows):=by
 have hfl:(fldC c.path z.flds).length=z.flds.length:=by rw[←List.length_map (f:=Co.ty),fldC_ty]
 have hal:=A.l
 refine ⟨?_,fun vs hv=>?_,fun r' hr'=>?_⟩
 ·obtain ⟨ea,e,eb,rfl,hla,hlb⟩:=A.exs C
  rw[putE_mid hla,A.e,putC_mid hal]
  simp only[List.length_append,List.length_replicate,hfl];omega
 ·obtain ⟨va,av,vb,rfl,hva,hav,hd⟩:=A.con_dom ht hz C.len hv
  rw[A.con_fst ht (m:=0) hz hva hav]
  exact C.all _ hd
 ·obtain ⟨r,hr,hs⟩:=List.mem_filterMap.1 hr'
  unfold conRow at hs
  obtain ⟨a,ha,rfl⟩:=Option.map_eq_some_iff.1 hs
  obtain ⟨ea,e,eb,rfl,hla,hlb⟩:=A.exs C
  obtain ⟨pa,p,pb,hp,hpl,hpa,hput,f1,f2,f3⟩:=A.fit r hr
  have hfr:=C.fresh r hr
  have h1:(ca.map Co.ty).length=ea.length:=by rw[List.length_map,hla,hal]
  have h2:(ca.map Co.ty).length=pa.length:=by rw[List.length_map,hal,hpl]
  rw[A.ty,hp,freshL_app h1 h2] at hfr
  rw[hpa] at ha
  have haf:=fitR_len (args_fit f2 ht hz ha)
  rw[A.con_ty,hput,putE_mid hla]
  show freshL _ _ (pa++a++pb)
  rw[freshL_app (by simp[hla,hal]) (by simp[hal,hpl,haf]),freshL_app h1 h2]
  exact⟨⟨hfr.1,freshL_none ..⟩,hfr.2.2⟩
theorem CovE.same (A:At d k n cols rows c ca cb) (C:CovE d es cols rows) (ht:c.ty=0) {pm:Int} (hpm:pm ∉ es.getD n []):CovE d (putE es n []) (putC cols n []) (sameRows n pm rows):=by
 have hal:=A.l
 refine ⟨?_,fun vs hv=>?_,fun r' hr'=>?_⟩
 ·obtain ⟨ea,e,eb,rfl,hla,hlb⟩:=A.exs C
  rw[putE_mid hla,A.e,putC_mid hal]
  simp only[List.append_nil,List.length_append];omega
 ·obtain ⟨va,vb,rfl,hva,hd⟩:=A.same_dom ht C.len hpm hv
  rw[A.same_fst ht hva rfl]
  exact C.all _ hd
 ·obtain ⟨r,hr,hs⟩:=List.mem_filterMap.1 hr'
  split at hs
  ·cases hs
   obtain ⟨ea,e,eb,rfl,hla,hlb⟩:=A.exs C
   obtain ⟨pa,p,pb,hp,hpl,hpa,hput,f1,f2,f3⟩:=A.fit r hr
   have hfr:=C.fresh r hr
   have h1:(ca.map Co.ty).length=ea.length:=by rw[List.length_map,hla,hal]
   have h2:(ca.map Co.ty).length=pa.length:=by rw[List.length_map,hal,hpl]
   rw[A.ty,hp,freshL_app h1 h2] at hfr
   rw[A.same_ty,hput,putE_mid hla,List.append_nil,List.append_nil]
   show freshL _ _ (pa++pb)
   rw[freshL_app h1 h2]
   exact⟨hfr.1,hfr.2.2⟩
  ·cases hs
theorem CovE.oth (A:At d k n cols rows c ca cb) (C:CovE d es cols rows) (ht:c.ty=0) (pm:Int):CovE d (othE es n pm) cols (othRows n pm rows):=by
 have hal:=A.l
 refine ⟨?_,fun vs hv=>?_,fun r hr'=>?_⟩
 ·have:=C.len
  obtain ⟨ea,e,eb,rfl,hla,hlb⟩:=A.exs C
  rw[othE_mid hla]
  simpa using this
 ·obtain ⟨va,v,vb,rfl,hva,hne,hd⟩:=A.oth_dom ht C.len hv
  rw[A.oth_fst ht hva hne]
  exact C.all _ hd
 ·obtain ⟨hr,hob⟩:=List.mem_filter.1 hr'
  obtain ⟨ea,e,eb,rfl,hla,hlb⟩:=A.exs C
  obtain ⟨pa,p,pb,hp,hpl,hpa,hput,f1,f2,f3⟩:=A.fit r hr
  have hfr:=C.fresh r hr
  have h1:(ca.map Co.ty).length=ea.length:=by rw[List.length_map,hla,hal]
  have h2:(ca.map Co.ty).length=pa.length:=by rw[List.length_map,hal,hpl]
  rw[A.ty,hp,freshL_app h1 h2] at hfr
  rw[A.ty,hp,othE_mid hla,freshL_app h1 h2]
  refine ⟨hfr.1,fun h0 hk=>?_,hfr.2.2⟩
  rw[List.mem_cons,not_or]
  refine ⟨?_,hfr.2.1 h0 hk⟩
  unfold othB at hob
  rw[hpa] at hob
  simpa [hk] using hob
end
end Zc28
end
section
set_option maxHeartbeats 4000000
namespace Zc28
open Go Zv Zs
abbrev BtP:=List Co→List Rw→List (List Int)→Nat→Nat→Prop
def Bc (P:BtP) (cols:List Co) (rows:List Rw) (es:List (List Int)) (n:Nat) (c:Co):Nat→List Cn→Nat→Nat→List Int→Prop
 |_,[],lo,hi,nx=>lo=hi∧nx=[]
 |i,z::zs,lo,hi,nx=>∃ mid nx',nx=(lo:Int)::nx'∧P (putC cols n (fldC c.path z.flds)) (conRows n (i:Int) z.flds.length rows) (putE es n (List.replicate z.flds.length [])) lo mid∧Bc P cols rows es n c (i+1) zs mid hi nx'
def Bt (d:List Dt) (l:List Ts):Nat→BtP
  |0,_,_,_,_,_=>False
  |k+1,cols,rows,es,lo,hi=>BI d (k+1) cols rows∧CovE d es cols rows∧∃ r0,rows[0]? = some r0 ∧
    ((idxZ nwB r0.pats = -1∧l[lo]? = some (leafAt r0.n)∧hi=lo+1) ∨
     (∃ (n:Nat) (c:Co) (mid:Nat),idxZ nwB r0.pats=(n:Int)∧cols[n]? = some c∧c.ty=0∧l[lo]? = some ⟨c.path,false,nmP (patAt r0 n),[((lo+1:Nat):Int),(mid:Int)],0⟩ ∧
        Bt d l k (putC cols n []) (sameRows n (nmP (patAt r0 n)) rows) (putE es n []) (lo+1) mid∧Bt d l k cols (othRows n (nmP (patAt r0 n)) rows) (othE es n (nmP (patAt r0 n))) mid hi) ∨
     (∃ (n:Nat) (c:Co) (nx:List Int),idxZ nwB r0.pats=(n:Int)∧cols[n]? = some c∧c.ty≠0∧l[lo]? = some ⟨c.path,true,0,nx,0⟩∧Bc (Bt d l k) cols rows es n c 0 (consOf d c.ty) (lo+1) hi nx))
theorem bc_le {P:BtP} (hP:∀ cols rows es lo hi,P cols rows es lo hi→lo<hi) {cols:List Co} {rows:List Rw} {es:List (List Int)} {n:Nat} {c:Co}:∀ {zs:List Cn} {i lo hi:Nat} {nx:List Int},Bc P cols rows es n c i zs lo hi nx→lo≤hi
 | [],i,lo,hi,nx,h=>by have:=h.1;omega
 |z::zs,i,lo,hi,nx,h=>by
  obtain ⟨mid,nx',_,h1,h2⟩:=h
  have:=hP _ _ _ _ _ h1
  have:=bc_le hP h2
  omega
theorem bt_lt {d:List Dt} {l:List Ts}:∀ (k:Nat) {cols:List Co} {rows:List Rw} {es:List (List Int)} {lo hi:Nat},Bt d l k cols rows es lo hi→lo<hi
 |0,_,_,_,_,_,h=>h.elim
 |k+1,cols,rows,es,lo,hi,h=>by
  obtain ⟨_,_,r0,_,⟨_,_,h⟩ | ⟨n,c,mid,_,_,_,_,h1,h2⟩ | ⟨n,c,nx,_,_,_,_,h1⟩⟩:=h
  ·omega
  ·have:=bt_lt k h1;have:=bt_lt k h2;omega
  ·have:=bc_le (fun _ _ _ _ _ h=>bt_lt k h) h1;omega
theorem bc_len {P:BtP} {cols:List Co} {rows:List Rw} {es:List (List Int)} {n:Nat} {c:Co}:∀ {zs:List Cn} {i lo hi:Nat} {nx:List Int},Bc P cols rows es n c i zs lo hi nx→nx.length=zs.length
 | [],i,lo,hi,nx,h=>by rw[h.2];rfl
 |z::zs,i,lo,hi,nx,h=>by
  obtain ⟨mid,nx',rfl,h1,h2⟩:=h
  rw[List.length_cons,List.length_cons,bc_len h2]
theorem bc_get {P:BtP} (hP:∀ cols rows es lo hi,P cols rows es lo hi→lo<hi) {cols:List Co} {rows:List Rw} {es:List (List Int)} {n:Nat} {c:Co}:∀ {zs:List Cn} {i lo hi:Nat} {nx:List Int},Bc P cols rows es n c i zs lo hi nx→∀ (j:Nat) z,zs[j]? = some z →
  ∃ (a b:Nat),nx[j]? = some (a:Int)∧lo≤a∧b≤hi∧P (putC cols n (fldC c.path z.flds)) (conRows n ((i+j:Nat):Int) z.flds.length rows) (putE es n (List.replicate z.flds.length [])) a b
 | [],i,lo,hi,nx,h,j,z,hj=>by simp at hj
 |y::zs,i,lo,hi,nx,h,0,z,hj=>by
  obtain ⟨mid,nx',rfl,h1,h2⟩:=h
  cases hj
  have:=bc_le hP h2
  exact⟨lo,mid,rfl,Nat.le_refl _,this,h1⟩
 |y::zs,i,lo,hi,nx,h,j+1,z,hj=>by
  obtain ⟨mid,nx',rfl,h1,h2⟩:=h
  have:=hP _ _ _ _ _ h1
  obtain ⟨a,b,e1,e2,e3,e4⟩:=bc_get hP h2 j z (by simpa using hj)
  rw[show i+1+j=i+(j+1) by omega] at e4
  exact⟨a,b,by simpa using e1,by omega,e3,e4⟩
def Made (P:List Ts→Nat→Nat→Prop) (out res:List Ts):Prop:=(∀ j,j<out.length→res[j]? = out[j]?)∧∀ l:List Ts,(∀ j,out.length≤j→j<res.length→l[j]? = res[j]?)→P l out.length res.length
theorem getI_snoc {out res:List Ts} {t:Ts} (h:∀ j,j<(out++[t]).length→res[j]? = (out++[t])[j]?):(∀ j,j<out.length→res[j]? = out[j]?)∧res[out.length]? = some t:=by
 refine ⟨fun j hj=>?_,?_⟩
 ·rw[h j (by simp;omega),List.getElem?_append_left hj]
 ·rw[h out.length (by simp)];simp
theorem conL_bt {d:List Dt} {k n:Nat} {cols:List Co} {rows:List Rw} {es:List (List Int)} {c:Co}:∀ (zs:List Cn) (i:Nat) (out:List Ts) (nx:List Int),
  (∀ (j:Nat) z,zs[j]? = some z→∀ out:List Ts,(buildS d k out (putC cols n (fldC c.path z.flds)) (conRows n ((i+j:Nat):Int) z.flds.length rows)).1.length≤4096 →
   (buildS d k out (putC cols n (fldC c.path z.flds)) (conRows n ((i+j:Nat):Int) z.flds.length rows)).2=(out.length:Int) ∧
   Made (fun l=>Bt d l k (putC cols n (fldC c.path z.flds)) (conRows n ((i+j:Nat):Int) z.flds.length rows) (putE es n (List.replicate z.flds.length []))) out (buildS d k out (putC cols n (fldC c.path z.flds)) (conRows n ((i+j:Nat):Int) z.flds.length rows)).1) →
  (conL (buildS d k) cols rows n c i zs out nx).1.length≤4096 →
  ∃ nx',(conL (buildS d k) cols rows n c i zs out nx).2=nx++nx'∧Made (fun l lo hi=>Bc (Bt d l k) cols rows es n c i zs lo hi nx') out (conL (buildS d k) cols rows n c i zs out nx).1
 | [],i,out,nx,_,_=>⟨[],by rw[conL,List.append_nil],fun _ _=>rfl,fun _ _=>⟨rfl,rfl⟩⟩
 |z::zs,i,out,nx,H,hl=>by
  unfold conL at hl ⊢
  have h0:=H 0 z rfl out
  rw[Nat.add_zero] at h0
  have hle:=(conL_len (buildS_len d k) cols rows n c zs (i+1) (buildS d k out (putC cols n (fldC c.path z.flds)) (conRows n (i:Int) z.flds.length rows)).1 (nx++[(buildS d k out (putC cols n (fldC c.path z.flds)) (conRows n (i:Int) z.flds.length rows)).2])).1
  obtain ⟨e2,m1,m2⟩:=h0 (by omega)
  have hge:=(buildS_len d k out (putC cols n (fldC c.path z.flds)) (conRows n (i:Int) z.flds.length rows)).1
  generalize buildS d k out (putC cols n (fldC c.path z.flds)) (conRows n (i:Int) z.flds.length rows)=R at hl e2 m1 m2 hle hge ⊢
  obtain ⟨nx',f1,f2,f3⟩:=conL_bt (es:=es) zs (i+1) R.1 (nx++[R.2]) (fun j z' hj=>by
   have:=H (j+1) z' (by simpa using hj)
   rw[show i+(j+1)=i+1+j by omega] at this
   exact this) hl
  refine ⟨R.2::nx',by rw[f1,List.append_assoc];rfl,fun j hj=>by rw[f2 j (by omega),m1 j hj],fun l hl=>?_⟩
  refine ⟨R.1.length,nx',by rw[e2],m2 l fun j h1 h2=>?_,f3 l fun j h1 h2=>?_⟩
  ·rw[hl j h1 (by omega),f2 j h2]
  ·exact hl j (by omega) h2
theorem bldN_eq (f:Bld) (cols:List Co) (rows:List Rw) (r0:Rw) (k:Nat) (c:Co) (out:List Ts):bldN f cols rows r0 k c out =
  ((f (f (out++[zT]) (putC cols k []) (sameRows k (nmP (patAt r0 k)) rows)).1 cols (othRows k (nmP (patAt r0 k)) rows)).1.set out.length ⟨c.path,false,nmP (patAt r0 k),[(f (out++[zT]) (putC cols k []) (sameRows k (nmP (patAt r0 k)) rows)).2,(f (f (out++[zT]) (putC cols k []) (sameRows k (nmP (patAt r0 k)) rows)).1 cols (othRows k (nmP (patAt r0 k)) rows)).2],0⟩,(out.length:Int)):=rfl
theorem build_bt {d:List Dt}:∀ (k:Nat) (out:List Ts) (cols:List Co) (rows:List Rw) (es:List (List Int)),BI d k cols rows→CovE d es cols rows→(buildS d k out cols rows).1.length≤4096 →
  (buildS d k out cols rows).2=(out.length:Int)∧Made (fun l=>Bt d l k cols rows es) out (buildS d k out cols rows).1
 |0,out,cols,rows,es,I,_,_=>by have:=I.nw;omega
 |k+1,out,cols,rows,es,I,C,hl=>by
  have hge:=(buildS_len d (k+1) out cols rows).1
  have h4:¬ 4096<out.length:=by omega
  unfold buildS at hl ⊢
  rw[if_neg h4] at hl ⊢
  obtain ⟨r0,hr0⟩:∃ r0,rows[0]? = some r0:=get_of_lt (List.length_pos_iff.2 I.ne)
  have hB1:bldB d (buildS d k) cols rows out=bldK d (buildS d k) cols rows r0 (idxZ nwB r0.pats) out:=by
   cases rows with
   |nil=>cases hr0
   |cons x rs=>cases hr0;rfl
  rw[hB1] at hl ⊢
  have hol:∀ t:Ts,(out++[t]).length=out.length+1:=fun t=>by simp
  rcases idxZ_cases nwB r0.pats with hz | ⟨n,p,hz,hp,hpn⟩
  ·rw[hz] at hl ⊢
   show ((out++[leafAt r0.n],(out.length:Int)):List Ts × Int).2=_∧Made _ out (out++[leafAt r0.n])
   refine ⟨rfl,fun j hj=>by rw[List.getElem?_append_left hj],fun l hl=>⟨I,C,r0,hr0,.inl ⟨hz,?_,hol _⟩⟩⟩
   rw[hl out.length (Nat.le_refl _) (by rw[hol];omega)];simp
  ·have hpl:=fitR_len (I.fit r0 (List.mem_of_getElem? hr0))
   rw[List.length_map] at hpl
   obtain ⟨c,hc⟩:=get_of_lt (l:=cols) (n:=n) (by have:=(List.getElem?_eq_some_iff.1 hp).1;omega)
   have hB2:bldK d (buildS d k) cols rows r0 (idxZ nwB r0.pats) out=if c.ty=0 then bldN (buildS d k) cols rows r0 n c out else bldC d (buildS d k) cols rows n c out:=by
    rw[hz];unfold bldK;rw[getI_nat,hc];rfl
   rw[hB2] at hl ⊢
   obtain ⟨ca,cb,A⟩:=I.at hc
   have hk0:=(BI.nonwild A hr0 hz).1
   by_cases ht:c.ty=0
   ·rw[if_pos ht] at hl ⊢
    rw[bldN_eq] at hl ⊢
    have hpm:=CovE.getD_fresh A C ht (List.mem_of_getElem? hr0) hk0
    have hg1:=(buildS_len d k (out++[zT]) (putC cols n []) (sameRows n (nmP (patAt r0 n)) rows)).1
    have hg2:=(buildS_len d k (buildS d k (out++[zT]) (putC cols n []) (sameRows n (nmP (patAt r0 n)) rows)).1 cols (othRows n (nmP (patAt r0 n)) rows)).1
    simp only[List.length_set] at hl
    obtain ⟨a2,a3,a4⟩:=build_bt k (out++[zT]) _ _ _ (I.same hr0 hz hc ht) (CovE.same A C ht hpm) (by omega)
    generalize buildS d k (out++[zT]) (putC cols n []) (sameRows n (nmP (patAt r0 n)) rows)=R1 at *
    obtain ⟨b2,b3,b4⟩:=build_bt k R1.1 _ _ _ (I.oth hr0 hz hc ht) (CovE.oth A C ht (nmP (patAt r0 n))) hl
    generalize buildS d k R1.1 cols (othRows n (nmP (patAt r0 n)) rows)=R2 at *
    rw[hol] at hg1
    obtain ⟨a5,a6⟩:=getI_snoc a3
    refine ⟨rfl,fun j hj=>?_,fun l hll=>?_⟩
    ·show (R2.1.set out.length _)[j]? = _
     rw[List.getElem?_set_ne (by omega),b3 j (by omega),a5 j hj]
    ·have hsl:∀ t,(R2.1.set out.length t).length=R2.1.length:=fun t=>by simp
     show Bt d l (k+1) cols rows es out.length (R2.1.set out.length _).length
     rw[hsl]
     have hll:∀ j,out.length≤j→j<R2.1.length→l[j]? = (R2.1.set out.length ⟨c.path,false,nmP (patAt r0 n),[R1.2,R2.2],0⟩)[j]? := fun j h1 h2=>hll j h1 (by show j<(R2.1.set out.length _).length;rw[hsl];exact h2)
     refine ⟨I,C,r0,hr0,.inr (.inl ⟨n,c,R1.1.length,hz,hc,ht,?_,?_,?_⟩)⟩
     ·rw[hll out.length (Nat.le_refl _) (by omega),List.getElem?_set_self (by omega),a2,b2,hol]
     ·rw[←hol zT]
      refine a4 l fun j h1 h2=>?_
      rw[hol] at h1
      rw[hll j (by omega) (by omega),List.getElem?_set_ne (by omega),b3 j h2]
     ·refine b4 l fun j h1 h2=>?_
      rw[hll j (by omega) h2,List.getElem?_set_ne (by omega)]
   ·rw[if_neg ht] at hl ⊢
    unfold bldC at hl ⊢
    simp only[List.length_set] at hl
    have hg1:=(conL_len (buildS_len d k) cols rows n c (consOf d c.ty) 0 (out++[zT]) []).1
    obtain ⟨nx,a2,a3,a4⟩:=conL_bt (es:=es) (consOf d c.ty) 0 (out++[zT]) [] (fun j z hj out' hl'=>by
     rw[Nat.zero_add] at hl' ⊢
     exact build_bt k out' _ _ _ (I.con hr0 hz hc ht hj) (CovE.con A C ht hj) hl') hl
    generalize conL (buildS d k) cols rows n c 0 (consOf d c.ty) (out++[zT]) []=R1 at *
    rw[hol] at hg1
    obtain ⟨a5,a6⟩:=getI_snoc a3
    rw[List.nil_append] at a2
    refine ⟨rfl,fun j hj=>?_,fun l hll=>?_⟩
    ·show (R1.1.set out.length _)[j]? = _
     rw[List.getElem?_set_ne (by omega),a5 j hj]
    ·have hsl:∀ t,(R1.1.set out.length t).length=R1.1.length:=fun t=>by simp
     show Bt d l (k+1) cols rows es out.length (R1.1.set out.length _).length
     rw[hsl]
     have hll:∀ j,out.length≤j→j<R1.1.length→l[j]? = (R1.1.set out.length ⟨c.path,true,0,R1.2,0⟩)[j]? := fun j h1 h2=>hll j h1 (by show j<(R1.1.set out.length _).length;rw[hsl];exact h2)
     refine ⟨I,C,r0,hr0,.inr (.inr ⟨n,c,nx,hz,hc,ht,?_,?_⟩)⟩
     ·rw[hll out.length (Nat.le_refl _) (by omega),List.getElem?_set_self (by omega),a2]
     ·rw[←hol zT]
      refine a4 l fun j h1 h2=>?_
      rw[hol] at h1
      rw[hll j (by omega) h2,List.getElem?_set_ne (by omega)]
end Zc28
end
section
set_option maxHeartbeats 4000000
namespace Zc28
open Go Zv Zs
theorem mt_allwild:∀ {ps:List Pt} {vs:List Vl},ps.length=vs.length→(∀ p,p ∈ ps→kdP p=0)→mtL ps vs=true
 | [],[],_,_=>by rw[mtL]
 |p::ps,v::vs,h,hk=>by
  have:=hk p (.head _)
  obtain ⟨k,c,m,qs⟩:=p
  obtain ⟨a,b,q⟩:=v
  have this:k=0:=this
  rw[mtL,mtP,if_pos this,mt_allwild (by simpa using h) fun p hp=>hk p (.tail _ hp)];rfl
 | [],_::_,h,_=>by cases h
 |_::_,[],h,_=>by cases h
theorem idx_wild {ps:List Pt} (h:idxZ nwB ps = -1):∀ p,p ∈ ps→kdP p=0:=by
 rcases idxZ_first nwB ps with ⟨_,h2⟩ | ⟨n,x,h2,_⟩
 ·intro p hp
  have:=h2 p hp
  unfold nwB wildP at this
  simpa using this
 ·omega
theorem leaf_fst {d:List Dt} {k:Nat} {cols:List Co} {rows:List Rw} {es:List (List Int)} {r0:Rw} (I:BI d k cols rows) (h0:rows[0]? = some r0) (hz:idxZ nwB r0.pats = -1) {vs:List Vl} (hd:domL d (cols.map Co.ty) es vs):fstR rows vs=some r0.n:=by
 refine fst_head h0 (mt_allwild ?_ (idx_wild hz))
 rw[fitR_len (I.fit r0 (List.mem_of_getElem? h0)),(domL_len hd).1]
section
variable {d:List Dt} {k n:Nat} {cols:List Co} {rows:List Rw} {c:Co} {ca cb:List Co} {es:List (List Int)}
theorem At.split (A:At d k n cols rows c ca cb) (hl:es.length=cols.length) {vs:List Vl} (hv:domL d (cols.map Co.ty) es vs) :
  ∃ ea e eb va v vb,es=ea++e::eb∧ea.length=n∧vs=va++v::vb∧va.length=n∧domL d (ca.map Co.ty) ea va∧domV d c.ty e v∧domL d (cb.map Co.ty) eb vb:=by
 have h:=hl
 rw[A.e,List.length_append,List.length_cons] at h
 have hal:=A.l
 obtain ⟨e,he⟩:=get_of_lt (l:=es) (n:=n) (by omega)
 have hes:=take_drop_at he
 have hla:(es.take n).length=n:=by rw[List.length_take];omega
 rw[A.ty,hes] at hv
 obtain ⟨va,w,rfl,d1,d3⟩:=domL_split (by rw[List.length_map,hla,hal]) hv
 obtain ⟨v,vb,rfl,dv,d3⟩:∃ v vb,w=v::vb∧domV d c.ty e v∧domL d (cb.map Co.ty) (es.drop (n+1)) vb:=by
  cases w with
  |nil=>exact d3.elim
  |cons v vb=>exact⟨v,vb,rfl,d3⟩
 exact⟨_,e,_,va,v,vb,hes,hla,rfl,by rw[(domL_len d1).1,List.length_map,hal],d1,dv,d3⟩
end
end Zc28
end
section
set_option maxHeartbeats 4000000
namespace Zc28
open Go Zv Zs
def FalseM (M:List Bool) (lo hi:Nat):Prop:=∀ j,lo≤j→j<hi→M[j]? = some false
structure FillM (M M':List Bool) (lo hi:Nat):Prop where
 inn:∀ j,lo≤j→j<hi→M'[j]? = some true
 out:∀ j,j<lo∨hi≤j→M'[j]? = M[j]?
theorem FillM.one {M:List Bool} {lo:Nat} (h:M[lo]? = some false):FillM M (M.set lo true) lo (lo+1):=by
 have:=(List.getElem?_eq_some_iff.1 h).1
 refine ⟨fun j h1 h2=>?_,fun j h1=>?_⟩
 ·obtain rfl:j=lo:=by omega
  exact List.getElem?_set_self this
 ·exact List.getElem?_set_ne (by omega)
theorem FillM.trans {M M' M'':List Bool} {lo mid hi:Nat} (a:FillM M M' lo mid) (b:FillM M' M'' mid hi) (h1:lo≤mid) (h2:mid≤hi):FillM M M'' lo hi:=by
 refine ⟨fun j h3 h4=>?_,fun j h3=>?_⟩
 ·by_cases h:j<mid
  ·rw[b.out j (.inl h),a.inn j h3 h]
  ·exact b.inn j (by omega) h4
 ·rw[b.out j (by omega),a.out j (by omega)]
theorem FillM.left {M M':List Bool} {lo mid hi:Nat} (a:FillM M M' lo mid) (h:FalseM M lo hi) (hl:lo≤mid):FalseM M' mid hi:=fun j h1 h2=>by
 rw[a.out j (.inr h1)];exact h j (by omega) h2
theorem FillM.nil (M:List Bool) (lo:Nat):FillM M M lo lo:=⟨fun j h1 h2=>by omega,fun _ _=>rfl⟩
end Zc28
end
section
set_option maxHeartbeats 4000000
namespace Zc28
open Go Zv Zs
structure WK (d:List Dt) (pv dv cv vv:Nat) (X:List (Nat × Ob)) (n:Nat):Prop where
 p:Zv.look X pv=some (.arr 1 [.clo 124 []])
 dd:Zv.look X dv=some (.arr 1 [.d (eDs d)])
 c:Zv.look X cv=some (.arr 1 [.d (eI n)])
 v:Zv.look X vv=some (.arr 1 [.clo 139 [.ptr pv 1 0 0,.ptr dv 1 0 0,.ptr cv 1 0 0,.ptr vv 1 0 0]])
theorem WK.ne {d:List Dt} {pv dv cv vv:Nat} {X:List (Nat × Ob)} {n:Nat} (W:WK d pv dv cv vv X n):pv≠cv∧vv≠cv:=by
 refine ⟨?_,?_⟩<;>intro e
 ·have h1:=W.p;rw[e,W.c] at h1;cases h1
 ·have h1:=W.v;rw[e,W.c] at h1;cases h1
theorem WK.same {d:List Dt} {pv dv cv vv:Nat} {X X':List (Nat × Ob)} {n:Nat} (W:WK d pv dv cv vv X n) {q:Nat} (hp:pv<q) (hd:dv<q) (hc:cv<q) (hv:vv<q) (h:∀ x,x<q→Zv.look X' x=Zv.look X x):WK d pv dv cv vv X' n:=
 ⟨by rw[h _ hp];exact W.p,by rw[h _ hd];exact W.dd,by rw[h _ hc];exact W.c,by rw[h _ hv];exact W.v⟩
theorem WK.put {d:List Dt} {pv dv cv vv:Nat} {X:List (Nat × Ob)} {n:Nat} (W:WK d pv dv cv vv X n) (hdc:dv≠cv) (m:Nat):WK d pv dv cv vv (Zv.upd X cv (.arr 1 [.d (eI m)])) m:=by
 obtain ⟨h1,h2⟩:=W.ne
 refine ⟨?_,?_,?_,?_⟩<;>rw[Zs.look_upd]
 ·rw[if_neg h1];exact W.p
 ·rw[if_neg hdc];exact W.dd
 ·rw[if_pos rfl,W.c];rfl
 ·rw[if_neg h2];exact W.v
end Zc28
end
section
set_option maxHeartbeats 4000000
namespace Zc28
open Go Zv Zs
theorem tyL_split {d:List Dt}:∀ {fs ts:List Int} {ws:List Vl},tyL d (fs++ts) ws→∃ av vs,ws=av++vs∧tyL d fs av∧tyL d ts vs
 | [],ts,ws,h=>⟨[],ws,rfl,by rw[tyL];trivial,h⟩
 |f::fs,ts,[],h=>by simp[tyL] at h
 |f::fs,ts,w::ws,h=>by
  rw[List.cons_append,tyL] at h
  obtain ⟨av,vs,rfl,h1,h2⟩:=tyL_split h.2
  exact⟨w::av,vs,rfl,by rw[tyL];exact⟨h.1,h1⟩,h2⟩
theorem tys_inh {d:List Dt} (h:checkS d=0) {fs:List Int} (hf:∀ f,f ∈ fs→isT d f=true):∃ av,tyL d fs av:=by
 obtain ⟨av,ha⟩:=dom_inh h (es:=List.replicate fs.length []) (ts:=fs) (by simp) hf
 exact⟨av,domL_ty ha⟩
theorem sp_fwd {i:Nat} {n:Nat} {l:List (List Pt)} {m:Int} {av vs:List Vl} (hn:n=av.length) {d:List Dt} {t:Int} (ht:t≠0) {ts:List Int} (hM:fitM d (t::ts) l) (h:∀ x,x ∈ spS (i:Int) n l→mtL x (av++vs)=false) :
  ∀ x,x ∈ l→mtL x (.mk m (i:Int) av::vs)=false:=by
 intro x hx
 refine Bool.eq_false_iff.2 fun hxm=>?_
 cases x with
 |nil=>simp[mtL] at hxm
 |cons q s=>
  obtain ⟨kq,cq,mq,qq⟩:=q
  rw[mtL,mtP,Bool.and_eq_true] at hxm
  have hf:=hM _ hx
  simp only[fitR,Bool.and_eq_true] at hf
  rcases fits_cases hf.1 with ⟨k0,_⟩ | ⟨k2,t0,_⟩ | ⟨k1,t0,_,i',z',e',hz',hl',_⟩
  ·have hin:List.replicate n wildT++s ∈ spS (i:Int) n l:=List.mem_filterMap.2 ⟨_,hx,by simp[spF,k0]⟩
   have:=h _ hin
   rw[mtL_app (by simp[hn]),hn,mtL_wild,hxm.2] at this
   cases this
  ·exact ht t0
  ·subst k1
   rw[if_neg (by decide),if_neg (by decide),if_pos rfl,Bool.and_eq_true,decide_eq_true_eq] at hxm
   obtain ⟨⟨hc1,hq1⟩,hs1⟩:=hxm
   have hin:qq++s ∈ spS (i:Int) n l:=List.mem_filterMap.2 ⟨_,hx,by simp[spF,hc1]⟩
   have:=h _ hin
   rw[mtL_app (mtL_len hq1),hq1,hs1] at this
   cases this
theorem useful_vals {d:List Dt} (hd:checkS d=0):∀ (k:Nat) (ts:List Int) (l:List (List Pt)) (r:List Pt),(∀ t,t ∈ ts→isT d t=true)→fitM d ts l→fitR d ts r=true→usS d k ts l r=true →
  ∃ vs,tyL d ts vs∧mtL r vs=true∧∀ x,x ∈ l→mtL x vs=false
 |0,_,_,_,_,_,_,h=>by cases h
 |k+1,[],l,r,_,_,hR,h=>by
  rw[usS,decide_eq_true_eq] at h
  have:r=[]:=List.eq_nil_of_length_eq_zero (fitR_len hR)
  subst this
  exact⟨[],by rw[tyL];trivial,by rw[mtL],fun x hx=>by have:=List.length_pos_of_mem hx;omega⟩
 |k+1,t::ts,l,[],_,_,hR,_=>by cases hR
 |k+1,t::ts,l,.mk kd c m qs::r,hT,hM,hR,h=>by
  have T:=check_typed hd
  have hTt:∀ f,f ∈ ts→isT d f=true:=fun f hf=>hT f (List.mem_cons_of_mem _ hf)
  simp only[fitR,Bool.and_eq_true] at hR
  have hTi:∀ (i:Nat) (z:Cn),(consOf d t)[i]? = some z→∀ f,f ∈ z.flds++ts→isT d f=true:=by
   intro i z hz f hf
   rcases List.mem_append.1 hf with hf | hf
   ·exact flds_isT' T t i f (by unfold fldsOf;rw[hz];exact hf)
   ·exact hTt f hf
  rcases fits_cases hR.1 with ⟨k0,c0,m0,q0⟩ | ⟨k2,t0,c0,q0⟩ | ⟨k1,t0,m0,i,z,rfl,hz,hzl,hzR⟩
  ·subst k0
   rw[usS,if_neg (by decide),if_neg (by decide)] at h
   by_cases hc:t=0∨(consS l).length<(consOf d t).length
   ·rw[if_pos hc] at h
    obtain ⟨vs,h1,h2,h3⟩:=useful_vals hd k ts _ r hTt (restS_fit wildP hM) hR.2 h
    have fin:∀ v:Vl,tyV d t v→(∀ q s,(q::s) ∈ l→kdP q≠0→mtP q v=false)→∃ vs,tyL d (t::ts) vs∧mtL (.mk 0 c m qs::r) vs=true∧∀ x,x ∈ l→mtL x vs=false:=by
     intro v hv hq
     refine ⟨v::vs,by rw[tyL];exact⟨hv,h1⟩,?_,?_⟩
     ·obtain ⟨a,b,e⟩:=v
      rw[mtL,mtP,if_pos rfl,h2];rfl
     ·intro x hx
      cases x with
      |nil=>simp[mtL]
      |cons q s=>
       by_cases hk:kdP q=0
       ·have hin:s ∈ restS wildP l:=List.mem_filterMap.2 ⟨_,hx,by simp[restF,wildP,hk]⟩
        rw[mtL,h3 s hin,Bool.and_false]
       ·rw[mtL,hq q s hx hk,Bool.false_and]
    by_cases ht:t=0
    ·subst ht
     refine fin (.mk ((missN (numsS l):Nat):Int) 0 []) (by rw[tyV,if_pos rfl];trivial) fun q s hx hk=>?_
     obtain ⟨kq,cq,mq,qq⟩:=q
     have hf:=hM _ hx
     simp only[fitR,Bool.and_eq_true] at hf
     rcases fits_cases hf.1 with ⟨h0,_⟩ | ⟨h2,_⟩ | ⟨_,h1,_⟩
     ·exact absurd h0 hk
     ·subst h2
      rw[mtP,if_neg (by decide),if_pos rfl,decide_eq_false_iff_not]
      intro e
      have hin:mq ∈ numsS l:=(numsS_mem _ _).2 ⟨_,s,hx,rfl,rfl⟩
      rw[←e] at hin
      exact (missN_spec (numsS l)).1 hin
     ·exact absurd rfl h1
    ·have hlt:=hc.resolve_left ht
     have hm:=miss_lt hM hlt
     obtain ⟨z,hz⟩:=get_of_lt hm
     obtain ⟨av,hav⟩:=tys_inh hd (fs:=z.flds) fun f hf=>hTi _ z hz f (List.mem_append_left _ hf)
     refine fin (.mk 0 ((missN (consS l):Nat):Int) av) (by rw[tyV,if_neg ht];exact⟨_,z,rfl,hz,hav⟩) fun q s hx hk=>?_
     obtain ⟨kq,cq,mq,qq⟩:=q
     have hf:=hM _ hx
     simp only[fitR,Bool.and_eq_true] at hf
     rcases fits_cases hf.1 with ⟨h0,_⟩ | ⟨_,h2,_⟩ | ⟨k1,h1,_⟩
     ·exact absurd h0 hk
     ·exact absurd h2 ht
     ·subst k1
      rw[mtP,if_neg (by decide),if_neg (by decide),if_pos rfl]
      rw[Bool.and_eq_false_iff]
      left
      rw[decide_eq_false_iff_not]
      intro e
      have hin:cq ∈ consS l:=(consS_mem _ _).2 ⟨_,s,hx,rfl,rfl⟩
      rw[←e] at hin
      exact (missN_spec (consS l)).1 hin
   ·rw[if_neg hc,List.any_eq_true] at h
    obtain ⟨i,hi,hu⟩:=h
    have ht:t≠0:=fun e=>hc (.inl e)
    obtain ⟨z,hz⟩:=get_of_lt (List.mem_range.1 hi)
    have hfz:fldsOf d t i=z.flds:=by unfold fldsOf;rw[hz]
    have hM':=spS_fit i hM
    rw[hfz] at hM' hu
    obtain ⟨ws,h1,h2,h3⟩:=useful_vals hd k _ _ _ (hTi i z hz) hM' (fitR_app (fitR_wild d _) hR.2) hu
    obtain ⟨av,vs,rfl,h4,h5⟩:=tyL_split h1
    have hal:=tyL_len h4
    rw[mtL_app (by simp[hal]),Bool.and_eq_true] at h2
    refine ⟨.mk 0 (i:Int) av::vs,by rw[tyL,tyV,if_neg ht];exact⟨⟨i,z,rfl,hz,h4⟩,h5⟩,by rw[mtL,mtP,if_pos rfl,h2.2];rfl,sp_fwd hal.symm ht hM h3⟩
  ·subst k2
   subst t0
   rw[usS,if_neg (by decide),if_pos rfl] at h
   obtain ⟨vs,h1,h2,h3⟩:=useful_vals hd k ts _ r hTt (restS_fit _ hM) hR.2 h
   refine ⟨.mk m 0 []::vs,by rw[tyL,tyV,if_pos rfl];exact⟨trivial,h1⟩,by rw[mtL,mtP,if_neg (by decide),if_pos rfl,h2,decide_eq_true rfl];rfl,?_⟩
   intro x hx
   cases x with
   |nil=>simp[mtL]
   |cons q s=>
    obtain ⟨kq,cq,mq,qq⟩:=q
    have hf:=hM _ hx
    simp only[fitR,Bool.and_eq_true] at hf
    by_cases hk:wildP (.mk kq cq mq qq)=true∨mq=m
    ·have hin:s ∈ restS (fun q=>wildP q || decide (nmP q=m)) l:=List.mem_filterMap.2 ⟨_,hx,by
      have:(wildP (.mk kq cq mq qq) || decide (nmP (.mk kq cq mq qq)=m))=true:=by
       rw[Bool.or_eq_true];exact hk.imp id fun e=>decide_eq_true e
      simp only[restF,this,if_true]⟩
     rw[mtL,h3 s hin,Bool.and_false]
    ·rw[not_or] at hk
     rcases fits_cases hf.1 with ⟨h0,_⟩ | ⟨h2,_⟩ | ⟨_,h1,_⟩
     ·exact absurd (by unfold wildP;exact decide_eq_true h0) hk.1
     ·subst h2
      rw[mtL,mtP,if_neg (by decide),if_pos rfl,decide_eq_false (fun e=>hk.2 e.symm),Bool.false_and]
     ·exact absurd rfl h1
  ·subst k1
   have hfz:fldsOf d t i=z.flds:=by unfold fldsOf;rw[hz]
   have hM':=spS_fit i hM
   rw[hfz] at hM'
   rw[usS,if_pos rfl,Int.toNat_natCast,hfz,←hzl] at h
   obtain ⟨ws,h1,h2,h3⟩:=useful_vals hd k _ _ _ (hTi i z hz) hM' (fitR_app hzR hR.2) h
   obtain ⟨av,vs,rfl,h4,h5⟩:=tyL_split h1
   have hal:=tyL_len h4
   rw[mtL_app (by rw[hal,hzl]),Bool.and_eq_true] at h2
   exact⟨.mk 0 (i:Int) av::vs,by rw[tyL,tyV,if_neg t0];exact⟨⟨i,z,rfl,hz,h4⟩,h5⟩,by rw[mtL,mtP,if_neg (by decide),if_neg (by decide),if_pos rfl,decide_eq_true rfl,h2.1,h2.2];rfl,sp_fwd hal.symm t0 hM h3⟩
end Zc28
end
section
set_option maxHeartbeats 4000000
namespace Zc28
open Go Zv Zs
theorem bc_find {P:BtP} (hP:∀ cols rows es lo hi,P cols rows es lo hi→lo<hi) {cols:List Co} {rows:List Rw} {es:List (List Int)} {n:Nat} {c:Co} {j:Nat}:∀ {zs:List Cn} {i lo hi:Nat} {nx:List Int},Bc P cols rows es n c i zs lo hi nx→lo≤j→j<hi →
  ∃ (i':Nat) (z:Cn) (a b:Nat),zs[i']? = some z∧P (putC cols n (fldC c.path z.flds)) (conRows n ((i+i':Nat):Int) z.flds.length rows) (putE es n (List.replicate z.flds.length [])) a b∧a≤j∧j<b∧lo≤a∧b≤hi
 | [],i,lo,hi,nx,h,h1,h2=>by have:=h.1;omega
 |z::zs,i,lo,hi,nx,h,h1,h2=>by
  obtain ⟨mid,nx',rfl,h3,h4⟩:=h
  have l1:=hP _ _ _ _ _ h3
  have l2:=bc_le hP h4
  by_cases hj:j<mid
  ·exact⟨0,z,lo,mid,rfl,h3,h1,hj,Nat.le_refl _,l2⟩
  ·obtain ⟨i',z',a,b,e1,e2,e3,e4,e5,e6⟩:=bc_find hP h4 (by omega) h2
   rw[show i+1+i'=i+(i'+1) by omega] at e2
   exact⟨i'+1,z',a,b,by simpa using e1,e2,e3,e4,by omega,e6⟩
theorem bt_nx {d:List Dt} {k:Nat} {cols:List Co} {rows:List Rw} {P:BtP} {es:List (List Int)} {n:Nat} {c:Co} {lo hi:Nat} {nx:List Int} (I:BI d k cols rows) (hc:cols[n]? = some c) (ht:c.ty≠0) (h:Bc P cols rows es n c 0 (consOf d c.ty) lo hi nx):nx≠[]:=by
 intro e0
 have hnl:=bc_len h
 rw[e0,List.length_nil] at hnl
 obtain ⟨v,hv⟩:=inhab I.chk (I.typ c (List.mem_of_getElem? hc))
 obtain ⟨vm,vc,vq⟩:=v
 rw[tyV,if_neg ht] at hv
 obtain ⟨j,z,_,hz2,_⟩:=hv
 have:=(List.getElem?_eq_some_iff.1 hz2).1
 omega
theorem bt_leaf {d:List Dt} {l:List Ts} {j:Nat} {t:Ts} (hj:l[j]? = some t) (hn:t.next=[]):∀ (k:Nat) {cols:List Co} {rows:List Rw} {es:List (List Int)} {lo hi:Nat},Bt d l k cols rows es lo hi→lo≤j→j<hi →
  ∃ vs,domL d (cols.map Co.ty) es vs∧fstR rows vs=some t.row
 |0,_,_,_,_,_,h,_,_=>h.elim
 |k+1,cols,rows,es,lo,hi,h,h1,h2=>by
  obtain ⟨I,C,r0,hr0,h⟩:=h
  rcases h with ⟨hz,hl,he⟩ | ⟨n,c,mid,hz,hc,ht,hl,hb1,hb2⟩ | ⟨n,c,nx,hz,hc,ht,hl,hb1⟩
  ·obtain rfl:j=lo:=by omega
   rw[hj] at hl;cases hl
   obtain ⟨vs,hv⟩:=dom_inh I.chk (es:=es) (ts:=cols.map Co.ty) (by rw[C.len,List.length_map]) (fun t ht=>by
    obtain ⟨c,hc,rfl⟩:=List.mem_map.1 ht
    exact I.typ c hc)
   exact⟨vs,hv,leaf_fst I hr0 hz hv⟩
  ·obtain ⟨ca,cb,A⟩:=I.at hc
   have hpm:=CovE.getD_fresh A C ht (List.mem_of_getElem? hr0) (BI.nonwild A hr0 hz).1
   by_cases e0:j=lo
   ·subst e0;rw[hj] at hl;cases hl;cases hn
   by_cases e1:j<mid
   ·obtain ⟨vs,hv,hf⟩:=bt_leaf hj hn k hb1 (by omega) e1
    obtain ⟨va,vb,rfl,hva,hd⟩:=A.same_dom ht C.len hpm hv
    exact⟨_,hd,by rw[←A.same_fst ht hva rfl];exact hf⟩
   ·obtain ⟨vs,hv,hf⟩:=bt_leaf hj hn k hb2 (by omega) h2
    obtain ⟨va,v,vb,rfl,hva,hne,hd⟩:=A.oth_dom ht C.len hv
    exact⟨_,hd,by rw[←A.oth_fst ht hva hne];exact hf⟩
  ·obtain ⟨ca,cb,A⟩:=I.at hc
   by_cases e0:j=lo
   ·subst e0;rw[hj] at hl;cases hl
    exact absurd hn (bt_nx I hc ht hb1)
   ·obtain ⟨i,z,a,b,hz2,hp,h3,h4,_,_⟩:=bc_find (fun _ _ _ _ _ h=>bt_lt k h) hb1 (by omega) h2
    obtain ⟨vs,hv,hf⟩:=bt_leaf hj hn k hp h3 h4
    rw[Nat.zero_add] at hf
    obtain ⟨va,av,vb,rfl,hva,hav,hd⟩:=A.con_dom ht hz2 C.len hv
    exact⟨_,hd,by rw[←A.con_fst ht (m:=0) hz2 hva hav];exact hf⟩
theorem bt_has {d:List Dt} {l:List Ts}:∀ (k:Nat) {cols:List Co} {rows:List Rw} {es:List (List Int)} {lo hi:Nat},Bt d l k cols rows es lo hi→∀ vs,domL d (cols.map Co.ty) es vs→∃ j t,lo≤j∧j<hi∧l[j]? = some t∧t.next=[]∧fstR rows vs=some t.row
 |0,_,_,_,_,_,h=>h.elim
 |k+1,cols,rows,es,lo,hi,h=>by
  intro vs hd
  have hlt:=bt_lt (k+1) h
  obtain ⟨I,C,r0,hr0,h⟩:=h
  rcases h with ⟨hz,hl,he⟩ | ⟨n,c,mid,hz,hc,ht,hl,h1,h2⟩ | ⟨n,c,nx,hz,hc,ht,hl,h1⟩
  ·exact⟨lo,_,Nat.le_refl _,hlt,hl,rfl,leaf_fst I hr0 hz hd⟩
  ·obtain ⟨ca,cb,A⟩:=I.at hc
   obtain ⟨ea,e,eb,va,v,vb,rfl,hla,rfl,hva,d1,dv,d3⟩:=A.split C.len hd
   have hal:=A.l
   have l1:=bt_lt k h1
   have l2:=bt_lt k h2
   by_cases e1:numV v=nmP (patAt r0 n)
   ·obtain ⟨m,i,av⟩:=v
    obtain ⟨j,t,g1,g2,g3,g4,g5⟩:=bt_has k h1 (va++vb) (by rw[A.same_ty,putE_mid hla,List.append_nil];exact domL_app d1 d3)
    rw[A.same_fst ht hva (m:=m) (i:=i) (av:=av) e1] at g5
    exact⟨j,t,by omega,by omega,g3,g4,g5⟩
   ·have hnv:nbV v=numV v:=by obtain ⟨a,b,q⟩:=v;rfl
    obtain ⟨j,t,g1,g2,g3,g4,g5⟩:=bt_has k h2 (va++v::vb) (by
     rw[A.ty,othE_mid hla]
     refine dom_mid d1 ⟨dv.1,fun h0=>?_⟩ d3
     rw[List.mem_cons,not_or,hnv]
     exact⟨e1,by rw[←hnv];exact dv.2 h0⟩)
    rw[A.oth_fst ht hva e1] at g5
    exact⟨j,t,by omega,by omega,g3,g4,g5⟩
  ·obtain ⟨ca,cb,A⟩:=I.at hc
   obtain ⟨ea,e,eb,va,v,vb,rfl,hla,rfl,hva,d1,dv,d3⟩:=A.split C.len hd
   have hal:=A.l
   obtain ⟨m,i0,av⟩:=v
   have hty:=dv.1
   rw[tyV,if_neg ht] at hty
   obtain ⟨i,z,rfl,hz2,hta⟩:=hty
   have hal2:=tyL_len hta
   obtain ⟨a,b,n1,n2,n3,n4⟩:=bc_get (fun _ _ _ _ _ h=>bt_lt k h) h1 i z hz2
   rw[Nat.zero_add] at n4
   obtain ⟨j,t,g1,g2,g3,g4,g5⟩:=bt_has k n4 (va++av++vb) (by
    rw[A.con_ty,putE_mid hla]
    refine domL_app (domL_app d1 ?_) d3
    exact ty_domL hta)
   rw[A.con_fst ht (m:=m) hz2 hva hal2] at g5
   exact⟨j,t,by omega,by omega,g3,g4,g5⟩
def Apart (a b:List Int):Prop:=¬ a <+: b∧¬ b <+: a
theorem Apart.symm {a b:List Int} (h:Apart a b):Apart b a:=⟨h.2,h.1⟩
theorem Apart.snoc {a b:List Int} (h:Apart a b) (j:Int):Apart a (b++[j]):=by
 refine ⟨fun h'=>?_,fun h'=>h.2 ((List.prefix_append b [j]).trans h')⟩
 rcases List.prefix_concat_iff.1 h' with e | e
 ·exact h.2 (by rw[e];exact List.prefix_append b [j])
 ·exact h.1 e
def Anti (cols:List Co):Prop:=cols.Pairwise fun a b=>Apart a.path b.path
theorem apart_snocs (p:List Int) {i j:Int} (h:i≠j):Apart (p++[i]) (p++[j]):=by
 refine ⟨fun e=>?_,fun e=>?_⟩
 ·have:=e.eq_of_length (by simp)
  exact h (by simpa using this)
 ·have:=e.eq_of_length (by simp)
  exact h (by simpa using this.symm)
theorem anti_fld (p:List Int):∀ (fs:List Int) (k:Nat),((fs.zipIdx k).map fun q:Int × Nat=>(⟨p++[(q.2:Int)],q.1⟩:Co)).Pairwise fun a b=>Apart a.path b.path
 | [],_=>List.Pairwise.nil
 |f::fs,k=>by
  rw[List.zipIdx_cons,List.map_cons,List.pairwise_cons]
  refine ⟨fun c hc=>?_,anti_fld p fs (k+1)⟩
  obtain ⟨q,hq,rfl⟩:=List.mem_map.1 hc
  have:=List.le_snd_of_mem_zipIdx hq
  exact apart_snocs p (by omega)
theorem fldC_pre {path fs:List Int} {c:Co} (h:c ∈ fldC path fs):∃ i:Int,c.path=path++[i]:=by
 unfold fldC at h
 obtain ⟨q,_,rfl⟩:=List.mem_map.1 h
 exact⟨_,rfl⟩
theorem anti_mid {ca cb:List Co} {c:Co} (h:Anti (ca++c::cb)) (fs:List Int):Anti (ca++fldC c.path fs++cb)∧Anti (ca++cb):=by
 unfold Anti at h ⊢
 rw[List.pairwise_append,List.pairwise_cons] at h
 obtain ⟨h1,⟨h2,h3⟩,h4⟩:=h
 have ha:∀ a,a ∈ ca→∀ b,b ∈ fldC c.path fs→Apart a.path b.path:=by
  intro a ha b hb
  obtain ⟨i,e⟩:=fldC_pre hb
  rw[e]
  exact (h4 a ha c (.head _)).snoc i
 have hb:∀ a,a ∈ fldC c.path fs→∀ b,b ∈ cb→Apart a.path b.path:=by
  intro a ha b hb
  obtain ⟨i,e⟩:=fldC_pre ha
  rw[e]
  exact ((h2 b hb).symm.snoc i).symm
 refine ⟨?_,?_⟩
 ·rw[List.pairwise_append,List.pairwise_append]
  refine ⟨⟨h1,anti_fld c.path fs 0,ha⟩,h3,fun a hm b hb'=>?_⟩
  rcases List.mem_append.1 hm with hm | hm
  ·exact h4 a hm b (.tail _ hb')
  ·exact hb a hm b hb'
 ·rw[List.pairwise_append]
  exact⟨h1,h3,fun a ha b hb=>h4 a ha b (.tail _ hb)⟩
def WayR (to:Nat) (cols:List Co) (lo hi:Nat) (M:List Bool) (r:List Bool × Option Pth):Prop:=
 (lo≤to∧to<hi∧∃ p,r.2=some p∧p.Nodup∧∀ q,q ∈ p→∃ c,c ∈ cols∧c.path <+: q)∨(¬ (lo≤to∧to<hi)∧r.2=none∧FillM M r.1 lo hi)
theorem bc_way {P:BtP} (hP:∀ cols rows es lo hi,P cols rows es lo hi→lo<hi) {to:Nat} {f:List Bool→Int→List Bool × Option Pth} {cols:List Co} {rows:List Rw} {es:List (List Int)} {n:Nat} {c:Co} {pre:Pth}:∀ {zs:List Cn} {i lo hi:Nat} {nx:List Int} {M:List Bool},Bc P cols rows es n c i zs lo hi nx →
  (∀ (j:Nat) z a b M,zs[j]? = some z→P (putC cols n (fldC c.path z.flds)) (conRows n ((i+j:Nat):Int) z.flds.length rows) (putE es n (List.replicate z.flds.length [])) a b→lo≤a→b≤hi→FalseM M a b→WayR to (putC cols n (fldC c.path z.flds)) a b M (f M (a:Int)))→FalseM M lo hi →
  (lo≤to∧to<hi∧∃ p z,(wayL f pre nx M).2=some (pre++p)∧p.Nodup∧∀ q,q ∈ p→∃ c',c' ∈ putC cols n (fldC c.path (Cn.flds z))∧c'.path <+: q)∨(¬ (lo≤to∧to<hi)∧(wayL f pre nx M).2=none∧FillM M (wayL f pre nx M).1 lo hi)
 | [],i,lo,hi,nx,M,h,_,_=>by
  obtain ⟨rfl,rfl⟩:=h
  exact .inr ⟨by omega,rfl,FillM.nil ..⟩
 |z::zs,i,lo,hi,nx,M,h,H,hM=>by
  obtain ⟨mid,nx',rfl,h1,h2⟩:=h
  have l1:=hP _ _ _ _ _ h1
  have l2:=bc_le hP h2
  unfold wayL
  rcases H 0 z lo mid M rfl h1 (Nat.le_refl _) l2 (fun j a b=>hM j a (by omega)) with ⟨g1,g2,p,g3,g4,g5⟩ | ⟨g1,g2,g3⟩
  ·left
   rw[g3]
   exact⟨g1,by omega,p,z,rfl,g4,g5⟩
  ·rw[g2]
   have hM2:=g3.left hM (by omega)
   rcases bc_way (pre:=pre) hP (f:=f) (to:=to) h2 (fun j z' a b M' hj hp h3 h4 hM'=>by
    rw[show i+1+j=i+(j+1) by omega] at hp
    exact H (j+1) z' a b M' (by simpa using hj) hp (by omega) h4 hM') hM2 with ⟨k1,k2,k3⟩ | ⟨k1,k2,k3⟩
   ·exact .inl ⟨by omega,k2,k3⟩
   ·exact .inr ⟨by omega,k2,g3.trans k3 (by omega) l2⟩
theorem bt_way {d:List Dt} {l:List Ts} {to:Nat}:∀ (k:Nat) {cols:List Co} {rows:List Rw} {es:List (List Int)} {lo hi:Nat},Bt d l k cols rows es lo hi→Anti cols→∀ M,FalseM M lo hi→∀ f,hi - lo≤f→WayR to cols lo hi M (wayS l (to:Int) f M (lo:Int))
 |0,_,_,_,_,_,h=>h.elim
 |k+1,cols,rows,es,lo,hi,h=>by
  intro An M hM f hf
  have hlt:=bt_lt (k+1) h
  obtain ⟨I,C,r0,hr0,h⟩:=h
  obtain ⟨f,rfl⟩:∃ g,f=g+1:=⟨f - 1,by omega⟩
  have hMlo:=hM lo (Nat.le_refl _) hlt
  have F1:=FillM.one hMlo
  have hM1:=F1.left hM (by omega)
  have hw:∀ t,l[lo]? = some t→wayS l (to:Int) (f+1) M (lo:Int)=if lo=to then (M.set lo true,some []) else wayL (wayS l (to:Int) f) (preT t) t.next (M.set lo true):=by
   intro t ht
   rw[wayS,getI_nat,ht,getI_nat,hMlo]
   simp only[Int.toNat_natCast,Int.natCast_inj,Option.some.injEq,Bool.false_eq_true,if_false]
  have here:∀ t,l[lo]? = some t→lo=to→WayR to cols lo hi M (wayS l (to:Int) (f+1) M (lo:Int)):=by
   intro t ht e
   rw[hw t ht,if_pos e]
   exact .inl ⟨by omega,by omega,[],rfl,List.nodup_nil,fun q hq=>by cases hq⟩
  rcases h with ⟨hz,hl,he⟩ | ⟨n,c,mid,hz,hc,ht,hl,h1,h2⟩ | ⟨n,c,nx,hz,hc,ht,hl,h1⟩
  ·by_cases e:lo=to
   ·exact here _ hl e
   ·rw[hw _ hl,if_neg e]
    subst he
    exact .inr ⟨by omega,rfl,F1⟩
  ·by_cases e:lo=to
   ·exact here _ hl e
   ·rw[hw _ hl,if_neg e]
    obtain ⟨ca,cb,A⟩:=I.at hc
    have hal:=A.l
    have l1:=bt_lt k h1
    have l2:=bt_lt k h2
    have An':=An
    rw[A.e] at An'
    have Ac:=(anti_mid An' []).2
    have hpc:putC cols n []=ca++cb:=by rw[A.e,putC_mid hal,List.append_nil]
    have hsub:∀ c',c' ∈ putC cols n []→c' ∈ cols:=by
     intro c' h'
     rw[hpc] at h'
     rw[A.e]
     rcases List.mem_append.1 h' with h' | h'
     ·exact List.mem_append_left _ h'
     ·exact List.mem_append_right _ (.tail _ h')
    have w1:=bt_way (to:=to) k h1 (by rw[hpc];exact Ac) (M.set lo true) (fun j a b=>hM1 j a (by omega)) f (by omega)
    show WayR to cols lo hi M (wayL (wayS l (to:Int) f) (preT ⟨c.path,false,nmP (patAt r0 n),[((lo+1:Nat):Int),(mid:Int)],0⟩) [((lo+1:Nat):Int),(mid:Int)] (M.set lo true))
    unfold wayL
    rcases w1 with ⟨g1,g2,p,g3,g4,g5⟩ | ⟨g1,g2,g3⟩
    ·rw[g3]
     exact .inl ⟨by omega,by omega,p,rfl,g4,fun q hq=>by obtain ⟨c',k1,k2⟩:=g5 q hq;exact⟨c',hsub c' k1,k2⟩⟩
    ·rw[g2]
     have hM2:=g3.left hM1 (by omega)
     have w2:=bt_way (to:=to) k h2 An _ hM2 f (by omega)
     show WayR to cols lo hi M (wayL (wayS l (to:Int) f) (preT ⟨c.path,false,nmP (patAt r0 n),[((lo+1:Nat):Int),(mid:Int)],0⟩) [(mid:Int)] _)
     unfold wayL
     rcases w2 with ⟨b1,b2,p,b3,b4,b5⟩ | ⟨b1,b2,b3⟩
     ·rw[b3]
      exact .inl ⟨by omega,b2,p,rfl,b4,b5⟩
     ·rw[b2]
      exact .inr ⟨by omega,rfl,F1.trans (g3.trans b3 (by omega) (by omega)) (by omega) (by omega)⟩
  ·by_cases e:lo=to
   ·exact here _ hl e
   ·rw[hw _ hl,if_neg e]
    obtain ⟨ca,cb,A⟩:=I.at hc
    have hal:=A.l
    have An':=An
    rw[A.e] at An'
    have hlz:=bc_le (fun _ _ _ _ _ h=>bt_lt k h) h1
    have w:=bc_way (pre:=preT ⟨c.path,true,0,nx,0⟩) (fun _ _ _ _ _ h=>bt_lt k h) (to:=to) (f:=wayS l (to:Int) f) (M:=M.set lo true) h1 (fun j z a b M' hj hp h3 h4 hM'=>by
     have l1:=bt_lt k hp
     refine bt_way k hp ?_ M' hM' f (by omega)
     rw[A.e,putC_mid hal]
     exact (anti_mid An' z.flds).1) hM1
    show WayR to cols lo hi M (wayL (wayS l (to:Int) f) (preT ⟨c.path,true,0,nx,0⟩) nx (M.set lo true))
    rcases w with ⟨g1,g2,p,z,g3,g4,g5⟩ | ⟨g1,g2,g3⟩
    ·have An2:=An'
     unfold Anti at An2
     rw[List.pairwise_append,List.pairwise_cons] at An2
     obtain ⟨n1,⟨n2,n3⟩,n4⟩:=An2
     have hcm:c ∈ cols:=List.mem_of_getElem? hc
     refine .inl ⟨by omega,g2,c.path::p,g3,?_,?_⟩
     ·rw[List.nodup_cons]
      refine ⟨fun hin=>?_,g4⟩
      obtain ⟨c',k1,k2⟩:=g5 _ hin
      rw[A.e,putC_mid hal] at k1
      rcases List.mem_append.1 k1 with k1 | k1
      ·rcases List.mem_append.1 k1 with k1 | k1
       ·exact (n4 c' k1 c (.head _)).1 k2
       ·obtain ⟨i,e⟩:=fldC_pre k1
        rw[e] at k2
        have:=k2.length_le
        simp at this
        omega
      ·exact (n2 c' k1).2 k2
     ·intro q hq
      rcases List.mem_cons.1 hq with rfl | hq
      ·exact⟨c,hcm,List.prefix_refl _⟩
      ·obtain ⟨c',k1,k2⟩:=g5 q hq
       rw[A.e,putC_mid hal] at k1
       rcases List.mem_append.1 k1 with k1 | k1
       ·rcases List.mem_append.1 k1 with k1 | k1
        ·exact⟨c',by rw[A.e];exact List.mem_append_left _ k1,k2⟩
        ·obtain ⟨i,e⟩:=fldC_pre k1
         rw[e] at k2
         exact⟨c,hcm,(List.prefix_append _ _).trans k2⟩
       ·exact⟨c',by rw[A.e];exact List.mem_append_right _ (.tail _ k1),k2⟩
    ·exact .inr ⟨by omega,g2,F1.trans g3 (by omega) hlz⟩
end Zc28
end
section
set_option maxHeartbeats 4000000
namespace Zc28
open Go Zv Zs
theorem Gd.never {d:List Dt} {ts:List Int} {l:List (List Pt)} (G:Gd d ts l) {n:Nat} {x:List Pt} (hx:l[n]? = some x) (h:usS d 8001 ts (l.take n) x=false) (K:Nat):usS d K ts (l.take n) x=false:=by
 cases hu:usS d K ts (l.take n) x with
 |false=>rfl
 |true=>
  have h2:=us_le 8001 hu
  have hw:=nwS_take hx
  have h3:=us_fuel G.sml G.typ (k:=8001) (k':=K+8001) (ts:=ts) (l:=l.take n) (r:=x) (by have:=G.w;omega) (by have:=G.w;omega) (by have:=G.w;omega) (by rw[List.length_take];have:=G.len;omega) G.tys (fun r hr=>G.fit r (List.mem_of_mem_take hr)) (G.fit x (List.mem_of_getElem? hx))
  rw[h,h2] at h3
  cases h3
theorem fst_row0 (l:List (List Pt)) (vs:List Vl):∀ k:Nat,(((l.zipIdx k).map fun q:List Pt × Nat=>(⟨(q.2:Int),q.1⟩:Rw)).find? fun r=>mtL r.pats vs).map Rw.n=(fst? (fun r=>mtL r vs) k l).map fun q=>(q.1:Int):=by
 induction l with
 |nil=>intro k;rfl
 |cons r l ih=>
  intro k
  rw[List.zipIdx_cons,List.map_cons,List.find?_cons]
  unfold fst?
  cases hm:mtL r vs with
  |true=>simp
  |false=>simpa [hm] using ih (k+1)
theorem fst_iff {l:List (List Pt)} {vs:List Vl} {m:Int} (h:fstR (row0 l) vs=some m):∃ (i:Nat) (x:List Pt),m=(i:Int)∧l[i]? = some x∧mtL x vs=true∧∀ y,y ∈ l.take i→mtL y vs=false:=by
 unfold fstR row0 at h
 rw[fst_row0 l vs 0] at h
 cases hf:fst? (fun r=>mtL r vs) 0 l with
 |none=>rw[hf] at h;cases h
 |some q=>
  obtain ⟨i,x⟩:=q
  rw[hf] at h;cases h
  obtain ⟨_,h2,h3,h4⟩:=Zs.fst_some hf
  refine ⟨i,x,rfl,by simpa using h2,h3,fun y hy=>?_⟩
  obtain ⟨j,hj⟩:=List.mem_iff_getElem?.1 hy
  rw[List.getElem?_take] at hj
  split at hj
  ·exact h4 j y (by omega) (by assumption) (by simpa using hj)
  ·cases hj
theorem fst_of_first {l:List (List Pt)} {vs:List Vl} {i:Nat} {x:List Pt} (hx:l[i]? = some x) (hm:mtL x vs=true) (hb:∀ y,y ∈ l.take i→mtL y vs=false):fstR (row0 l) vs=some (i:Int):=by
 have hs:(fstR (row0 l) vs).isSome=true:=by
  refine fst_of (r:=⟨(i:Int),x⟩) ?_ hm
  unfold row0
  exact List.mem_map.2 ⟨(x,i),List.mem_iff_getElem?.2 ⟨i,by rw[List.getElem?_zipIdx,hx];simp⟩,rfl⟩
 obtain ⟨m,hm'⟩:=Option.isSome_iff_exists.1 hs
 obtain ⟨j,y,rfl,hy,hmy,hby⟩:=fst_iff hm'
 rw[hm']
 rcases Nat.lt_trichotomy i j with h | h | h
 ·have:=hby x (List.mem_iff_getElem?.2 ⟨i,by rw[List.getElem?_take,if_pos h];exact hx⟩)
  rw[hm] at this;cases this
 ·rw[h]
 ·have:=hb y (List.mem_iff_getElem?.2 ⟨j,by rw[List.getElem?_take,if_pos h];exact hy⟩)
  rw[hmy] at this;cases this
structure Tree (d:List Dt) (ts:List Int) (l:List (List Pt)) (T:List Ts):Prop where
 gd:Gd d ts l
 chk:checkS d=0
 len:T.length≤4096
 light:Light T
 bt:Bt d T 80 (col0 ts) (row0 l) (List.replicate ts.length []) 0 T.length
theorem tree {d:List Dt} {ts:List Int} {l:List (List Pt)} (F:Few8 d ts l) (h:compE d ts l=0):Tree d ts l (compT d ts l):=by
 obtain ⟨hc,hw,h4,hT⟩:=compT_z h
 obtain ⟨G,hC⟩:=gd28 F.sml (by have:=F.ts;omega) (by have:=F.rows;omega) (by have:=F.nw;omega) hc
 have I:=bi0 F hc hw
 have C:CovE d (List.replicate ts.length []) (col0 ts) (row0 l):=by
  refine ⟨by rw[List.length_replicate,col0_len],fun vs hv=>?_,fun r hr=>freshL_none ..⟩
  rw[col0_ty] at hv
  have hty:=domL_ty hv
  have hl:=tyL_len hty
  obtain ⟨x,hx,hm⟩:=cover (vcntL vs) ts l (List.replicate ts.length wildT) vs (Nat.le_refl _) hty G.fit (fitR_wild d ts) (us_none G hw) (by rw[←hl];exact mtL_wild vs)
  rw[←row0_pats l] at hx
  obtain ⟨r,hr,rfl⟩:=List.mem_map.1 hx
  exact fst_of hr hm
 obtain ⟨_,_,hb⟩:=build_bt 80 [] (col0 ts) (row0 l) _ I C h4
 obtain ⟨t1,_⟩:=compT_ok F
 rw[hT] at t1 ⊢
 exact⟨G,hC,h4,⟨h4,fun t ht=>by have:=t1 t ht;exact⟨by have:=this.1;omega,by have:=this.2;omega⟩⟩,hb _ fun _ _ _=>rfl⟩
section
variable {d:List Dt} {ts:List Int} {l:List (List Pt)} {T:List Ts}
theorem col0_fld (ts:List Int):col0 ts=fldC [] ts:=rfl
theorem Tree.leaf (R:Tree d ts l T) {j:Nat} {t:Ts} (hj:T[j]? = some t) (hn:t.next=[]):∃ (i:Nat) (x:List Pt),t.row=(i:Int)∧l[i]? = some x∧usS d 8001 ts (l.take i) x=true:=by
 obtain ⟨vs,hd,hf⟩:=bt_leaf hj hn 80 R.bt (by omega) (List.getElem?_eq_some_iff.1 hj).1
 obtain ⟨i,x,e,hx,hm,hb⟩:=fst_iff hf
 refine ⟨i,x,e,hx,?_⟩
 cases hu:usS d 8001 ts (l.take i) x with
 |true=>rfl
 |false=>
  rw[col0_ty] at hd
  obtain ⟨y,hy,hmy⟩:=cover (vcntL vs) ts (l.take i) x vs (Nat.le_refl _) (domL_ty hd) (fun r hr=>R.gd.fit r (List.mem_of_mem_take hr)) (R.gd.fit x (List.mem_of_getElem? hx)) (R.gd.never hx hu) hm
  rw[hb y hy] at hmy;cases hmy
theorem Tree.has (R:Tree d ts l T) {i:Nat} {x:List Pt} (hx:l[i]? = some x) (hu:usS d 8001 ts (l.take i) x=true):∃ (j:Nat) (t:Ts),T[j]? = some t∧t.next=[]∧t.row=(i:Int):=by
 obtain ⟨vs,h1,h2,h3⟩:=useful_vals R.chk 8001 ts (l.take i) x R.gd.tys (fun r hr=>R.gd.fit r (List.mem_of_mem_take hr)) (R.gd.fit x (List.mem_of_getElem? hx)) hu
 obtain ⟨j,t,_,_,g3,g4,g5⟩:=bt_has 80 R.bt vs (by rw[col0_ty];exact ty_domL h1)
 rw[fst_of_first hx h2 h3] at g5
 exact⟨j,t,g3,g4,(Option.some.inj g5).symm⟩
theorem Tree.way (R:Tree d ts l T) {j:Nat} (hj:j<T.length):(tstS T (j:Int)).Nodup:=by
 have w:=bt_way (to:=j) 80 R.bt (by rw[col0_fld];exact anti_fld [] ts 0) (List.replicate T.length false) (fun i _ h=>by rw[List.getElem?_replicate,if_pos h]) (T.length+1) (by omega)
 unfold tstS
 rcases w with ⟨_,_,p,g3,g4,_⟩ | ⟨g1,_⟩
 ·have g3:(wayS T (j:Int) (T.length+1) (List.replicate T.length false) 0).2=some p:=g3
  rw[g3];exact g4
 ·exact absurd ⟨by omega,hj⟩ g1
theorem dead_iff {d:List Dt} {ts:List Int} {l:List (List Pt)} {i:Nat} {x:List Pt} (hx:l[i]? = some x):((i:Int) ∈ deadS d ts l) ↔ usS d 8001 ts (l.take i) x=false:=by
 unfold deadS
 rw[List.mem_filterMap]
 constructor
 ·rintro ⟨q,hq,h⟩
  obtain ⟨n,hn⟩:=List.mem_iff_getElem?.1 hq
  obtain ⟨h1,h2⟩:=zip_ix hn
  obtain ⟨a,b⟩:=q
  unfold deadF at h
  split at h
  ·cases h
  ·rename_i hu
   have e:(b:Int)=(i:Int):=by simpa using h
   have e:b=i:=by omega
   subst e
   have h2:b=n:=h2
   subst h2
   rw[hx] at h1;cases h1
   simpa using hu
 ·intro h
  refine ⟨(x,i),List.mem_iff_getElem?.2 ⟨i,by rw[List.getElem?_zipIdx,hx];simp⟩,?_⟩
  unfold deadF
  rw[if_neg (by rw[h];simp)]
end
end Zc28
end
section
set_option maxHeartbeats 4000000
namespace Zc28
open Go Zv Zs
theorem idxInt_ok (l:List Int) (x:Int) (hl:l.length<2 ^ 60) (h:Hp):callW tab 61 [.d (eIs l),.d (eI x)] h=some (.d (eI (idxZ (fun y=>x == y) l)),h):=by
 refine call_wp (fn:=f61) rfl rfl ?_
 have hloop:=loop_find (T:=tab) (a:=f61l0) (l:=l) (p:=(fun y=>x == y)) (f:=fun n=>[(0,.d (eIs l)),(1,.d (eI x)),(7,.d (.int .i64 (l.length:Int))),(8,int n)]) (h:=h)
   (by intro n x hx hlt hp;all_goals (apply wq_ex.1;simp only[hlt,hp,e61,iaI hx,wrap_succ (show n<2 ^ 62 by omega),wz,opX,intBin,↓reduceIte,simprocAttr]))
   (by intro n x hx hlt hp;all_goals (apply wq_ex.1;simp only[hlt,hp,e61,iaI hx,wrap_succ (show n<2 ^ 62 by omega),wz,opX,intBin,↓reduceIte,simprocAttr]<;>rfl))
   (by apply wq_ex.1;simp only[e61,wz,opX,intBin,↓reduceIte,simprocAttr]<;>rfl)
   (by intro n x;simp) (by simp)
 simp only[int,Zv.bool,Int.cast_ofNat_Int] at hloop
 simp only[e61,wq_of hloop,wz,opX,intBin,↓reduceIte,simprocAttr]
 unfold idxZ
 cases fst? (fun y=>x == y) 0 l with
 |none=>simp only[e61,wz,opX,intBin,↓reduceIte,simprocAttr]
 |some n=>simp only[e61,wz,opX,intBin,↓reduceIte,simprocAttr]
theorem conInt_ok (l:List Int) (x:Int) (hl:l.length<2 ^ 60) (h:Hp):callW tab 24 [.d (eIs l),.d (eI x)] h=some (.d (.bool (decide (x ∈ l))),h):=by
 refine call_wp (fn:=f24) rfl rfl ?_
 have h1:=idxInt_ok l x hl h
 simp only[e24,h1,idxZ_nn,wz,opX,intBin,↓reduceIte,simprocAttr]
 all_goals simp
theorem decisionLeaves:∀ x0 x1 x2:D,ok (EE Zc28.es) (.one (.l 0)) x0→ok (EE Zc28.es) (.one (.l 2)) x1→ok (EE Zc28.es) (.one (.l 3)) x2→∃ h',callW Zc28.tab 5 [.d x0,.d x1,.d x2] ⟨[],0⟩=some (.d (.bool true),h'):=by
 intro x0 x1 x2 h0 h1 h2
 obtain ⟨d,rfl⟩:=okDs h0
 obtain ⟨ts,rfl,hts⟩:=okIs h1
 obtain ⟨l,rfl,hl⟩:=okRs h2
 refine ⟨⟨[],0⟩,?_⟩
 refine call_wp (fn:=f5) rfl rfl ?_
 have aw:∀ q,callW tab 10 [] ⟨[],q⟩=some (.d (.bool true),⟨[],q⟩):=fun q=>awake_any (fun _ _=>rfl)
 obtain ⟨b,hf,hb⟩:=few_ok d ts l ⟨[],0⟩
 cases b with
 |false=>simp only[e5,aw,hf,wz,opX,intBin,↓reduceIte,simprocAttr]
 |true=>
  have F:=hb rfl
  have dc:=fun h=>pcheck_ok F.sml.bd F.sml.nm h
  by_cases hd:checkS d=0
  ·rw[hd] at dc
   have m1:=fun h=>matrixOf_ok l (by have:=F.rows;omega) (fun r hr=>by have:=(F.row r hr).2;omega) h
   have c1:=fun n=>compile_ok F n
   have hcl:(D.agg [eTs (compT d ts l)]).cells.length=1:=rfl
   by_cases e0:compE d ts l=0
   ·have R:=tree F e0
    obtain ⟨hc,_⟩:=compT_z e0
    have d1:=fun h=>dead_ok R.gd F.rng hc h
    rw[e0] at c1
    have hpl:∀ t,t ∈ compT d ts l→t.path.length≤1000000:=fun t ht=>by have:=(R.light.ts t ht).1;omega
    generalize compT d ts l=T at *
    have hL6:=F.rows
    have hT4:=R.len
    have hmk:mkslO (.d (.bool false)) 1 1 ⟨[],1⟩ (.d (.int .i64 (l.length:Int)))=some (.own 1 1 l.length 0 l.length,⟨[(1,.arr 1 ((List.replicate l.length false).map bV))],2⟩):=by
     simp only[mkslO,ixOf_nat,Option.bind_some]
     rw[if_pos ⟨by simp only[roomB];omega,by omega⟩,List.map_replicate];rfl
    have hdl:(deadS d ts l).length≤1000:=by
     have:=fm_len (deadF d ts l) l.zipIdx
     rw[List.length_zipIdx] at this
     unfold deadS
     omega
    simp only[e5,aw,hf,dc,m1,c1,hcl,d1,ibne,hmk,wz,opX,intBin,↓reduceIte,simprocAttr]
    refine loop_wp T.length (fun n e h'=>∃ S q,h'=⟨[(1,.arr 1 (S.map bV))],q⟩∧1<q∧e=[(7,.d (eRs l)),(8,.fp (.agg [eTs T]) 0),(10,.d (eIs (deadS d ts l))),(12,.own 1 1 l.length 0 l.length),(56,.d (eTs T)),(57,.d (.int .i64 (T.length:Int))),(58,.d (.int .i64 (n:Int)))]∧S.length=l.length∧∀ i:Nat,S[i]? = some true ↔ ∃ (j:Nat) (t:Ts),j<n∧T[j]? = some t∧t.next=[]∧t.row=(i:Int)) _ ?_ ?_ T.length 0 _ _ (by omega) ⟨List.replicate l.length false,2,rfl,by omega,rfl,by simp,fun i=>⟨fun h=>(by rw[List.getElem?_replicate] at h;split at h<;>cases h),fun ⟨j,t,h,_⟩=>(by omega)⟩⟩
    ·rintro n e h' hn ⟨S,q,rfl,hq,rfl,hSl,hS⟩
     obtain ⟨t,ht⟩:=get_of_lt hn
     have hw:=wrap_succ (show n<2 ^ 62 by omega)
     have hct:(eT t).cells.length=5:=rfl
     by_cases hnx:t.next=[]
     ·have hz:¬ (0:Int)<(t.next.length:Int):=by rw[hnx];simp
      obtain ⟨i,x,hrow,hxi,hu⟩:=R.leaf ht hnx
      have hil:=(List.getElem?_eq_some_iff.1 hxi).1
      have r1:¬ t.row<0:=by omega
      have r2:¬ (l.length:Int)≤t.row:=by omega
      have hio:ia 1 (.own 1 1 l.length 0 l.length) (.d (.int .i64 t.row))=some (.ptr 1 l.length i 0):=by rw[hrow];exact ia_own .i64 hil
      obtain ⟨b,hb⟩:=get_of_lt (l:=S) (n:=i) (by omega)
      have hst:∀ nx,st 1 ⟨[(1,.arr 1 (S.map bV))],nx⟩ (.ptr 1 l.length i 0) (.d (.bool true))=some ⟨[(1,.arr 1 ((S.set i true).map bV))],nx⟩:=by
       intro nx
       have hr:Hp.row ⟨[(1,.arr 1 (S.map bV))],nx⟩ 1 l.length=some (1,S.map bV):=row_of (by simp[Zv.look]) (by rw[List.length_map];exact hSl)
       have e:=st_all (sz:=1) (i:=i) (x:=.d (.bool true)) hr (e:=bV b) (by rw[List.getElem?_map,hb];rfl) rfl rfl
       rw[e]
       simp[Hp.set,upd,List.map_set]
      have p1:=fun h=>ptested_ok (l:=T) R.light hpl (n:Int) h
      have hnd:=R.way hn
      have hwl:=tstS_len T (n:Int)
      have hwp:∀ p,p ∈ tstS T (n:Int)→p.length<2 ^ 60:=fun p hp=>by
       obtain ⟨t',ht',rfl⟩:=tstS_path p hp
       have:=(R.light.ts t' ht').1;omega
      generalize tstS T (n:Int)=Wy at p1 hnd hwl hwp
      simp only[e5,hn,iaT ht,hct,hz,r1,r2,hio,hst,hcl,p1,wz,opX,intBin,↓reduceIte,simprocAttr]
      refine loop_wp Wy.length (fun a e h'=>h'=⟨[(1,.arr 1 ((S.set i true).map bV))],q+1⟩∧e=[(7,.d (eRs l)),(8,.fp (.agg [eTs T]) 0),(10,.d (eIs (deadS d ts l))),(12,.own 1 1 l.length 0 l.length),(15,.d (.lst (Wy.map eIs))),(56,.d (eTs T)),(57,.d (.int .i64 (T.length:Int))),(58,.d (.int .i64 (n:Int))),(85,.d (.int .i64 (Wy.length:Int))),(86,.d (.int .i64 (a:Int)))]) _ ?_ ?_ Wy.length 0 _ _ (by omega) ⟨rfl,rfl⟩
      ·rintro a e h' ha ⟨rfl,rfl⟩
       obtain ⟨pa,hpa⟩:=get_of_lt ha
       have hwa:=wrap_succ (show a<2 ^ 62 by omega)
       simp only[e5,ha,wz,opX,intBin,↓reduceIte,simprocAttr]
       refine loop_wp a (fun b e h'=>h'=⟨[(1,.arr 1 ((S.set i true).map bV))],q+1⟩∧e=[(7,.d (eRs l)),(8,.fp (.agg [eTs T]) 0),(10,.d (eIs (deadS d ts l))),(12,.own 1 1 l.length 0 l.length),(15,.d (.lst (Wy.map eIs))),(16,.d (.int .i64 (a:Int))),(56,.d (eTs T)),(57,.d (.int .i64 (T.length:Int))),(58,.d (.int .i64 (n:Int))),(85,.d (.int .i64 (Wy.length:Int))),(86,.d (.int .i64 (a:Int))),(89,.d (.int .i64 (a:Int))),(90,.d (.int .i64 (b:Int)))]) _ ?_ ?_ a 0 _ _ (by omega) ⟨rfl,rfl⟩
       ·rintro b e h' hb ⟨rfl,rfl⟩
        obtain ⟨pb,hpb⟩:=get_of_lt (l:=Wy) (n:=b) (by omega)
        have hwb:=wrap_succ (show b<2 ^ 62 by omega)
        have ia1:ia 1 (.d (.lst (Wy.map eIs))) (.d (.int .i64 (a:Int)))=some (.fp (eIs pa) 0):=ia_map (f:=eIs) .i64 hpa rfl
        have ia2:ia 1 (.d (.lst (Wy.map eIs))) (.d (.int .i64 (b:Int)))=some (.fp (eIs pb) 0):=ia_map (f:=eIs) .i64 hpb rfl
        have hq:=fun h=>eqI_ok pa pb (hwp pa (List.mem_of_getElem? hpa)) (hwp pb (List.mem_of_getElem? hpb)) h
        have hne:pa≠pb:=by
         intro e
         subst e
         have h1:=(List.getElem?_eq_some_iff.1 hpa)
         have h2:=(List.getElem?_eq_some_iff.1 hpb)
         have:=(List.getElem_inj (h₀:=h1.1) (h₁:=h2.1) hnd).1 (by rw[h1.2,h2.2])
         omega
        simp only[decide_eq_false hne] at hq
        simp only[e5,hb,ia1,ia2,hq,hwb,wz,opX,intBin,↓reduceIte,simprocAttr]
       ·rintro e h' ⟨rfl,rfl⟩
        simp only[e5,hwa,wz,opX,intBin,↓reduceIte,simprocAttr]
      ·rintro e h' ⟨rfl,rfl⟩
       simp only[e5,hw,wz,opX,intBin,↓reduceIte,simprocAttr]
       refine ⟨S.set i true,q+1,rfl,by omega,by simp[hSl],fun k=>?_⟩
       by_cases hk:k=i
       ·subst hk
        rw[List.getElem?_set_self (by omega)]
        exact⟨fun _=>⟨n,t,by omega,ht,hnx,hrow⟩,fun _=>rfl⟩
       ·rw[List.getElem?_set_ne (fun e=>hk e.symm),hS k]
        constructor
        ·rintro ⟨j,t',h1,h2⟩;exact⟨j,t',by omega,h2⟩
        ·rintro ⟨j,t',h1,h2,h3,h4⟩
         by_cases hj:j=n
         ·subst hj;rw[ht] at h2;cases h2;omega
         ·exact⟨j,t',by omega,h2,h3,h4⟩
     ·have hz:(0:Int)<(t.next.length:Int):=by have:=List.length_pos_iff.2 hnx;omega
      simp only[e5,hn,iaT ht,hct,hz,hw,wz,opX,intBin,↓reduceIte,simprocAttr]
      refine ⟨S,q+1,rfl,by omega,hSl,fun k=>?_⟩
      rw[hS k]
      constructor
      ·rintro ⟨j,t',h1,h2⟩;exact⟨j,t',by omega,h2⟩
      ·rintro ⟨j,t',h1,h2,h3,h4⟩
       by_cases hj:j=n
       ·subst hj;rw[ht] at h2;cases h2;exact absurd h3 hnx
       ·exact⟨j,t',by omega,h2,h3,h4⟩
    ·rintro e h' ⟨S,q,rfl,hq,rfl,hSl,hS⟩
     have hbit:∀ (i:Nat) x,l[i]? = some x→S[i]? = some (!decide ((i:Int) ∈ deadS d ts l)):=by
      intro i x hx
      obtain ⟨b,hb⟩:=get_of_lt (l:=S) (n:=i) (by have:=(List.getElem?_eq_some_iff.1 hx).1;omega)
      rw[hb]
      by_cases hdd:(i:Int) ∈ deadS d ts l
      ·rw[decide_eq_true hdd]
       cases b with
       |false=>rfl
       |true=>
        obtain ⟨j,t,_,h1,h2,h3⟩:=(hS i).1 hb
        obtain ⟨i',x',e,hx',hu⟩:=R.leaf h1 h2
        obtain rfl:i'=i:=by omega
        rw[hx] at hx';cases hx'
        rw[(dead_iff hx).1 hdd] at hu;cases hu
      ·rw[decide_eq_false hdd]
       have hu:usS d 8001 ts (l.take i) x=true:=by
        cases hu:usS d 8001 ts (l.take i) x with
        |true=>rfl
        |false=>exact absurd ((dead_iff hx).2 hu) hdd
       obtain ⟨j,t,h1,h2,h3⟩:=R.has hx hu
       have:=(hS i).2 ⟨j,t,(List.getElem?_eq_some_iff.1 h1).1,h1,h2,h3⟩
       rw[hb] at this;cases this;rfl
     have hrow:∀ nx,Hp.row ⟨[(1,.arr 1 (S.map bV))],nx⟩ 1 l.length=some (1,S.map bV):=fun nx=>row_of (by simp[Zv.look]) (by rw[List.length_map];exact hSl)
     simp only[e5,wz,opX,intBin,↓reduceIte,simprocAttr]
     refine loop_wp l.length (fun n e h'=>h'=⟨[(1,.arr 1 (S.map bV))],q⟩∧e=[(10,.d (eIs (deadS d ts l))),(105,.own 1 1 l.length 0 l.length),(106,.d (.int .i64 (l.length:Int))),(107,.d (.int .i64 (n:Int)))]) _ ?_ ?_ l.length 0 _ _ (by omega) ⟨rfl,rfl⟩
     ·rintro n e h' hn ⟨rfl,rfl⟩
      obtain ⟨x,hx⟩:=get_of_lt hn
      have hw:=wrap_succ (show n<2 ^ 62 by omega)
      have hio:=ia_own (es:=1) (n:=1) (tot:=l.length) .i64 hn
      have hlb:=ld_bit (hrow q) (hbit n x hx)
      have hcc:=fun h=>conInt_ok (deadS d ts l) (n:Int) (by omega) h
      have hbb:∀ b:Bool,((!b) == b)=false:=by decide
      simp only[e5,hn,hio,hlb,hcc,hw,hbb,wz,opX,intBin,↓reduceIte,simprocAttr]
     ·rintro e h' ⟨rfl,rfl⟩
      have aw2:callW tab 10 [] ⟨[(1,.arr 1 (S.map bV))],q⟩=some (.d (.bool true),⟨[(1,.arr 1 (S.map bV))],q⟩):=awake_any (low_cons (fun _ _=>rfl) hq)
      have fs2:finS ⟨[],0⟩ ⟨[(1,.arr 1 (S.map bV))],q⟩ [.d (.bool true)]=some (.d (.bool true),⟨[],0⟩):=finS_e ..
      simp only[e5,aw2,fs2,wz,opX,intBin,↓reduceIte,simprocAttr]
   ·by_cases hc:chk27 d ts l=0
    ·obtain ⟨G,hC⟩:=gd28 F.sml (by have:=F.ts;omega) (by have:=F.rows;omega) (by have:=F.nw;omega) hc
     have d1:=fun h=>dead_ok G F.rng hc h
     simp only[e5,aw,hf,dc,m1,c1,hcl,d1,ibne,e0,wz,opX,intBin,↓reduceIte,simprocAttr]
    ·have d1:=fun h=>dead_bad F.rng hc h
     simp only[e5,aw,hf,dc,m1,c1,hcl,d1,ibne,e0,wz,opX,intBin,↓reduceIte,simprocAttr]
  ·simp only[e5,aw,hf,dc,ibne,hd,wz,opX,intBin,↓reduceIte,simprocAttr]
end Zc28
end
