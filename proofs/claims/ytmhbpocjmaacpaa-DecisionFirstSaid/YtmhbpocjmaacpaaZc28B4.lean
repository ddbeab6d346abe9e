/-
  Parts of the proof.
-/
import Derived.Test.YtmhbpocjmaacpaaZc28S6
set_option linter.unusedSimpArgs false
set_option linter.unusedVariables false
section
set_option maxHeartbeats 4000000
namespace Zc28
open Go Zv Zs
mutual
theorem okP:∀ (x:D),ok (EE es) (.st [.i .i64,.i .i64,.i .i64,.l 4]) x→∃ p,x=ePt p
 | .agg [.int k a,.int k' b,.int k'' c,.lst qs],h=>by
  simp only[ok,okCs] at h
  obtain ⟨⟨rfl,_⟩,⟨rfl,_⟩,⟨rfl,_⟩,⟨_,hq⟩,_⟩:=h
  obtain ⟨ps,rfl⟩:=okPl qs hq
  exact⟨.mk a b c ps,by rw[ePt_mk]⟩
 |x,h=>by
  obtain ⟨l,rfl,h1⟩:=ok_st h
  obtain ⟨a,r,rfl,ha,h1⟩:=okCs_cons h1
  obtain ⟨b,r,rfl,hb,h1⟩:=okCs_cons h1
  obtain ⟨c,r,rfl,hc,h1⟩:=okCs_cons h1
  obtain ⟨q,r,rfl,hq,h1⟩:=okCs_cons h1
  obtain rfl:=okCs_nil h1
  obtain ⟨k,rfl⟩:=okI ha
  obtain ⟨n,rfl⟩:=okI hb
  obtain ⟨m,rfl⟩:=okI hc
  obtain ⟨qs,rfl,_,hq2⟩:=ok_l hq
  obtain ⟨ps,rfl⟩:=okPl qs hq2
  exact⟨.mk k n m ps,by rw[ePt_mk]⟩
termination_by x=>sizeOf x
decreasing_by
 all_goals simp_wf
 all_goals subst_vars
 all_goals simp
 all_goals omega
theorem okPl:∀ (l:List D),okEs (EE es) (EE es 4) l→∃ ps:List Pt,l=ps.map ePt
 | [],_=>⟨[],rfl⟩
 |x::l,h=>by
  simp only[okEs] at h
  obtain ⟨p,rfl⟩:=okP x h.1
  obtain ⟨ps,rfl⟩:=okPl l h.2
  exact⟨p::ps,rfl⟩
termination_by l=>sizeOf l
end
theorem okPs {x:D} (h:ok (EE es) (.one (.l 4)) x):∃ a,x=ePs a∧a.length≤maxLen:=by
 obtain ⟨l,rfl,hl,h2⟩:=ok_l h
 obtain ⟨xs,rfl⟩:=okPl l h2
 rw[List.length_map] at hl
 exact⟨xs,rfl,hl⟩
theorem okRs {x:D} (h:ok (EE es) (.one (.l 3)) x):∃ a,x=eRs a∧a.length≤maxLen:=by
 obtain ⟨l,rfl,hl,h2⟩:=ok_l h
 obtain ⟨xs,rfl⟩:=okEs_map (fun x hx=>by obtain ⟨a,ha,_⟩:=okPs (x:=x) hx;exact⟨a,ha⟩) h2
 refine ⟨xs,rfl,?_⟩
 rw[List.length_map] at hl
 exact hl
end Zc28
end
section
set_option maxHeartbeats 4000000
namespace Zc28
open Go Zv Zs
theorem ePt_cm (k c n:Int) (qs:List Pt):(ePt (.mk k c n qs)).cells=[.int .i64 k,.int .i64 c,.int .i64 n,.lst (qs.map ePt)]:=by rw[ePt_mk];rfl
abbrev zP:V:=.agg [.d (.int .i64 0),.d (.int .i64 0),.d (.int .i64 0),.tl [] (some true)]
abbrev gP (k c m:Int) (v:V):V:=.agg [.d (.int .i64 k),.d (.int .i64 c),.d (.int .i64 m),v]
theorem mk_pat1 (a b c:D):mkAgg [.d a,.d b,.d c,.tl [] (some true)]=.agg [.d a,.d b,.d c,.tl [] (some true)]:=rfl
theorem st_p (H q n:Nat) (k c m:Int) (v:V) (o1:Ob) (r:List (Nat × Ob)):st 1 ⟨(H+4,o1)::(H+2,.arr 4 [gP k c m v])::r,q⟩ (.ptr (H+2) 1 0 3) (.own (H+4) 4 n 0 n)=some ⟨(H+4,o1)::(H+2,.arr 4 [gP k c m (.own (H+4) 4 n 0 n)])::r,q⟩:=by
 have hr:Hp.row ⟨(H+4,o1)::(H+2,.arr 4 [gP k c m v])::r,q⟩ (H+2) 1=some (4,[gP k c m v]):=row_cn (by omega) (fun nx=>by rw[row_hd];rfl)
 have hs:∀ y,Hp.set ⟨(H+4,o1)::(H+2,.arr 4 [gP k c m v])::r,q⟩ (H+2) y=⟨(H+4,o1)::(H+2,y)::r,q⟩:=by
  intro y;unfold Hp.set;simp[upd]
 simp[st,hr,hs,stor,V.cells]
 rfl
theorem fz_p0 (H q:Nat) (k c m:Int) (r:List (Nat × Ob)):Zv.fzd ⟨(H,.arr 4 [gP k c m (.tl [] (some true))])::r,q⟩ (.ptr H 1 0 0)=some (.fp (ePt (.mk k c m [])) 0,⟨r,q⟩):=by
 have hr:Hp.row ⟨(H,.arr 4 [gP k c m (.tl [] (some true))])::r,q⟩ H 1=some (4,[gP k c m (.tl [] (some true))]):=by rw[row_hd];rfl
 have hs:∀ X:Hp,X.objs=(H,.arr 4 [gP k c m (.tl [] (some true))])::r→sameAt X X (.ptr H 1 0 0)=true:=by
  intro X hX;simp[sameAt,Hp.get,hX,Zv.look,Ob.beq_refl]
 unfold Zv.fzd
 simp only[hr,Option.bind_some,List.getElem?_cons_zero]
 have:frzs [V.d (.int .i64 k),.d (.int .i64 c),.d (.int .i64 m),.tl [] (some true)] ⟨(H,.arr 4 [gP k c m (.tl [] (some true))])::r,q⟩=some ([.int .i64 k,.int .i64 c,.int .i64 m,.lst []],⟨(H,.arr 4 [gP k c m (.tl [] (some true))])::r,q⟩):=rfl
 rw[this,Option.bind_some,if_pos (hs _ rfl),ePt_mk]
 simp[Hp.kill,del]
theorem fz_p (H q:Nat) (k c m:Int) (s:List Pt) (r:List (Nat × Ob)):Zv.fzd ⟨(H+4,.arr 4 ((s.map ePt).map .d))::(H+2,.arr 4 [gP k c m (.own (H+4) 4 s.length 0 s.length)])::r,q⟩ (.ptr (H+2) 1 0 0)=some (.fp (ePt (.mk k c m s)) 0,⟨r,q⟩):=by
 have hr:Hp.row ⟨(H+4,.arr 4 ((s.map ePt).map .d))::(H+2,.arr 4 [gP k c m (.own (H+4) 4 s.length 0 s.length)])::r,q⟩ (H+2) 1=some (4,[gP k c m (.own (H+4) 4 s.length 0 s.length)]):=row_cn (by omega) (fun nx=>by rw[row_hd];rfl)
 have hfz:=own_frz (es:=4) (m:=H+4) (q:=q) (o:=(H+2,.arr 4 [gP k c m (.own (H+4) 4 s.length 0 s.length)])::r) (l:=s.map ePt)
 rw[List.length_map] at hfz
 unfold Zv.fzd
 simp only[hr,Option.bind_some,List.getElem?_cons_zero]
 have:frzs [V.d (.int .i64 k),.d (.int .i64 c),.d (.int .i64 m),.own (H+4) 4 s.length 0 s.length] ⟨(H+4,.arr 4 ((s.map ePt).map .d))::(H+2,.arr 4 [gP k c m (.own (H+4) 4 s.length 0 s.length)])::r,q⟩=some ([.int .i64 k,.int .i64 c,.int .i64 m,.lst (s.map ePt)],⟨(H+2,.arr 4 [gP k c m (.own (H+4) 4 s.length 0 s.length)])::r,q⟩):=by
  have d1:∀ (hh:Hp) (x:D),Zv.frz hh (.d x)=some (.d x,hh):=fun _ _=>rfl
  simp only[frzs,d1,Option.bind_some,hfz,Option.map_some]
 rw[this,Option.bind_some]
 have hs:sameAt ⟨(H+4,.arr 4 ((s.map ePt).map .d))::(H+2,.arr 4 [gP k c m (.own (H+4) 4 s.length 0 s.length)])::r,q⟩ ⟨(H+2,.arr 4 [gP k c m (.own (H+4) 4 s.length 0 s.length)])::r,q⟩ (.ptr (H+2) 1 0 0)=true:=by
  simp[sameAt,Hp.get,Zv.look,Ob.beq_refl]
 rw[if_pos hs,ePt_mk]
 simp[Hp.kill,del]
theorem ptl (l:List Pt) (n:Nat) {x:Pt} (h:l[n]? = some x):(l.take (n+1)).map ePt=(l.take n).map ePt++[ePt x]:=by rw[List.take_add_one,h];simp
theorem pat_ok:∀ (N:Nat) (p:Pt),cntP p≤N→N≤1000→∀ h,callW tab 45 [.d (ePt p)] h=some (.d (ePt p),h):=by
 intro N
 induction N with
 |zero=>intro p hp;have:=cntP_pos p;omega
 |succ N ih=>
  intro p hp hN h
  obtain ⟨k,c,m,qs⟩:=p
  rw[cntP] at hp
  have hql:=cntL_len qs
  refine call_wp (fn:=f45) rfl rfl ?_
  have hcc:=ePt_cells (.mk k c m qs)
  simp only[e45,hcc,ePt_cm,mk_pat1,wz,opX,intBin,↓reduceIte,simprocAttr]
  refine loop_wp qs.length (fun n e h'=>(n=0→h'=⟨(h.next+1+1,.arr 4 [gP k c m (.tl [] (some true))])::(h.next+1,.arr 4 [zP])::h.objs,h.next+3⟩)∧(n≠0→∃ q,h'=⟨(h.next+4,.arr 4 (((qs.take n).map ePt).map .d))::(h.next+2,.arr 4 [gP k c m (.own (h.next+4) 4 n 0 n)])::(h.next+1,.arr 4 [zP])::h.objs,q⟩) ∧
   e=[(2,.ptr (h.next+1) 1 0 0),(3,.ptr (h.next+2) 1 0 0),(14,.d (.lst (qs.map ePt))),(15,.d (.int .i64 qs.length)),(16,.d (.int .i64 (n:Int)))]) _ ?_ ?_ qs.length 0 _ _ (by omega) ⟨fun _=>rfl,fun h=>absurd rfl h,rfl⟩
  ·rintro n e h' hn ⟨h0,h1,rfl⟩
   obtain ⟨x,hx⟩:=get_of_lt hn
   have hcm:=cntL_mem (List.mem_of_getElem? hx)
   have hf:=ih x (by omega) (by omega)
   have hwr:IntKind.i64.wrap ((n:Int)+1)=((n+1:Nat):Int):=by rw[wrap_ok (by omega) (by omega)];rfl
   have hst:=fun q v o1 r=>st_p h.next q (n+1) k c m v o1 r
   by_cases hn0:n=0
   ·subst hn0
    rw[h0 rfl]
    have happ:∀ r q,app 4 48 ⟨r,q⟩ (.tl [] (some true)) (.tl [.d (ePt x)] (some false))=some (.own q 4 1 0 1,⟨(q,.arr 4 [.d (ePt x)])::r,q+1⟩):=by
     intro r q
     simp[app,elems,allV,roomB,Hp.alloc,stor,V.cells,ePt_cells,norm_d]
    have h0l:(0:Int)<(qs.length:Int):=by omega
    have hia:ia 4 (.d (.lst (qs.map ePt))) (.d (.int .i64 0))=some (.fp (ePt x) 0):=iaP hx
    have h10:(0+1=0)=False:=by simp
    simp only[e45,h0l,hia,pts,hf,happ,hst,wz,opX,intBin,↓reduceIte,simprocAttr]
    have h1:=ptl qs 0 hx
    simp only[List.take_zero,List.map_nil,List.nil_append,Nat.zero_add] at h1
    exact⟨False.elim,fun _=>⟨_,by rw[h1];rfl⟩,rfl⟩
   ·obtain ⟨q,rfl⟩:=h1 hn0
    have happ:∀ q,app 4 48 ⟨(h.next+4,.arr 4 (((qs.take n).map ePt).map .d))::(h.next+2,.arr 4 [gP k c m (.own (h.next+4) 4 n 0 n)])::(h.next+1,.arr 4 [zP])::h.objs,q⟩ (.own (h.next+4) 4 n 0 n) (.tl [.d (ePt x)] (some false))=some (.own (h.next+4) 4 (n+1) 0 (n+1),⟨(h.next+4,.arr 4 (((qs.take (n+1)).map ePt).map .d))::(h.next+2,.arr 4 [gP k c m (.own (h.next+4) 4 n 0 n)])::(h.next+1,.arr 4 [zP])::h.objs,q⟩):=by
     intro q
     rw[app_tl1]
     have hl:((qs.take n).map ePt).length=n:=by rw[List.length_map,List.length_take];omega
     have:=own_app (es:=4) (b:=48) (m:=h.next+4) (q:=q) (o:=(h.next+2,.arr 4 [gP k c m (.own (h.next+4) 4 n 0 n)])::(h.next+1,.arr 4 [zP])::h.objs) (l:=(qs.take n).map ePt) (r:=[ePt x]) (by intro y hy;rw[List.mem_singleton] at hy;subst hy;exact ePt_cells x) (by rw[hl];simp only[List.length_cons,List.length_nil,roomB];omega)
     rw[List.length_append,hl] at this
     rw[ptl qs n hx]
     exact this
    have hrw:∀ o1 r q,Hp.row ⟨(h.next+4,o1)::(h.next+2,.arr 4 [gP k c m (.own (h.next+4) 4 n 0 n)])::r,q⟩ (h.next+2) 1=some (4,[gP k c m (.own (h.next+4) 4 n 0 n)]):=fun o1 r q=>row_cn (by omega) (fun nx=>by rw[row_hd];rfl)
    simp only[e45,hn,iaP hx,pts,hf,hrw,happ,hst,hwr,wz,opX,intBin,↓reduceIte,simprocAttr]
    exact⟨False.elim,fun _=>⟨_,rfl⟩⟩
  ·rintro e h' ⟨h0,h1,rfl⟩
   by_cases hn0:qs.length=0
   ·obtain rfl:qs=[]:=List.length_eq_zero_iff.1 hn0
    rw[h0 rfl]
    have hz:=fun q r=>fz_p0 (h.next+2) q k c m r
    have hf1:=fun h o q x=>finS1c (h:=h) (o:=o) (m:=q) x
    simp only[ePt_mk,List.map_nil] at hz ⊢
    simp only[e45,hz,pts,wz,opX,intBin,↓reduceIte,simprocAttr]
   ·obtain ⟨q,rfl⟩:=h1 hn0
    have hz:=fun q r=>fz_p h.next q k c m qs r
    rw[List.take_length]
    simp only[ePt_mk,List.map_nil] at hz ⊢
    simp only[e45,hz,pts,wz,opX,intBin,↓reduceIte,simprocAttr]
theorem prl (l:List (List Pt)) (n:Nat) {x:List Pt} (h:l[n]? = some x):(l.take (n+1)).map ePs=(l.take n).map ePs++[ePs x]:=by rw[List.take_add_one,h];simp
theorem matrixOf_ok (l:List (List Pt)) (hl:l.length≤1000) (hc:∀ r,r ∈ l→cntL r≤1000) (h:Hp):callW tab 12 [.d (eRs l)] h=some (.d (eRs l),h):=by
 refine call_wp (fn:=f12) rfl rfl ?_
 simp only[e12,wz,opX,intBin,↓reduceIte,simprocAttr]
 refine loop_wp l.length (fun n e h'=>∃ m q,h'=rowQ h m 1 ((l.take n).map ePs) q∧((l.take n).map ePs≠[]→h.next≤m)∧h.next≤q∧e=[(3,rowN m 1 ((l.take n).map ePs)),(9,.d (.lst (l.map ePs))),(10,.d (.int .i64 l.length)),(11,.d (.int .i64 (n:Int)))]) _ ?_ ?_ l.length 0 _ _ (by omega) ⟨0,h.next,rfl,fun h=>absurd rfl h,Nat.le_refl _,rfl⟩
 ·rintro n e h' hn ⟨m,q,rfl,hm,hq,rfl⟩
  obtain ⟨r,hr⟩:=get_of_lt hn
  have hrc:=hc r (List.mem_of_getElem? hr)
  have hrl:=cntL_len r
  have hwr:IntKind.i64.wrap ((n:Int)+1)=((n+1:Nat):Int):=by rw[wrap_ok (by omega) (by omega)];rfl
  simp only[e12,hn,iaR hr,wz,opX,intBin,↓reduceIte,simprocAttr]
  have hSl:((l.take n).map ePs).length=n:=by rw[List.length_map,List.length_take];omega
  have happ2:=fun q=>rowQ_app h (m:=m) (es:=1) (b:=24) (q:=q) (s:=(l.take n).map ePs) (x:=ePs r) (nl:=some false) rfl (by rw[hSl];simp only[roomB];omega) (by intro y hy;obtain ⟨z,_,rfl⟩:=List.mem_map.1 hy;rfl)
  have hmap:=prl l n hr
  generalize hS:(l.take n).map ePs=S at hm happ2 hmap hSl
  refine loop_wp r.length (fun j e h'=>∃ m2 q',q≤q'∧(j=0→h'=rowQ h m 1 S q')∧(j≠0→h'=⟨(m2,.arr 4 (((r.take j).map ePt).map .d))::(rowQ h m 1 S q').objs,q'⟩) ∧
   e=[(3,rowN m 1 S),(6,if j=0 then .tl [] (some false) else .own m2 4 j 0 j),(9,.d (.lst (l.map ePs))),(10,.d (.int .i64 l.length)),(11,.d (.int .i64 (n:Int))),(16,.d (.lst (r.map ePt))),(17,.d (.int .i64 r.length)),(18,.d (.int .i64 (j:Int)))]) _ ?_ ?_ r.length 0 _ _ (by omega) ⟨0,q,Nat.le_refl _,fun _=>rfl,fun h=>absurd rfl h,rfl⟩
  ·rintro j e h' hj ⟨m2,q',hq',h0,h1,rfl⟩
   obtain ⟨x,hx⟩:=get_of_lt hj
   have hcm:=cntL_mem (List.mem_of_getElem? hx)
   have hf:=fun h=>pat_ok 1000 x (by omega) (by omega) h
   have hwj:IntKind.i64.wrap ((j:Int)+1)=((j+1:Nat):Int):=by rw[wrap_ok (by omega) (by omega)];rfl
   by_cases hj0:j=0
   ·subst hj0
    rw[h0 rfl]
    have happ:∀ r q,app 4 48 ⟨r,q⟩ (.tl [] (some false)) (.tl [.d (ePt x)] (some false))=some (.own q 4 1 0 1,⟨(q,.arr 4 [.d (ePt x)])::r,q+1⟩):=by
     intro r q
     simp[app,elems,allV,roomB,Hp.alloc,stor,V.cells,ePt_cells,norm_d]
    have h0l:(0:Int)<(r.length:Int):=by omega
    have hia:ia 4 (.d (.lst (r.map ePt))) (.d (.int .i64 0))=some (.fp (ePt x) 0):=iaP hx
    simp only[e12,h0l,hia,pts,hf,happ,wz,opX,intBin,↓reduceIte,simprocAttr]
    have h1:=ptl r 0 hx
    simp only[List.take_zero,List.map_nil,List.nil_append,Nat.zero_add] at h1
    exact⟨q'+1,q'+1+1,by omega,False.elim,fun _=>by rw[h1];rfl,rfl⟩
   ·rw[h1 hj0]
    have happ:∀ q o,app 4 48 ⟨(m2,.arr 4 (((r.take j).map ePt).map .d))::o,q⟩ (.own m2 4 j 0 j) (.tl [.d (ePt x)] (some false))=some (.own m2 4 (j+1) 0 (j+1),⟨(m2,.arr 4 (((r.take (j+1)).map ePt).map .d))::o,q⟩):=by
     intro q o
     rw[app_tl1]
     have hl:((r.take j).map ePt).length=j:=by rw[List.length_map,List.length_take];omega
     have:=own_app (es:=4) (b:=48) (m:=m2) (q:=q) (o:=o) (l:=(r.take j).map ePt) (r:=[ePt x]) (by intro y hy;rw[List.mem_singleton] at hy;subst hy;exact ePt_cells x) (by rw[hl];simp only[List.length_cons,List.length_nil,roomB];omega)
     rw[List.length_append,hl] at this
     rw[ptl r j hx]
     exact this
    simp only[hj0,if_false]
    simp only[e12,hj,iaP hx,pts,hf,happ,hwj,wz,opX,intBin,↓reduceIte,simprocAttr]
    exact⟨m2,q'+1,by omega,False.elim,fun _=>rfl,rfl⟩
  ·rintro e h' ⟨m2,q',hq',h0,h1,rfl⟩
   have hfz:Zv.frz h' (if r.length=0 then .tl [] (some false) else .own m2 4 r.length 0 r.length)=some (.d (ePs r),rowQ h m 1 S q'):=by
    by_cases hr0:r.length=0
    ·obtain rfl:r=[]:=List.length_eq_zero_iff.1 hr0
     rw[h0 rfl];rfl
    ·rw[h1 hr0,if_neg hr0,List.take_length]
     have:=own_frz (es:=4) (m:=m2) (q:=q') (o:=(rowQ h m 1 S q').objs) (l:=r.map ePt)
     rw[List.length_map] at this
     exact this
   simp only[e12,hfz,happ2,hwr,wz,opX,intBin,↓reduceIte,simprocAttr]
   rw[hmap]
   refine ⟨_,_,rfl,?_,?_,rfl⟩
   ·intro _
    unfold nmQ
    split
    ·omega
    ·exact hm (by assumption)
   ·unfold nqQ;split<;>omega
 ·rintro e h' ⟨m,q,rfl,hm,hq,rfl⟩
  rw[List.take_length] at hm ⊢
  have hfin:=finS_rowQ (h:=h) (m:=m) (es:=1) (s:=l.map ePs) (q:=q) hm
  simp only[e12,hfin,wz,opX,intBin,↓reduceIte,simprocAttr]
end Zc28
end
section
set_option maxHeartbeats 4000000
namespace Zc28
open Go Zv Zs
def wildT:Pt:=.mk 0 0 0 []
def kdP:Pt→Int | .mk k _ _ _=>k
def cnP:Pt→Int | .mk _ c _ _=>c
def nmP:Pt→Int | .mk _ _ n _=>n
theorem argsP_mk (k c n:Int) (qs:List Pt):argsP (.mk k c n qs)=qs:=rfl
theorem slc_tl {es:Nat} {x:D} {l:List D} (hl:∀ y,y ∈ x::l→y.cells.length=es):slc es (.d (.lst (x::l))) (some (.d (.int .i64 1))) none=some (.d (.lst l)):=by
 have h:Zv.allD es (x::l)=true:=by
  unfold Zv.allD
  exact List.all_eq_true.2 fun y hy=>by simpa using hl y hy
 simp only[slc,bnd,Option.bind_some,ixOf,h]
 simp
theorem ptcells {l:List Pt}:∀ y,y ∈ l.map ePt→y.cells.length=4:=by
 intro y hy
 obtain ⟨p,_,rfl⟩:=List.mem_map.1 hy
 exact ePt_cells p
theorem iaP0 (p:Pt) (l:List Pt):ia 4 (.d (ePs (p::l))) (.d (.int .i64 0))=some (.fp (ePt p) 0):=iaP (l:=p::l) (n:=0) rfl
theorem iaP0' (p:Pt) (l:List Pt):ia 4 (.d (.lst (ePt p::l.map ePt))) (.d (.int .i64 0))=some (.fp (ePt p) 0):=iaP0 p l
theorem ePt_cs (k c n:Int) (qs:List Pt):(ePt (.mk k c n qs)).cells=[.int .i64 k,.int .i64 c,.int .i64 n,.lst (qs.map ePt)]:=by rw[ePt_mk];rfl
theorem slcP' (p:Pt) (l:List Pt):slc 4 (.d (ePs (p::l))) (some (.d (.int .i64 1))) none=some (.d (ePs l)):=
 slc_tl (l:=l.map ePt) (by rw[←List.map_cons];exact ptcells)
theorem slcP (p:Pt) (l:List Pt):slc 4 (.d (.lst (ePt p::l.map ePt))) (some (.d (.int .i64 1))) none=some (.d (.lst (l.map ePt))):=
 slc_tl (l:=l.map ePt) (by rw[←List.map_cons];exact ptcells)
theorem cloneP_ok (l:List Pt) (hl:l.length≤1000000) (h:Hp):callW tab 106 [.d (ePs l)] h=some (cloV none h.next 4 (l.map ePt),cloO h.objs h.next 4 (l.map ePt)):=by
 refine call_wp (fn:=f106) rfl rfl ?_
 have hb:wp tab b106 (args 0 [.d (ePs l)]) h (· = (.ret,[(2,cloV none h.next 4 (l.map ePt))],cloO h.objs h.next 4 (l.map ePt))):=by
  cases l with
  |nil=>
   have hn0:nilBin NK.s BinOp.eql (.d (ePs []))=some .ub:=rfl
   have happ:app 4 48 h (.tl [] (some false)) (.d (.lst []))=some (.tl [] (some false),h):=rfl
   simp only[e106,wz,opX,intBin,↓reduceIte,simprocAttr]
   refine wq_ex.2 (ex_ambU (e1:=[(0,.d (.lst [])),(4,.ub)]) (h1:=h) (o:=(.ret,[(2,.tl [] (some true))],h)) (q:=(.ret,[(2,.tl [] (some false))],h)) ?_ rfl ?_ ?_ ?_)
   ·apply wq_ex.1;simp only[e106,hn0,wz,opX,intBin,↓reduceIte,simprocAttr]
    rfl
   ·apply wq_ex.1;simp only[e106,wz,opX,intBin,↓reduceIte,simprocAttr]
   ·apply wq_ex.1;simp only[e106,happ,wz,opX,intBin,↓reduceIte,simprocAttr]
   ·unfold outJoin
    rw[if_pos ⟨rfl,objsBeq_refl _,rfl⟩]
    rfl
  |cons p r=>
   have happ:=tl_app (nl:=some false) (es:=4) (b:=48) (h:=h) (r:=(p::r).map ePt) ptcells (by simp only[roomB,List.length_map];omega)
   rw[List.map_cons] at happ
   have hn0:nilBin NK.s BinOp.eql (.d (ePs (p::r)))=some (.d (.bool false)):=rfl
   simp only[e106,wz,opX,intBin,↓reduceIte,simprocAttr]
   refine wq_ex.2 (ex_ambD (e1:=[(0,.d (.lst ((p::r).map ePt))),(4,.d (.bool false))]) (h1:=h) false ?_ rfl ?_)
   ·apply wq_ex.1;simp only[e106,hn0,wz,opX,intBin,↓reduceIte,simprocAttr]
    rfl
   ·apply wq_ex.1;simp only[e106,happ,wz,opX,intBin,↓reduceIte,simprocAttr]
    rfl
 obtain ⟨o,h1,rfl⟩:=hb
 exact⟨_,h1,rfl⟩
theorem tcells {l:List Int}:∀ y,y ∈ l.map eI→y.cells.length=1:=by
 intro y hy
 obtain ⟨p,_,rfl⟩:=List.mem_map.1 hy
 rfl
theorem cloneT_ok (l:List Int) (hl:l.length≤1000000) (h:Hp):callW tab 133 [.d (eIs l)] h=some (cloV none h.next 1 (l.map eI),cloO h.objs h.next 1 (l.map eI)):=by
 refine call_wp (fn:=f133) rfl rfl ?_
 have hb:wp tab b133 (args 0 [.d (eIs l)]) h (· = (.ret,[(2,cloV none h.next 1 (l.map eI))],cloO h.objs h.next 1 (l.map eI))):=by
  cases l with
  |nil=>
   have hn0:nilBin NK.s BinOp.eql (.d (eIs []))=some .ub:=rfl
   have happ:app 1 8 h (.tl [] (some false)) (.d (.lst []))=some (.tl [] (some false),h):=rfl
   simp only[e133,wz,opX,intBin,↓reduceIte,simprocAttr]
   refine wq_ex.2 (ex_ambU (e1:=[(0,.d (.lst [])),(4,.ub)]) (h1:=h) (o:=(.ret,[(2,.tl [] (some true))],h)) (q:=(.ret,[(2,.tl [] (some false))],h)) ?_ rfl ?_ ?_ ?_)
   ·apply wq_ex.1;simp only[e133,hn0,wz,opX,intBin,↓reduceIte,simprocAttr]
    rfl
   ·apply wq_ex.1;simp only[e133,wz,opX,intBin,↓reduceIte,simprocAttr]
   ·apply wq_ex.1;simp only[e133,happ,wz,opX,intBin,↓reduceIte,simprocAttr]
   ·unfold outJoin
    rw[if_pos ⟨rfl,objsBeq_refl _,rfl⟩]
    rfl
  |cons p r=>
   have happ:=tl_app (nl:=some false) (es:=1) (b:=8) (h:=h) (r:=(p::r).map eI) tcells (by simp only[roomB,List.length_map];omega)
   rw[List.map_cons] at happ
   have hn0:nilBin NK.s BinOp.eql (.d (eIs (p::r)))=some (.d (.bool false)):=rfl
   simp only[e133,wz,opX,intBin,↓reduceIte,simprocAttr]
   refine wq_ex.2 (ex_ambD (e1:=[(0,.d (.lst ((p::r).map eI))),(4,.d (.bool false))]) (h1:=h) false ?_ rfl ?_)
   ·apply wq_ex.1;simp only[e133,hn0,wz,opX,intBin,↓reduceIte,simprocAttr]
    rfl
   ·apply wq_ex.1;simp only[e133,happ,wz,opX,intBin,↓reduceIte,simprocAttr]
    rfl
 obtain ⟨o,h1,rfl⟩:=hb
 exact⟨_,h1,rfl⟩
theorem iaI0 (t:Int) (ts:List Int):ia 1 (.d (eIs (t::ts))) (.d (.int .i64 0))=some (.fp (eI t) 0):=iaI (l:=t::ts) (n:=0) rfl
theorem slcT' (p:Int) (l:List Int):slc 1 (.d (eIs (p::l))) (some (.d (.int .i64 1))) none=some (.d (eIs l)):=
 slc_tl (l:=l.map eI) (by rw[←List.map_cons];exact tcells)
theorem slcT (p:Int) (l:List Int):slc 1 (.d (.lst (eI p::l.map eI))) (some (.d (.int .i64 1))) none=some (.d (.lst (l.map eI))):=
 slc_tl (l:=l.map eI) (by rw[←List.map_cons];exact tcells)
theorem under_ok {d:List Dt} {n i:Nat} {y:Dt} {z:Cn} (hy:d[n]? = some y) (hz:y.cons[i]? = some z) (hd:d.length<2 ^ 60) (ts:List Int) (hf:z.flds.length≤8) (hl:ts.length≤10000) (h:Hp) :
  callW tab 104 [.d (eDs d),.d (eIs (((n:Int)+1)::ts)),.d (eI (i:Int))] h=some (.d (eIs (z.flds++ts)),h):=by
 refine call_wp (fn:=f104) rfl rfl ?_
 have hn:=(List.getElem?_eq_some_iff.1 hy).1
 have hw:=wrap_sub1 (n:=n) (by omega)
 have hc:=cloneT_ok z.flds (by omega) h
 have happ:=clo_app (nl:=none) (es:=1) (b:=8) (n:=h.next) (o:=h.objs) (l:=z.flds.map eI) (r:=ts.map eI) tcells tcells (by simp only[roomB,List.length_map];omega)
 have hs:=slcT ((n:Int)+1) ts
 have hfin:=finS_clo (h:=h) (nl:=none) (es:=1) (n:=h.next) (l:=z.flds.map eI++ts.map eI) (Nat.le_refl _)
 simp only[e104,hw,iaI0,slcT',iaD hy,iaC hz,hc,hs,happ,hfin,wz,opX,intBin,↓reduceIte,simprocAttr]
 rw[List.map_append]
def spF (c:Int) (n:Nat):List Pt→Option (List Pt)
 | []=>none
 | .mk k c' _ qs::r=>if k=0 then some (List.replicate n wildT++r) else if k=1∧c'=c then some (qs++r) else none
def spS (c:Int) (n:Nat) (l:List (List Pt)):List (List Pt):=l.filterMap (spF c n)
theorem replT (n:Nat):(List.replicate n (V.d (.agg [.int .i64 0,.int .i64 0,.int .i64 0,.lst []])))=((List.replicate n wildT).map ePt).map V.d:=by
 simp only[List.map_replicate];rfl
theorem mkslP {n:Nat} (hn:n≤1000):mkslT (.d (.agg [.int .i64 0,.int .i64 0,.int .i64 0,.lst []])) 48 (.d (.int .i64 (n:Int)))=some (.tl (((List.replicate n wildT).map ePt).map V.d) (some false)):=by
 unfold mkslT
 rw[ixOf_nat,Option.bind_some,if_pos ⟨by simp only[roomB];omega,by omega⟩,replT]
theorem appd_tl {es b:Nat} {l r:List D} {nl:Option Bool} (hl:∀ y,y ∈ l→y.cells.length=es) (hr:∀ y,y ∈ r→y.cells.length=es) (hb:(l.length+r.length)*b≤roomB):appd es b (.tl (l.map V.d) nl) (.d (.lst r))=some (.d (.lst (l++r))):=by
 simp only[appd,elems0,Option.bind_some,allV_d hr,if_true,norm_map_d]
 by_cases h0:r=[]
 ·subst h0
  simp[toD,toDs_map]
 ·have he:(r.map V.d).isEmpty=false:=by cases r with | nil=>exact absurd rfl h0 | cons=>rfl
  simp only[he,Bool.false_eq_true,if_false,List.length_map]
  rw[if_pos ⟨hb,allV_d hl⟩,←List.map_append,toDs_map]
  rfl
theorem special_ok (c:Int) (n0:Nat) (hn0:n0≤1000) (l:List (List Pt)) (hl:l.length≤1000) (hr:∀ r,r ∈ l→r≠[]∧r.length≤10000∧∀ p,p ∈ r→(argsP p).length≤10000) (h:Hp) :
  callW tab 105 [.d (eRs l),.d (eI c),.d (.int .i64 (n0:Int))] h=some (.d (eRs (spS c n0 l)),h):=by
 refine call_wp (fn:=f105) rfl rfl ?_
 obtain ⟨m,q,hm,hq,hloop⟩:=loop_acc (T:=tab) (a:=f105l0) (l:=l) (fun _=>spF c n0) ePs 1 24 (fun n r=>[(1,.d (eI c)),(2,.d (.int .i64 (n0:Int))),(7,r),(11,.d (eRs l)),(12,.d (.int .i64 (l.length:Int))),(13,.d (.int .i64 (n:Int)))]) (h:=h) (n0:=h.next) (x1:=.exit 0) (e1:=fun r=>[(1,.d (eI c)),(2,.d (.int .i64 (n0:Int))),(7,r),(11,.d (eRs l)),(12,.d (.int .i64 (l.length:Int))),(13,.d (.int .i64 (l.length:Int))),(14,.d (.bool false))]) (Nat.le_refl _)
  (fun _=>rfl) (by simp only[roomB];omega)
  (by
   intro n x s m q hx hlt hs hsl hG
   obtain ⟨hne,hxl,hxa⟩:=hr x (List.mem_of_getElem? hx)
   obtain ⟨p,r,rfl⟩:=List.exists_cons_of_ne_nil hne
   obtain ⟨k,c',m',qs⟩:=p
   simp only[spF] at hG
   by_cases k0:k=0
   ·rw[if_pos k0] at hG;cases hG
   ·rw[if_neg k0] at hG
    by_cases k1:k=1
    ·by_cases c1:c'=c
     ·rw[if_pos ⟨k1,c1⟩] at hG;cases hG
     ·simp only[hlt,e105,iaR hx,iaP0,iaP0',ePt_cs,ibeq,k0,k1,c1,rowQ_next,rowQ_mk,wrap_succ (show n<2 ^ 62 by omega),wz,opX,intBin,↓reduceIte,simprocAttr]
      exact⟨_,rfl,by omega⟩
    ·simp only[hlt,e105,iaR hx,iaP0,iaP0',ePt_cs,ibeq,k0,k1,rowQ_next,rowQ_mk,wrap_succ (show n<2 ^ 62 by omega),wz,opX,intBin,↓reduceIte,simprocAttr]
     exact⟨_,rfl,by omega⟩)
  (by
   intro n x y s m q hx hlt hs hsl hG happ
   obtain ⟨hne,hxl,hxa⟩:=hr x (List.mem_of_getElem? hx)
   obtain ⟨p,r,rfl⟩:=List.exists_cons_of_ne_nil hne
   have hqa:=hxa p (by simp)
   have hrl:r.length≤10000:=by simp at hxl;omega
   obtain ⟨k,c',m',qs⟩:=p
   rw[argsP_mk] at hqa
   simp only[spF] at hG
   by_cases k0:k=0
   ·rw[if_pos k0] at hG
    cases hG
    have h1:=mkslP hn0
    have h2:=appd_tl (es:=4) (b:=48) (l:=(List.replicate n0 wildT).map ePt) (r:=r.map ePt) (nl:=some false) ptcells ptcells (by simp only[List.length_map,List.length_replicate,roomB];omega)
    rw[←List.map_append] at h2
    simp only[hlt,e105,iaR hx,iaP0,iaP0',slcP',slcP,ePt_cs,ibeq,k0,h1,h2,happ,rowQ_next,rowQ_mk,wrap_succ (show n<2 ^ 62 by omega),wz,opX,intBin,↓reduceIte,simprocAttr]
    exact⟨_,_,⟨rfl,rfl⟩,by omega,Nat.le_refl _⟩
   ·rw[if_neg k0] at hG
    by_cases k1:k=1
    ·by_cases c1:c'=c
     ·rw[if_pos ⟨k1,c1⟩] at hG
      cases hG
      have h1:=fun h=>cloneP_ok qs (by omega) h
      have h2:=fun (n:Nat) (o:List (Nat × Ob))=>clo_app (nl:=none) (es:=4) (b:=48) (n:=n) (o:=o) (l:=qs.map ePt) (r:=r.map ePt) ptcells ptcells (by simp only[List.length_map,roomB];omega)
      rw[←List.map_append] at h2
      have h3:=fun (n:Nat) (o:List (Nat × Ob))=>clo_frz (nl:=none) (es:=4) (n:=n) (o:=o) (l:=(qs++r).map ePt)
      simp only[hlt,e105,iaR hx,iaP0,iaP0',slcP',slcP,ePt_cs,ibeq,k0,k1,c1,h1,h2,h3,happ,rowQ_next,rowQ_mk,wrap_succ (show n<2 ^ 62 by omega),wz,opX,intBin,↓reduceIte,simprocAttr]
      exact⟨_,_,⟨rfl,rfl⟩,by split<;>omega,Nat.le_refl _⟩
     ·rw[if_neg (fun e=>c1 e.2)] at hG;cases hG
    ·rw[if_neg (fun e=>k1 e.1)] at hG;cases hG)
  (by
   intro m q
   simp only[e105,wz,opX,intBin,↓reduceIte,simprocAttr]
   exact⟨_,rfl,by omega⟩)
  (by simp)
 rw[accL_fm] at hloop hm
 simp only[Int.cast_ofNat_Int] at hloop
 have hfm:l.filterMap (spF c n0)=spS c n0 l:=rfl
 rw[hfm] at hloop hm
 have hfin:=finS_rowQ (h:=h) (m:=m) (es:=1) (s:=(spS c n0 l).map ePs) (q:=q) (fun e=>(hm e).1)
 simp only[e105,wq_of hloop,hfin,wz,opX,intBin,↓reduceIte,simprocAttr]
end Zc28
end
section
set_option maxHeartbeats 4000000
namespace Zc28
open Go Zv Zs
def restF (keep:Pt→Bool):List Pt→Option (List Pt)
 | []=>none
 |p::r=>if keep p=true then some r else none
def restS (keep:Pt→Bool) (l:List (List Pt)):List (List Pt):=l.filterMap (restF keep)
theorem rests_ok (cv:V) (keep:Pt→Bool) (hcv:norm cv=cv) (l:List (List Pt)) (hl:l.length≤1000) (hr:∀ r,r ∈ l→r≠[]) (hc:∀ p r,(p::r) ∈ l→∀ h,cW tab cv [.d (ePt p)] h=some (.d (.bool (keep p)),h)) (h:Hp) :
  callW tab 107 [.d (eRs l),cv] h=some (.d (eRs (restS keep l)),h):=by
 refine call_wp (fn:=f107) rfl rfl ?_
 obtain ⟨m,q,hm,hq,hloop⟩:=loop_acc (T:=tab) (a:=f107l0) (l:=l) (fun _=>restF keep) ePs 1 24 (fun n r=>[(1,cv),(5,r),(8,.d (eRs l)),(9,.d (.int .i64 (l.length:Int))),(10,.d (.int .i64 (n:Int)))]) (h:=h) (n0:=h.next) (x1:=.exit 0) (e1:=fun r=>[(1,cv),(5,r),(8,.d (eRs l)),(9,.d (.int .i64 (l.length:Int))),(10,.d (.int .i64 (l.length:Int))),(11,.d (.bool false))]) (Nat.le_refl _)
  (fun _=>rfl) (by simp only[roomB];omega)
  (by
   intro n x s m q hx hlt hs hsl hG
   have hmem:=List.mem_of_getElem? hx
   obtain ⟨p,r,rfl⟩:=List.exists_cons_of_ne_nil (hr x hmem)
   have hcall:=hc p r hmem
   simp only[restF] at hG
   have hk:keep p=false:=by
    cases hk:keep p with
    |false=>rfl
    |true=>rw[if_pos hk] at hG;cases hG
   simp only[hlt,e107,iaR hx,iaP0,iaP0',pts,hcall,hk,rowQ_next,rowQ_mk,wrap_succ (show n<2 ^ 62 by omega),wz,opX,intBin,↓reduceIte,simprocAttr]
   exact⟨_,rfl,by omega⟩)
  (by
   intro n x y s m q hx hlt hs hsl hG happ
   have hmem:=List.mem_of_getElem? hx
   obtain ⟨p,r,rfl⟩:=List.exists_cons_of_ne_nil (hr x hmem)
   have hcall:=hc p r hmem
   simp only[restF] at hG
   have hk:keep p=true:=by
    cases hk:keep p with
    |true=>rfl
    |false=>rw[hk] at hG;cases hG
   rw[if_pos hk] at hG
   cases hG
   simp only[hlt,e107,iaR hx,iaP0,iaP0',slcP,slcP',pts,hcall,hk,happ,rowQ_next,rowQ_mk,wrap_succ (show n<2 ^ 62 by omega),wz,opX,intBin,↓reduceIte,simprocAttr]
   exact⟨_,_,⟨rfl,rfl⟩,by omega,Nat.le_refl _⟩)
  (by
   intro m q
   simp only[e107,wz,opX,intBin,↓reduceIte,simprocAttr]
   exact⟨_,rfl,by omega⟩)
  (by simp)
 rw[accL_fm] at hloop hm
 simp only[Int.cast_ofNat_Int] at hloop
 have hfm:l.filterMap (restF keep)=restS keep l:=rfl
 rw[hfm] at hloop hm
 have hfin:=finS_rowQ (h:=h) (m:=m) (es:=1) (s:=(restS keep l).map ePs) (q:=q) (fun e=>(hm e).1)
 simp only[e107,hcv,wq_of hloop,hfin,wz,opX,intBin,↓reduceIte,simprocAttr]
end Zc28
end
section
set_option maxHeartbeats 4000000
namespace Zc28
open Go Zv Zs
def sameP (a b:Pt):Bool:=decide (kdP a=kdP b) && decide (cnP a=cnP b) && decide (nmP a=nmP b)
def hdG (s:List Pt):List Pt→Option Pt
 | []=>none
 |p::_=>if (decide (kdP p=0) || s.any fun q=>sameP q p)=true then none else some p
def headsS (l:List (List Pt)):List Pt:=accL hdG l
theorem ePt_k (p:Pt):(ePt p).cells[0]? = some (.int .i64 (kdP p)):=by obtain ⟨k,c,n,qs⟩:=p;rw[ePt_cs];rfl
end Zc28
end
section
set_option maxHeartbeats 4000000
namespace Zc28
open Go Zv Zs
def wildP (p:Pt):Bool:=decide (kdP p=0)
theorem ePt_3 (p:Pt):(ePt p).cells[3]? = some (.lst ((argsP p).map ePt)):=by obtain ⟨k,c,n,qs⟩:=p;rw[ePt_cs];rfl
theorem mkslOP {n:Nat} (hn:n≤1000) (h:Hp):mkslO (.d (.agg [.int .i64 0,.int .i64 0,.int .i64 0,.lst []])) 4 48 h (.d (.int .i64 (n:Int)))=some (.own h.next 4 n 0 n,⟨(h.next,.arr 4 (((List.replicate n wildT).map ePt).map V.d))::h.objs,h.next+1⟩):=by
 unfold mkslO
 rw[ixOf_nat,Option.bind_some,if_pos ⟨by simp only[roomB];omega,by omega⟩,replT]
 rfl
end Zc28
end
section
set_option maxHeartbeats 4000000
namespace Zc28
open Go Zv Zs
def kvB (s:List Int):List (D × V):=s.map fun c=>(eI c,.d (.bool true))
def addI (s:List Int) (c:Int):List Int:=if c ∈ s then s else s++[c]
theorem putK_B (c:Int):∀ s:List Int,putK .i (eI c) (.d (.bool true)) (kvB s)=some (kvB (addI s c))
 | []=>rfl
 |x::s=>by
  show (match keyEq .i (eI c) (eI x) with
   |some true=>some ((eI c,V.d (.bool true))::kvB s)
   |some false=>(putK .i (eI c) (.d (.bool true)) (kvB s)).map fun s=>(eI x,V.d (.bool true))::s
   |none=>none)=_
  by_cases h:c=x
  ·subst h
   simp[keyEq,addI,kvB]
  ·have h1:(c == x)=false:=by simpa using h
   simp only[keyEq,if_true,h1,putK_B c s,Option.map_some]
   unfold addI
   by_cases h2:c ∈ s
   ·rw[if_pos h2,if_pos (List.mem_cons_of_mem x h2)];rfl
   ·rw[if_neg h2,if_neg (by simp[h,h2])];rfl
theorem findK_B (c:Int):∀ s:List Int,findK .i (eI c) (kvB s)=some (if c ∈ s then some (.d (.bool true)) else none)
 | []=>rfl
 |x::s=>by
  show (match keyEq .i (eI c) (eI x) with
   |some true=>some (some (V.d (.bool true)))
   |some false=>findK .i (eI c) (kvB s)
   |none=>none)=_
  by_cases h:c=x
  ·subst h
   simp[keyEq]
  ·have h1:(c == x)=false:=by simpa using h
   simp only[keyEq,if_true,h1,findK_B c s]
   simp[h]
def HM2 (o:List (Nat × Ob)) (n:Nat) (A B:List Int):Hp:=⟨(n+1,.mp (kvB B))::(n,.mp (kvB A))::o,n+2⟩
theorem HM2_muA (o:List (Nat × Ob)) (n:Nat) (A B:List Int) (c:Int):mu .i (HM2 o n A B) (.map n) (.d (.int .i64 c)) (.d (.bool true))=some (HM2 o n (addI A c) B):=by
 unfold mu HM2
 have hg:(⟨(n+1,.mp (kvB B))::(n,.mp (kvB A))::o,n+2⟩:Hp).get n=some (.mp (kvB A)):=by
  unfold Hp.get;simp[Zv.look]
 have hp:=putK_B c A
 simp only[hg,stor_d,if_true,norm_d,hp,Option.map_some]
 simp[Hp.set,upd]
theorem HM2_muB (o:List (Nat × Ob)) (n:Nat) (A B:List Int) (c:Int):mu .i (HM2 o n A B) (.map (n+1)) (.d (.int .i64 c)) (.d (.bool true))=some (HM2 o n A (addI B c)):=by
 unfold mu HM2
 have hg:(⟨(n+1,.mp (kvB B))::(n,.mp (kvB A))::o,n+2⟩:Hp).get (n+1)=some (.mp (kvB B)):=by
  unfold Hp.get;simp[Zv.look]
 have hp:=putK_B c B
 simp only[hg,stor_d,if_true,norm_d,hp,Option.map_some]
 simp[Hp.set,upd]
def cG (A:List Int):List Pt→List Int
 | []=>A
 |p::_=>if kdP p=1 then addI A (cnP p) else A
def nG (B:List Int):List Pt→List Int
 | []=>B
 |p::_=>if kdP p=2 then addI B (nmP p) else B
def consS (l:List (List Pt)):List Int:=l.foldl cG []
def numsS (l:List (List Pt)):List Int:=l.foldl nG []
theorem fold2:∀ (l:List (List Pt)) (A B:List Int),l.foldl (fun (s:List Int × List Int) r=>(cG s.1 r,nG s.2 r)) (A,B)=(l.foldl cG A,l.foldl nG B)
 | [],A,B=>rfl
 |r::l,A,B=>by rw[List.foldl_cons,fold2 l];rfl
theorem ePt_1 (p:Pt):(ePt p).cells[1]? = some (.int .i64 (cnP p)):=by obtain ⟨k,c,n,qs⟩:=p;rw[ePt_cs];rfl
theorem ePt_2 (p:Pt):(ePt p).cells[2]? = some (.int .i64 (nmP p)):=by obtain ⟨k,c,n,qs⟩:=p;rw[ePt_cs];rfl
theorem heads_ok (l:List (List Pt)) (hl:l.length≤1000) (hr:∀ r,r ∈ l→r≠[]) (h:Hp) :
  callW tab 110 [.d (eRs l)] h=some (.tup [.map h.next,.map (h.next+1)],HM2 h.objs h.next (consS l) (numsS l)):=by
 refine call_wp (fn:=f110) rfl rfl ?_
 have hloop:=loop_fold (T:=tab) (a:=f110l0) (l:=l) (fun n (_:List Int × List Int)=>[(4,.map h.next),(5,.map (h.next+1)),(10,.d (eRs l)),(11,.d (.int .i64 (l.length:Int))),(12,.d (.int .i64 (n:Int)))]) (fun _ s=>HM2 h.objs h.next s.1 s.2) (fun _ _=>True) (fun s r=>(cG s.1 r,nG s.2 r))
  (fun s=>(.exit 0,[(4,.map h.next),(5,.map (h.next+1)),(10,.d (eRs l)),(11,.d (.int .i64 (l.length:Int))),(12,.d (.int .i64 (l.length:Int))),(13,.d (.bool false))],HM2 h.objs h.next s.1 s.2))
  (by
   intro n s x hx hlt _
   refine ⟨?_,trivial⟩
   obtain ⟨p,r,rfl⟩:=List.exists_cons_of_ne_nil (hr x (List.mem_of_getElem? hx))
   apply wq_ex.1
   simp only[cG,nG]
   by_cases k1:kdP p=1
   ·have k2:¬ kdP p=2:=by omega
    simp only[hlt,e110,iaR hx,iaP0,iaP0',pts,ePt_k,ePt_1,ibeq,k1,k2,HM2_muA,wrap_succ (show n<2 ^ 62 by omega),wz,opX,intBin,↓reduceIte,simprocAttr]
   ·by_cases k2:kdP p=2
    ·simp only[hlt,e110,iaR hx,iaP0,iaP0',pts,ePt_k,ePt_2,ibeq,k1,k2,HM2_muB,wrap_succ (show n<2 ^ 62 by omega),wz,opX,intBin,↓reduceIte,simprocAttr]
    ·simp only[hlt,e110,iaR hx,iaP0,iaP0',pts,ePt_k,ibeq,k1,k2,wrap_succ (show n<2 ^ 62 by omega),wz,opX,intBin,↓reduceIte,simprocAttr])
  (by
   intro s _
   apply wq_ex.1
   simp only[e110,wz,opX,intBin,↓reduceIte,simprocAttr])
  (by intro s;simp) ([],[]) trivial
 rw[fold2] at hloop
 simp only[Int.cast_ofNat_Int] at hloop
 have e0:HM2 h.objs h.next [] []=⟨(h.next+1,.mp [])::(h.next,.mp [])::h.objs,h.next+1+1⟩:=rfl
 rw[e0] at hloop
 simp only[e110,wq_of hloop,wz,opX,intBin,↓reduceIte,simprocAttr]
 rfl
end Zc28
end
section
set_option maxHeartbeats 4000000
namespace Zc28
open Go Zv Zs
structure Co where
 path:List Int
 ty:Int
abbrev eO (p:Co):D:=.agg [eIs p.path,eI p.ty]
abbrev eOs (l:List Co):D:=.lst (l.map eO)
theorem iaO {l:List Co} {n:Nat} {x:Co} (hx:l[n]? = some x):ia 2 (.d (.lst (l.map eO))) (.d (.int .i64 (n:Int)))=some (.fp (eO x) 0):=ia_map (f:=eO) .i64 hx rfl
theorem ocells {l:List Co}:∀ y,y ∈ l.map eO→y.cells.length=2:=by
 intro y hy
 obtain ⟨p,_,rfl⟩:=List.mem_map.1 hy
 rfl
structure Rw where
 n:Int
 pats:List Pt
abbrev eW (p:Rw):D:=.agg [eI p.n,ePs p.pats]
abbrev eWs (l:List Rw):D:=.lst (l.map eW)
theorem iaW {l:List Rw} {n:Nat} {x:Rw} (hx:l[n]? = some x):ia 2 (.d (.lst (l.map eW))) (.d (.int .i64 (n:Int)))=some (.fp (eW x) 0):=ia_map (f:=eW) .i64 hx rfl
abbrev zO:D:=.agg [.lst [],.int .i64 0]
theorem growO_ok (n:Nat) (hn:n≤100000) (h:Hp):callW tab 128 [.tl [] (some true),.d (.int .i64 (n:Int))] h=some (if n=0 then (.tl [] (some true),h) else (.own h.next 2 n 0 0,⟨(h.next,.arr 2 ((List.replicate n zO).map .d))::h.objs,h.next+1⟩)):=by
 refine call_wp (fn:=f128) rfl rfl ?_
 have hc:capT (.tl [] (some true))=some (.d (.int .i64 0)):=rfl
 have h0:IntKind.i64.wrap 0=0:=rfl
 have hw:IntKind.i64.wrap ((n:Int) - IntKind.i64.wrap 0)=(n:Int):=by rw[h0,wrap_ok (by omega) (by omega)];omega
 have hneg:¬ (n:Int)<0:=by omega
 by_cases hz:n=0
 ·subst hz
  simp only[e128,hc,h0,wz,opX,intBin,↓reduceIte,simprocAttr]
 ·have hp:(0:Int)<(n:Int):=by omega
  have s1:slc 2 (.tl [] (some true)) none (some (.d (.int .i64 0)))=some (.tl [] (some true)):=rfl
  have s2:appz (.d zO) 2 32 h (.tl [] (some true)) (.d (.int .i64 (n:Int)))=some (.own h.next 2 n 0 n,⟨(h.next,.arr 2 ((List.replicate n zO).map .d))::h.objs,h.next+1⟩):=by
   have hb:n*32≤roomB∧n<2 ^ 62:=⟨by unfold roomB;omega,by omega⟩
   simp only[appz,ixOf_nat,Option.bind_some]
   rw[if_pos hb,if_neg hz]
   simp[Hp.alloc]
  have s3:∀ m,slc 2 (.own m 2 n 0 n) none (some (.d (.int .i64 0)))=some (.own m 2 n 0 0):=by
   intro m
   simp[slc,bnd,ixOf]
  have s4:(n=0)=False:=by simp[hz]
  simp only[e128,hc,hw,hneg,hp,s1,s2,s3,s4,wz,opX,intBin,↓reduceIte,simprocAttr]
theorem concatO_ok (ls:List (List D)) (hl:ls.length≤100) (hc:∀ l,l ∈ ls→∀ y,y ∈ l→y.cells.length=2) (ht:totL ls≤100000) (h:Hp) :
  callW tab 84 [.d (eLL ls)] h=some (.d (.lst ls.flatten),h):=by
 refine call_wp (fn:=f84) rfl rfl ?_
 simp only[e84,wz,opX,intBin,↓reduceIte,simprocAttr]
 have z0:totL (ls.take 0)=0:=rfl
 have hgr:=fun h=>growO_ok (totL ls) ht h
 refine loop_wp ls.length (fun n e h'=>h'=h∧e=[(0,.d (eLL ls)),(3,.d (.int .i64 ((totL (ls.take n):Nat):Int))),(9,.d (eLL ls)),(10,.d (.int .i64 ls.length)),(11,.d (.int .i64 (n:Int)))]) _ ?_ ?_ ls.length 0 _ _ (by omega) ⟨rfl,rfl⟩
 ·rintro n e h' hn ⟨rfl,rfl⟩
  obtain ⟨x,hx⟩:=get_of_lt hn
  have hwr:IntKind.i64.wrap ((n:Int)+1)=((n+1:Nat):Int):=by rw[wrap_ok (by omega) (by omega)];rfl
  have h1:=totL_take hx
  have h2:=totL_le ls (n+1)
  have hw2:IntKind.i64.wrap (((totL (ls.take n):Nat):Int)+(x.length:Int))=((totL (ls.take (n+1)):Nat):Int):=by rw[wrap_ok (by omega) (by omega)];omega
  have hneg:¬ ((totL (ls.take (n+1)):Nat):Int)<0:=by omega
  simp only[e84,hn,iaLL hx,hw2,hneg,hwr,wz,opX,intBin,↓reduceIte,simprocAttr]
 ·rintro e h' ⟨rfl,rfl⟩
  rw[List.take_length]
  by_cases hp:totL ls=0
  ·rw[hp]
   have hgr:∀ h,callW tab 128 [.tl [] (some true),.d (.int .i64 0)] h=some (.tl [] (some true),h):=fun h=>(growO_ok 0 (by omega) h).trans rfl
   have hfl:ls.flatten=[]:=List.eq_nil_of_length_eq_zero hp
   simp only[e84,hgr,wz,opX,intBin,↓reduceIte,simprocAttr]
   refine loop_wp ls.length (fun n e h''=>h''=h'∧e=[(6,.tl [] (some true)),(25,.d (eLL ls)),(26,.d (.int .i64 ls.length)),(27,.d (.int .i64 (n:Int)))]) _ ?_ ?_ ls.length 0 _ _ (by omega) ⟨rfl,rfl⟩
   ·rintro n e h'' hn ⟨rfl,rfl⟩
    obtain ⟨x,hx⟩:=get_of_lt hn
    have hwr:IntKind.i64.wrap ((n:Int)+1)=((n+1:Nat):Int):=by rw[wrap_ok (by omega) (by omega)];rfl
    have h1:=totL_take hx
    have h2:=totL_le ls (n+1)
    have hx0:x=[]:=List.eq_nil_of_length_eq_zero (by omega)
    subst hx0
    have happ:app 2 32 h'' (.tl [] (some true)) (.d (.lst []))=some (.tl [] (some true),h''):=rfl
    simp only[e84,hn,iaLL hx,happ,hwr,wz,opX,intBin,↓reduceIte,simprocAttr]
   ·rintro e h'' ⟨rfl,rfl⟩
    have hfin:finS h'' h'' [.tl [] (some true)]=some (.d (.lst []),h''):=by
     rw[finS,if_pos (suf_refl _)];rfl
    simp only[e84,hfin,hfl,wz,opX,intBin,↓reduceIte,simprocAttr]
  ·simp only[hp,if_false] at hgr
   simp only[e84,hgr,wz,opX,intBin,↓reduceIte,simprocAttr]
   refine loop_wp ls.length (fun n e h''=>h''=⟨(h'.next,.arr 2 (((ls.take n).flatten++List.replicate (totL ls - totL (ls.take n)) zO).map .d))::h'.objs,h'.next+1⟩∧e=[(6,.own h'.next 2 (totL ls) 0 (totL (ls.take n))),(25,.d (eLL ls)),(26,.d (.int .i64 ls.length)),(27,.d (.int .i64 (n:Int)))]) _ ?_ ?_ ls.length 0 _ _ (by omega) ⟨rfl,rfl⟩
   ·rintro n e h'' hn ⟨rfl,rfl⟩
    obtain ⟨x,hx⟩:=get_of_lt hn
    have hwr:IntKind.i64.wrap ((n:Int)+1)=((n+1:Nat):Int):=by rw[wrap_ok (by omega) (by omega)];rfl
    have h1:=totL_take hx
    have h2:=totL_le ls (n+1)
    have happ:=app_in (es:=2) (b:=32) (m:=h'.next) (tot:=totL ls) (q:=h'.next+1) (o:=h'.objs) (l:=(ls.take n).flatten) (r:=x) (z:=List.replicate (totL ls - totL (ls.take n)) zO)
     (hc x (List.mem_of_getElem? hx)) (by rw[List.length_replicate];unfold totL at h1 h2 ⊢; omega) (by rw[List.length_replicate];omega)
    have e1:(ls.take n).flatten.length=totL (ls.take n):=rfl
    have e2:((ls.take n).flatten++x).length=totL (ls.take (n+1)):=by rw[h1,List.length_append];rfl
    have e3:List.drop x.length (List.replicate (totL ls - totL (ls.take n)) zO)=List.replicate (totL ls - totL (ls.take (n+1))) zO:=by rw[List.drop_replicate];congr 1;omega
    rw[e1,e2,e3,←flat_take hx] at happ
    simp only[e84,hn,iaLL hx,happ,hwr,wz,opX,intBin,↓reduceIte,simprocAttr]
   ·rintro e h'' ⟨rfl,rfl⟩
    rw[List.take_length,Nat.sub_self]
    have hne:ls.flatten≠[]:=fun h=>hp (by unfold totL;rw[h];rfl)
    have hfin:=finS_clo (h:=h') (nl:=none) (es:=2) (n:=h'.next) (l:=ls.flatten) (Nat.le_refl _)
    unfold cloO cloV at hfin
    simp only[hne,if_false] at hfin
    have hfin:finS h' ⟨(h'.next,.arr 2 (ls.flatten.map .d))::h'.objs,h'.next+1⟩ [.own h'.next 2 (totL ls) 0 (totL ls)]=_:=hfin
    simp only[e84,List.replicate_zero,hfin,wz,opX,intBin,↓reduceIte,simprocAttr]
theorem replO_ok (l:List Co) (k:Nat) (ps:List Co) (hk:k<l.length) (hl:l.length≤10000) (hps:ps.length≤10000) (h:Hp) :
  callW tab 44 [.d (eOs l),.d (.int .i64 (k:Int)),.d (eOs ps)] h=some (.d (eOs (l.take k++ps++l.drop (k+1))),h):=by
 refine call_wp (fn:=f44) rfl rfl ?_
 have hw:IntKind.i64.wrap ((k:Int)+1)=((k+1:Nat):Int):=by rw[wrap_ok (by omega) (by omega)];rfl
 have s1:=slc_all (es:=2) (l:=l.map eO) (n:=k) ocells (by rw[List.length_map];omega)
 have s2:=slc_from (es:=2) (l:=l.map eO) (n:=k+1) ocells (by rw[List.length_map];omega)
 have hfl:[(l.map eO).take k,ps.map eO,(l.map eO).drop (k+1)].flatten=(l.take k++ps++l.drop (k+1)).map eO:=by
  simp[List.map_take,List.map_drop]
 have htot:totL [(l.map eO).take k,ps.map eO,(l.map eO).drop (k+1)]=(l.take k++ps++l.drop (k+1)).length:=by unfold totL;rw[hfl,List.length_map]
 have hle:(l.take k++ps++l.drop (k+1)).length≤20000:=by simp only[List.length_append,List.length_take,List.length_drop];omega
 have hcc:=concatO_ok [(l.map eO).take k,ps.map eO,(l.map eO).drop (k+1)] (by simp) (by
  intro x hx y hy
  simp only[List.mem_cons,List.not_mem_nil,or_false] at hx
  rcases hx with rfl | rfl | rfl
  ·exact ocells y (List.mem_of_mem_take hy)
  ·exact ocells y hy
  ·exact ocells y (List.mem_of_mem_drop hy)) (by omega)
 rw[hfl] at hcc
 have hcc:∀ h,callW tab 84 [.d (.lst [.lst ((l.map eO).take k),eOs ps,.lst ((l.map eO).drop (k+1))])] h=_:=hcc
 have hnt:∀ a b c:D,norm (.tl [.d a,.d b,.d c] (some false))=.d (.lst [a,b,c]):=fun _ _ _=>rfl
 simp only[e44,s1,s2,hw,hnt,hcc,wz,opX,intBin,↓reduceIte,simprocAttr]
abbrev zPt:D:=.agg [.int .i64 0,.int .i64 0,.int .i64 0,.lst []]
theorem growP_ok (n:Nat) (hn:n≤100000) (h:Hp):callW tab 127 [.tl [] (some true),.d (.int .i64 (n:Int))] h=some (if n=0 then (.tl [] (some true),h) else (.own h.next 4 n 0 0,⟨(h.next,.arr 4 ((List.replicate n zPt).map .d))::h.objs,h.next+1⟩)):=by
 refine call_wp (fn:=f127) rfl rfl ?_
 have hc:capT (.tl [] (some true))=some (.d (.int .i64 0)):=rfl
 have h0:IntKind.i64.wrap 0=0:=rfl
 have hw:IntKind.i64.wrap ((n:Int) - IntKind.i64.wrap 0)=(n:Int):=by rw[h0,wrap_ok (by omega) (by omega)];omega
 have hneg:¬ (n:Int)<0:=by omega
 by_cases hz:n=0
 ·subst hz
  simp only[e127,hc,h0,wz,opX,intBin,↓reduceIte,simprocAttr]
 ·have hp:(0:Int)<(n:Int):=by omega
  have s1:slc 4 (.tl [] (some true)) none (some (.d (.int .i64 0)))=some (.tl [] (some true)):=rfl
  have s2:appz (.d zPt) 4 48 h (.tl [] (some true)) (.d (.int .i64 (n:Int)))=some (.own h.next 4 n 0 n,⟨(h.next,.arr 4 ((List.replicate n zPt).map .d))::h.objs,h.next+1⟩):=by
   have hb:n*48≤roomB∧n<2 ^ 62:=⟨by unfold roomB;omega,by omega⟩
   simp only[appz,ixOf_nat,Option.bind_some]
   rw[if_pos hb,if_neg hz]
   simp[Hp.alloc]
  have s3:∀ m,slc 4 (.own m 4 n 0 n) none (some (.d (.int .i64 0)))=some (.own m 4 n 0 0):=by
   intro m
   simp[slc,bnd,ixOf]
  have s4:(n=0)=False:=by simp[hz]
  simp only[e127,hc,hw,hneg,hp,s1,s2,s3,s4,wz,opX,intBin,↓reduceIte,simprocAttr]
theorem concatP_ok (ls:List (List D)) (hl:ls.length≤100) (hc:∀ l,l ∈ ls→∀ y,y ∈ l→y.cells.length=4) (ht:totL ls≤100000) (h:Hp) :
  callW tab 83 [.d (eLL ls)] h=some (.d (.lst ls.flatten),h):=by
 refine call_wp (fn:=f83) rfl rfl ?_
 simp only[e83,wz,opX,intBin,↓reduceIte,simprocAttr]
 have z0:totL (ls.take 0)=0:=rfl
 have hgr:=fun h=>growP_ok (totL ls) ht h
 refine loop_wp ls.length (fun n e h'=>h'=h∧e=[(0,.d (eLL ls)),(3,.d (.int .i64 ((totL (ls.take n):Nat):Int))),(9,.d (eLL ls)),(10,.d (.int .i64 ls.length)),(11,.d (.int .i64 (n:Int)))]) _ ?_ ?_ ls.length 0 _ _ (by omega) ⟨rfl,rfl⟩
 ·rintro n e h' hn ⟨rfl,rfl⟩
  obtain ⟨x,hx⟩:=get_of_lt hn
  have hwr:IntKind.i64.wrap ((n:Int)+1)=((n+1:Nat):Int):=by rw[wrap_ok (by omega) (by omega)];rfl
  have h1:=totL_take hx
  have h2:=totL_le ls (n+1)
  have hw2:IntKind.i64.wrap (((totL (ls.take n):Nat):Int)+(x.length:Int))=((totL (ls.take (n+1)):Nat):Int):=by rw[wrap_ok (by omega) (by omega)];omega
  have hneg:¬ ((totL (ls.take (n+1)):Nat):Int)<0:=by omega
  simp only[e83,hn,iaLL hx,hw2,hneg,hwr,wz,opX,intBin,↓reduceIte,simprocAttr]
 ·rintro e h' ⟨rfl,rfl⟩
  rw[List.take_length]
  by_cases hp:totL ls=0
  ·rw[hp]
   have hgr:∀ h,callW tab 127 [.tl [] (some true),.d (.int .i64 0)] h=some (.tl [] (some true),h):=fun h=>(growP_ok 0 (by omega) h).trans rfl
   have hfl:ls.flatten=[]:=List.eq_nil_of_length_eq_zero hp
   simp only[e83,hgr,wz,opX,intBin,↓reduceIte,simprocAttr]
   refine loop_wp ls.length (fun n e h''=>h''=h'∧e=[(6,.tl [] (some true)),(25,.d (eLL ls)),(26,.d (.int .i64 ls.length)),(27,.d (.int .i64 (n:Int)))]) _ ?_ ?_ ls.length 0 _ _ (by omega) ⟨rfl,rfl⟩
   ·rintro n e h'' hn ⟨rfl,rfl⟩
    obtain ⟨x,hx⟩:=get_of_lt hn
    have hwr:IntKind.i64.wrap ((n:Int)+1)=((n+1:Nat):Int):=by rw[wrap_ok (by omega) (by omega)];rfl
    have h1:=totL_take hx
    have h2:=totL_le ls (n+1)
    have hx0:x=[]:=List.eq_nil_of_length_eq_zero (by omega)
    subst hx0
    have happ:app 4 48 h'' (.tl [] (some true)) (.d (.lst []))=some (.tl [] (some true),h''):=rfl
    simp only[e83,hn,iaLL hx,happ,hwr,wz,opX,intBin,↓reduceIte,simprocAttr]
   ·rintro e h'' ⟨rfl,rfl⟩
    have hfin:finS h'' h'' [.tl [] (some true)]=some (.d (.lst []),h''):=by
     rw[finS,if_pos (suf_refl _)];rfl
    simp only[e83,hfin,hfl,wz,opX,intBin,↓reduceIte,simprocAttr]
  ·simp only[hp,if_false] at hgr
   simp only[e83,hgr,wz,opX,intBin,↓reduceIte,simprocAttr]
   refine loop_wp ls.length (fun n e h''=>h''=⟨(h'.next,.arr 4 (((ls.take n).flatten++List.replicate (totL ls - totL (ls.take n)) zPt).map .d))::h'.objs,h'.next+1⟩∧e=[(6,.own h'.next 4 (totL ls) 0 (totL (ls.take n))),(25,.d (eLL ls)),(26,.d (.int .i64 ls.length)),(27,.d (.int .i64 (n:Int)))]) _ ?_ ?_ ls.length 0 _ _ (by omega) ⟨rfl,rfl⟩
   ·rintro n e h'' hn ⟨rfl,rfl⟩
    obtain ⟨x,hx⟩:=get_of_lt hn
    have hwr:IntKind.i64.wrap ((n:Int)+1)=((n+1:Nat):Int):=by rw[wrap_ok (by omega) (by omega)];rfl
    have h1:=totL_take hx
    have h2:=totL_le ls (n+1)
    have happ:=app_in (es:=4) (b:=48) (m:=h'.next) (tot:=totL ls) (q:=h'.next+1) (o:=h'.objs) (l:=(ls.take n).flatten) (r:=x) (z:=List.replicate (totL ls - totL (ls.take n)) zPt)
     (hc x (List.mem_of_getElem? hx)) (by rw[List.length_replicate];unfold totL at h1 h2 ⊢; omega) (by rw[List.length_replicate];omega)
    have e1:(ls.take n).flatten.length=totL (ls.take n):=rfl
    have e2:((ls.take n).flatten++x).length=totL (ls.take (n+1)):=by rw[h1,List.length_append];rfl
    have e3:List.drop x.length (List.replicate (totL ls - totL (ls.take n)) zPt)=List.replicate (totL ls - totL (ls.take (n+1))) zPt:=by rw[List.drop_replicate];congr 1;omega
    rw[e1,e2,e3,←flat_take hx] at happ
    simp only[e83,hn,iaLL hx,happ,hwr,wz,opX,intBin,↓reduceIte,simprocAttr]
   ·rintro e h'' ⟨rfl,rfl⟩
    rw[List.take_length,Nat.sub_self]
    have hne:ls.flatten≠[]:=fun h=>hp (by unfold totL;rw[h];rfl)
    have hfin:=finS_clo (h:=h') (nl:=none) (es:=4) (n:=h'.next) (l:=ls.flatten) (Nat.le_refl _)
    unfold cloO cloV at hfin
    simp only[hne,if_false] at hfin
    have hfin:finS h' ⟨(h'.next,.arr 4 (ls.flatten.map .d))::h'.objs,h'.next+1⟩ [.own h'.next 4 (totL ls) 0 (totL ls)]=_:=hfin
    simp only[e83,List.replicate_zero,hfin,wz,opX,intBin,↓reduceIte,simprocAttr]
theorem replP_ok (l:List Pt) (k:Nat) (ps:List Pt) (hk:k<l.length) (hl:l.length≤10000) (hps:ps.length≤10000) (h:Hp) :
  callW tab 43 [.d (ePs l),.d (.int .i64 (k:Int)),.d (ePs ps)] h=some (.d (ePs (l.take k++ps++l.drop (k+1))),h):=by
 refine call_wp (fn:=f43) rfl rfl ?_
 have hw:IntKind.i64.wrap ((k:Int)+1)=((k+1:Nat):Int):=by rw[wrap_ok (by omega) (by omega)];rfl
 have s1:=slc_all (es:=4) (l:=l.map ePt) (n:=k) ptcells (by rw[List.length_map];omega)
 have s2:=slc_from (es:=4) (l:=l.map ePt) (n:=k+1) ptcells (by rw[List.length_map];omega)
 have hfl:[(l.map ePt).take k,ps.map ePt,(l.map ePt).drop (k+1)].flatten=(l.take k++ps++l.drop (k+1)).map ePt:=by
  simp[List.map_take,List.map_drop]
 have htot:totL [(l.map ePt).take k,ps.map ePt,(l.map ePt).drop (k+1)]=(l.take k++ps++l.drop (k+1)).length:=by unfold totL;rw[hfl,List.length_map]
 have hle:(l.take k++ps++l.drop (k+1)).length≤20000:=by simp only[List.length_append,List.length_take,List.length_drop];omega
 have hcc:=concatP_ok [(l.map ePt).take k,ps.map ePt,(l.map ePt).drop (k+1)] (by simp) (by
  intro x hx y hy
  simp only[List.mem_cons,List.not_mem_nil,or_false] at hx
  rcases hx with rfl | rfl | rfl
  ·exact ptcells y (List.mem_of_mem_take hy)
  ·exact ptcells y hy
  ·exact ptcells y (List.mem_of_mem_drop hy)) (by omega)
 rw[hfl] at hcc
 have hcc:∀ h,callW tab 83 [.d (.lst [.lst ((l.map ePt).take k),ePs ps,.lst ((l.map ePt).drop (k+1))])] h=_:=hcc
 have hnt:∀ a b c:D,norm (.tl [.d a,.d b,.d c] (some false))=.d (.lst [a,b,c]):=fun _ _ _=>rfl
 simp only[e43,s1,s2,hw,hnt,hcc,wz,opX,intBin,↓reduceIte,simprocAttr]
end Zc28
end
section
set_option maxHeartbeats 4000000
namespace Zc28
open Go Zv Zs
mutual
def nwP:Pt→Nat
 | .mk k _ _ qs=>if k=0 then 0 else 1+nwL qs
def nwL:List Pt→Nat
 | []=>0
 |p::r=>nwP p+nwL r
end
def nwS:List (List Pt)→Nat
 | []=>0
 |r::l=>nwL r+nwS l
theorem nwL_app:∀ (a b:List Pt),nwL (a++b)=nwL a+nwL b
 | [],b=>by simp[nwL]
 |p::a,b=>by rw[List.cons_append,nwL,nwL,nwL_app a b];omega
theorem nwL_wild:∀ n:Nat,nwL (List.replicate n wildT)=0
 |0=>rfl
 |n+1=>by rw[List.replicate_succ,nwL,nwL_wild n];simp[wildT,nwP]
theorem spF_nw {c:Int} {n:Nat} {r r':List Pt} (h:spF c n r=some r'):nwL r'≤nwL r∧(∀ p s,r=p::s→kdP p=1→nwL r'+1≤nwL r):=by
 cases r with
 |nil=>cases h
 |cons p s=>
  obtain ⟨k,c',m,qs⟩:=p
  simp only[spF] at h
  by_cases k0:k=0
  ·rw[if_pos k0] at h
   cases h
   refine ⟨by rw[nwL_app,nwL_wild,nwL];omega,?_⟩
   intro p s' e k1
   cases e
   simp only[kdP] at k1
   omega
  ·rw[if_neg k0] at h
   split at h
   ·cases h
    have e:nwL (qs++s)+1=nwL (.mk k c' m qs::s):=by rw[nwL_app,nwL,nwP,if_neg k0];omega
    exact⟨by omega,fun _ _ _ _=>by omega⟩
   ·cases h
theorem spS_nw (c:Int) (n:Nat):∀ l:List (List Pt),nwS (spS c n l)≤nwS l
 | []=>Nat.le_refl _
 |r::l=>by
  have ih:=spS_nw c n l
  unfold spS at ih ⊢
  rw[List.filterMap_cons,nwS]
  cases h:spF c n r with
  |none=>simp only;omega
  |some r'=>have:=(spF_nw h).1;simp only[nwS];omega
theorem spS_nw1 (c:Int) (n:Nat):∀ l:List (List Pt),(∃ p s,(p::s) ∈ l∧kdP p=1∧cnP p=c)→nwS (spS c n l)+1≤nwS l
 | [],⟨_,_,h,_⟩=>by cases h
 |r::l,⟨p,s,hm,k1,c1⟩=>by
  rcases List.mem_cons.1 hm with e | hm
  ·subst e
   have ih:=spS_nw c n l
   unfold spS at ih ⊢
   rw[List.filterMap_cons,nwS]
   cases h:spF c n (p::s) with
   |none=>
    obtain ⟨k,c',m,qs⟩:=p
    simp only[kdP] at k1
    simp only[cnP] at c1
    simp only[spF,k1,c1] at h
    simp at h
   |some r'=>have:=(spF_nw h).2 p s rfl k1;simp only[nwS];omega
  ·have ih:=spS_nw1 c n l ⟨p,s,hm,k1,c1⟩
   unfold spS at ih ⊢
   rw[List.filterMap_cons,nwS]
   cases h:spF c n r with
   |none=>simp only;omega
   |some r'=>have:=(spF_nw h).1;simp only[nwS];omega
theorem restF_nw {keep:Pt→Bool} {r r':List Pt} (h:restF keep r=some r'):nwL r'≤nwL r:=by
 cases r with
 |nil=>cases h
 |cons p s=>
  simp only[restF] at h
  split at h
  ·cases h;rw[nwL];omega
  ·cases h
theorem restS_nw (keep:Pt→Bool):∀ l:List (List Pt),nwS (restS keep l)≤nwS l
 | []=>Nat.le_refl _
 |r::l=>by
  have ih:=restS_nw keep l
  unfold restS at ih ⊢
  rw[List.filterMap_cons,nwS]
  cases h:restF keep r with
  |none=>simp only;omega
  |some r'=>have:=restF_nw h;simp only[nwS];omega
theorem fm_len {α β:Type} (f:α→Option β) (l:List α):(l.filterMap f).length≤l.length:=List.length_filterMap_le f l
def fldsOf (d:List Dt) (t:Int) (i:Nat):List Int:=match (consOf d t)[i]? with
 |some z=>z.flds
 |none=>[]
def fitR (d:List Dt):List Int→List Pt→Bool
 | [],[]=>true
 |t::ts,p::r=>fitsP d t p && fitR d ts r
 |_,_=>false
theorem fitR_len {d:List Dt}:∀ {ts:List Int} {r:List Pt},fitR d ts r=true→r.length=ts.length
 | [],[],_=>rfl
 |t::ts,p::r,h=>by
  simp only[fitR,Bool.and_eq_true] at h
  rw[List.length_cons,List.length_cons,fitR_len h.2]
 | [],_::_,h=>by cases h
 |_::_,[],h=>by cases h
theorem fitR_app {d:List Dt}:∀ {fs ts:List Int} {qs r:List Pt},fitR d fs qs=true→fitR d ts r=true→fitR d (fs++ts) (qs++r)=true
 | [],ts,[],r,_,h=>h
 |f::fs,ts,q::qs,r,h,h'=>by
  simp only[fitR,Bool.and_eq_true] at h
  simp only[List.cons_append,fitR,Bool.and_eq_true]
  exact⟨h.1,fitR_app h.2 h'⟩
 | [],_,_::_,_,h,_=>by cases h
 |_::_,_,[],_,h,_=>by cases h
theorem fits_wild (d:List Dt) (t:Int):fitsP d t wildT=true:=by
 unfold wildT;rw[fitsP];rfl
theorem fitR_wild (d:List Dt):∀ fs:List Int,fitR d fs (List.replicate fs.length wildT)=true
 | []=>rfl
 |f::fs=>by
  rw[List.length_cons,List.replicate_succ,fitR,fits_wild,fitR_wild d fs];rfl
theorem fitR_of_L {d:List Dt}:∀ {fs:List Int} {qs:List Pt},fs.length=qs.length→fitsL d fs qs=true→fitR d fs qs=true
 | [],[],_,_=>rfl
 |f::fs,q::qs,hl,h=>by
  simp only[fitsL,Bool.and_eq_true] at h
  simp only[fitR,Bool.and_eq_true]
  exact⟨h.1,fitR_of_L (by simpa using hl) h.2⟩
 | [],_::_,h,_=>by cases h
 |_::_,[],h,_=>by cases h
theorem fits_cases {d:List Dt} {t k c m:Int} {qs:List Pt} (h:fitsP d t (.mk k c m qs)=true) :
  (k=0∧c=0∧m=0∧qs=[])∨(k=2∧t=0∧c=0∧qs=[])∨(k=1∧t≠0∧m=0∧∃ i:Nat,∃ z,c=(i:Int)∧(consOf d t)[i]? = some z∧z.flds.length=qs.length∧fitR d z.flds qs=true):=by
 rw[fitsP] at h
 by_cases k0:k=0
 ·rw[if_pos k0] at h
  simp only[Bool.and_eq_true,decide_eq_true_eq] at h
  exact .inl ⟨k0,h.1.1,h.1.2,List.eq_nil_of_length_eq_zero h.2⟩
 ·rw[if_neg k0] at h
  by_cases k2:k=2
  ·rw[if_pos k2] at h
   simp only[Bool.and_eq_true,decide_eq_true_eq] at h
   exact .inr (.inl ⟨k2,h.1.1,h.1.2,List.eq_nil_of_length_eq_zero h.2⟩)
  ·rw[if_neg k2] at h
   by_cases k1:k=1
   ·rw[if_pos k1] at h
    simp only[Bool.and_eq_true,Bool.not_eq_true',Bool.or_eq_false_iff,decide_eq_false_iff_not,Bool.not_eq_false',decide_eq_true_eq] at h
    obtain ⟨⟨⟨⟨h1,h2⟩,h3⟩,h4⟩,h5⟩:=h
    cases hz:(consOf d t)[c.toNat]? with
    |none=>rw[hz] at h5;cases h5
    |some z=>
     rw[hz] at h5
     simp only[Bool.and_eq_true,decide_eq_true_eq] at h5
     exact .inr (.inr ⟨k1,h1,h2,c.toNat,z,by omega,hz,h5.1,fitR_of_L h5.1 h5.2⟩)
   ·rw[if_neg k1] at h;cases h
theorem spF_fit {d:List Dt} {t:Int} {ts:List Int} {i:Nat} {r r':List Pt} (hf:fitR d (t::ts) r=true) (h:spF (i:Int) (fldsOf d t i).length r=some r'):fitR d (fldsOf d t i++ts) r'=true:=by
 cases r with
 |nil=>cases h
 |cons p s=>
  simp only[fitR,Bool.and_eq_true] at hf
  obtain ⟨k,c',m,qs⟩:=p
  simp only[spF] at h
  split at h
  ·cases h;exact fitR_app (fitR_wild d _) hf.2
  ·split at h
   ·rename_i hk
    cases h
    rcases fits_cases hf.1 with h1 | h1 | ⟨_,_,_,j,z,e,hz,_,hR⟩
    ·omega
    ·omega
    ·have:j=i:=by omega
     subst this
     unfold fldsOf
     rw[hz]
     exact fitR_app hR hf.2
   ·cases h
theorem restF_fit {d:List Dt} {t:Int} {ts:List Int} {keep:Pt→Bool} {r r':List Pt} (hf:fitR d (t::ts) r=true) (h:restF keep r=some r'):fitR d ts r'=true:=by
 cases r with
 |nil=>cases h
 |cons p s=>
  simp only[fitR,Bool.and_eq_true] at hf
  simp only[restF] at h
  split at h
  ·cases h;exact hf.2
  ·cases h
def fitM (d:List Dt) (ts:List Int) (l:List (List Pt)):Prop:=∀ r,r ∈ l→fitR d ts r=true
theorem spS_fit {d:List Dt} {t:Int} {ts:List Int} {l:List (List Pt)} (i:Nat) (h:fitM d (t::ts) l):fitM d (fldsOf d t i++ts) (spS (i:Int) (fldsOf d t i).length l):=by
 intro r hr
 obtain ⟨q,hq,hs⟩:=List.mem_filterMap.1 hr
 exact spF_fit (h q hq) hs
theorem restS_fit {d:List Dt} {t:Int} {ts:List Int} {l:List (List Pt)} (keep:Pt→Bool) (h:fitM d (t::ts) l):fitM d ts (restS keep l):=by
 intro r hr
 obtain ⟨q,hq,hs⟩:=List.mem_filterMap.1 hr
 exact restF_fit (h q hq) hs
def usS (d:List Dt):Nat→List Int→List (List Pt)→List Pt→Bool
 |0,_,_,_=>false
 |_+1,[],rows,_=>decide (rows.length=0)
 |k+1,t::ts,rows,.mk kd c m qs::r=>
  if kd=1 then usS d k (fldsOf d t c.toNat++ts) (spS c qs.length rows) (qs++r)
  else if kd=2 then usS d k ts (restS (fun q=>wildP q || decide (nmP q=m)) rows) r
  else if t=0∨(consS rows).length<(consOf d t).length then usS d k ts (restS wildP rows) r
  else (List.range (consOf d t).length).any fun i=>usS d k (fldsOf d t i++ts) (spS (i:Int) (fldsOf d t i).length rows) (List.replicate (fldsOf d t i).length wildT++r)
 |_+1,_::_,_,[]=>false
end Zc28
end
section
set_option maxHeartbeats 4000000
namespace Zc28
open Go Zv Zs
theorem addI_mem {s:List Int} {c x:Int}:x ∈ addI s c ↔ x ∈ s∨x=c:=by
 unfold addI
 split
 ·rename_i h
  constructor
  ·exact .inl
  ·rintro (h' | rfl)
   ·exact h'
   ·exact h
 ·simp
theorem addI_nodup {s:List Int} (c:Int) (h:s.Nodup):(addI s c).Nodup:=by
 unfold addI
 split
 ·exact h
 ·rename_i hc
  rw[List.nodup_append]
  exact⟨h,by simp,fun a ha b hb=>by simp at hb;subst hb;intro e;subst e;exact hc ha⟩
theorem cG_nodup {A:List Int} (r:List Pt) (h:A.Nodup):(cG A r).Nodup:=by
 unfold cG
 split
 ·exact h
 ·split
  ·exact addI_nodup _ h
  ·exact h
theorem foldc_nodup:∀ (l:List (List Pt)) (A:List Int),A.Nodup→(l.foldl cG A).Nodup
 | [],A,h=>h
 |r::l,A,h=>foldc_nodup l _ (cG_nodup r h)
theorem consS_nodup (l:List (List Pt)):(consS l).Nodup:=foldc_nodup l [] List.nodup_nil
theorem foldc_mem (c:Int):∀ (l:List (List Pt)) (A:List Int),c ∈ l.foldl cG A ↔ c ∈ A∨∃ p s,(p::s) ∈ l∧kdP p=1∧cnP p=c
 | [],A=>by simp
 |r::l,A=>by
  rw[List.foldl_cons,foldc_mem c l]
  cases r with
  |nil=>
   show (c ∈ A∨_) ↔ _
   simp
  |cons q s=>
   show (c ∈ (if kdP q=1 then addI A (cnP q) else A)∨_) ↔ _
   by_cases k1:kdP q=1
   ·rw[if_pos k1,addI_mem]
    constructor
    ·rintro ((h | h) | ⟨p,s',h1,h2,h3⟩)
     ·exact .inl h
     ·exact .inr ⟨q,s,List.mem_cons_self,k1,h.symm⟩
     ·exact .inr ⟨p,s',List.mem_cons_of_mem _ h1,h2,h3⟩
    ·rintro (h | ⟨p,s',h1,h2,h3⟩)
     ·exact .inl (.inl h)
     ·rcases List.mem_cons.1 h1 with e | h1
      ·cases e;exact .inl (.inr h3.symm)
      ·exact .inr ⟨p,s',h1,h2,h3⟩
   ·rw[if_neg k1]
    constructor
    ·rintro (h | ⟨p,s',h1,h2,h3⟩)
     ·exact .inl h
     ·exact .inr ⟨p,s',List.mem_cons_of_mem _ h1,h2,h3⟩
    ·rintro (h | ⟨p,s',h1,h2,h3⟩)
     ·exact .inl h
     ·rcases List.mem_cons.1 h1 with e | h1
      ·cases e;exact absurd h2 k1
      ·exact .inr ⟨p,s',h1,h2,h3⟩
theorem consS_mem (c:Int) (l:List (List Pt)):c ∈ consS l ↔ ∃ p s,(p::s) ∈ l∧kdP p=1∧cnP p=c:=by
 rw[consS,foldc_mem];simp
theorem sub_len {α:Type} [DecidableEq α]:∀ (s t:List α),s.Nodup→(∀ x,x ∈ s→x ∈ t)→s.length≤t.length
 | [],_,_,_=>Nat.zero_le _
 |x::s,t,hn,hs=>by
  rw[List.nodup_cons] at hn
  have hx:=hs x List.mem_cons_self
  have:=sub_len s (t.erase x) hn.2 (fun y hy=>(List.mem_erase_of_ne (fun (e:y=x)=>hn.1 (e▸hy))).2 (hs y (List.mem_cons_of_mem x hy)))
  rw[List.length_erase_of_mem hx] at this
  have:=List.length_pos_of_mem hx
  rw[List.length_cons];omega
theorem cons_all {s:List Int} {K:Nat} (hn:s.Nodup) (hr:∀ c,c ∈ s→∃ i:Nat,c=(i:Int)∧i<K) (hk:K≤s.length) {i:Nat} (hi:i<K):(i:Int) ∈ s:=by
 refine Decidable.byContradiction fun hc=>?_
 have:=sub_len s (((List.range K).map fun j:Nat=>(j:Int)).erase (i:Int)) hn (fun x hx=>by
  obtain ⟨j,rfl,hj⟩:=hr x hx
  refine (List.mem_erase_of_ne (fun (e:(j:Int)=(i:Int))=>hc (e▸hx))).2 (List.mem_map.2 ⟨j,List.mem_range.2 hj,rfl⟩))
 rw[List.length_erase_of_mem (List.mem_map.2 ⟨i,List.mem_range.2 hi,rfl⟩),List.length_map,List.length_range] at this
 omega
theorem consS_rng {d:List Dt} {t:Int} {ts:List Int} {l:List (List Pt)} (h:fitM d (t::ts) l):∀ c,c ∈ consS l→∃ i:Nat,c=(i:Int)∧i<(consOf d t).length:=by
 intro c hc
 obtain ⟨p,s,hm,k1,rfl⟩:=(consS_mem c l).1 hc
 have:=h _ hm
 simp only[fitR,Bool.and_eq_true] at this
 obtain ⟨k,c',m,qs⟩:=p
 simp only[kdP] at k1
 rcases fits_cases this.1 with h1 | h1 | ⟨_,_,_,i,z,e,hz,_⟩
 ·omega
 ·omega
 ·exact⟨i,e,(List.getElem?_eq_some_iff.1 hz).1⟩
theorem consS_le {d:List Dt} {t:Int} {ts:List Int} {l:List (List Pt)} (h:fitM d (t::ts) l):(consS l).length≤(consOf d t).length:=by
 have:=sub_len (consS l) ((List.range (consOf d t).length).map fun j:Nat=>(j:Int)) (consS_nodup l) (fun x hx=>by
  obtain ⟨j,rfl,hj⟩:=consS_rng h x hx
  exact List.mem_map.2 ⟨j,List.mem_range.2 hj,rfl⟩)
 simpa using this
theorem spS_down {d:List Dt} {t:Int} {ts:List Int} {l:List (List Pt)} (h:fitM d (t::ts) l) (hk:(consOf d t).length≤(consS l).length) {i:Nat} (hi:i<(consOf d t).length) (n:Nat):nwS (spS (i:Int) n l)+1≤nwS l:=
 spS_nw1 _ _ _ ((consS_mem _ l).1 (cons_all (consS_nodup l) (consS_rng h) hk hi))
theorem kdP_mk (k c n:Int) (qs:List Pt):kdP (.mk k c n qs)=k:=rfl
theorem cnP_mk (k c n:Int) (qs:List Pt):cnP (.mk k c n qs)=c:=rfl
theorem nmP_mk (k c n:Int) (qs:List Pt):nmP (.mk k c n qs)=n:=rfl
theorem sameP_mk (q:Pt) (k c n:Int) (qs:List Pt):sameP q (.mk k c n qs)=(decide (kdP q=k) && decide (cnP q=c) && decide (nmP q=n)):=rfl
end Zc28
end
section
set_option maxHeartbeats 4000000
namespace Zc28
open Go Zv Zs
theorem wild_ok (p:Pt) (h:Hp):callW tab 109 [.d (ePt p)] h=some (.d (.bool (wildP p)),h):=by
 refine call_wp (fn:=f109) rfl rfl ?_
 simp only[e109,pts,ePt_k,ibeq,wildP,wz,opX,intBin,↓reduceIte,simprocAttr]
def numP (a:Pt) (q:Pt):Bool:=wildP q || decide (nmP q=nmP a)
theorem num_ok (a p:Pt) (h:Hp):callW tab 108 [.d (ePt p),.fp (ePt a) 0] h=some (.d (.bool (numP a p)),h):=by
 refine call_wp (fn:=f108) rfl rfl ?_
 have hw:=fun h=>wild_ok p h
 unfold numP
 cases hk:wildP p<;>simp only[e108,pts,ePt_2,ibeq,hw,hk,Bool.true_or,Bool.false_or,wz,opX,intBin,↓reduceIte,simprocAttr]
theorem matrices_ok (a b c:D) (ha:a.cells.length=1) (hb:b.cells.length=1) (hc:c.cells.length=1) (h:Hp):callW tab 111 [.d a,.d b,.d c] h=some (.clo 134 [.fp a 0,.fp b 0,.fp c 0],⟨h.objs,h.next+3⟩):=by
 refine call_wp (fn:=f111) rfl rfl ?_
 simp only[e111,ha,hb,hc,wz,opX,intBin,↓reduceIte,simprocAttr]
section
variable (o:List (Nat × Ob)) (H:Nat) (A B:List Int) (e0:List (Nat × V))
def HU (b:Bool) (s:Option Ex) (q:Nat):Hp:=⟨(H+10,.lp 960 e0 s)::(H+6,.mp (kvB B))::(H+5,.mp (kvB A))::(H+3,.arr 1 [.d (.bool b)])::o,q⟩
theorem HU_get (b s q):(HU o H A B e0 b s q).get (H+10)=some (.lp 960 e0 s):=by
 unfold HU Hp.get;simp[Zv.look]
theorem HU_set (b s s' q):(HU o H A B e0 b s q).set (H+10) (.lp 960 e0 s')=HU o H A B e0 b s' q:=by
 unfold HU Hp.set;simp[upd]
theorem HU_row (b s q):(HU o H A B e0 b s q).row (H+3) 1=some (1,[.d (.bool b)]):=by
 unfold HU Hp.row Hp.get;simp[Zv.look]
theorem HU_st (b c s q):st 1 (HU o H A B e0 b s q) (.ptr (H+3) 1 0 0) (.d (.bool c))=some (HU o H A B e0 c s q):=by
 unfold st
 simp only[HU_row,Option.bind_some]
 simp[HU,Hp.set,upd,V.cells,stor,D.cells]
end
theorem round_ok {d:List Dt} {n i:Nat} {y:Dt} {z:Cn} (hy:d[n]? = some y) (hz:y.cons[i]? = some z) (hd:d.length<2 ^ 60) (hf:z.flds.length≤8) {ts:List Int} (hl:ts.length≤10000) {p:Pt} {r:List Pt} (hr:r.length≤10000) {m:List (List Pt)} {u:Bool}
  (hu:∀ h,callW tab 60 [.d (eDs d),.d (eIs (z.flds++ts)),.d (eRs m),.d (ePs (List.replicate z.flds.length wildT++r))] h=some (.d (.bool u),h)) (o:List (Nat × Ob)) (H:Nat) (A B:List Int) (cl:V) (q:Nat) :
  let e0:List (Nat × V):=[(4,.fp (eDs d) 0),(5,.fp (eIs (((n:Int)+1)::ts)) 0),(7,.fp (ePs (p::r)) 0),(8,.ptr (H+3) 1 0 0),(92,cl)]
  cW tab (.yld (H+10)) [.d (eI (i:Int)),.d (eRs m)] (HU o H A B e0 false none q)=some (.d (.bool (!u)),HU o H A B e0 u (if u=true then some .ret else none) q):=by
 intro e0
 have hn:=(List.getElem?_eq_some_iff.1 hy).1
 have hw:=wrap_sub1 (n:=n) (by omega)
 have hun:∀ h,callW tab 104 [.d (eDs d),.d (.lst (eI ((n:Int)+1)::ts.map eI)),.d (eI (i:Int))] h=some (.d (eIs (z.flds++ts)),h):=fun h=>under_ok hy hz hd ts hf hl h
 have hia:ia 1 (.d (.lst (eI ((n:Int)+1)::ts.map eI))) (.d (.int .i64 0))=some (.fp (eI ((n:Int)+1)) 0):=iaI0 _ _
 have h1:=mkslP (n:=z.flds.length) (by omega)
 have h2:=appd_tl (es:=4) (b:=48) (l:=(List.replicate z.flds.length wildT).map ePt) (r:=r.map ePt) (nl:=some false) ptcells ptcells (by simp only[List.length_map,List.length_replicate,roomB];omega)
 rw[←List.map_append] at h2
 have hbody:ex tab d60q0 [(4,.fp (eDs d) 0),(5,.fp (eIs (((n:Int)+1)::ts)) 0),(7,.fp (ePs (p::r)) 0),(8,.ptr (H+3) 1 0 0),(12,.d (eI (i:Int))),(13,.d (eRs m))] (HU o H A B e0 false (some .norm) q) =
   some (if u=true then .ret else .norm,if u=true then [(8,.ptr (H+3) 1 0 0)] else [(8,.ptr (H+3) 1 0 0),(118,.d (.bool false))],HU o H A B e0 u (some .norm) q):=by
  unfold d60q0
  apply wq_ex.1
  have hst:=HU_st o H A B e0 false true (some .norm) q
  cases u<;>simp only[e60,hw,iaI0,hia,slcP',slcP,hun,h1,h2,iaD hy,iaC hz,hu,hst,wz,opX,intBin,↓reduceIte,simprocAttr]
 have:=cW_yld (T:=tab) (n:=H+10) (b:=960) (e:=e0) (vs:=[.d (eI (i:Int)),.d (eRs m)]) (h:=HU o H A B e0 false none q) (fn:=f1000960) (asg:=a60q0) (bdy:=d60q0) (e1:=[(4,.fp (eDs d) 0),(5,.fp (eIs (((n:Int)+1)::ts)) 0),(7,.fp (ePs (p::r)) 0),(8,.ptr (H+3) 1 0 0),(12,.d (eI (i:Int))),(13,.d (eRs m))]) (h1:=HU o H A B e0 false none q) (b':=960) (e':=e0)
  (HU_get ..) rfl rfl rfl (by unfold a60q0;apply wq_ex.1;simp only[e60,binds,f1000960,wz,opX,intBin,↓reduceIte,simprocAttr];rfl) (HU_get ..) (by rw[HU_set];exact hbody)
 rw[this]
 unfold rndEnd
 simp only[HU_get]
 cases u<;>simp[HU_set]<;>rfl
theorem HU_mk (o:List (Nat × Ob)) (H:Nat) (A B:List Int) (e0:List (Nat × V)) (b:Bool) (s:Option Ex) (q q':Nat):(⟨(HU o H A B e0 b s q).objs,q'⟩:Hp)=HU o H A B e0 b s q':=rfl
theorem HU_next (o:List (Nat × Ob)) (H:Nat) (A B:List Int) (e0:List (Nat × V)) (b:Bool) (s:Option Ex) (q:Nat):(HU o H A B e0 b s q).next=q:=rfl
theorem range_ok {d:List Dt} {n:Nat} {y:Dt} (hy:d[n]? = some y) (hd:d.length<2 ^ 60) (hK:y.cons.length≤8) (hf:∀ z,z ∈ y.cons→z.flds.length≤8) {ts:List Int} (hts:ts.length≤10000) {p:Pt} {r:List Pt} (hr:r.length≤10000)
  (l:List (List Pt)) (hl:l.length≤1000) (hlr:∀ r,r ∈ l→r≠[]∧r.length≤10000∧∀ p,p ∈ r→(argsP p).length≤10000) {u:Nat→Bool}
  (hu:∀ (i:Nat) (z:Cn),y.cons[i]? = some z→∀ h,callW tab 60 [.d (eDs d),.d (eIs (z.flds++ts)),.d (eRs (spS (i:Int) z.flds.length l)),.d (ePs (List.replicate z.flds.length wildT++r))] h=some (.d (.bool (u i)),h)) (o:List (Nat × Ob)) (H:Nat) (A B:List Int) :
  let cl:V:=.clo 134 [.fp (eDs d) 0,.fp (eIs (((n:Int)+1)::ts)) 0,.fp (eRs l) 0]
  let e0:List (Nat × V):=[(4,.fp (eDs d) 0),(5,.fp (eIs (((n:Int)+1)::ts)) 0),(7,.fp (ePs (p::r)) 0),(8,.ptr (H+3) 1 0 0),(92,cl)]
  ∃ q,callW tab 134 [.yld (H+10),.fp (eDs d) 0,.fp (eIs (((n:Int)+1)::ts)) 0,.fp (eRs l) 0] (HU o H A B e0 false none (H+11))=some (.tup [],HU o H A B e0 ((List.range y.cons.length).any u) (if (List.range y.cons.length).any u=true then some .ret else none) q):=by
 intro cl e0
 have hn:=(List.getElem?_eq_some_iff.1 hy).1
 have hw:=wrap_sub1 (n:=n) (by omega)
 have hia:ia 1 (.d (.lst (eI ((n:Int)+1)::ts.map eI))) (.d (.int .i64 0))=some (.fp (eI ((n:Int)+1)) 0):=iaI0 _ _
 obtain ⟨e,q',hq,hloop⟩:=loop_anyO (T:=tab) (a:=f134l0) (K:=y.cons.length) (p:=u) (f:=fun i=>[(0,.yld (H+10)),(3,.fp (eRs l) 0),(14,.d (.lst (y.cons.map eC))),(15,.d (.int .i64 (y.cons.length:Int))),(16,.d (.int .i64 (i:Int)))]) (O:=(HU o H A B e0 false none 0).objs) (O2:=(HU o H A B e0 true (some .ret) 0).objs) (x1:=.ret) (x2:=.exit 0) (e2:=[(0,.yld (H+10)),(3,.fp (eRs l) 0),(14,.d (.lst (y.cons.map eC))),(15,.d (.int .i64 (y.cons.length:Int))),(16,.d (.int .i64 (y.cons.length:Int))),(17,.d (.bool false))]) (q0:=H+11)
  (by
   intro q i hi hp
   obtain ⟨z,hz⟩:=get_of_lt (l:=y.cons) (n:=i) hi
   have hzf:=hf z (List.mem_of_getElem? hz)
   have hround:∀ q,cW tab (.yld (H+10)) [.d (eI (i:Int)),.d (eRs (spS (i:Int) z.flds.length l))] (HU o H A B e0 false none q)=some (.d (.bool (!u i)),HU o H A B e0 (u i) (if u i=true then some .ret else none) q):=fun q=>round_ok (p:=p) hy hz hd hzf hts hr (hu i z hz) o H A B cl q
   have hsp:=fun h=>special_ok (i:Int) z.flds.length (by omega) l hl hlr h
   simp only[hp] at hround
   simp only[hi,e134,iaC hz,hsp,hround,HU_mk,HU_next,wrap_succ (show i<2 ^ 62 by omega),wz,opX,intBin,↓reduceIte,simprocAttr]
   exact⟨_,rfl,by omega⟩)
  (by
   intro q i hi hp
   obtain ⟨z,hz⟩:=get_of_lt (l:=y.cons) (n:=i) hi
   have hzf:=hf z (List.mem_of_getElem? hz)
   have hround:∀ q,cW tab (.yld (H+10)) [.d (eI (i:Int)),.d (eRs (spS (i:Int) z.flds.length l))] (HU o H A B e0 false none q)=some (.d (.bool (!u i)),HU o H A B e0 (u i) (if u i=true then some .ret else none) q):=fun q=>round_ok (p:=p) hy hz hd hzf hts hr (hu i z hz) o H A B cl q
   have hsp:=fun h=>special_ok (i:Int) z.flds.length (by omega) l hl hlr h
   simp only[hp] at hround
   simp only[hi,e134,iaC hz,hsp,hround,HU_mk,HU_next,wrap_succ (show i<2 ^ 62 by omega),wz,opX,intBin,↓reduceIte,simprocAttr]
   exact⟨_,_,⟨rfl,rfl⟩,by omega⟩)
  (by
   intro q
   simp only[e134,HU_mk,wz,opX,intBin,↓reduceIte,simprocAttr]
   exact⟨_,rfl,by omega⟩)
  (by simp) (by simp)
 refine ⟨q',call_wp (fn:=f134) rfl rfl ?_⟩
 simp only[HU_mk,Int.cast_ofNat_Int] at hloop
 cases hany:(List.range y.cons.length).any u with
 |false=>
  rw[hany] at hloop
  simp only[Bool.false_eq_true,if_false] at hloop
  simp only[e134,hw,iaI0,hia,iaD hy,HU_mk,wq_of hloop,wz,opX,intBin,↓reduceIte,simprocAttr]
 |true=>
  rw[hany] at hloop
  simp only[if_true] at hloop
  simp only[e134,hw,iaI0,hia,iaD hy,HU_mk,wq_of hloop,wz,opX,intBin,↓reduceIte,simprocAttr]
end Zc28
end
section
set_option maxHeartbeats 4000000
namespace Zc28
open Go Zv Zs
section
variable (o:List (Nat × Ob)) (H:Nat) (A B:List Int)
def HV (b:Bool) (q:Nat):Hp:=⟨(H+6,.mp (kvB B))::(H+5,.mp (kvB A))::(H+3,.arr 1 [.d (.bool b)])::o,q⟩
theorem HV_mk (b q q'):(⟨(HV o H A B b q).objs,q'⟩:Hp)=HV o H A B b q':=rfl
theorem HV_next (b q):(HV o H A B b q).next=q:=rfl
theorem HV_of (b):HM2 ((H+3,.arr 1 [.d (.bool b)])::o) (H+5) A B=HV o H A B b (H+7):=rfl
theorem HV_len (b q):lenM (HV o H A B b q) (.map (H+5))=some (.d (.int .i64 (A.length:Int))):=by
 unfold lenM entries HV Hp.get
 simp[Zv.look,kvB,int]
theorem HV_row (b q):(HV o H A B b q).row (H+3) 1=some (1,[.d (.bool b)]):=by
 unfold HV Hp.row Hp.get;simp[Zv.look]
theorem HV_st (b c q):st 1 (HV o H A B b q) (.ptr (H+3) 1 0 0) (.d (.bool c))=some (HV o H A B c q):=by
 unfold st
 simp only[HV_row,Option.bind_some]
 simp[HV,Hp.set,upd,V.cells,stor,D.cells]
theorem HU_kill (e0:List (Nat × V)) (b s q):(HU o H A B e0 b s q).kill (H+10)=HV o H A B b q:=by
 unfold HU HV Hp.kill;simp[del]
end
theorem HV_fin (h:Hp) (A B:List Int) (b:Bool) (q:Nat) (x:D):finS h (HV h.objs h.next A B b q) [.d x]=some (.d x,h):=by
 refine finS_suf (vs:=[x]) ?_
 exact suf_app [_,_,_] h.objs
theorem frz_4 (n es nx:Nat) (o1 o2 o3:Ob) (x:D) (l:List (Nat × Ob)):Zv.frz ⟨(n+1+1+1,o3)::(n+1+1,o2)::(n+1,o1)::(n,.arr es [.d x])::l,nx⟩ (.ptr n 1 0 0)=some (.fp x 0,⟨(n+1+1+1,o3)::(n+1+1,o2)::(n+1,o1)::l,nx⟩):=by
 have hr:Hp.row ⟨(n+1+1+1,o3)::(n+1+1,o2)::(n+1,o1)::(n,.arr es [.d x])::l,nx⟩ n 1=some (es,[.d x]):=by
  unfold Hp.row Hp.get;simp[Zv.look,Nat.add_assoc]
 simp only[Zv.frz,hr,Option.bind_some,List.getElem?_cons_zero,Option.map_some,toD]
 simp[Hp.kill,del,Nat.add_assoc]
theorem frz_3 (n es nx:Nat) (o1 o2:Ob) (x:D) (l:List (Nat × Ob)):Zv.frz ⟨(n+1+1,o2)::(n+1,o1)::(n,.arr es [.d x])::l,nx⟩ (.ptr n 1 0 0)=some (.fp x 0,⟨(n+1+1,o2)::(n+1,o1)::l,nx⟩):=by
 have hr:Hp.row ⟨(n+1+1,o2)::(n+1,o1)::(n,.arr es [.d x])::l,nx⟩ n 1=some (es,[.d x]):=by
  unfold Hp.row Hp.get;simp[Zv.look,Nat.add_assoc]
 simp only[Zv.frz,hr,Option.bind_some,List.getElem?_cons_zero,Option.map_some,toD]
 simp[Hp.kill,del,Nat.add_assoc]
theorem use_r0 (a b c x:D) (ha:a.cells.length=1) (hb:b.cells.length=1) (hx:x.cells.length=1) (h:Hp) :
  ex tab f60r0 (args 0 [.d a,.d b,.d c,.d x]) h=some (.norm,[(2,.d c),(4,.fp a 0),(5,.fp b 0),(7,.fp x 0),(8,.ptr (h.next+3) 1 0 0)],⟨(h.next+3,.arr 1 [.d (.bool false)])::h.objs,h.next+4⟩):=by
 apply wq_ex.1
 simp only[e60,ha,hb,hx,frz_4,frz_3,wz,opX,intBin,↓reduceIte,simprocAttr]
theorem iaI0' (t:Int) (ts:List Int):ia 1 (.d (.lst (eI t::ts.map eI))) (.d (.int .i64 0))=some (.fp (eI t) 0):=iaI0 t ts
theorem cons_sm {d:List Dt} (S:Sml d) (t:Int):(consOf d t).length≤8∧∀ z,z ∈ consOf d t→z.flds.length≤8:=by
 rcases tcase d t with h0 | h0 | ⟨n,y,rfl,hy⟩
 ·rw[consOf_lo h0];exact⟨by simp,fun z hz=>by cases hz⟩
 ·rw[consOf_hi h0];exact⟨by simp,fun z hz=>by cases hz⟩
 ·rw[consOf_at hy]
  have:=S.ds y (List.mem_of_getElem? hy)
  exact⟨this.2.1,fun z hz=>(this.2.2 z hz).2⟩
theorem fit_args {d:List Dt} (S:Sml d) {t:Int} {p:Pt} (h:fitsP d t p=true):(argsP p).length≤8:=by
 obtain ⟨k,c,m,qs⟩:=p
 rw[argsP_mk]
 rcases fits_cases h with ⟨_,_,_,rfl⟩ | ⟨_,_,_,rfl⟩ | ⟨_,_,_,i,z,_,hz,hl,_⟩
 ·simp
 ·simp
 ·have:=(cons_sm S t).2 z (List.mem_of_getElem? hz);omega
theorem fitR_args {d:List Dt} (S:Sml d):∀ {ts:List Int} {r:List Pt},fitR d ts r=true→∀ p,p ∈ r→(argsP p).length≤10000
 |_,[],_,p,hp=>by cases hp
 | [],_::_,h,_,_=>by cases h
 |t::ts,q::r,h,p,hp=>by
  simp only[fitR,Bool.and_eq_true] at h
  rcases List.mem_cons.1 hp with rfl | hp
  ·have:=fit_args S h.1;omega
  ·exact fitR_args S h.2 p hp
theorem fitM_rows {d:List Dt} (S:Sml d) {t:Int} {ts:List Int} {l:List (List Pt)} (hts:ts.length≤9000) (h:fitM d (t::ts) l):∀ r,r ∈ l→r≠[]∧r.length≤10000∧∀ p,p ∈ r→(argsP p).length≤10000:=by
 intro r hr
 have hf:=h r hr
 have hl:=fitR_len hf
 rw[List.length_cons] at hl
 exact⟨fun e=>(by subst e;simp at hl),by omega,fitR_args S hf⟩
theorem fldsOf_at {d:List Dt} {n i:Nat} {y:Dt} {z:Cn} (hy:d[n]? = some y) (hz:y.cons[i]? = some z):fldsOf d ((n:Int)+1) i=z.flds:=by
 unfold fldsOf;rw[consOf_at hy,hz]
theorem flds_isT {d:List Dt} (T:typedS d=true) {t:Int} {z:Cn} (hz:z ∈ consOf d t) {ts:List Int} (ht:∀ f,f ∈ ts→isT d f=true):∀ f,f ∈ z.flds++ts→isT d f=true:=by
 intro f hf
 rcases List.mem_append.1 hf with hf | hf
 ·exact fld_isT27 T hz hf
 ·exact ht f hf
theorem useful_ok {d:List Dt} (S:Sml d) (T:typedS d=true):∀ (k:Nat) (ts:List Int) (rows:List (List Pt)) (row:List Pt),9*(nwS rows+nwL row)+ts.length<k→9*(nwS rows+nwL row)+ts.length≤8000→rows.length≤1000 →
  (∀ t,t ∈ ts→isT d t=true)→fitM d ts rows→fitR d ts row=true→∀ h,callW tab 60 [.d (eDs d),.d (eIs ts),.d (eRs rows),.d (ePs row)] h=some (.d (.bool (usS d k ts rows row)),h)
 |0,_,_,_,h,_,_,_,_,_,_=>by omega
 |k+1,[],rows,row,_,_,hl,_,_,hR,h=>by
  refine call_wp (fn:=f60) rfl rfl ?_
  show wp tab (.seq f60r0 _) _ _ _
  rw[wq_seq,wq_of (use_r0 (eDs d) (eIs []) (eRs rows) (ePs row) rfl rfl rfl h)]
  have e0:((rows.length:Int) == 0)=decide (rows.length=0):=by simp[ibeq]
  simp only[usS]
  simp only[e60,ibeq,e0,wz,opX,intBin,↓reduceIte,simprocAttr]
 |k+1,t::ts,rows,[],_,_,_,_,_,hR,_=>by cases hR
 |k+1,t::ts,rows,.mk kd c m qs::r,hW,hB,hl,hT,hM,hR,h=>by
  simp only[fitR,Bool.and_eq_true] at hR
  obtain ⟨hp,hR⟩:=hR
  have hts:ts.length≤8000:=by rw[List.length_cons] at hB;omega
  have hrl:=fitR_len hR
  have hrows:=fitM_rows S (by omega) hM
  have hTt:∀ f,f ∈ ts→isT d f=true:=fun f hf=>hT f (List.mem_cons_of_mem _ hf)
  rw[nwL,nwP] at hW hB
  rw[List.length_cons] at hW hB
  refine call_wp (fn:=f60) rfl rfl ?_
  show wp tab (.seq f60r0 _) _ _ _
  rw[wq_seq,wq_of (use_r0 (eDs d) (eIs (t::ts)) (eRs rows) (ePs (.mk kd c m qs::r)) rfl rfl rfl h)]
  have hne:(((ts.length+1:Nat):Int) == 0)=false:=by rw[ibeq];exact decide_eq_false (by omega)
  rcases fits_cases hp with ⟨k0,_,_,_⟩ | ⟨k2,t0,_,_⟩ | ⟨k1,t0,_,i,z,rfl,hz,hzl,hzR⟩
  ·subst k0
   have hh:=fun h=>heads_ok rows hl (fun r hr=>(hrows r hr).1) h
   have hrest:=fun h=>rests_ok (.clo 109 []) wildP rfl rows hl (fun r hr=>(hrows r hr).1) (fun p _ _ h=>by rw[cW_clo];exact wild_ok p h) h
   have hnw:=restS_nw wildP rows
   have hlen:=fm_len (restF wildP) rows
   rw[if_pos rfl] at hW hB
   have hIH:=useful_ok S T k ts (restS wildP rows) r (by omega) (by omega) (Nat.le_trans hlen hl) hTt (restS_fit _ hM) hR
   by_cases ht:t=0
   ·have e:usS d (k+1) (t::ts) rows (.mk 0 c m qs::r)=usS d k ts (restS wildP rows) r:=by
     simp[usS,ht]
    rw[e]
    simp only[e60,hne,ht,iaI0,iaI0',iaP0,iaP0',pts,ePt_k,kdP_mk,slcT,slcT',slcP,slcP',hh,HV_of,HV_mk,HV_next,HV_len,HV_st,HV_row,HV_fin,hrest,hIH,wz,opX,intBin,↓reduceIte,simprocAttr]
   ·rcases tcase d t with h0 | h0 | ⟨n,y,rfl,hy⟩
    ·exfalso;have:=hT t List.mem_cons_self;simp only[isT,Bool.and_eq_true,decide_eq_true_eq] at this;omega
    ·exfalso;have:=hT t List.mem_cons_self;simp only[isT,Bool.and_eq_true,decide_eq_true_eq] at this;omega
    have hn:=(List.getElem?_eq_some_iff.1 hy).1
    have hsl:=S.len
    have hw:=wrap_sub1 (n:=n) (by omega)
    have hcs:=cons_sm S ((n:Int)+1)
    rw[consOf_at hy] at hcs
    by_cases hlt:(consS rows).length<y.cons.length
    ·have e:usS d (k+1) (((n:Int)+1)::ts) rows (.mk 0 c m qs::r)=usS d k ts (restS wildP rows) r:=by
      simp[usS,consOf_at hy,hlt]
     rw[e]
     simp only[e60,hne,ht,ibeq,hw,hlt,iaI0,iaI0',iaD hy,iaP0,iaP0',pts,ePt_k,kdP_mk,slcT,slcT',slcP,slcP',hh,HV_of,HV_mk,HV_next,HV_len,HV_st,HV_row,HV_fin,hrest,hIH,wz,opX,intBin,↓reduceIte,simprocAttr]
    ·have hdown:=fun i (hi:i<y.cons.length) (n':Nat)=>spS_down hM (by rw[consOf_at hy];omega) (i:=i) (by rw[consOf_at hy];exact hi) n'
     have hu:∀ (i:Nat) (z:Cn),y.cons[i]? = some z→∀ h,callW tab 60 [.d (eDs d),.d (eIs (z.flds++ts)),.d (eRs (spS (i:Int) z.flds.length rows)),.d (ePs (List.replicate z.flds.length wildT++r))] h=some (.d (.bool (usS d k (fldsOf d ((n:Int)+1) i++ts) (spS (i:Int) (fldsOf d ((n:Int)+1) i).length rows) (List.replicate (fldsOf d ((n:Int)+1) i).length wildT++r))),h):=by
      intro i z hz
      have hi:=(List.getElem?_eq_some_iff.1 hz).1
      have hfz:=fldsOf_at hy hz
      have hzm:=List.mem_of_getElem? hz
      have hz8:=hcs.2 z hzm
      have hd:=hdown i hi z.flds.length
      have hM':=spS_fit i hM
      rw[hfz] at hM' ⊢
      exact useful_ok S T k (z.flds++ts) (spS (i:Int) z.flds.length rows) (List.replicate z.flds.length wildT++r) (by rw[nwL_app,nwL_wild,List.length_append];omega) (by rw[nwL_app,nwL_wild,List.length_append];omega) (Nat.le_trans (fm_len _ _) hl)
       (flds_isT T (by rw[consOf_at hy];exact hzm) hTt) hM' (fitR_app (fitR_wild d _) hR)
     obtain ⟨q,hq⟩:=range_ok hy (by omega) hcs.1 hcs.2 (ts:=ts) (by omega) (p:=.mk 0 c m qs) (r:=r) (by omega) rows hl hrows hu h.objs h.next (consS rows) (numsS rows)
     have e:usS d (k+1) (((n:Int)+1)::ts) rows (.mk 0 c m qs::r)=(List.range y.cons.length).any fun i=>usS d k (fldsOf d ((n:Int)+1) i++ts) (spS (i:Int) (fldsOf d ((n:Int)+1) i).length rows) (List.replicate (fldsOf d ((n:Int)+1) i).length wildT++r):=by
      simp[usS,consOf_at hy,hlt,ht]
     rw[e]
     generalize ((List.range y.cons.length).any fun i=>usS d k (fldsOf d ((n:Int)+1) i++ts) (spS (i:Int) (fldsOf d ((n:Int)+1) i).length rows) (List.replicate (fldsOf d ((n:Int)+1) i).length wildT++r))=u at hq
     have hmat:∀ h,callW tab 111 [.d (eDs d),.d (.lst (eI ((n:Int)+1)::ts.map eI)),.d (eRs rows)] h=some (.clo 134 [.fp (eDs d) 0,.fp (eIs (((n:Int)+1)::ts)) 0,.fp (eRs rows) 0],⟨h.objs,h.next+3⟩):=fun h=>matrices_ok _ _ _ rfl rfl rfl h
     have hrng:ex tab (.rng (.t 92) 960) [(4,.fp (eDs d) 0),(5,.fp (eIs (((n:Int)+1)::ts)) 0),(7,.fp (ePs (.mk 0 c m qs::r)) 0),(8,.ptr (h.next+3) 1 0 0),(92,.clo 134 [.fp (eDs d) 0,.fp (eIs (((n:Int)+1)::ts)) 0,.fp (eRs rows) 0])] (HV h.objs h.next (consS rows) (numsS rows) false (h.next+10)) =
       some (if u=true then .ret else .norm,[(4,.fp (eDs d) 0),(5,.fp (eIs (((n:Int)+1)::ts)) 0),(7,.fp (ePs (.mk 0 c m qs::r)) 0),(8,.ptr (h.next+3) 1 0 0),(92,.clo 134 [.fp (eDs d) 0,.fp (eIs (((n:Int)+1)::ts)) 0,.fp (eRs rows) 0])],HV h.objs h.next (consS rows) (numsS rows) u q):=by
      refine ex_rng (f:=134) rfl hq ?_
      unfold rngEnd
      rw[HV_next]
      simp only[HU_get]
      cases u<;>simp[HU_kill]
     cases u<;>(simp only[if_true,if_false,Bool.false_eq_true] at hrng;simp only[e60,hne,ht,ibeq,hw,hlt,iaI0,iaI0',iaD hy,iaP0,iaP0',pts,ePt_k,kdP_mk,hh,HV_of,HV_mk,HV_next,HV_len,HV_st,HV_row,HV_fin,hmat,wq_of hrng,wz,opX,intBin,↓reduceIte,simprocAttr])
  ·subst k2
   have hrest:=fun h=>rests_ok (.clo 108 [.fp (ePt (.mk 2 c m qs)) 0]) (numP (.mk 2 c m qs)) rfl rows hl (fun r hr=>(hrows r hr).1) (fun p _ _ h=>by rw[cW_clo];exact num_ok _ p h) h
   have hnw:=restS_nw (numP (.mk 2 c m qs)) rows
   have hlen:=fm_len (restF (numP (.mk 2 c m qs))) rows
   have hIH:=useful_ok S T k ts (restS (numP (.mk 2 c m qs)) rows) r (by omega) (by omega) (Nat.le_trans hlen hl) hTt (restS_fit _ hM) hR
   have e:usS d (k+1) (t::ts) rows (.mk 2 c m qs::r)=usS d k ts (restS (numP (.mk 2 c m qs)) rows) r:=by
    simp only[usS];rfl
   rw[e]
   simp only[e60,hne,iaP0,iaP0',pts,ePt_k,kdP_mk,slcT,slcT',slcP,slcP',hrest,hIH,wz,opX,intBin,↓reduceIte,simprocAttr]
  ·subst k1
   rcases tcase d t with h0 | h0 | ⟨n,y,rfl,hy⟩
   ·rw[consOf_lo h0] at hz;cases hz
   ·rw[consOf_hi h0] at hz;cases hz
   have hz':=hz
   rw[consOf_at hy] at hz'
   have hn:=(List.getElem?_eq_some_iff.1 hy).1
   have hsl:=S.len
   have hzm:=List.mem_of_getElem? hz
   have hzf:=(cons_sm S _).2 z hzm
   have hun:∀ h,callW tab 104 [.d (eDs d),.d (.lst (eI ((n:Int)+1)::ts.map eI)),.d (eI (i:Int))] h=some (.d (eIs (z.flds++ts)),h):=fun h=>under_ok hy hz' (by omega) ts hzf (by omega) h
   have hsp:=fun h=>special_ok (i:Int) qs.length (by omega) rows hl hrows h
   have h1:=fun h=>cloneP_ok qs (by omega) h
   have h2:=fun (n:Nat) (o:List (Nat × Ob))=>clo_app (nl:=none) (es:=4) (b:=48) (n:=n) (o:=o) (l:=qs.map ePt) (r:=r.map ePt) ptcells ptcells (by simp only[List.length_map,roomB];omega)
   rw[←List.map_append] at h2
   have h3:=fun (n:Nat) (o:List (Nat × Ob))=>clo_frz (nl:=none) (es:=4) (n:=n) (o:=o) (l:=(qs++r).map ePt)
   have hnw:=spS_nw (i:Int) qs.length rows
   have hlen:=fm_len (spF (i:Int) qs.length) rows
   have hfz:=fldsOf_at hy hz'
   have hM':=spS_fit i hM
   rw[hfz,hzl] at hM'
   rw[if_neg (by decide)] at hW hB
   have hIH:=useful_ok S T k (z.flds++ts) (spS (i:Int) qs.length rows) (qs++r) (by rw[nwL_app,List.length_append];omega) (by rw[nwL_app,List.length_append];omega) (Nat.le_trans hlen hl) (flds_isT T hzm hTt) hM' (fitR_app hzR hR)
   have e:usS d (k+1) (((n:Int)+1)::ts) rows (.mk 1 (i:Int) m qs::r)=usS d k (z.flds++ts) (spS (i:Int) qs.length rows) (qs++r):=by
    simp only[usS,if_true,Int.toNat_natCast,hfz]
   rw[e]
   simp only[e60,hne,iaP0,iaP0',pts,ePt_k,ePt_1,ePt_3,kdP_mk,cnP_mk,argsP_mk,slcT,slcT',slcP,slcP',hun,hsp,h1,h2,h3,hIH,wz,opX,intBin,↓reduceIte,simprocAttr]
end Zc28
end
section
set_option maxHeartbeats 4000000
namespace Zc28
open Go Zv Zs
end Zc28
end
section
set_option maxHeartbeats 4000000
namespace Zc28
open Go Zv Zs
structure Gd (d:List Dt) (ts:List Int) (l:List (List Pt)):Prop where
 sml:Sml d
 typ:typedS d=true
 tys:∀ t,t ∈ ts→isT d t=true
 fit:fitM d ts l
 w:9*nwS l+ts.length≤8000
 len:l.length≤1000
theorem nwS_take:∀ {l:List (List Pt)} {n:Nat} {x:List Pt},l[n]? = some x→nwS (l.take n)+nwL x≤nwS l
 | [],n,x,h=>by simp at h
 |r::l,0,x,h=>by
  simp at h;subst h
  simp only[List.take_zero,nwS];omega
 |r::l,n+1,x,h=>by
  rw[List.getElem?_cons_succ] at h
  have:=nwS_take h
  rw[List.take_succ_cons,nwS,nwS];omega
section
variable {d:List Dt} {ts:List Int} {l:List (List Pt)} (G:Gd d ts l)
include G
end
mutual
theorem nw_cntP:∀ p:Pt,nwP p≤cntP p
 | .mk k c m qs=>by
  rw[nwP,cntP]
  have:=nw_cntL qs
  split<;>omega
theorem nw_cntL:∀ l:List Pt,nwL l≤cntL l
 | []=>Nat.le_refl _
 |p::r=>by
  rw[nwL,cntL]
  have:=nw_cntP p
  have:=nw_cntL r
  omega
end
end Zc28
end
section
set_option maxHeartbeats 4000000
namespace Zc28
open Go Zv Zs
end Zc28
end
section
set_option maxHeartbeats 4000000
namespace Zc28
open Go Zv Zs
def missG (s:List Int):Nat→Nat→Nat
 |0,n=>n
 |f+1,n=>if (n:Int) ∈ s then missG s f (n+1) else n
def missN (s:List Int):Nat:=missG s (s.length+1) 0
theorem all_le {s:List Int} {n:Nat} (h:∀ i:Nat,i<n→(i:Int) ∈ s):n≤s.length:=by
 have:=sub_len ((List.range n).map fun j:Nat=>(j:Int)) s (by
  exact List.Pairwise.map _ (fun a b e=>by intro q;exact e (Int.ofNat.inj q)) List.nodup_range) (fun x hx=>by
  obtain ⟨j,hj,rfl⟩:=List.mem_map.1 hx
  exact h j (List.mem_range.1 hj))
 simpa using this
theorem missG_spec (s:List Int):∀ f n:Nat,(∀ i:Nat,i<n→(i:Int) ∈ s)→s.length<n+f→((missG s f n:Nat):Int) ∉ s∧(∀ i:Nat,i<missG s f n→(i:Int) ∈ s)∧missG s f n≤s.length
 |0,n,h,hl=>by have:=all_le h;omega
 |f+1,n,h,hl=>by
  simp only[missG]
  by_cases hn:(n:Int) ∈ s
  ·rw[if_pos hn]
   refine missG_spec s f (n+1) (fun i hi=>?_) (by omega)
   by_cases e:i=n
   ·subst e;exact hn
   ·exact h i (by omega)
  ·rw[if_neg hn]
   exact⟨hn,h,all_le h⟩
theorem missN_spec (s:List Int):((missN s:Nat):Int) ∉ s∧(∀ i:Nat,i<missN s→(i:Int) ∈ s)∧missN s≤s.length:=missG_spec s _ 0 (fun i hi=>by omega) (by omega)
def missS (d:List Dt) (t:Int) (rows:List (List Pt)):Pt:=
 if 0<(consS rows).length then .mk 1 (missN (consS rows):Nat) 0 (List.replicate (fldsOf d t (missN (consS rows))).length wildT)
 else if 0<(numsS rows).length then .mk 2 0 (missN (numsS rows):Nat) []
 else wildT
def wfS (i n:Nat) (w:List Pt):List Pt:=.mk 1 (i:Int) 0 (w.take n)::w.drop n
def wiS (d:List Dt):Nat→List Int→List (List Pt)→Option (List Pt)
 |0,_,_=>none
 |_+1,[],rows=>if rows.length=0 then some [] else none
 |k+1,t::ts,rows=>
  if t=0∨(consS rows).length<(consOf d t).length then (wiS d k ts (restS wildP rows)).map (missS d t rows :: ·)
  else (List.range (consOf d t).length).findSome? fun i=>(wiS d k (fldsOf d t i++ts) (spS (i:Int) (fldsOf d t i).length rows)).map (wfS i (fldsOf d t i).length)
theorem wiS_len (d:List Dt):∀ (k:Nat) (ts:List Int) (rows:List (List Pt)) (w:List Pt),wiS d k ts rows=some w→w.length=ts.length
 |0,_,_,_,h=>by cases h
 |k+1,[],rows,w,h=>by
  simp only[wiS] at h
  split at h
  ·cases h;rfl
  ·cases h
 |k+1,t::ts,rows,w,h=>by
  simp only[wiS] at h
  split at h
  ·simp only[Option.map_eq_some_iff] at h
   obtain ⟨v,hv,rfl⟩:=h
   rw[List.length_cons,List.length_cons,wiS_len d k _ _ _ hv]
  ·obtain ⟨i,_,hi⟩:=List.exists_of_findSome?_eq_some h
   simp only[Option.map_eq_some_iff] at hi
   obtain ⟨v,hv,rfl⟩:=hi
   have:=wiS_len d k _ _ _ hv
   rw[List.length_append] at this
   simp only[wfS,List.length_cons,List.length_drop]
   omega
theorem fs_from {β:Type} (g:Nat→Option β) (n:Nat) (b:β):∀ (K s:Nat),s≤n→n<s+K→(∀ i,s≤i→i<n→g i=none)→g n=some b→(List.range' s K).findSome? g=some b
 |0,s,h1,h2,_,_=>by omega
 |K+1,s,h1,h2,h3,h4=>by
  rw[List.range'_succ,List.findSome?_cons]
  by_cases e:s=n
  ·subst e;rw[h4]
  ·rw[h3 s (Nat.le_refl s) (by omega)]
   exact fs_from g n b K (s+1) (by omega) (by omega) (fun i hi hn=>h3 i (by omega) hn) h4
theorem fs_at {β:Type} {g:Nat→Option β} {n K:Nat} {b:β} (hn:n<K) (h:∀ i,i<n→g i=none) (hg:g n=some b):(List.range K).findSome? g=some b:=by
 rw[List.range_eq_range']
 exact fs_from g n b K 0 (Nat.zero_le _) (by omega) (fun i _ hi=>h i hi) hg
theorem fs_none {β:Type} {g:Nat→Option β} {K:Nat} (h:∀ i,i<K→g i=none):(List.range K).findSome? g=none:=by
 rw[List.findSome?_eq_none_iff]
 exact fun x hx=>h x (List.mem_range.1 hx)
theorem loop_fs {β:Type} {a:AC} {K:Nat} {p:Nat→Option β} {f:Nat→Env} {O:List (Nat × Ob)} {O2:β→List (Nat × Ob)} {x1 x2:Ex} {e2:Env} {q0:Nat}
  (hs:∀ q n,n<K→p n=none→wp tab a (f n) ⟨O,q⟩ (fun o=>∃ q',o=(.norm,f (n+1),⟨O,q'⟩)∧q≤q'))
  (hx:∀ q n b,n<K→p n=some b→wp tab a (f n) ⟨O,q⟩ (fun o=>∃ e q',o=(x1,e,⟨O2 b,q'⟩)∧q≤q'))
  (hN:∀ q,wp tab a (f K) ⟨O,q⟩ (fun o=>∃ q',o=(x2,e2,⟨O,q'⟩)∧q≤q')) (ho:x1≠.norm) (hoN:x2≠.norm) :
  ∃ e q',q0≤q'∧ex tab (.loop a) (f 0) ⟨O,q0⟩=some (match (List.range K).findSome? p with
   |some b=>(x1,e,⟨O2 b,q'⟩)
   |none=>(x2,e2,⟨O,q'⟩)):=by
 obtain ⟨o,h1,e,q,hqq,h2⟩:wp tab (.loop a) (f 0) ⟨O,q0⟩ (fun o=>∃ e q',q0≤q'∧o=match (List.range K).findSome? p with
   |some b=>(x1,e,⟨O2 b,q'⟩)
   |none=>(x2,e2,⟨O,q'⟩)):=by
  refine loop_wp K (fun n e h'=>(∃ q,q0≤q∧h'=⟨O,q⟩)∧e=f n∧∀ i,i<n→p i=none) _ ?_ ?_ K 0 _ _ (by omega) ⟨⟨q0,Nat.le_refl _,rfl⟩,rfl,fun i hi=>by omega⟩
  ·rintro n e h' hn ⟨⟨q,hqn,rfl⟩,rfl,hk⟩
   cases hp:p n with
   |some b=>
    obtain ⟨o,hq,e,q',rfl,hle⟩:=hx q n b hn hp
    rw[fs_at hn hk hp]
    exact⟨_,hq,.inr ⟨ho,e,q',Nat.le_trans hqn hle,rfl⟩⟩
   |none=>
    obtain ⟨o,hq,q',rfl,hle⟩:=hs q n hn hp
    refine ⟨_,hq,.inl ⟨rfl,⟨q',Nat.le_trans hqn hle,rfl⟩,rfl,fun i hi=>?_⟩⟩
    by_cases hij:i=n
    ·subst hij;exact hp
    ·exact hk i (by omega)
  ·rintro e h' ⟨⟨q,hqn,rfl⟩,rfl,hk⟩
   rw[fs_none hk]
   obtain ⟨o,hq,q',rfl,hle⟩:=hN q
   exact⟨_,hq,hoN,f 0,q',Nat.le_trans hqn hle,rfl⟩
 exact⟨e,q,hqq,by rw[h1,h2]⟩
section
variable (o:List (Nat × Ob)) (H:Nat) (A B:List Int) (e0:List (Nat × V))
def W0 (v:V) (b:Bool) (q:Nat):Hp:=⟨(H+3,.arr 1 [.d (.bool b)])::(H+2,.arr 1 [v])::o,q⟩
def WV (v:V) (b:Bool) (q:Nat):Hp:=⟨(H+5,.mp (kvB B))::(H+4,.mp (kvB A))::(H+3,.arr 1 [.d (.bool b)])::(H+2,.arr 1 [v])::o,q⟩
def WU (v:V) (b:Bool) (s:Option Ex) (q:Nat):Hp:=⟨(H+9,.lp 1312 e0 s)::(H+5,.mp (kvB B))::(H+4,.mp (kvB A))::(H+3,.arr 1 [.d (.bool b)])::(H+2,.arr 1 [v])::o,q⟩
theorem W0_r2 (v b q):(W0 o H v b q).row (H+2) 1=some (1,[v]):=by unfold W0 Hp.row Hp.get;simp[Zv.look]
theorem W0_r3 (v b q):(W0 o H v b q).row (H+3) 1=some (1,[.d (.bool b)]):=by unfold W0 Hp.row Hp.get;simp[Zv.look]
theorem WV_r2 (v b q):(WV o H A B v b q).row (H+2) 1=some (1,[v]):=by unfold WV Hp.row Hp.get;simp[Zv.look]
theorem WV_r3 (v b q):(WV o H A B v b q).row (H+3) 1=some (1,[.d (.bool b)]):=by unfold WV Hp.row Hp.get;simp[Zv.look]
theorem WU_r2 (v b s q):(WU o H A B e0 v b s q).row (H+2) 1=some (1,[v]):=by unfold WU Hp.row Hp.get;simp[Zv.look]
theorem WU_r3 (v b s q):(WU o H A B e0 v b s q).row (H+3) 1=some (1,[.d (.bool b)]):=by unfold WU Hp.row Hp.get;simp[Zv.look]
theorem W0_s2 (v b q) (x:V) (hs:stor x=true) (hc:x.cells.length=1):st 1 (W0 o H v b q) (.ptr (H+2) 1 0 0) x=some (W0 o H x b q):=by
 unfold st;simp only[W0_r2,Option.bind_some,hs,hc];simp[W0,Hp.set,upd]
theorem W0_s3 (v b q) (c:Bool):st 1 (W0 o H v b q) (.ptr (H+3) 1 0 0) (.d (.bool c))=some (W0 o H v c q):=by
 unfold st;simp only[W0_r3,Option.bind_some];simp[W0,Hp.set,upd,V.cells,stor,D.cells]
theorem WV_s2 (v b q) (x:V) (hs:stor x=true) (hc:x.cells.length=1):st 1 (WV o H A B v b q) (.ptr (H+2) 1 0 0) x=some (WV o H A B x b q):=by
 unfold st;simp only[WV_r2,Option.bind_some,hs,hc];simp[WV,Hp.set,upd]
theorem WV_s3 (v b q) (c:Bool):st 1 (WV o H A B v b q) (.ptr (H+3) 1 0 0) (.d (.bool c))=some (WV o H A B v c q):=by
 unfold st;simp only[WV_r3,Option.bind_some];simp[WV,Hp.set,upd,V.cells,stor,D.cells]
theorem WU_s2 (v b s q) (x:V) (hs:stor x=true) (hc:x.cells.length=1):st 1 (WU o H A B e0 v b s q) (.ptr (H+2) 1 0 0) x=some (WU o H A B e0 x b s q):=by
 unfold st;simp only[WU_r2,Option.bind_some,hs,hc];simp[WU,Hp.set,upd]
theorem WU_s3 (v b s q) (c:Bool):st 1 (WU o H A B e0 v b s q) (.ptr (H+3) 1 0 0) (.d (.bool c))=some (WU o H A B e0 v c s q):=by
 unfold st;simp only[WU_r3,Option.bind_some];simp[WU,Hp.set,upd,V.cells,stor,D.cells]
theorem WU_get (v b s q):(WU o H A B e0 v b s q).get (H+9)=some (.lp 1312 e0 s):=by unfold WU Hp.get;simp[Zv.look]
theorem WU_set (v b s s' q):(WU o H A B e0 v b s q).set (H+9) (.lp 1312 e0 s')=WU o H A B e0 v b s' q:=by unfold WU Hp.set;simp[upd]
theorem WU_kill (v b s q):(WU o H A B e0 v b s q).kill (H+9)=WV o H A B v b q:=by unfold WU WV Hp.kill;simp[del]
theorem WU_mk (v b s q q'):(⟨(WU o H A B e0 v b s q).objs,q'⟩:Hp)=WU o H A B e0 v b s q':=rfl
theorem WU_next (v b s q):(WU o H A B e0 v b s q).next=q:=rfl
theorem WV_mk (v b q q'):(⟨(WV o H A B v b q).objs,q'⟩:Hp)=WV o H A B v b q':=rfl
theorem WV_next (v b q):(WV o H A B v b q).next=q:=rfl
theorem WV_of (v b):HM2 ((H+3,.arr 1 [.d (.bool b)])::(H+2,.arr 1 [v])::o) (H+4) A B=WV o H A B v b (H+6):=rfl
theorem WV_lenA (v b q):lenM (WV o H A B v b q) (.map (H+4))=some (.d (.int .i64 (A.length:Int))):=by
 unfold lenM entries WV Hp.get;simp[Zv.look,kvB,int]
end
theorem W0_fin (h:Hp) (b q):finS h (W0 h.objs h.next (.tl [] (some true)) b q) [.tl [] (some true),.d (.bool b)]=some (.tup [.d (.lst []),.d (.bool b)],h):=by
 have hs:sufOk h.objs (W0 h.objs h.next (.tl [] (some true)) b q).objs=true:=suf_app [_,_] h.objs
 unfold finS
 rw[if_pos hs]
 rfl
theorem WV_fin0 (h:Hp) (A B:List Int) (b q):finS h (WV h.objs h.next A B (.tl [] (some true)) b q) [.tl [] (some true),.d (.bool b)]=some (.tup [.d (.lst []),.d (.bool b)],h):=by
 have hs:sufOk h.objs (WV h.objs h.next A B (.tl [] (some true)) b q).objs=true:=suf_app [_,_,_,_] h.objs
 unfold finS
 rw[if_pos hs]
 rfl
theorem WV_fin (h:Hp) (A B:List Int) (v:V) (b q) (x:D):finS h (WV h.objs h.next A B v b q) [.d x,.d (.bool b)]=some (.tup [.d x,.d (.bool b)],h):=by
 refine finS_suf (vs:=[x,.bool b]) ?_
 exact suf_app [_,_,_,_] h.objs
def wiV:Option (List Pt)→V
 |none=>.tup [.d (.lst []),.d (.bool false)]
 |some w=>.tup [.d (ePs w),.d (.bool true)]
end Zc28
end
section
set_option maxHeartbeats 4000000
namespace Zc28
open Go Zv Zs
theorem wit_r0 (a b c:D) (ha:a.cells.length=1) (hb:b.cells.length=1) (h:Hp) :
  ex tab f82r0 (args 0 [.d a,.d b,.d c]) h=some (.norm,[(2,.d c),(3,.fp a 0),(4,.fp b 0),(6,.ptr (h.next+2) 1 0 0),(7,.ptr (h.next+3) 1 0 0)],W0 h.objs h.next (.tl [] (some true)) false (h.next+4)):=by
 apply wq_ex.1
 simp only[e82,ha,hb,frz_4,frz_3,wz,opX,intBin,↓reduceIte,simprocAttr]
 rfl
theorem slcPt {w:List Pt} {n:Nat} (hn:n≤w.length):slc 4 (.d (.lst (w.map ePt))) none (some (.d (.int .i64 (n:Int))))=some (.d (.lst ((w.take n).map ePt))):=by
 rw[slc_all ptcells (by rw[List.length_map];exact hn),List.map_take]
theorem slcPd {w:List Pt} {n:Nat} (hn:n≤w.length):slc 4 (.d (.lst (w.map ePt))) (some (.d (.int .i64 (n:Int)))) none=some (.d (.lst ((w.drop n).map ePt))):=by
 rw[slc_from ptcells (by rw[List.length_map];exact hn),List.map_drop]
theorem app_one (p:Pt) (l:List Pt) (nl:Option Bool) (h:Hp) (hl:l.length≤100000):((app 4 48 h (.tl [.d (ePt p)] nl) (.d (.lst (l.map ePt)))).bind fun r=>Zv.frz r.2 r.1)=some (.d (.lst (ePt p::l.map ePt)),⟨h.objs,if l=[] then h.next else h.next+1⟩):=by
 by_cases h0:l=[]
 ·subst h0;rfl
 ·have he:(l.map ePt).map V.d≠[]:=by simpa using h0
  have h1:((l.map ePt).map V.d).isEmpty=false:=by cases l with | nil=>exact absurd rfl h0 | cons=>rfl
  unfold app
  simp only[elems,Option.bind_some,norm_map_d,allV_d ptcells,if_true,h1,Bool.false_eq_true,if_false,List.length_cons,List.length_nil,List.length_map]
  rw[if_pos ⟨by simp only[roomB];omega,by simp[Zv.allV,V.cells,ePt_cells]⟩]
  simp only[Option.bind_some,if_neg h0]
  have hrow:(h.alloc (.arr 4 ([V.d (ePt p)]++(l.map ePt).map V.d))).row h.next (0+1+l.length)=some (4,((p::l).map ePt).map V.d):=by
   rw[alloc_eq,row_cons];simp;omega
  simp only[Zv.frz,hrow,Option.bind_some]
  rw[if_pos (by simp;omega),List.drop_zero,List.take_of_length_le (by simp;omega),toDs_map]
  simp[Hp.kill,Hp.alloc,del]
def wuX:Option (List Pt)→Ex
 |none=>.norm
 |some _=>.ret
def wuS:Option (List Pt)→Option Ex
 |none=>none
 |some _=>some .ret
def wuN (o:List (Nat × Ob)) (H:Nat) (A B:List Int) (e0:List (Nat × V)) (i n:Nat) (s:Option Ex):Option (List Pt)→Nat→Hp
 |none,q=>WU o H A B e0 (.tl [] (some true)) false s q
 |some w,q=>WU o H A B e0 (.d (ePs (wfS i n w))) true s q
theorem wuN_get (o:List (Nat × Ob)) (H:Nat) (A B:List Int) (e0:List (Nat × V)) (i n:Nat) (s u q):(wuN o H A B e0 i n s u q).get (H+9)=some (.lp 1312 e0 s):=by cases u<;>exact WU_get ..
theorem wuN_set (o:List (Nat × Ob)) (H:Nat) (A B:List Int) (e0:List (Nat × V)) (i n:Nat) (s s' u q):(wuN o H A B e0 i n s u q).set (H+9) (.lp 1312 e0 s')=wuN o H A B e0 i n s' u q:=by cases u<;>exact WU_set ..
theorem wround_ok {d:List Dt} {n i:Nat} {y:Dt} {z:Cn} (hy:d[n]? = some y) (hz:y.cons[i]? = some z) (hd:d.length<2 ^ 60) (hf:z.flds.length≤8) {ts:List Int} (hl:ts.length≤10000) {m:List (List Pt)} {u:Option (List Pt)}
  (hu:∀ h,callW tab 82 [.d (eDs d),.d (eIs (z.flds++ts)),.d (eRs m)] h=some (wiV u,h)) (hul:∀ w,u=some w→w.length=z.flds.length+ts.length) (o:List (Nat × Ob)) (H:Nat) (A B:List Int) (cl:V) (q:Nat) :
  let e0:List (Nat × V):=[(3,.fp (eDs d) 0),(4,.fp (eIs (((n:Int)+1)::ts)) 0),(6,.ptr (H+2) 1 0 0),(7,.ptr (H+3) 1 0 0),(52,cl)]
  ∃ q',q≤q'∧cW tab (.yld (H+9)) [.d (eI (i:Int)),.d (eRs m)] (WU o H A B e0 (.tl [] (some true)) false none q)=some (.d (.bool u.isNone),wuN o H A B e0 i z.flds.length (wuS u) u q'):=by
 intro e0
 have hn:=(List.getElem?_eq_some_iff.1 hy).1
 have hw:=wrap_sub1 (n:=n) (by omega)
 have hun:∀ h,callW tab 104 [.d (eDs d),.d (.lst (eI ((n:Int)+1)::ts.map eI)),.d (eI (i:Int))] h=some (.d (eIs (z.flds++ts)),h):=fun h=>under_ok hy hz hd ts hf hl h
 have hia:ia 1 (.d (.lst (eI ((n:Int)+1)::ts.map eI))) (.d (.int .i64 0))=some (.fp (eI ((n:Int)+1)) 0):=iaI0 _ _
 have hbody:wp tab d82q0 [(3,.fp (eDs d) 0),(4,.fp (eIs (((n:Int)+1)::ts)) 0),(6,.ptr (H+2) 1 0 0),(7,.ptr (H+3) 1 0 0),(10,.d (eI (i:Int))),(11,.d (eRs m))] (WU o H A B e0 (.tl [] (some true)) false (some .norm) q)
   (fun r=>∃ e' q',q≤q'∧r=(wuX u,e',wuN o H A B e0 i z.flds.length (some .norm) u q')):=by
  unfold d82q0
  cases u with
  |none=>
   simp only[e82,hun,hu,wiV,wz,opX,intBin,↓reduceIte,simprocAttr]
   exact⟨_,q,Nat.le_refl _,rfl,rfl,rfl⟩
  |some w=>
   have hwl:=hul w rfl
   have hE:D.agg [.int .i64 1,.int .i64 (i:Int),.int .i64 0,.lst ((w.take z.flds.length).map ePt)]=ePt (.mk 1 (i:Int) 0 (w.take z.flds.length)):=(ePt_mk ..).symm
   have hsl:=slcPt (w:=w) (n:=z.flds.length) (by omega)
   have hsd:=slcPd (w:=w) (n:=z.flds.length) (by omega)
   have hcl:∀ h,callW tab 106 [.d (.lst ((w.take z.flds.length).map ePt))] h=_:=fun h=>cloneP_ok (w.take z.flds.length) (by rw[List.length_take];omega) h
   have happ:=fun h=>app_one (.mk 1 (i:Int) 0 (w.take z.flds.length)) (w.drop z.flds.length) (some false) h (by rw[List.length_drop];omega)
   have hst2:=fun q=>WU_s2 o H A B e0 (.tl [] (some true)) false (some .norm) q (.d (ePs (wfS i z.flds.length w))) rfl rfl
   have hst3:=fun q=>WU_s3 o H A B e0 (.d (ePs (wfS i z.flds.length w))) false (some .norm) q true
   have hP:ePs (wfS i z.flds.length w)=.lst (ePt (.mk 1 (i:Int) 0 (w.take z.flds.length))::(w.drop z.flds.length).map ePt):=rfl
   rw[hP] at hst2 hst3
   simp only[e82,hw,iaI0,hia,hun,hu,wiV,iaD hy,iaC hz,hsl,hsd,hcl,clo_frz,hE,ePt_cells,happ,WU_mk,WU_next,hst2,hst3,wz,opX,intBin,↓reduceIte,simprocAttr]
   refine ⟨_,_,?_,rfl,rfl,rfl⟩
   split<;>split<;>omega
 obtain ⟨r,hr,e',q',hq,rfl⟩:=hbody
 have:=cW_yld (T:=tab) (n:=H+9) (b:=1312) (e:=e0) (vs:=[.d (eI (i:Int)),.d (eRs m)]) (h:=WU o H A B e0 (.tl [] (some true)) false none q) (fn:=f1001312) (asg:=a82q0) (bdy:=d82q0) (e1:=[(3,.fp (eDs d) 0),(4,.fp (eIs (((n:Int)+1)::ts)) 0),(6,.ptr (H+2) 1 0 0),(7,.ptr (H+3) 1 0 0),(10,.d (eI (i:Int))),(11,.d (eRs m))]) (h1:=WU o H A B e0 (.tl [] (some true)) false none q) (b':=1312) (e':=e0)
  (WU_get ..) rfl rfl rfl (by unfold a82q0;apply wq_ex.1;simp only[e82,binds,f1001312,wz,opX,intBin,↓reduceIte,simprocAttr];rfl) (WU_get ..) (by rw[WU_set];exact hr)
 refine ⟨q',hq,?_⟩
 rw[this]
 unfold rndEnd
 simp only[wuN_get]
 cases u<;>simp[wuN_set,wuX,wuS]<;>rfl
theorem wrange_ok {d:List Dt} {n:Nat} {y:Dt} (hy:d[n]? = some y) (hd:d.length<2 ^ 60) (hK:y.cons.length≤8) (hf:∀ z,z ∈ y.cons→z.flds.length≤8) {ts:List Int} (hts:ts.length≤10000)
  (l:List (List Pt)) (hl:l.length≤1000) (hlr:∀ r,r ∈ l→r≠[]∧r.length≤10000∧∀ p,p ∈ r→(argsP p).length≤10000) {u:Nat→Option (List Pt)}
  (hu:∀ (i:Nat) (z:Cn),y.cons[i]? = some z→(∀ h,callW tab 82 [.d (eDs d),.d (eIs (z.flds++ts)),.d (eRs (spS (i:Int) z.flds.length l))] h=some (wiV (u i),h))∧∀ w,u i=some w→w.length=z.flds.length+ts.length) (o:List (Nat × Ob)) (H:Nat) (A B:List Int) :
  let cl:V:=.clo 134 [.fp (eDs d) 0,.fp (eIs (((n:Int)+1)::ts)) 0,.fp (eRs l) 0]
  let e0:List (Nat × V):=[(3,.fp (eDs d) 0),(4,.fp (eIs (((n:Int)+1)::ts)) 0),(6,.ptr (H+2) 1 0 0),(7,.ptr (H+3) 1 0 0),(52,cl)]
  ∃ q,callW tab 134 [.yld (H+9),.fp (eDs d) 0,.fp (eIs (((n:Int)+1)::ts)) 0,.fp (eRs l) 0] (WU o H A B e0 (.tl [] (some true)) false none (H+10))=some (.tup [],match (List.range y.cons.length).findSome? (fun i=>(u i).map (wfS i (match y.cons[i]? with | some z=>z.flds.length | none=>0))) with
   |none=>WU o H A B e0 (.tl [] (some true)) false none q
   |some w=>WU o H A B e0 (.d (ePs w)) true (some .ret) q):=by
 intro cl e0
 have hn:=(List.getElem?_eq_some_iff.1 hy).1
 have hw:=wrap_sub1 (n:=n) (by omega)
 have hia:ia 1 (.d (.lst (eI ((n:Int)+1)::ts.map eI))) (.d (.int .i64 0))=some (.fp (eI ((n:Int)+1)) 0):=iaI0 _ _
 obtain ⟨e,q',hq,hloop⟩:=loop_fs (a:=f134l0) (K:=y.cons.length) (p:=fun i=>(u i).map (wfS i (match y.cons[i]? with | some z=>z.flds.length | none=>0))) (f:=fun i=>[(0,.yld (H+9)),(3,.fp (eRs l) 0),(14,.d (.lst (y.cons.map eC))),(15,.d (.int .i64 (y.cons.length:Int))),(16,.d (.int .i64 (i:Int)))]) (O:=(WU o H A B e0 (.tl [] (some true)) false none 0).objs) (O2:=fun w=>(WU o H A B e0 (.d (ePs w)) true (some .ret) 0).objs) (x1:=.ret) (x2:=.exit 0) (e2:=[(0,.yld (H+9)),(3,.fp (eRs l) 0),(14,.d (.lst (y.cons.map eC))),(15,.d (.int .i64 (y.cons.length:Int))),(16,.d (.int .i64 (y.cons.length:Int))),(17,.d (.bool false))]) (q0:=H+10)
  (by
   intro q i hi hp
   obtain ⟨z,hz⟩:=get_of_lt (l:=y.cons) (n:=i) hi
   have hzf:=hf z (List.mem_of_getElem? hz)
   have hu0:u i=none:=by simpa using hp
   obtain ⟨q',hqq,hround⟩:∃ q',q+1≤q'∧cW tab (.yld (H+9)) [.d (eI (i:Int)),.d (eRs (spS (i:Int) z.flds.length l))] (WU o H A B e0 (.tl [] (some true)) false none (q+1))=some (.d (.bool (u i).isNone),wuN o H A B e0 i z.flds.length (wuS (u i)) (u i) q'):=wround_ok hy hz hd hzf hts (hu i z hz).1 (hu i z hz).2 o H A B cl (q+1)
   have hsp:=fun h=>special_ok (i:Int) z.flds.length (by omega) l hl hlr h
   rw[hu0] at hround
   simp only[Option.isNone_none,wuS,wuN] at hround
   simp only[hi,e134,iaC hz,hsp,hround,WU_mk,WU_next,wrap_succ (show i<2 ^ 62 by omega),wz,opX,intBin,↓reduceIte,simprocAttr]
   exact⟨_,rfl,by omega⟩)
  (by
   intro q i w hi hp
   obtain ⟨z,hz⟩:=get_of_lt (l:=y.cons) (n:=i) hi
   have hzf:=hf z (List.mem_of_getElem? hz)
   simp only[Option.map_eq_some_iff,hz] at hp
   obtain ⟨w',hu0,rfl⟩:=hp
   obtain ⟨q',hqq,hround⟩:∃ q',q+1≤q'∧cW tab (.yld (H+9)) [.d (eI (i:Int)),.d (eRs (spS (i:Int) z.flds.length l))] (WU o H A B e0 (.tl [] (some true)) false none (q+1))=some (.d (.bool (u i).isNone),wuN o H A B e0 i z.flds.length (wuS (u i)) (u i) q'):=wround_ok hy hz hd hzf hts (hu i z hz).1 (hu i z hz).2 o H A B cl (q+1)
   have hsp:=fun h=>special_ok (i:Int) z.flds.length (by omega) l hl hlr h
   rw[hu0] at hround
   simp only[Option.isNone_some,wuS,wuN] at hround
   simp only[hi,e134,iaC hz,hsp,hround,WU_mk,WU_next,wrap_succ (show i<2 ^ 62 by omega),wz,opX,intBin,↓reduceIte,simprocAttr]
   exact⟨_,_,⟨rfl,rfl⟩,by omega⟩)
  (by
   intro q
   simp only[e134,WU_mk,wz,opX,intBin,↓reduceIte,simprocAttr]
   exact⟨_,rfl,by omega⟩)
  (by simp) (by simp)
 refine ⟨q',call_wp (fn:=f134) rfl rfl ?_⟩
 simp only[WU_mk,Int.cast_ofNat_Int] at hloop
 cases hany:(List.range y.cons.length).findSome? (fun i=>(u i).map (wfS i (match y.cons[i]? with | some z=>z.flds.length | none=>0))) with
 |none=>
  rw[hany] at hloop
  simp only[e134,hw,iaI0,hia,iaD hy,WU_mk,wq_of hloop,wz,opX,intBin,↓reduceIte,simprocAttr]
 |some w=>
  rw[hany] at hloop
  simp only[e134,hw,iaI0,hia,iaD hy,WU_mk,wq_of hloop,wz,opX,intBin,↓reduceIte,simprocAttr]
end Zc28
end
section
set_option maxHeartbeats 4000000
namespace Zc28
open Go Zv Zs
section
variable (o:List (Nat × Ob)) (H:Nat) (A B:List Int)
def WH (p v:V) (b:Bool) (q:Nat):Hp:=⟨(H+6,.arr 4 [p])::(H+5,.mp (kvB B))::(H+4,.mp (kvB A))::(H+3,.arr 1 [.d (.bool b)])::(H+2,.arr 1 [v])::o,q⟩
theorem WH_of (p v b q q'):(⟨(H+6,.arr 4 [p])::(WV o H A B v b q).objs,q'⟩:Hp)=WH o H A B p v b q':=rfl
theorem WH_mk (p v b q q'):(⟨(WH o H A B p v b q).objs,q'⟩:Hp)=WH o H A B p v b q':=rfl
theorem WH_next (p v b q):(WH o H A B p v b q).next=q:=rfl
theorem WH_r2 (p v b q):(WH o H A B p v b q).row (H+2) 1=some (1,[v]):=by unfold WH Hp.row Hp.get;simp[Zv.look]
theorem WH_r3 (p v b q):(WH o H A B p v b q).row (H+3) 1=some (1,[.d (.bool b)]):=by unfold WH Hp.row Hp.get;simp[Zv.look]
theorem WH_r6 (p v b q):(WH o H A B p v b q).row (H+6) 1=some (4,[p]):=by unfold WH Hp.row Hp.get;simp[Zv.look]
theorem WH_s2 (p v b q) (x:V) (hs:stor x=true) (hc:x.cells.length=1):st 1 (WH o H A B p v b q) (.ptr (H+2) 1 0 0) x=some (WH o H A B p x b q):=by
 unfold st;simp only[WH_r2,Option.bind_some,hs,hc];simp[WH,Hp.set,upd]
theorem WH_s3 (p v b q) (c:Bool):st 1 (WH o H A B p v b q) (.ptr (H+3) 1 0 0) (.d (.bool c))=some (WH o H A B p v c q):=by
 unfold st;simp only[WH_r3,Option.bind_some];simp[WH,Hp.set,upd,V.cells,stor,D.cells]
theorem WH_s6 (p v b q) (x:V) (hs:stor x=true) (hc:x.cells.length=4):st 4 (WH o H A B p v b q) (.ptr (H+6) 1 0 0) x=some (WH o H A B x v b q):=by
 unfold st;simp only[WH_r6,Option.bind_some,hs,hc];simp[WH,Hp.set,upd]
theorem WH_l6 (l:List V) (v b q):ld true 4 (WH o H A B (.agg l) v b q) (.ptr (H+6) 1 0 0)=some (.agg l):=by unfold ld;simp[WH_r6]
theorem WH_kill (p v b q):(WH o H A B p v b q).kill (H+6)=WV o H A B v b q:=by unfold WH WV Hp.kill;simp[del]
theorem WH_lenA (p v b q):lenM (WH o H A B p v b q) (.map (H+4))=some (.d (.int .i64 (A.length:Int))):=by
 unfold lenM entries WH Hp.get;simp[Zv.look,kvB,int]
theorem WH_lenB (p v b q):lenM (WH o H A B p v b q) (.map (H+5))=some (.d (.int .i64 (B.length:Int))):=by
 unfold lenM entries WH Hp.get;simp[Zv.look,kvB,int]
theorem WH_lkA (p v b q) (c:Int):lk .i (.d (.bool false)) false (WH o H A B p v b q) (.map (H+4)) (.d (.int .i64 c))=some (.d (.bool (decide (c ∈ A)))):=by
 have hg:entries (WH o H A B p v b q) (.map (H+4))=some (kvB A):=by unfold entries WH Hp.get;simp[Zv.look]
 unfold lk
 simp only[hg,Option.bind_some]
 have:=findK_B c A
 simp only[this,Option.map_some]
 by_cases hc:c ∈ A<;>simp[hc]
theorem WH_lkB (p v b q) (c:Int):lk .i (.d (.bool false)) false (WH o H A B p v b q) (.map (H+5)) (.d (.int .i64 c))=some (.d (.bool (decide (c ∈ B)))):=by
 have hg:entries (WH o H A B p v b q) (.map (H+5))=some (kvB B):=by unfold entries WH Hp.get;simp[Zv.look]
 unfold lk
 simp only[hg,Option.bind_some]
 have:=findK_B c B
 simp only[this,Option.map_some]
 by_cases hc:c ∈ B<;>simp[hc]
theorem loopA_ok (a3 a4 a15 p v:V) (b:Bool) (q:Nat) (hA:A.length≤1000) :
  ex tab (.loop f82l0) [(3,a3),(4,a4),(6,.ptr (H+2) 1 0 0),(7,.ptr (H+3) 1 0 0),(8,.map (H+4)),(15,a15),(17,.ptr (H+6) 1 0 0),(18,.d (.int .i64 0))] (WH o H A B p v b q) =
   some (.exit 3,[(3,a3),(4,a4),(6,.ptr (H+2) 1 0 0),(7,.ptr (H+3) 1 0 0),(8,.map (H+4)),(15,a15),(17,.ptr (H+6) 1 0 0),(18,.d (.int .i64 (missN A:Nat))),(108,.d (.bool false))],WH o H A B p v b q):=by
 obtain ⟨m1,m2,m3⟩:=missN_spec A
 have:=loop_from tab f82l0 (fun n=>[(3,a3),(4,a4),(6,.ptr (H+2) 1 0 0),(7,.ptr (H+3) 1 0 0),(8,.map (H+4)),(15,a15),(17,.ptr (H+6) 1 0 0),(18,.d (.int .i64 (n:Int)))]) (fun _=>WH o H A B p v b q) (missN A) (.exit 3,[(3,a3),(4,a4),(6,.ptr (H+2) 1 0 0),(7,.ptr (H+3) 1 0 0),(8,.map (H+4)),(15,a15),(17,.ptr (H+6) 1 0 0),(18,.d (.int .i64 (missN A:Nat))),(108,.d (.bool false))],WH o H A B p v b q)
  (by
   intro n hn
   have:=m2 n hn
   apply wq_ex.1
   simp only[e82,WH_lkA,this,wrap_succ (show n<2 ^ 62 by omega),wz,opX,intBin,↓reduceIte,simprocAttr])
  (by
   apply wq_ex.1
   simp only[e82,WH_lkA,m1,wz,opX,intBin,↓reduceIte,simprocAttr])
  (by simp) (missN A) 0 (by omega)
 simpa using this
theorem loopB_ok (a15 p v:V) (b:Bool) (q:Nat) (hB:B.length≤1000) :
  ex tab (.loop f82l1) [(6,.ptr (H+2) 1 0 0),(7,.ptr (H+3) 1 0 0),(9,.map (H+5)),(15,a15),(17,.ptr (H+6) 1 0 0),(19,.d (.int .i64 0))] (WH o H A B p v b q) =
   some (.exit 5,[(6,.ptr (H+2) 1 0 0),(7,.ptr (H+3) 1 0 0),(9,.map (H+5)),(15,a15),(17,.ptr (H+6) 1 0 0),(19,.d (.int .i64 (missN B:Nat))),(133,.d (.bool false))],WH o H A B p v b q):=by
 obtain ⟨m1,m2,m3⟩:=missN_spec B
 have:=loop_from tab f82l1 (fun n=>[(6,.ptr (H+2) 1 0 0),(7,.ptr (H+3) 1 0 0),(9,.map (H+5)),(15,a15),(17,.ptr (H+6) 1 0 0),(19,.d (.int .i64 (n:Int)))]) (fun _=>WH o H A B p v b q) (missN B) (.exit 5,[(6,.ptr (H+2) 1 0 0),(7,.ptr (H+3) 1 0 0),(9,.map (H+5)),(15,a15),(17,.ptr (H+6) 1 0 0),(19,.d (.int .i64 (missN B:Nat))),(133,.d (.bool false))],WH o H A B p v b q)
  (by
   intro n hn
   have:=m2 n hn
   apply wq_ex.1
   simp only[e82,WH_lkB,this,wrap_succ (show n<2 ^ 62 by omega),wz,opX,intBin,↓reduceIte,simprocAttr])
  (by
   apply wq_ex.1
   simp only[e82,WH_lkB,m1,wz,opX,intBin,↓reduceIte,simprocAttr])
  (by simp) (missN B) 0 (by omega)
 simpa using this
end
theorem norm_pV (k c m:Int) (l:List Pt) (nl:Option Bool):norm (.agg [.d (.int .i64 k),.d (.int .i64 c),.d (.int .i64 m),.tl ((l.map ePt).map .d) nl])=.d (ePt (.mk k c m l)):=by
 unfold norm
 simp only[toD,toDs,toDs_map,Option.map_some]
 rw[ePt_mk]
theorem norm_pV0 (k c m:Int) (nl:Option Bool):norm (.agg [.d (.int .i64 k),.d (.int .i64 c),.d (.int .i64 m),.tl [] nl])=.d (ePt (.mk k c m [])):=norm_pV k c m [] nl
theorem consS_len0 {d:List Dt} {ts:List Int} {l:List (List Pt)} (h:fitM d (0::ts) l):(consS l).length=0:=by
 have:=consS_le h
 rw[consOf_lo (by omega)] at this
 simpa using this
theorem foldn_le:∀ (l:List (List Pt)) (B:List Int),(l.foldl nG B).length≤B.length+l.length
 | [],B=>by simp
 |r::l,B=>by
  rw[List.foldl_cons]
  have h1:=foldn_le l (nG B r)
  have h2:(nG B r).length≤B.length+1:=by
   cases r with
   |nil=>simp[nG]
   |cons p s=>
    unfold nG
    simp only
    split
    ·unfold addI;split<;>simp
    ·omega
  rw[List.length_cons];omega
theorem numsS_le (l:List (List Pt)):(numsS l).length≤l.length:=by
 have:=foldn_le l []
 simpa [numsS] using this
theorem foldcl_le:∀ (l:List (List Pt)) (A:List Int),(l.foldl cG A).length≤A.length+l.length
 | [],A=>by simp
 |r::l,A=>by
  rw[List.foldl_cons]
  have h1:=foldcl_le l (cG A r)
  have h2:(cG A r).length≤A.length+1:=by
   cases r with
   |nil=>simp[cG]
   |cons p s=>
    unfold cG
    simp only
    split
    ·unfold addI;split<;>simp
    ·omega
  rw[List.length_cons];omega
theorem consS_le' (l:List (List Pt)):(consS l).length≤l.length:=by
 have:=foldcl_le l []
 simpa [consS] using this
end Zc28
end
section
set_option maxHeartbeats 4000000
namespace Zc28
open Go Zv Zs
theorem mk_pat' (a b c:D) (l:List V) (nl:Option Bool):mkAgg [.d a,.d b,.d c,.tl l nl]=.agg [.d a,.d b,.d c,.tl l nl]:=rfl
theorem miss_lt {d:List Dt} {t:Int} {ts:List Int} {l:List (List Pt)} (h:fitM d (t::ts) l) (hlt:(consS l).length<(consOf d t).length):missN (consS l)<(consOf d t).length:=by
 have:=(missN_spec (consS l)).2.2
 omega
theorem witness_ok {d:List Dt} (S:Sml d) (T:typedS d=true):∀ (k:Nat) (ts:List Int) (rows:List (List Pt)),9*nwS rows+ts.length<k→9*nwS rows+ts.length≤8000→rows.length≤1000 →
  (∀ t,t ∈ ts→isT d t=true)→fitM d ts rows→∀ h,callW tab 82 [.d (eDs d),.d (eIs ts),.d (eRs rows)] h=some (wiV (wiS d k ts rows),h)
 |0,_,_,h,_,_,_,_,_=>by omega
 |k+1,[],rows,_,_,hl,_,_,h=>by
  refine call_wp (fn:=f82) rfl rfl ?_
  show wp tab (.seq f82r0 _) _ _ _
  rw[wq_seq,wq_of (wit_r0 (eDs d) (eIs []) (eRs rows) rfl rfl h)]
  have e0:((rows.length:Int) == 0)=decide (rows.length=0):=by simp[ibeq]
  simp only[wiS]
  have hs2:=fun b q=>W0_s2 h.objs h.next (.tl [] (some true)) b q (.tl [] (some true)) rfl rfl
  by_cases h0:rows.length=0
  ·simp only[e82,ibeq,e0,h0,hs2,W0_s3,W0_r2,W0_r3,W0_fin,wiV,wz,opX,intBin,↓reduceIte,simprocAttr]
   rfl
  ·simp only[e82,ibeq,e0,h0,hs2,W0_s3,W0_r2,W0_r3,W0_fin,wiV,wz,opX,intBin,↓reduceIte,simprocAttr]
 |k+1,t::ts,rows,hW,hB,hl,hT,hM,h=>by
  have hts:ts.length≤8000:=by rw[List.length_cons] at hB;omega
  have hrows:=fitM_rows S (by omega) hM
  have hTt:∀ f,f ∈ ts→isT d f=true:=fun f hf=>hT f (List.mem_cons_of_mem _ hf)
  rw[List.length_cons] at hW hB
  refine call_wp (fn:=f82) rfl rfl ?_
  show wp tab (.seq f82r0 _) _ _ _
  rw[wq_seq,wq_of (wit_r0 (eDs d) (eIs (t::ts)) (eRs rows) rfl rfl h)]
  have hne:(((ts.length+1:Nat):Int) == 0)=false:=by rw[ibeq];exact decide_eq_false (by omega)
  have hh:callW tab 110 [.d (eRs rows)] (W0 h.objs h.next (.tl [] (some true)) false (h.next+4))=some (.tup [.map (h.next+4),.map (h.next+5)],WV h.objs h.next (consS rows) (numsS rows) (.tl [] (some true)) false (h.next+6)):=heads_ok rows hl (fun r hr=>(hrows r hr).1) _
  by_cases hc:t=0∨(consS rows).length<(consOf d t).length
  ·have hrest:=fun h=>rests_ok (.clo 109 []) wildP rfl rows hl (fun r hr=>(hrows r hr).1) (fun p _ _ h=>by rw[cW_clo];exact wild_ok p h) h
   have hnw:=restS_nw wildP rows
   have hlen:=fm_len (restF wildP) rows
   have hIH:=witness_ok S T k ts (restS wildP rows) (by omega) (by omega) (Nat.le_trans hlen hl) hTt (restS_fit _ hM)
   have e:wiS d (k+1) (t::ts) rows=(wiS d k ts (restS wildP rows)).map (missS d t rows :: ·):=by
    simp only[wiS,if_pos hc]
   rw[e]
   have hwl:=wiS_len d k ts (restS wildP rows)
   generalize wiS d k ts (restS wildP rows)=u at hIH hwl
   have htest:∀ Q:Out→Prop,wp tab f82r4 [(2,.d (eRs rows)),(3,.fp (eDs d) 0),(4,.fp (eIs (t::ts)) 0),(6,.ptr (h.next+2) 1 0 0),(7,.ptr (h.next+3) 1 0 0),(8,.map (h.next+4)),(9,.map (h.next+5))] (WV h.objs h.next (consS rows) (numsS rows) (.tl [] (some true)) false (h.next+6)) Q =
     Q (.norm,[(2,.d (eRs rows)),(3,.fp (eDs d) 0),(4,.fp (eIs (t::ts)) 0),(6,.ptr (h.next+2) 1 0 0),(7,.ptr (h.next+3) 1 0 0),(8,.map (h.next+4)),(9,.map (h.next+5)),(48,.d (.bool false))],WV h.objs h.next (consS rows) (numsS rows) (.tl [] (some true)) false (h.next+6)):=by
    intro Q
    refine wq_of ?_ Q
    apply wq_ex.1
    by_cases ht:t=0
    ·simp only[e82,ht,iaI0,iaI0',ibne,wz,opX,intBin,↓reduceIte,simprocAttr]
    ·rcases tcase d t with h0 | h0 | ⟨n,y,rfl,hy⟩
     ·exfalso;have:=hT t List.mem_cons_self;simp only[isT,Bool.and_eq_true,decide_eq_true_eq] at this;omega
     ·exfalso;have:=hT t List.mem_cons_self;simp only[isT,Bool.and_eq_true,decide_eq_true_eq] at this;omega
     have hn:=(List.getElem?_eq_some_iff.1 hy).1
     have hsl:=S.len
     have hw:=wrap_sub1 (n:=n) (by omega)
     rw[consOf_at hy] at hc
     have hlt:=hc.resolve_left ht
     have hcl:(((consS rows).length:Int) == (y.cons.length:Int))=false:=by rw[ibeq];exact decide_eq_false (by omega)
     simp only[e82,ht,hw,iaI0,iaI0',iaD hy,ibne,WV_lenA,hcl,wz,opX,intBin,↓reduceIte,simprocAttr]
   cases u with
   |none=>
    have hs2:=fun b q=>WV_s2 h.objs h.next (consS rows) (numsS rows) (.tl [] (some true)) b q (.tl [] (some true)) rfl rfl
    simp only[e82,hne,hh,WV_of,WV_mk,WV_next,htest,slcT,slcT',hrest,hIH,wiV,hs2,WV_s3,WV_r2,WV_r3,WV_fin0,Option.map_none,wz,opX,intBin,↓reduceIte,simprocAttr]
   |some w=>
    have hwl':=hwl w rfl
    have hs2:=fun p b q=>WH_s2 h.objs h.next (consS rows) (numsS rows) p (.tl [] (some true)) b q
    have htail:∀ (kk c m:Int) (l:List Pt) (nl:Option Bool) (q:Nat),ex tab f82r27 [(6,.ptr (h.next+2) 1 0 0),(7,.ptr (h.next+3) 1 0 0),(15,.d (ePs w)),(17,.ptr (h.next+6) 1 0 0)] (WH h.objs h.next (consS rows) (numsS rows) (.agg [.d (.int .i64 kk),.d (.int .i64 c),.d (.int .i64 m),.tl ((l.map ePt).map .d) nl]) (.tl [] (some true)) false q) =
      some (.norm,[(6,.ptr (h.next+2) 1 0 0),(7,.ptr (h.next+3) 1 0 0)],WV h.objs h.next (consS rows) (numsS rows) (.d (.lst (ePt (.mk kk c m l)::w.map ePt))) true (if w=[] then q else q+1)):=by
     intro kk c m l nl q
     have happ:=fun h=>app_one (.mk kk c m l) w (some false) h (by omega)
     have hs2':=fun p b q=>hs2 p b q (.d (.lst (ePt (.mk kk c m l)::w.map ePt))) rfl rfl
     apply wq_ex.1
     simp only[e82,WH_l6,norm_pV,happ,WH_mk,WH_next,hs2',WH_s3,WH_kill,wz,opX,intBin,↓reduceIte,simprocAttr]
    have htail0:∀ (kk c m:Int) (nl:Option Bool) (q:Nat),ex tab f82r27 [(6,.ptr (h.next+2) 1 0 0),(7,.ptr (h.next+3) 1 0 0),(15,.d (ePs w)),(17,.ptr (h.next+6) 1 0 0)] (WH h.objs h.next (consS rows) (numsS rows) (.agg [.d (.int .i64 kk),.d (.int .i64 c),.d (.int .i64 m),.tl [] nl]) (.tl [] (some true)) false q) =
      some (.norm,[(6,.ptr (h.next+2) 1 0 0),(7,.ptr (h.next+3) 1 0 0)],WV h.objs h.next (consS rows) (numsS rows) (.d (.lst (ePt (.mk kk c m [])::w.map ePt))) true (if w=[] then q else q+1)):=fun kk c m nl q=>htail kk c m [] nl q
    rw[Option.map_some]
    by_cases hA:0<(consS rows).length
    ·have hA':((0:Int)<((consS rows).length:Int)):=by omega
     have ht:t≠0:=by
      rintro rfl
      have:=consS_len0 hM
      omega
     rcases tcase d t with h0 | h0 | ⟨n,y,rfl,hy⟩
     ·exfalso;have:=hT t List.mem_cons_self;simp only[isT,Bool.and_eq_true,decide_eq_true_eq] at this;omega
     ·exfalso;have:=hT t List.mem_cons_self;simp only[isT,Bool.and_eq_true,decide_eq_true_eq] at this;omega
     have hn:=(List.getElem?_eq_some_iff.1 hy).1
     have hsl:=S.len
     have hw:=wrap_sub1 (n:=n) (by omega)
     have hml:=miss_lt hM (hc.resolve_left ht)
     rw[consOf_at hy] at hml
     obtain ⟨z,hz⟩:=get_of_lt (l:=y.cons) hml
     have hz8:=(cons_sm S ((n:Int)+1)).2 z (by rw[consOf_at hy];exact List.mem_of_getElem? hz)
     have hmk:=mkslP (n:=z.flds.length) (by omega)
     have hms:missS d ((n:Int)+1) rows=.mk 1 ((missN (consS rows):Nat):Int) 0 (List.replicate z.flds.length wildT):=by
      unfold missS
      rw[if_pos hA,fldsOf_at hy hz]
     have hcl:=consS_le' rows
     have hlp:=fun a3 a4 a15 p v b q=>loopA_ok h.objs h.next (consS rows) (numsS rows) a3 a4 a15 p v b q (by omega)
     rw[hms]
     simp only[e82,hne,hh,WV_of,WV_mk,WV_next,htest,slcT,slcT',hrest,hIH,wiV,WH_of,WH_lenA,hA',wq_of (hlp _ _ _ _ _ _ _),hw,iaI0,iaI0',iaD hy,iaC hz,hmk,mk_pat',WH_s6,wq_of (htail _ _ _ _ _ _),WV_r2,WV_r3,WV_fin,wz,opX,intBin,↓reduceIte,simprocAttr]
     rfl
    ·have hA':¬ ((0:Int)<((consS rows).length:Int)):=by omega
     by_cases hN:0<(numsS rows).length
     ·have hN':((0:Int)<((numsS rows).length:Int)):=by omega
      have hms:missS d t rows=.mk 2 0 ((missN (numsS rows):Nat):Int) []:=by
       unfold missS
       rw[if_neg hA,if_pos hN]
      have hcl:=numsS_le rows
      have hlp:=fun a15 p v b q=>loopB_ok h.objs h.next (consS rows) (numsS rows) a15 p v b q (by omega)
      rw[hms]
      simp only[e82,hne,hh,WV_of,WV_mk,WV_next,htest,slcT,slcT',hrest,hIH,wiV,WH_of,WH_lenA,WH_lenB,hA',hN',wq_of (hlp _ _ _ _ _),mk_pat',WH_s6,wq_of (htail0 _ _ _ _ _),WV_r2,WV_r3,WV_fin,wz,opX,intBin,↓reduceIte,simprocAttr]
      rfl
     ·have hN':¬ ((0:Int)<((numsS rows).length:Int)):=by omega
      have hms:missS d t rows=.mk 0 0 0 []:=by
       unfold missS
       rw[if_neg hA,if_neg hN];rfl
      rw[hms]
      simp only[e82,hne,hh,WV_of,WV_mk,WV_next,htest,slcT,slcT',hrest,hIH,wiV,WH_of,WH_lenA,WH_lenB,hA',hN',mk_pat',WH_s6,WH_l6,norm_pV0,fun h=>app_one (.mk 0 0 0 []) w (some false) h (by omega),WH_mk,WH_next,fun p b q=>hs2 p b q (.d (.lst (ePt (.mk 0 0 0 [])::w.map ePt))) rfl rfl,WH_s3,WH_kill,WV_r2,WV_r3,WV_fin,wz,opX,intBin,↓reduceIte,simprocAttr]
      rfl
  ·have ht:t≠0:=fun e=>hc (.inl e)
   have hlt:¬ (consS rows).length<(consOf d t).length:=fun e=>hc (.inr e)
   rcases tcase d t with h0 | h0 | ⟨n,y,rfl,hy⟩
   ·exfalso;have:=hT t List.mem_cons_self;simp only[isT,Bool.and_eq_true,decide_eq_true_eq] at this;omega
   ·exfalso;have:=hT t List.mem_cons_self;simp only[isT,Bool.and_eq_true,decide_eq_true_eq] at this;omega
   have hn:=(List.getElem?_eq_some_iff.1 hy).1
   have hsl:=S.len
   have hw:=wrap_sub1 (n:=n) (by omega)
   have hcs:=cons_sm S ((n:Int)+1)
   have hle:=consS_le hM
   rw[consOf_at hy] at hcs hlt hle
   have hcl:(((consS rows).length:Int) == (y.cons.length:Int))=true:=by rw[ibeq];exact decide_eq_true (by omega)
   have hdown:=fun i (hi:i<y.cons.length) (n':Nat)=>spS_down hM (by rw[consOf_at hy];omega) (i:=i) (by rw[consOf_at hy];exact hi) n'
   have hu:∀ (i:Nat) (z:Cn),y.cons[i]? = some z→(∀ h,callW tab 82 [.d (eDs d),.d (eIs (z.flds++ts)),.d (eRs (spS (i:Int) z.flds.length rows))] h=some (wiV (wiS d k (fldsOf d ((n:Int)+1) i++ts) (spS (i:Int) (fldsOf d ((n:Int)+1) i).length rows)),h))∧∀ w,wiS d k (fldsOf d ((n:Int)+1) i++ts) (spS (i:Int) (fldsOf d ((n:Int)+1) i).length rows)=some w→w.length=z.flds.length+ts.length:=by
    intro i z hz
    have hi:=(List.getElem?_eq_some_iff.1 hz).1
    have hfz:=fldsOf_at hy hz
    have hzm:=List.mem_of_getElem? hz
    have hz8:=hcs.2 z hzm
    have hd:=hdown i hi z.flds.length
    have hM':=spS_fit i hM
    rw[hfz] at hM' ⊢
    refine ⟨witness_ok S T k (z.flds++ts) (spS (i:Int) z.flds.length rows) (by rw[List.length_append];omega) (by rw[List.length_append];omega) (Nat.le_trans (fm_len _ _) hl) (flds_isT T (by rw[consOf_at hy];exact hzm) hTt) hM',fun w hw=>?_⟩
    rw[wiS_len d k _ _ w hw,List.length_append]
   obtain ⟨q,hq⟩:=wrange_ok hy (by omega) hcs.1 hcs.2 (ts:=ts) (by omega) rows hl hrows hu h.objs h.next (consS rows) (numsS rows)
   have e:wiS d (k+1) (((n:Int)+1)::ts) rows=(List.range y.cons.length).findSome? (fun i=>(wiS d k (fldsOf d ((n:Int)+1) i++ts) (spS (i:Int) (fldsOf d ((n:Int)+1) i).length rows)).map (wfS i (match y.cons[i]? with | some z=>z.flds.length | none=>0))):=by
    simp only[wiS]
    rw[if_neg hc,consOf_at hy]
    refine congrArg (fun f=>List.findSome? f (List.range y.cons.length)) (funext fun i=>?_)
    have:(fldsOf d ((n:Int)+1) i).length=(match y.cons[i]? with | some z=>z.flds.length | none=>0):=by
     unfold fldsOf;rw[consOf_at hy]
     cases y.cons[i]? <;> rfl
    rw[this]
   rw[e]
   generalize (List.range y.cons.length).findSome? (fun i=>(wiS d k (fldsOf d ((n:Int)+1) i++ts) (spS (i:Int) (fldsOf d ((n:Int)+1) i).length rows)).map (wfS i (match y.cons[i]? with | some z=>z.flds.length | none=>0)))=u at hq
   have hmat:∀ h,callW tab 111 [.d (eDs d),.d (.lst (eI ((n:Int)+1)::ts.map eI)),.d (eRs rows)] h=some (.clo 134 [.fp (eDs d) 0,.fp (eIs (((n:Int)+1)::ts)) 0,.fp (eRs rows) 0],⟨h.objs,h.next+3⟩):=fun h=>matrices_ok _ _ _ rfl rfl rfl h
   have hrng:ex tab (.rng (.t 52) 1312) [(3,.fp (eDs d) 0),(4,.fp (eIs (((n:Int)+1)::ts)) 0),(6,.ptr (h.next+2) 1 0 0),(7,.ptr (h.next+3) 1 0 0),(52,.clo 134 [.fp (eDs d) 0,.fp (eIs (((n:Int)+1)::ts)) 0,.fp (eRs rows) 0])] (WV h.objs h.next (consS rows) (numsS rows) (.tl [] (some true)) false (h.next+9)) =
     some (wuX u,[(3,.fp (eDs d) 0),(4,.fp (eIs (((n:Int)+1)::ts)) 0),(6,.ptr (h.next+2) 1 0 0),(7,.ptr (h.next+3) 1 0 0),(52,.clo 134 [.fp (eDs d) 0,.fp (eIs (((n:Int)+1)::ts)) 0,.fp (eRs rows) 0])],match u with
      |none=>WV h.objs h.next (consS rows) (numsS rows) (.tl [] (some true)) false q
      |some w=>WV h.objs h.next (consS rows) (numsS rows) (.d (ePs w)) true q):=by
    refine ex_rng (f:=134) rfl hq ?_
    unfold rngEnd
    rw[WV_next]
    cases u<;>simp only[WU_get,WU_kill]<;>rfl
   cases u with
   |none=>
    have hs2:=fun b q=>WV_s2 h.objs h.next (consS rows) (numsS rows) (.tl [] (some true)) b q (.tl [] (some true)) rfl rfl
    simp only[wuX] at hrng
    simp only[e82,hne,hh,WV_of,WV_mk,WV_next,ibne,ht,hw,iaI0,iaI0',iaD hy,WV_lenA,hcl,hmat,wq_of hrng,hs2,WV_s3,WV_r2,WV_r3,WV_fin0,wiV,wz,opX,intBin,↓reduceIte,simprocAttr]
   |some w=>
    simp only[wuX] at hrng
    simp only[e82,hne,hh,WV_of,WV_mk,WV_next,ibne,ht,hw,iaI0,iaI0',iaD hy,WV_lenA,hcl,hmat,wq_of hrng,WV_r2,WV_r3,WV_fin,wiV,wz,opX,intBin,↓reduceIte,simprocAttr]
end Zc28
end
section
set_option maxHeartbeats 4000000
namespace Zc28
open Go Zv Zs
theorem fold_any (p:Pt) (hp:kdP p≠0):∀ (l:List (List Pt)) (H:List Pt),(l.foldl (accG hdG) H).any (fun q=>sameP q p)=(H.any (fun q=>sameP q p) || l.any fun r=>match r with
  | []=>false
  |q::_=>sameP q p)
 | [],H=>by simp
 |r::l,H=>by
  rw[List.foldl_cons,fold_any p hp l,List.any_cons,←Bool.or_assoc]
  congr 1
  cases r with
  |nil=>simp[accG,hdG]
  |cons q s=>
   simp only[accG,hdG]
   by_cases h0:kdP q=0
   ·have:sameP q p=false:=by
     unfold sameP;rw[h0,decide_eq_false (fun e=>hp e.symm)];rfl
    simp[h0,this]
   ·by_cases h1:H.any (fun x=>sameP x q)=true
    ·simp only[h1,Bool.or_true,if_true]
     cases h2:sameP q p with
     |false=>simp
     |true=>
      obtain ⟨x,hx,hxs⟩:=List.any_eq_true.1 h1
      have:H.any (fun q=>sameP q p)=true:=by
       refine List.any_eq_true.2 ⟨x,hx,?_⟩
       simp only[sameP,Bool.and_eq_true,decide_eq_true_eq] at hxs h2 ⊢
       omega
      rw[this];rfl
    ·simp only[h1,Bool.or_false,decide_eq_true_eq,h0,if_false]
     rw[List.any_append]
     simp
theorem heads_any (p:Pt) (hp:kdP p≠0) (l:List (List Pt)):(headsS l).any (fun q=>sameP q p)=l.any fun r=>match r with
  | []=>false
  |q::_=>sameP q p:=by
 unfold headsS accL
 rw[fold_any p hp]
 simp
theorem foldn_mem (c:Int):∀ (l:List (List Pt)) (A:List Int),c ∈ l.foldl nG A ↔ c ∈ A∨∃ p s,(p::s) ∈ l∧kdP p=2∧nmP p=c
 | [],A=>by simp
 |r::l,A=>by
  rw[List.foldl_cons,foldn_mem c l]
  cases r with
  |nil=>
   show (c ∈ A∨_) ↔ _
   simp
  |cons q s=>
   show (c ∈ (if kdP q=2 then addI A (nmP q) else A)∨_) ↔ _
   by_cases k1:kdP q=2
   ·rw[if_pos k1,addI_mem]
    constructor
    ·rintro ((h | h) | ⟨p,s',h1,h2,h3⟩)
     ·exact .inl h
     ·exact .inr ⟨q,s,List.mem_cons_self,k1,h.symm⟩
     ·exact .inr ⟨p,s',List.mem_cons_of_mem _ h1,h2,h3⟩
    ·rintro (h | ⟨p,s',h1,h2,h3⟩)
     ·exact .inl (.inl h)
     ·rcases List.mem_cons.1 h1 with e | h1
      ·cases e;exact .inl (.inr h3.symm)
      ·exact .inr ⟨p,s',h1,h2,h3⟩
   ·rw[if_neg k1]
    constructor
    ·rintro (h | ⟨p,s',h1,h2,h3⟩)
     ·exact .inl h
     ·exact .inr ⟨p,s',List.mem_cons_of_mem _ h1,h2,h3⟩
    ·rintro (h | ⟨p,s',h1,h2,h3⟩)
     ·exact .inl h
     ·rcases List.mem_cons.1 h1 with e | h1
      ·cases e;exact absurd h2 k1
      ·exact .inr ⟨p,s',h1,h2,h3⟩
theorem numsS_mem (c:Int) (l:List (List Pt)):c ∈ numsS l ↔ ∃ p s,(p::s) ∈ l∧kdP p=2∧nmP p=c:=by
 rw[numsS,foldn_mem];simp
theorem any_cons {d:List Dt} {t:Int} {ts:List Int} {l:List (List Pt)} (h:fitM d (t::ts) l) (c:Int) (qs:List Pt):(headsS l).any (fun q=>sameP q (.mk 1 c 0 qs))=decide (c ∈ consS l):=by
 rw[heads_any _ (by rw[kdP_mk];decide),Bool.eq_iff_iff,decide_eq_true_eq,consS_mem,List.any_eq_true]
 constructor
 ·rintro ⟨r,hr,hs⟩
  cases r with
  |nil=>cases hs
  |cons q s=>
   simp only[sameP_mk,Bool.and_eq_true,decide_eq_true_eq] at hs
   exact⟨q,s,hr,hs.1.1,hs.1.2⟩
 ·rintro ⟨p,s,hm,k1,hc⟩
  refine ⟨p::s,hm,?_⟩
  have:=h _ hm
  simp only[fitR,Bool.and_eq_true] at this
  obtain ⟨k,c',m,qs'⟩:=p
  simp only[kdP_mk,cnP_mk] at k1 hc
  subst k1;subst hc
  rcases fits_cases this.1 with h1 | h1 | ⟨_,_,m0,_⟩
  ·omega
  ·omega
  ·subst m0
   simp[sameP_mk,kdP_mk,cnP_mk,nmP_mk]
end Zc28
end
section
set_option maxHeartbeats 4000000
namespace Zc28
open Go Zv Zs
theorem deep_ds (h:Hp) (n0 k:Nat):∀ l:List D,(l.map V.d).mapM (deep h n0 (k+1))=some l
 | []=>rfl
 |x::l=>by rw[List.map_cons,List.mapM_cons,deep_ds h n0 k l];rfl
theorem finS2n (h:Hp) (nl:Option Bool) (b:Bool) (n:Nat):finS h ⟨h.objs,n⟩ [.tl [] nl,.d (.bool b)]=some (.tup [.d (.lst []),.d (.bool b)],h):=by
 unfold finS
 rw[if_pos (suf_refl _)]
 rfl
end Zc28
end
section
set_option maxHeartbeats 4000000
namespace Zc28
open Go Zv Zs
mutual
def vcnt:Vl→Nat
 | .mk _ _ qs=>vcntL qs+1
def vcntL:List Vl→Nat
 | []=>0
 |p::r=>vcnt p+vcntL r
end
mutual
def mtP:Pt→Vl→Bool
 | .mk k c m qs,.mk num con vs=>if k=0 then true else if k=2 then decide (num=m) else if k=1 then decide (con=c) && mtL qs vs else false
def mtL:List Pt→List Vl→Bool
 | [],[]=>true
 |p::ps,v::vs=>mtP p v && mtL ps vs
 |_,_=>false
end
def nomt (x:Pt × Vl):Bool := !mtP x.1 x.2
theorem mtL_any:∀ (qs:List Pt) (vs:List Vl),mtL qs vs=(decide (qs.length=vs.length) && !(qs.zip vs).any nomt)
 | [],[]=>by simp[mtL]
 | [],_::_=>by simp[mtL]
 |_::_,[]=>by simp[mtL]
 |p::ps,v::vs=>by
  rw[mtL,mtL_any ps vs,List.zip_cons_cons,List.any_cons]
  cases h:mtP p v<;>simp[nomt,h]
theorem matches_step {qs:List Pt} (hl:cntL qs<2 ^ 60) (H:∀ p,p ∈ qs→∀ v h,callW tab 125 [.d (ePt p),.d (eV v)] h=some (.d (.bool (mtP p v)),h)) (vs:List Vl) (h:Hp) :
  callW tab 76 [.d (ePs qs),.d (eVs vs)] h=some (.d (.bool (mtL qs vs)),h):=by
 have hlen:=cntL_len qs
 rw[mtL_any]
 refine call_wp (fn:=f76) rfl rfl ?_
 by_cases hne:qs.length=vs.length
 ·rw[decide_eq_true hne,Bool.true_and]
  have hne':((qs.length:Int) != (vs.length:Int))=false:=by simp[hne]
  have hzl:(qs.zip vs).length=qs.length:=by rw[List.length_zip];omega
  have hloop:=loop_any (T:=tab) (a:=f76l0) (l:=qs.zip vs) (p:=nomt) (f:=fun n=>[(0,.d (ePs qs)),(1,.d (eVs vs)),(12,.d (.int .i64 qs.length)),(13,int n)]) (h:=h)
    (by intro n x hx hlt hp;(have hxz:=zip_at hx);(have hr:=fun h=>H x.1 (List.mem_of_getElem? hxz.1) x.2 h);(have hlt':n<qs.length:=by omega);(have hpb:mtP x.1 x.2 = !(nomt x):=by simp[nomt]);rw[hp] at hpb;all_goals (apply wq_ex.1;simp only[hlt,hp,e76,iaP hxz.1,iaV hxz.2,pts,vls,hr,hlt',hpb,wrap_succ (show n<2 ^ 62 by omega),wz,opX,intBin,↓reduceIte,simprocAttr]))
    (by intro n x hx hlt hp;(have hxz:=zip_at hx);(have hr:=fun h=>H x.1 (List.mem_of_getElem? hxz.1) x.2 h);(have hlt':n<qs.length:=by omega);(have hpb:mtP x.1 x.2 = !(nomt x):=by simp[nomt]);rw[hp] at hpb;all_goals (apply wq_ex.1;simp only[hlt,hp,e76,iaP hxz.1,iaV hxz.2,pts,vls,hr,hlt',hpb,wrap_succ (show n<2 ^ 62 by omega),wz,opX,intBin,↓reduceIte,simprocAttr]<;>rfl))
    (by apply wq_ex.1;simp only[e76,hzl,wz,opX,intBin,↓reduceIte,simprocAttr]<;>rfl)
    (by simp) (by simp)
  simp only[int,Zv.bool,Int.cast_ofNat_Int] at hloop
  simp only[e76,hne',wq_of hloop,wz,opX,intBin,↓reduceIte,simprocAttr]
  cases (qs.zip vs).any nomt<;>simp only[e76,wz,opX,intBin,↓reduceIte,simprocAttr]
 ·rw[decide_eq_false hne,Bool.false_and]
  have hne':((qs.length:Int) != (vs.length:Int))=true:=by simp;omega
  simp only[e76,hne',wz,opX,intBin,↓reduceIte,simprocAttr]
theorem one_ok:∀ (p:Pt),cntP p<2 ^ 60→∀ v h,callW tab 125 [.d (ePt p),.d (eV v)] h=some (.d (.bool (mtP p v)),h)
 | .mk k c m qs,hc,.mk num con vs,h=>by
  rw[cntP] at hc
  have hm:=fun h=>matches_step (qs:=qs) (by omega) (fun p hp v h=>one_ok p (by have:=cntL_mem hp;omega) v h) vs h
  rw[mtP,ePt_mk,eV_mk]
  refine call_wp (fn:=f125) rfl rfl ?_
  by_cases k0:k=0
  ·simp only[e125,ibeq,k0,wz,opX,intBin,↓reduceIte,simprocAttr]
  ·by_cases k2:k=2
   ·simp only[e125,ibeq,k0,k2,wz,opX,intBin,↓reduceIte,simprocAttr]
   ·by_cases k1:k=1
    ·by_cases hcc:con=c
     ·simp only[e125,ibeq,k0,k1,k2,hcc,hm,Bool.true_and,wz,opX,intBin,↓reduceIte,simprocAttr]
     ·simp only[e125,ibeq,k0,k1,k2,hcc,hm,Bool.false_and,wz,opX,intBin,↓reduceIte,simprocAttr]
    ·simp only[e125,ibeq,k0,k1,k2,wz,opX,intBin,↓reduceIte,simprocAttr]
termination_by p=>cntP p
decreasing_by
 have:=cntL_mem hp
 rw[cntP]
 omega
theorem matches_ok (qs:List Pt) (hl:cntL qs<2 ^ 60) (vs:List Vl) (h:Hp):callW tab 76 [.d (ePs qs),.d (eVs vs)] h=some (.d (.bool (mtL qs vs)),h):=
 matches_step hl (fun p hp v h=>one_ok p (by have:=cntL_mem hp;omega) v h) vs h
def firstS (l:List (List Pt)) (vs:List Vl):Int:=idxZ (fun r=>mtL r vs) l
theorem idxFR (l:List (List Pt)) (cv:V) (p:List Pt→Bool) (h:Hp) (hl:l.length<2 ^ 60) (hcv:norm cv=cv) (hc:∀ c,c ∈ l→cW tab cv [.d (ePs c)] h=some (.d (.bool (p c)),h)) :
  callW tab 74 [.d (.lst (l.map ePs)),cv] h=some (.d (eI (idxZ p l)),h):=by
 refine call_wp (fn:=f74) rfl rfl ?_
 have hloop:=loop_find (T:=tab) (a:=f74l0) (l:=l) (p:=p) (f:=fun n=>[(0,.d (.lst (l.map ePs))),(1,cv),(7,int l.length),(8,int n)]) (h:=h)
   (by intro n x hx hlt hp;have hcall:=hc x (List.mem_of_getElem? hx);all_goals (apply wq_ex.1;simp only[hlt,hp,e74,iaR hx,hcall,wrap_succ (show n<2 ^ 62 by omega),wz,opX,intBin,↓reduceIte,simprocAttr]))
   (by intro n x hx hlt hp;have hcall:=hc x (List.mem_of_getElem? hx);all_goals (apply wq_ex.1;simp only[hlt,hp,e74,iaR hx,hcall,wrap_succ (show n<2 ^ 62 by omega),wz,opX,intBin,↓reduceIte,simprocAttr]<;>rfl))
   (by apply wq_ex.1;simp only[e74,wz,opX,intBin,↓reduceIte,simprocAttr]<;>rfl)
   (by intro n x;simp) (by simp)
 simp only[int,Zv.bool,Int.cast_ofNat_Int] at hloop
 simp only[e74,hcv,wq_of hloop,wz,opX,intBin,↓reduceIte,simprocAttr]
 unfold idxZ
 cases fst? p 0 l with
 |none=>simp only[e74,wz,opX,intBin,↓reduceIte,simprocAttr]
 |some n=>simp only[e74,wz,opX,intBin,↓reduceIte,simprocAttr]
theorem first_ok (l:List (List Pt)) (hl:l.length<2 ^ 60) (hc:∀ r,r ∈ l→cntL r<2 ^ 60) (vs:List Vl) (h:Hp):callW tab 31 [.d (eRs l),.d (eVs vs)] h=some (.d (eI (firstS l vs)),h):=by
 refine call_wp (fn:=f31) rfl rfl ?_
 have hi:=idxFR l (.clo 75 [.ptr h.next 1 0 0]) (fun r=>mtL r vs) ⟨(h.next,.arr 1 [.d (eVs vs)])::h.objs,h.next+1⟩ hl rfl (by
  intro r hr
  have hm:=fun h=>matches_ok r (hc r hr) vs h
  rw[cW_clo]
  simp only[Nat.reduceBEq,Bool.false_eq_true,if_false]
  refine call_wp (fn:=f75) rfl rfl ?_
  simp only[e75,hm,wz,opX,intBin,↓reduceIte,simprocAttr])
 simp only[e31,hi,firstS,wz,opX,intBin,↓reduceIte,simprocAttr]
end Zc28
end
section
set_option maxHeartbeats 4000000
namespace Zc28
open Go Zv Zs
theorem wi_us (d:List Dt):∀ (k:Nat) (ts:List Int) (l:List (List Pt)),(wiS d k ts l).isSome=usS d k ts l (List.replicate ts.length wildT)
 |0,_,_=>rfl
 |k+1,[],l=>by
  simp only[wiS,usS]
  by_cases h:l.length=0<;>simp[h]
 |k+1,t::ts,l=>by
  rw[List.length_cons,List.replicate_succ]
  show _=usS d (k+1) (t::ts) l (.mk 0 0 0 []::List.replicate ts.length wildT)
  rw[wiS,usS,if_neg (show ¬ ((0:Int)=1) by decide),if_neg (show ¬ ((0:Int)=2) by decide)]
  by_cases hc:t=0∨(consS l).length<(consOf d t).length
  ·rw[if_pos hc,if_pos hc,Option.isSome_map]
   exact wi_us d k ts _
  ·rw[if_neg hc,if_neg hc,Bool.eq_iff_iff,List.findSome?_isSome_iff,List.any_eq_true]
   have key:∀ i,((wiS d k (fldsOf d t i++ts) (spS (i:Int) (fldsOf d t i).length l)).map (wfS i (fldsOf d t i).length)).isSome=usS d k (fldsOf d t i++ts) (spS (i:Int) (fldsOf d t i).length l) (List.replicate (fldsOf d t i).length wildT++List.replicate ts.length wildT):=by
    intro i
    rw[Option.isSome_map,wi_us d k,List.length_append,←List.replicate_append_replicate]
   constructor
   ·rintro ⟨x,hx,h⟩
    exact⟨x,hx,by rw[←key];exact h⟩
   ·rintro ⟨x,hx,h⟩
    exact⟨x,hx,by rw[key];exact h⟩
theorem us_mono (d:List Dt):∀ (k:Nat) (ts:List Int) (l:List (List Pt)) (r:List Pt),usS d k ts l r=true→usS d (k+1) ts l r=true
 |0,_,_,_,h=>by cases h
 |k+1,[],l,r,h=>h
 |k+1,t::ts,l,[],h=>by cases h
 |k+1,t::ts,l,.mk kd c m qs::r,h=>by
  rw[usS] at h ⊢
  split at h
  ·rename_i h1;rw[if_pos h1];exact us_mono d k _ _ _ h
  ·rename_i h1
   rw[if_neg h1]
   split at h
   ·rename_i h2;rw[if_pos h2];exact us_mono d k _ _ _ h
   ·rename_i h2
    rw[if_neg h2]
    split at h
    ·rename_i h3;rw[if_pos h3];exact us_mono d k _ _ _ h
    ·rename_i h3
     rw[if_neg h3]
     rw[List.any_eq_true] at h ⊢
     obtain ⟨i,hi,hx⟩:=h
     exact⟨i,hi,us_mono d k _ _ _ hx⟩
theorem us_le {d:List Dt} {ts:List Int} {l:List (List Pt)} {r:List Pt} {k:Nat}:∀ (j:Nat),usS d k ts l r=true→usS d (k+j) ts l r=true
 |0,h=>h
 |j+1,h=>us_mono d _ _ _ _ (us_le j h)
theorem us_fuel {d:List Dt} (S:Sml d) (T:typedS d=true) {k k':Nat} {ts:List Int} {l:List (List Pt)} {r:List Pt} (h1:9*(nwS l+nwL r)+ts.length<k) (h2:9*(nwS l+nwL r)+ts.length<k') (hB:9*(nwS l+nwL r)+ts.length≤8000) (hl:l.length≤1000)
  (hT:∀ t,t ∈ ts→isT d t=true) (hM:fitM d ts l) (hR:fitR d ts r=true):usS d k ts l r=usS d k' ts l r:=by
 have a:=useful_ok S T k ts l r h1 hB hl hT hM hR ⟨[],0⟩
 have b:=useful_ok S T k' ts l r h2 hB hl hT hM hR ⟨[],0⟩
 rw[a] at b
 simpa using b
theorem flds_isT' {d:List Dt} (T:typedS d=true) (t:Int) (i:Nat):∀ f,f ∈ fldsOf d t i→isT d f=true:=by
 intro f hf
 unfold fldsOf at hf
 split at hf
 ·rename_i z hz
  exact fld_isT27 T (List.mem_of_getElem? hz) hf
 ·cases hf
end Zc28
end
section
set_option maxHeartbeats 4000000
namespace Zc28
open Go Zv Zs
mutual
def tyV (d:List Dt):Int→Vl→Prop
 |t,.mk _ c qs=>if t=0 then True else ∃ (i:Nat) (z:Cn),c=(i:Int)∧(consOf d t)[i]? = some z∧tyL d z.flds qs
def tyL (d:List Dt):List Int→List Vl→Prop
 | [],[]=>True
 |f::fs,q::qs=>tyV d f q∧tyL d fs qs
 |_,_=>False
end
theorem tyL_len {d:List Dt}:∀ {fs:List Int} {vs:List Vl},tyL d fs vs→vs.length=fs.length
 | [],[],_=>rfl
 |f::fs,v::vs,h=>by
  rw[tyL] at h
  rw[List.length_cons,List.length_cons,tyL_len h.2]
 | [],_::_,h=>by simp[tyL] at h
 |_::_,[],h=>by simp[tyL] at h
theorem tyL_app {d:List Dt}:∀ {fs ts:List Int} {av vs:List Vl},tyL d fs av→tyL d ts vs→tyL d (fs++ts) (av++vs)
 | [],ts,[],vs,_,h=>h
 |f::fs,ts,a::av,vs,h,h'=>by
  rw[tyL] at h
  rw[List.cons_append,List.cons_append,tyL]
  exact⟨h.1,tyL_app h.2 h'⟩
 | [],_,_::_,_,h,_=>by simp[tyL] at h
 |_::_,_,[],_,h,_=>by simp[tyL] at h
theorem mtL_app:∀ {av bs:List Pt} {xs ys:List Vl},av.length=xs.length→mtL (av++bs) (xs++ys)=(mtL av xs && mtL bs ys)
 | [],bs,[],ys,_=>by simp[mtL]
 |a::av,bs,x::xs,ys,h=>by
  rw[List.cons_append,List.cons_append,mtL,mtL,mtL_app (by simpa using h),Bool.and_assoc]
 | [],_,_::_,_,h=>by simp at h
 |_::_,_,[],_,h=>by simp at h
theorem mtL_len:∀ {av:List Pt} {xs:List Vl},mtL av xs=true→av.length=xs.length
 | [],[],_=>rfl
 |a::av,x::xs,h=>by
  rw[mtL,Bool.and_eq_true] at h
  rw[List.length_cons,List.length_cons,mtL_len h.2]
 | [],_::_,h=>by simp[mtL] at h
 |_::_,[],h=>by simp[mtL] at h
theorem mt_wild (v:Vl):mtP wildT v=true:=by obtain ⟨m,c,qs⟩:=v;unfold wildT;rw[mtP,if_pos rfl]
theorem mtL_wild:∀ vs:List Vl,mtL (List.replicate vs.length wildT) vs=true
 | []=>by rw[List.length_nil,List.replicate_zero,mtL]
 |v::vs=>by rw[List.length_cons,List.replicate_succ,mtL,mt_wild,mtL_wild vs];rfl
theorem vcntL_app:∀ (a b:List Vl),vcntL (a++b)=vcntL a+vcntL b
 | [],b=>by simp[vcntL]
 |p::a,b=>by rw[List.cons_append,vcntL,vcntL,vcntL_app a b];omega
theorem sp_back {i:Nat} {n:Nat} {l:List (List Pt)} {x':List Pt} (hx:x' ∈ spS (i:Int) n l) {m:Int} {av vs:List Vl} (hn:n=av.length) (hm:mtL x' (av++vs)=true) (hq:∀ k c m qs s,(Pt.mk k c m qs::s) ∈ l→k=1→c=(i:Int)→qs.length=n) :
  ∃ x,x ∈ l∧mtL x (.mk m (i:Int) av::vs)=true:=by
 obtain ⟨x,hxl,hs⟩:=List.mem_filterMap.1 hx
 refine ⟨x,hxl,?_⟩
 cases x with
 |nil=>cases hs
 |cons p s=>
  obtain ⟨k,c,m',qs⟩:=p
  simp only[spF] at hs
  split at hs
  ·rename_i k0
   cases hs
   rw[mtL_app (by simp[hn])] at hm
   rw[Bool.and_eq_true] at hm
   rw[mtL,mtP,if_pos k0,hm.2];rfl
  ·rename_i k0
   split at hs
   ·rename_i hk
    cases hs
    rw[mtL_app (by rw[hq _ _ _ _ _ hxl hk.1 hk.2,hn]),Bool.and_eq_true] at hm
    rw[mtL,mtP,if_neg k0,if_neg (by omega),if_pos hk.1,decide_eq_true hk.2.symm,hm.1,hm.2];rfl
   ·cases hs
theorem sp_len {d:List Dt} {t:Int} {ts:List Int} {l:List (List Pt)} (h:fitM d (t::ts) l) {i:Nat} {z:Cn} (hz:(consOf d t)[i]? = some z):∀ k c m qs s,(Pt.mk k c m qs::s) ∈ l→k=1→c=(i:Int)→qs.length=z.flds.length:=by
 intro k c m qs s hm k1 hc
 have:=h _ hm
 simp only[fitR,Bool.and_eq_true] at this
 rcases fits_cases this.1 with h1 | h1 | ⟨_,_,_,j,y,e,hy,hl,_⟩
 ·omega
 ·omega
 ·have:j=i:=by omega
  subst this
  rw[hz] at hy;cases hy
  exact hl.symm
theorem cover {d:List Dt}:∀ (n:Nat) (ts:List Int) (l:List (List Pt)) (r:List Pt) (vs:List Vl),vcntL vs≤n→tyL d ts vs→fitM d ts l→fitR d ts r=true→(∀ K,usS d K ts l r=false)→mtL r vs=true→∃ x,x ∈ l∧mtL x vs=true:=by
 intro n
 induction n with
 |zero=>
  intro ts l r vs hn hT hM hR hU hm
  cases vs with
  |cons v vs=>obtain ⟨m,c,qs⟩:=v;rw[vcntL,vcnt] at hn;omega
  |nil=>
   have hl:=tyL_len hT
   cases ts with
   |cons t ts=>simp at hl
   |nil=>
    have h1:=hU 1
    rw[usS,decide_eq_false_iff_not] at h1
    cases l with
    |nil=>exact absurd rfl h1
    |cons x l=>
     have hf:=hM x List.mem_cons_self
     have:x=[]:=List.eq_nil_of_length_eq_zero (fitR_len hf)
     subst this
     exact⟨[],List.mem_cons_self,by rw[mtL]⟩
 |succ n ih=>
  intro ts l r vs hn hT hM hR hU hm
  cases vs with
  |nil=>
   exact ih ts l r [] (by simp[vcntL]) hT hM hR hU hm
  |cons v vs=>
   have hl:=tyL_len hT
   cases ts with
   |nil=>simp at hl
   |cons t ts=>
    cases r with
    |nil=>cases hR
    |cons p r=>
     obtain ⟨num,con,av⟩:=v
     obtain ⟨k,c,m,qs⟩:=p
     rw[vcntL,vcnt] at hn
     rw[tyL,tyV] at hT
     obtain ⟨hv,hvs⟩:=hT
     simp only[fitR,Bool.and_eq_true] at hR
     rw[mtL,mtP,Bool.and_eq_true] at hm
     have hU':∀ K,usS d (K+1) (t::ts) l (.mk k c m qs::r)=false:=fun K=>hU (K+1)
     rcases fits_cases hR.1 with ⟨k0,c0,m0,q0⟩ | ⟨k2,t0,c0,q0⟩ | ⟨k1,t0,m0,i,z,rfl,hz,hzl,hzR⟩
     ·subst k0
      by_cases hc:t=0∨(consS l).length<(consOf d t).length
      ·obtain ⟨x,hx,hxm⟩:=ih ts (restS wildP l) r vs (by omega) hvs (restS_fit wildP hM) hR.2 (fun K=>by
        have:=hU' K
        rw[usS,if_neg (by decide),if_neg (by decide),if_pos hc] at this
        exact this) hm.2
       obtain ⟨y,hy,hs⟩:=List.mem_filterMap.1 hx
       refine ⟨y,hy,?_⟩
       cases y with
       |nil=>cases hs
       |cons q s=>
        simp only[restF] at hs
        split at hs
        ·rename_i hk
         cases hs
         obtain ⟨k',c',m',qs'⟩:=q
         have hk:k'=0:=of_decide_eq_true hk
         rw[mtL,mtP,if_pos hk,hxm];rfl
        ·cases hs
      ·have ht:t≠0:=fun e=>hc (.inl e)
       rw[if_neg ht] at hv
       obtain ⟨i,z,rfl,hz,hty⟩:=hv
       have hfz:fldsOf d t i=z.flds:=by unfold fldsOf;rw[hz]
       have hal:=tyL_len hty
       have hM':=spS_fit i hM
       rw[hfz] at hM'
       obtain ⟨x,hx,hxm⟩:=ih (z.flds++ts) (spS (i:Int) z.flds.length l) (List.replicate z.flds.length wildT++r) (av++vs) (by rw[vcntL_app];omega) (tyL_app hty hvs) hM' (fitR_app (fitR_wild d _) hR.2) (fun K=>by
        have:=hU' K
        rw[usS,if_neg (by decide),if_neg (by decide),if_neg hc,←Bool.not_eq_true,List.any_eq_true] at this
        cases hu:usS d K (z.flds++ts) (spS (i:Int) z.flds.length l) (List.replicate z.flds.length wildT++r) with
        |false=>rfl
        |true=>
         exact absurd ⟨i,List.mem_range.2 (List.getElem?_eq_some_iff.1 hz).1,by rw[hfz];exact hu⟩ this) (by
        rw[mtL_app (by simp[hal]),←hal,mtL_wild,hm.2];rfl)
       exact sp_back hx hal.symm hxm (sp_len hM hz)
     ·subst k2
      subst t0
      rw[if_neg (by decide),if_pos rfl,decide_eq_true_eq] at hm
      obtain ⟨x,hx,hxm⟩:=ih ts (restS (fun q=>wildP q || decide (nmP q=m)) l) r vs (by omega) hvs (restS_fit _ hM) hR.2 (fun K=>by
       have:=hU' K
       rw[usS,if_neg (by decide),if_pos rfl] at this
       exact this) hm.2
      obtain ⟨y,hy,hs⟩:=List.mem_filterMap.1 hx
      refine ⟨y,hy,?_⟩
      cases y with
      |nil=>cases hs
      |cons q s=>
       have hf:=hM _ hy
       simp only[fitR,Bool.and_eq_true] at hf
       simp only[restF] at hs
       split at hs
       ·rename_i hk
        cases hs
        obtain ⟨k',c',m',qs'⟩:=q
        have hk:k'=0∨m'=m:=((Bool.or_eq_true _ _).mp hk).imp of_decide_eq_true of_decide_eq_true
        rcases fits_cases hf.1 with ⟨h0,_⟩ | ⟨h2,_⟩ | ⟨_,h1,_⟩
        ·rw[mtL,mtP,if_pos h0,hxm];rfl
        ·subst h2
         have:m'=m:=by omega
         rw[mtL,mtP,if_neg (by decide),if_pos rfl,this,decide_eq_true hm.1,hxm];rfl
        ·exact absurd rfl h1
       ·cases hs
     ·subst k1
      rw[if_neg (by decide),if_neg (by decide),if_pos rfl,Bool.and_eq_true,decide_eq_true_eq] at hm
      obtain ⟨⟨hcon,hqa⟩,hrest⟩:=hm
      subst hcon
      rw[if_neg t0] at hv
      obtain ⟨j,z',e,hz',hty⟩:=hv
      have:j=i:=by omega
      subst this
      rw[hz] at hz';cases hz'
      have hfz:fldsOf d t j=z.flds:=by unfold fldsOf;rw[hz]
      have hal:=tyL_len hty
      have hM':=spS_fit j hM
      rw[hfz] at hM'
      obtain ⟨x,hx,hxm⟩:=ih (z.flds++ts) (spS (j:Int) z.flds.length l) (qs++r) (av++vs) (by rw[vcntL_app];omega) (tyL_app hty hvs) hM' (fitR_app hzR hR.2) (fun K=>by
       have:=hU' K
       rw[usS,if_pos rfl,Int.toNat_natCast,hfz,←hzl] at this
       exact this) (by rw[mtL_app (mtL_len hqa),hqa,hrest];rfl)
      exact sp_back hx hal.symm hxm (sp_len hM hz)
end Zc28
end
section
set_option maxHeartbeats 4000000
namespace Zc28
open Go Zv Zs
theorem check_fin {d:List Dt} (h:checkS d=0):finiteS d=true:=by
 have hT:=check_typed h
 unfold checkS at h
 by_cases h1:manyS d=true
 ·rw[if_pos h1] at h;exact absurd h (by decide)
 rw[if_neg h1] at h
 by_cases h2:formedS d=false
 ·rw[if_pos h2] at h;exact absurd h (by decide)
 rw[if_neg h2] at h
 by_cases h3:twiceS d=true
 ·rw[if_pos h3] at h;exact absurd h (by decide)
 rw[if_neg h3,if_neg (by rw[hT];simp)] at h
 by_cases h4:finiteS d=false
 ·rw[if_pos h4] at h;exact absurd h (by decide)
 simpa using h4
def Inh (d:List Dt) (M:List Bool):Prop:=∀ j:Nat,M[j]? = some true→∃ v,tyV d (j:Int) v
theorem inh_args {d:List Dt} {M:List Bool} (I:Inh d M):∀ (fs:List Int),(∀ f,f ∈ fs→0≤f)→fs.all (mk M)=true→∃ vs,tyL d fs vs
 | [],_,_=>⟨[],by rw[tyL];trivial⟩
 |f::fs,h0,h=>by
  simp only[List.all_cons,Bool.and_eq_true] at h
  obtain ⟨vs,hvs⟩:=inh_args I fs (fun g hg=>h0 g (.tail _ hg)) h.2
  have h1:=h.1
  unfold mk at h1
  rw[List.getD_eq_getElem?_getD] at h1
  have h2:M[f.toNat]? = some true:=by
   cases hm:M[f.toNat]? with
   |none=>rw[hm] at h1;cases h1
   |some b=>rw[hm] at h1;have:b=true:=h1;rw[this]
  obtain ⟨v,hv⟩:=I _ h2
  have:((f.toNat:Nat):Int)=f:=by have:=h0 f (.head _);omega
  rw[this] at hv
  exact⟨v::vs,by rw[tyL];exact⟨hv,hvs⟩⟩
theorem inh_stp {d:List Dt} (T:∀ y,y ∈ d→∀ c,c ∈ y.cons→∀ f,f ∈ c.flds→isT d f=true) {M:List Bool} (I:Inh d M) (i:Nat):Inh d (stp d M i):=by
 unfold stp
 cases hy:d[i]? with
 |none=>exact I
 |some y=>
  simp only
  split
  ·rename_i h
   obtain ⟨c,hc,ha⟩:=List.any_eq_true.1 h
   obtain ⟨vs,hvs⟩:=inh_args I c.flds (fun f hf=>by
    have:=T y (List.mem_of_getElem? hy) c hc f hf
    unfold isT at this
    simp only[Bool.and_eq_true,decide_eq_true_eq] at this
    exact this.1) ha
   obtain ⟨ci,hci⟩:=List.mem_iff_getElem?.1 hc
   intro j hj
   rw[List.getElem?_set] at hj
   split at hj
   ·rename_i e
    subst e
    refine ⟨.mk 0 (ci:Int) vs,?_⟩
    rw[tyV,if_neg (by omega)]
    exact⟨ci,c,rfl,by rw[show (((i+1:Nat):Int))=(i:Int)+1 by omega,consOf_at hy];exact hci,hvs⟩
   ·exact I j hj
  ·exact I
theorem inh_iter {d:List Dt} (T:∀ y,y ∈ d→∀ c,c ∈ y.cons→∀ f,f ∈ c.flds→isT d f=true):∀ n,Inh d (iter d (marks d) n)
 |0=>by
  intro j hj
  cases j with
  |zero=>exact⟨.mk 0 0 [],by rw[tyV];simp⟩
  |succ j=>
   have hj:(List.replicate d.length false)[j]? = some true:=hj
   rw[List.getElem?_replicate] at hj
   split at hj<;>cases hj
 |n+1=>by
  have ih:=inh_iter T n
  show Inh d (passN d _ d.length)
  generalize d.length=m
  induction m with
  |zero=>exact ih
  |succ m im=>exact inh_stp T im m
theorem inhab {d:List Dt} (h:checkS d=0) {t:Int} (ht:isT d t=true):∃ v,tyV d t v:=by
 have hf:=check_fin h
 have I:=inh_iter (typed_flds (check_typed h)) (d.length+1)
 unfold isT at ht
 simp only[Bool.and_eq_true,decide_eq_true_eq] at ht
 unfold finiteS at hf
 have hl:=iter_len d (marks d) (d.length+1)
 have hl2:(marks d).length=d.length+1:=by simp[marks]
 obtain ⟨b,hb⟩:=get_of_lt (l:=iter d (marks d) (d.length+1)) (n:=t.toNat) (by omega)
 have:=List.all_eq_true.1 hf b (List.mem_of_getElem? hb)
 have hbt:b=true:=this
 subst hbt
 obtain ⟨v,hv⟩:=I _ hb
 have:((t.toNat:Nat):Int)=t:=by omega
 rw[this] at hv
 exact⟨v,hv⟩
end Zc28
end
section
set_option maxHeartbeats 4000000
namespace Zc28
open Go Zv Zs
def nbV:Vl→Int
 | .mk m _ _=>m
def domV (d:List Dt) (t:Int) (ex:List Int) (v:Vl):Prop:=tyV d t v∧(t=0→nbV v ∉ ex)
def domL (d:List Dt):List Int→List (List Int)→List Vl→Prop
 | [],[],[]=>True
 |t::ts,e::es,v::vs=>domV d t e v∧domL d ts es vs
 |_,_,_=>False
theorem domL_len {d:List Dt}:∀ {ts:List Int} {es:List (List Int)} {vs:List Vl},domL d ts es vs→vs.length=ts.length∧es.length=ts.length
 | [],[],[],_=>⟨rfl,rfl⟩
 |_::_,_::_,_::_,h=>by
  rw[domL] at h
  have:=domL_len h.2
  exact⟨by simp[this.1],by simp[this.2]⟩
 | [],[],_::_,h=>h.elim
 | [],_::_,_,h=>h.elim
 |_::_,[],_,h=>h.elim
 |_::_,_::_,[],h=>h.elim
theorem domL_app {d:List Dt}:∀ {ts ts':List Int} {es es':List (List Int)} {vs vs':List Vl},domL d ts es vs→domL d ts' es' vs'→domL d (ts++ts') (es++es') (vs++vs')
 | [],_,[],_,[],_,_,h=>h
 |_::_,_,_::_,_,_::_,_,h,h'=>by
  rw[domL] at h
  exact⟨h.1,domL_app h.2 h'⟩
 | [],_,[],_,_::_,_,h,_=>h.elim
 | [],_,_::_,_,_,_,h,_=>h.elim
 |_::_,_,[],_,_,_,h,_=>h.elim
 |_::_,_,_::_,_,[],_,h,_=>h.elim
theorem domL_split {d:List Dt}:∀ {ts ts':List Int} {es es':List (List Int)} {ws:List Vl},ts.length=es.length→domL d (ts++ts') (es++es') ws→∃ vs vs',ws=vs++vs'∧domL d ts es vs∧domL d ts' es' vs'
 | [],_,[],_,ws,_,h=>⟨[],ws,rfl,trivial,h⟩
 |t::ts,ts',e::es,es',w::ws,hl,h=>by
  have h:domV d t e w∧domL d (ts++ts') (es++es') ws:=h
  obtain ⟨vs,vs',rfl,h1,h2⟩:=domL_split (by simpa using hl) h.2
  exact⟨w::vs,vs',rfl,⟨h.1,h1⟩,h2⟩
 |_::_,_,_::_,_,[],_,h=>h.elim
 | [],_,_::_,_,_,hl,_=>by cases hl
 |_::_,_,[],_,_,hl,_=>by cases hl
theorem domL_ty {d:List Dt}:∀ {ts:List Int} {n:Nat} {vs:List Vl},domL d ts (List.replicate n []) vs→tyL d ts vs
 | [],0,[],_=>by rw[tyL];trivial
 |t::ts,n+1,v::vs,h=>by
  have h:domV d t [] v∧domL d ts (List.replicate n []) vs:=h
  rw[tyL]
  exact⟨h.1.1,domL_ty h.2⟩
 | [],0,_::_,h=>h.elim
 | [],_+1,_,h=>h.elim
 |_::_,0,_,h=>h.elim
 |_::_,_+1,[],h=>h.elim
theorem ty_domL {d:List Dt}:∀ {ts:List Int} {vs:List Vl},tyL d ts vs→domL d ts (List.replicate ts.length []) vs
 | [],[],_=>trivial
 |t::ts,v::vs,h=>by
  rw[tyL] at h
  exact⟨⟨h.1,fun _=>by simp⟩,ty_domL h.2⟩
 | [],_::_,h=>h.elim
 |_::_,[],h=>h.elim
theorem dom_inh {d:List Dt} (h:checkS d=0):∀ {ts:List Int} {es:List (List Int)},es.length=ts.length→(∀ t,t ∈ ts→isT d t=true)→∃ vs,domL d ts es vs
 | [],[],_,_=>⟨[],trivial⟩
 |t::ts,e::es,hl,ht=>by
  obtain ⟨vs,hvs⟩:=dom_inh h (ts:=ts) (es:=es) (by simpa using hl) (fun x hx=>ht x (.tail _ hx))
  by_cases h0:t=0
  ·subst h0
   exact⟨.mk ((missN e:Nat):Int) 0 []::vs,⟨⟨by rw[tyV];simp,fun _=>(missN_spec e).1⟩,hvs⟩⟩
  ·obtain ⟨v,hv⟩:=inhab h (ht t (.head _))
   exact⟨v::vs,⟨⟨hv,fun e=>absurd e h0⟩,hvs⟩⟩
 | [],_::_,hl,_=>by cases hl
 |_::_,[],hl,_=>by cases hl
def freshL:List Int→List (List Int)→List Pt→Prop
 |t::ts,e::es,p::ps=>(t=0→kdP p≠0→nmP p ∉ e)∧freshL ts es ps
 |_,_,_=>True
theorem freshL_app:∀ {ts ts':List Int} {es es':List (List Int)} {ps ps':List Pt},ts.length=es.length→ts.length=ps.length→(freshL (ts++ts') (es++es') (ps++ps') ↔ freshL ts es ps∧freshL ts' es' ps')
 | [],_,[],_,[],_,_,_=>by simp[freshL]
 |t::ts,ts',e::es,es',p::ps,ps',h1,h2=>by
  simp only[List.cons_append,freshL]
  rw[freshL_app (by simpa using h1) (by simpa using h2),and_assoc]
 | [],_,_::_,_,_,_,h,_=>by cases h
 | [],_,[],_,_::_,_,_,h=>by cases h
 |_::_,_,[],_,_,_,h,_=>by cases h
 |_::_,_,_::_,_,[],_,_,h=>by cases h
theorem freshL_none:∀ (ts:List Int) (n:Nat) (ps:List Pt),freshL ts (List.replicate n []) ps
 | [],_,_=>by unfold freshL;trivial
 |_::_,0,_=>by unfold freshL;trivial
 |_::_,_+1,[]=>by unfold freshL;trivial
 |t::ts,n+1,p::ps=>by
  show freshL (t::ts) ([]::List.replicate n []) (p::ps)
  exact⟨fun _ _=>by simp,freshL_none ts n ps⟩
def CovL (d:List Dt) (ts:List Int) (ps:List (List Pt)):Prop:=
 ∃ es:List (List Int),es.length=ts.length∧(∀ vs,domL d ts es vs→∃ r,r ∈ ps∧mtL r vs=true)∧∀ r,r ∈ ps→freshL ts es r
theorem CovL.ne {d:List Dt} (h:checkS d=0) {ts:List Int} {ps:List (List Pt)} (ht:∀ t,t ∈ ts→isT d t=true) (C:CovL d ts ps):ps≠[]:=by
 obtain ⟨es,h1,h2,_⟩:=C
 obtain ⟨vs,hvs⟩:=dom_inh h h1 ht
 obtain ⟨r,hr,_⟩:=h2 vs hvs
 intro e;rw[e] at hr;cases hr
theorem covL0 {d:List Dt} {ts:List Int} {ps:List (List Pt)} (hM:fitM d ts ps) (hU:∀ K,usS d K ts ps (List.replicate ts.length wildT)=false):CovL d ts ps:=by
 refine ⟨List.replicate ts.length [],by simp,fun vs hv=>?_,fun r _=>freshL_none ..⟩
 have hty:=domL_ty hv
 have hl:=tyL_len hty
 exact cover (vcntL vs) ts ps (List.replicate ts.length wildT) vs (Nat.le_refl _) hty hM (fitR_wild d ts) hU (by rw[←hl];exact mtL_wild vs)
theorem fitR_split {d:List Dt}:∀ {ts ts':List Int} {ps ps':List Pt},ts.length=ps.length→fitR d (ts++ts') (ps++ps')=true→fitR d ts ps=true∧fitR d ts' ps'=true
 | [],_,[],_,_,h=>⟨rfl,h⟩
 |t::ts,ts',p::ps,ps',hl,h=>by
  simp only[List.cons_append,fitR,Bool.and_eq_true] at h ⊢
  have:=fitR_split (by simpa using hl) h.2
  exact⟨⟨h.1,this.1⟩,this.2⟩
 | [],_,_::_,_,hl,_=>by cases hl
 |_::_,_,[],_,hl,_=>by cases hl
end Zc28
end
section
set_option maxHeartbeats 4000000
namespace Zc28
open Go Zv Zs
def zT:Ts:=⟨[],false,0,[],0⟩
def leafAt (n:Int):Ts:=⟨[],false,0,[],n⟩
def patAt (r:Rw) (k:Nat):Pt:=r.pats.getD k wildT
def argsFor (p:Pt) (con:Int) (nf:Nat):Option (List Pt):=if kdP p=0 then some (List.replicate nf wildT) else if cnP p=con then some (argsP p) else none
def putP (r:Rw) (k:Nat) (a:List Pt):Rw:=⟨r.n,r.pats.take k++a++r.pats.drop (k+1)⟩
def conRow (k:Nat) (con:Int) (nf:Nat) (r:Rw):Option Rw:=(argsFor (patAt r k) con nf).map (putP r k)
def sameB (k:Nat) (num:Int) (r:Rw):Bool:=decide (kdP (patAt r k)=0) || decide (nmP (patAt r k)=num)
def othB (k:Nat) (num:Int) (r:Rw):Bool:=decide (kdP (patAt r k)=0) || decide (nmP (patAt r k)≠num)
def conRows (k:Nat) (con:Int) (nf:Nat) (rows:List Rw):List Rw:=rows.filterMap (conRow k con nf)
def sameRows (k:Nat) (num:Int) (rows:List Rw):List Rw:=rows.filterMap fun r=>if sameB k num r=true then some (putP r k []) else none
def othRows (k:Nat) (num:Int) (rows:List Rw):List Rw:=rows.filter (othB k num)
def fldC (path fs:List Int):List Co:=fs.zipIdx.map fun q=>⟨path++[(q.2:Int)],q.1⟩
def putC (cols:List Co) (k:Nat) (a:List Co):List Co:=cols.take k++a++cols.drop (k+1)
abbrev Bld:=List Ts→List Co→List Rw→List Ts × Int
def conL (f:Bld) (cols:List Co) (rows:List Rw) (k:Nat) (c:Co):Nat→List Cn→List Ts→List Int→List Ts × List Int
 |_,[],out,nx=>(out,nx)
 |i,z::zs,out,nx=>conL f cols rows k c (i+1) zs (f out (putC cols k (fldC c.path z.flds)) (conRows k (i:Int) z.flds.length rows)).1 (nx++[(f out (putC cols k (fldC c.path z.flds)) (conRows k (i:Int) z.flds.length rows)).2])
def bldC (d:List Dt) (f:Bld) (cols:List Co) (rows:List Rw) (k:Nat) (c:Co) (out:List Ts):List Ts × Int:=
 ((conL f cols rows k c 0 (consOf d c.ty) (out++[zT]) []).1.set out.length ⟨c.path,true,0,(conL f cols rows k c 0 (consOf d c.ty) (out++[zT]) []).2,0⟩,(out.length:Int))
def bldN (f:Bld) (cols:List Co) (rows:List Rw) (r0:Rw) (k:Nat) (c:Co) (out:List Ts):List Ts × Int:=
 let num:=nmP (patAt r0 k)
 let q1:=f (out++[zT]) (putC cols k []) (sameRows k num rows)
 let q2:=f q1.1 cols (othRows k num rows)
 (q2.1.set out.length ⟨c.path,false,num,[q1.2,q2.2],0⟩,(out.length:Int))
def bldK (d:List Dt) (f:Bld) (cols:List Co) (rows:List Rw) (r0:Rw) (z:Int) (out:List Ts):List Ts × Int:=
 match getI cols z with
 |none=>(out++[leafAt r0.n],(out.length:Int))
 |some c=>if c.ty=0 then bldN f cols rows r0 z.toNat c out else bldC d f cols rows z.toNat c out
def nwB (p:Pt):Bool := !wildP p
def bldB (d:List Dt) (f:Bld) (cols:List Co) (rows:List Rw) (out:List Ts):List Ts × Int:=
 match rows with
 | []=>(out++[zT],(out.length:Int))
 |r0::_=>bldK d f cols rows r0 (idxZ nwB r0.pats) out
def buildS (d:List Dt):Nat→Bld
 |0,out,_,_=>(out,(out.length:Int))
 |k+1,out,cols,rows=>if 4096<out.length then (out,(out.length:Int)) else bldB d (buildS d k) cols rows out
theorem same_snoc (k:Nat) (num:Int) {rows:List Rw} {i:Nat} {r:Rw} (h:rows[i]? = some r):sameRows k num (rows.take (i+1))=sameRows k num (rows.take i)++if sameB k num r=true then [putP r k []] else []:=by
 unfold sameRows
 rw[List.take_add_one,h,Option.toList_some,List.filterMap_append]
 congr 1
 by_cases hb:sameB k num r=true<;>simp[hb]
theorem oth_snoc (k:Nat) (num:Int) {rows:List Rw} {i:Nat} {r:Rw} (h:rows[i]? = some r):othRows k num (rows.take (i+1))=othRows k num (rows.take i)++if othB k num r=true then [r] else []:=by
 unfold othRows
 rw[List.take_add_one,h,Option.toList_some,List.filter_append]
 congr 1
 by_cases hb:othB k num r=true<;>simp[hb]
theorem con_snoc (k:Nat) (con:Int) (nf:Nat) {rows:List Rw} {i:Nat} {r:Rw} (h:rows[i]? = some r):conRows k con nf (rows.take (i+1))=conRows k con nf (rows.take i)++(conRow k con nf r).toList:=by
 unfold conRows
 rw[List.take_add_one,h,Option.toList_some,List.filterMap_append]
 cases hb:conRow k con nf r<;>simp[hb]
theorem fldC_snoc (path:List Int) {fs:List Int} {n:Nat} {f:Int} (h:fs[n]? = some f):fldC path (fs.take (n+1))=fldC path (fs.take n)++[⟨path++[(n:Int)],f⟩]:=by
 have hn:=(List.getElem?_eq_some_iff.1 h).1
 rw[List.take_add_one,h]
 unfold fldC
 rw[Option.toList_some,List.zipIdx_append,List.map_append]
 simp[show min n fs.length=n by omega]
def LenB (f:Bld):Prop:=∀ out cols rows,out.length≤(f out cols rows).1.length∧(out.length≤4097→(f out cols rows).1.length≤4097)
theorem conL_len {f:Bld} (h:LenB f) (cols:List Co) (rows:List Rw) (k:Nat) (c:Co):∀ (zs:List Cn) (i:Nat) (out:List Ts) (nx:List Int),out.length≤(conL f cols rows k c i zs out nx).1.length∧(out.length≤4097→(conL f cols rows k c i zs out nx).1.length≤4097)∧(conL f cols rows k c i zs out nx).2.length=nx.length+zs.length
 | [],i,out,nx=>⟨Nat.le_refl _,fun h=>h,rfl⟩
 |z::zs,i,out,nx=>by
  have h1:=h out (putC cols k (fldC c.path z.flds)) (conRows k (i:Int) z.flds.length rows)
  have h2:=conL_len h cols rows k c zs (i+1) (f out (putC cols k (fldC c.path z.flds)) (conRows k (i:Int) z.flds.length rows)).1 (nx++[(f out (putC cols k (fldC c.path z.flds)) (conRows k (i:Int) z.flds.length rows)).2])
  unfold conL
  refine ⟨by omega,fun h=>h2.2.1 (h1.2 h),?_⟩
  rw[h2.2.2,List.length_append,List.length_cons,List.length_cons,List.length_nil];omega
theorem buildS_len (d:List Dt):∀ k,LenB (buildS d k)
 |0=>fun out _ _=>⟨Nat.le_refl _,fun h=>h⟩
 |k+1=>by
  intro out cols rows
  have ih:=buildS_len d k
  have hl:∀ t:Ts,(out++[t]).length=out.length+1:=fun t=>by simp
  unfold buildS
  split
  ·exact⟨Nat.le_refl _,fun h=>h⟩
  rename_i h4
  unfold bldB
  split
  ·exact⟨by rw[hl];omega,fun h=>by rw[hl];omega⟩
  rename_i r0 rs
  unfold bldK
  split
  ·exact⟨by rw[hl];omega,fun h=>by rw[hl];omega⟩
  split
  ·unfold bldN
   simp only[List.length_set]
   rename_i c _ _
   have h1:=ih (out++[zT]) (putC cols (idxZ nwB r0.pats).toNat []) (sameRows (idxZ nwB r0.pats).toNat (nmP (patAt r0 (idxZ nwB r0.pats).toNat)) (r0::rs))
   have h2:=ih (buildS d k (out++[zT]) (putC cols (idxZ nwB r0.pats).toNat []) (sameRows (idxZ nwB r0.pats).toNat (nmP (patAt r0 (idxZ nwB r0.pats).toNat)) (r0::rs))).1 cols (othRows (idxZ nwB r0.pats).toNat (nmP (patAt r0 (idxZ nwB r0.pats).toNat)) (r0::rs))
   rw[hl] at h1
   exact⟨by omega,fun h=>h2.2 (h1.2 (by omega))⟩
  ·unfold bldC
   simp only[List.length_set]
   rename_i c _ _
   have h1:=conL_len ih cols (r0::rs) (idxZ nwB r0.pats).toNat c (consOf d c.ty) 0 (out++[zT]) []
   rw[hl] at h1
   exact⟨by omega,fun h=>h1.2.1 (by omega)⟩
def nwW (rows:List Rw):Nat:=(rows.map fun r=>nwL r.pats).sum
structure BI (d:List Dt) (k:Nat) (cols:List Co) (rows:List Rw):Prop where
 fit:∀ r,r ∈ rows→fitR d (cols.map Co.ty) r.pats=true
 typ:∀ c,c ∈ cols→isT d c.ty=true
 nw:nwW rows<k
 path:∀ c,c ∈ cols→c.path.length+k≤100
 len:cols.length+8*k≤1000
 rl:rows.length≤6
 chk:checkS d=0
 flds:∀ y,y ∈ d→∀ c,c ∈ y.cons→c.flds.length≤8
 cov:CovL d (cols.map Co.ty) (rows.map Rw.pats)
theorem BI.ne {d:List Dt} {k:Nat} {cols:List Co} {rows:List Rw} (I:BI d k cols rows):rows≠[]:=by
 have:=I.cov.ne I.chk (fun t ht=>by obtain ⟨c,hc,rfl⟩:=List.mem_map.1 ht;exact I.typ c hc)
 intro e;rw[e] at this;exact this rfl
end Zc28
end
section
set_option maxHeartbeats 4000000
namespace Zc28
open Go Zv Zs
structure RA (Y:List (Nat × Ob)) (q q0 es:Nat) (v:V) (S:List D) (m:Nat):Prop where
 v:v=rowN m es S
 row:S≠[]→Zv.look Y m=some (.arr es (S.map .d))
 lo:S≠[]→q0≤m
 hi:S≠[]→m<q
theorem RA.nil (Y:List (Nat × Ob)) (q q0 es m:Nat):RA Y q q0 es (.tl [] (some true)) [] m:=⟨rfl,fun h=>absurd rfl h,fun h=>absurd rfl h,fun h=>absurd rfl h⟩
theorem RA.mono {Y Y':List (Nat × Ob)} {q q' q0 es m:Nat} {v:V} {S:List D} (R:RA Y q q0 es v S m) (hq:q≤q') (h:S≠[]→Zv.look Y' m=Zv.look Y m):RA Y' q' q0 es v S m:=
 ⟨R.v,fun hs=>by rw[h hs];exact R.row hs,R.lo,fun hs=>by have:=R.hi hs;omega⟩
theorem app_row {es b m q:Nat} {Y:List (Nat × Ob)} {S:List D} {x:D} {nl:Option Bool} (hr:Zv.look Y m=some (.arr es (S.map .d))) (hx:x.cells.length=es) (hb:(S.length+1)*b≤roomB) :
  app es b ⟨Y,q⟩ (.own m es S.length 0 S.length) (.tl [.d x] nl)=some (.own m es (S.length+1) 0 (S.length+1),⟨Zv.upd Y m (.arr es ((S++[x]).map .d)),q⟩):=by
 have hrow:(⟨Y,q⟩:Hp).row m S.length=some (es,S.map .d):=row_of hr (by simp)
 have hxs:allV es [V.d x]=true:=by simp[allV,V.cells,hx]
 have h1:¬ S.length+1≤S.length:=by omega
 have h2:List.take S.length (S.map V.d)=S.map V.d:=List.take_of_length_le (by simp)
 unfold app
 simp only[elems,Option.bind_some,List.map_cons,List.map_nil,norm_d,hxs,if_true,hrow,List.length_map,Nat.zero_add,Nat.le_refl,and_self,List.isEmpty_cons,Bool.false_eq_true,if_false,List.length_cons,List.length_nil,h1,hb,h2,Hp.set,List.map_append]
theorem ra_app {Y:List (Nat × Ob)} {q q0 es b m:Nat} {v:V} {S:List D} {x:D} {nl:Option Bool} (R:RA Y q q0 es v S m) (hq:q0≤q) (hx:x.cells.length=es) (hb:(S.length+1)*b≤roomB) :
  ∃ v' Y' q' m',app es b ⟨Y,q⟩ v (.tl [.d x] nl)=some (v',⟨Y',q'⟩)∧RA Y' q' q0 es v' (S++[x]) m'∧q≤q'∧(S≠[]→m'=m)∧(S=[]→q≤m')∧∀ n,n<q→(S≠[]→n≠m)→Zv.look Y' n=Zv.look Y n:=by
 by_cases hs:S=[]
 ·subst hs
  refine ⟨.own q es 1 0 1,(q,.arr es [.d x])::Y,q+1,q,?_,⟨rfl,fun _=>look_hd ..,fun _=>hq,fun _=>by omega⟩,by omega,fun h=>absurd rfl h,fun _=>Nat.le_refl _,fun n hn _=>look_tl _ _ (by omega)⟩
  have hxs:allV es [V.d x]=true:=by simp[allV,V.cells,hx]
  have hb':b≤roomB:=by simpa using hb
  rw[R.v]
  simp[rowN,app,elems,hxs,norm_d,Hp.alloc,hb',allV,V.cells,hx]
 ·have hv:v=.own m es S.length 0 S.length:=by rw[R.v];exact if_neg hs
  refine ⟨.own m es (S.length+1) 0 (S.length+1),Zv.upd Y m (.arr es ((S++[x]).map .d)),q,m,?_,⟨?_,fun _=>?_,fun _=>R.lo hs,fun _=>R.hi hs⟩,Nat.le_refl _,fun _=>rfl,fun h=>absurd h hs,fun n _ hn=>?_⟩
  ·rw[hv];exact app_row (R.row hs) hx hb
  ·unfold rowN;rw[if_neg (by simp),List.length_append];rfl
  ·rw[Zs.look_upd,if_pos rfl,R.row hs];rfl
  ·rw[Zs.look_upd,if_neg (hn hs)]
theorem ra_frz {Y:List (Nat × Ob)} {q q0 es m:Nat} {v:V} {S:List D} (R:RA Y q q0 es v S m) :
  ∃ Y',(∀ nx,Zv.frz ⟨Y,nx⟩ v=some (.d (.lst S),⟨Y',nx⟩))∧∀ n,(S≠[]→n≠m)→Zv.look Y' n=Zv.look Y n:=by
 by_cases hs:S=[]
 ·subst hs
  exact⟨Y,fun nx=>by rw[R.v];rfl,fun n _=>rfl⟩
 ·have hv:v=.own m es S.length 0 S.length:=by rw[R.v];exact if_neg hs
  refine ⟨Zv.del Y m,fun nx=>?_,fun n hn=>look_del (hn hs) _⟩
  rw[hv,frz_row (row_of (R.row hs) (by simp))]
  rfl
theorem ra_app2 {Y:List (Nat × Ob)} {q q0 es es2 b m m2:Nat} {v v2:V} {S S2:List D} {x:D} {nl:Option Bool} (R:RA Y q q0 es v S m) (R2:RA Y q q0 es2 v2 S2 m2) (hd:S≠[]→S2≠[]→m≠m2) (hq:q0≤q) (hx:x.cells.length=es) (hb:(S.length+1)*b≤roomB) :
  ∃ v' Y' q' m',app es b ⟨Y,q⟩ v (.tl [.d x] nl)=some (v',⟨Y',q'⟩)∧RA Y' q' q0 es v' (S++[x]) m'∧RA Y' q' q0 es2 v2 S2 m2∧(S2≠[]→m'≠m2)∧q≤q'∧∀ n,n<q0→Zv.look Y' n=Zv.look Y n:=by
 obtain ⟨v',Y',q',m',h1,h2,h3,h4,h5,h6⟩:=ra_app (nl:=nl) R hq hx hb
 refine ⟨v',Y',q',m',h1,h2,R2.mono h3 fun hs=>h6 m2 (R2.hi hs) fun hs1 e=>hd hs1 hs e.symm,fun hs=>?_,h3,fun n hn=>h6 n (by omega) fun hs=>by have:=R.lo hs;omega⟩
 by_cases h0:S=[]
 ·have:=h5 h0;have:=R2.hi hs;omega
 ·rw[h4 h0];exact hd h0 hs
theorem RA.fr {Y Y':List (Nat × Ob)} {q q' q0 es m m2:Nat} {v:V} {S:List D} (R:RA Y q q0 es v S m) (hq:q≤q') (h:∀ n,n<q→n≠m2→Zv.look Y' n=Zv.look Y n) (hm:S≠[]→m≠m2):RA Y' q' q0 es v S m:=
 R.mono hq fun hs=>h m (R.hi hs) (hm hs)
theorem mk_z:norm (V.agg [.tl [] (some true),.d (.bool false),.d (.int .i64 0),.tl [] (some true),.d (.int .i64 0)])=.d (eT zT):=rfl
theorem mk_z1:mkAgg [.tl [] (some true),.d (.bool false),.d (.int .i64 0),.tl [] (some true),.d (.int .i64 0)]=V.agg [.tl [] (some true),.d (.bool false),.d (.int .i64 0),.tl [] (some true),.d (.int .i64 0)]:=rfl
section
variable (d:List Dt) (ov dv bv:Nat)
structure VB (X:List (Nat × Ob)) (out:List Ts) (m:Nat):Prop where
 iov:Zv.look X ov=some (.arr 1 [.own m 5 out.length 0 out.length])
 irow:Zv.look X m=some (.arr 5 ((out.map eT).map .d))
 idv:Zv.look X dv=some (.arr 1 [.d (eDs d)])
 ibv:Zv.look X bv=some (.arr 1 [.clo 37 [.ptr ov 1 0 0,.ptr dv 1 0 0,.ptr bv 1 0 0]])
def VS (X:List (Nat × Ob)) (out:List Ts) (m q:Nat):Prop:=
 (out≠[]∧VB d ov dv bv X out m∧m<q)∨(out=[]∧Zv.look X ov=some (.arr 1 [.agg [.tl [] (some true)]])∧Zv.look X dv=some (.arr 1 [.d (eDs d)])∧Zv.look X bv=some (.arr 1 [.clo 37 [.ptr ov 1 0 0,.ptr dv 1 0 0,.ptr bv 1 0 0]]))
def FrB (m q:Nat) (X X':List (Nat × Ob)):Prop:=∀ n,n<q→n≠ov→n≠m→Zv.look X' n=Zv.look X n
variable {d ov dv bv}
theorem VB.ne1 {X:List (Nat × Ob)} {out:List Ts} {m:Nat} (I:VB d ov dv bv X out m):m≠ov∧m≠dv∧m≠bv∧dv≠ov∧bv≠ov:=by
 refine ⟨?_,?_,?_,?_,?_⟩<;>intro e
 ·have h1:=I.irow;rw[e,I.iov] at h1;cases h1
 ·have h1:=I.irow;rw[e,I.idv] at h1;cases h1
 ·have h1:=I.irow;rw[e,I.ibv] at h1;cases h1
 ·have h1:=I.idv;rw[e,I.iov] at h1;cases h1
 ·have h1:=I.ibv;rw[e,I.iov] at h1;cases h1
theorem VB.same {X X':List (Nat × Ob)} {out:List Ts} {m:Nat} (I:VB d ov dv bv X out m) (h1:Zv.look X' ov=Zv.look X ov) (h2:Zv.look X' m=Zv.look X m) (h3:Zv.look X' dv=Zv.look X dv) (h4:Zv.look X' bv=Zv.look X bv):VB d ov dv bv X' out m:=
 ⟨by rw[h1];exact I.iov,by rw[h2];exact I.irow,by rw[h3];exact I.idv,by rw[h4];exact I.ibv⟩
theorem VB.put {X:List (Nat × Ob)} {out out':List Ts} {m:Nat} (I:VB d ov dv bv X out m) (hl:out'.length=out.length):VB d ov dv bv (Zv.upd X m (.arr 5 ((out'.map eT).map .d))) out' m:=by
 obtain ⟨n1,n2,n3,n4,n5⟩:=I.ne1
 refine ⟨?_,?_,?_,?_⟩<;>rw[Zs.look_upd]
 ·rw[if_neg (fun e=>n1 e.symm),hl];exact I.iov
 ·rw[if_pos rfl,I.irow];rfl
 ·rw[if_neg (fun e=>n2 e.symm)];exact I.idv
 ·rw[if_neg (fun e=>n3 e.symm)];exact I.ibv
theorem vs_add {X:List (Nat × Ob)} {out:List Ts} {m q:Nat} (I:VS d ov dv bv X out m q) (ho:ov<q) (hd:dv<q) (hb:bv<q) (hl:out.length≤4096) :
  ∃ w outL,(∀ nx,Hp.row ⟨X,nx⟩ ov 1=some (1,[w]))∧w.cells[0]? = some outL∧lenL outL=some (.d (.int .i64 (out.length:Int))) ∧
   ∃ m' X2 q2 H1,app 5 72 ⟨X,q⟩ outL (.tl [.d (eT zT)] (some false))=some (.own m' 5 (out.length+1) 0 (out.length+1),H1)∧st 1 H1 (.ptr ov 1 0 0) (.own m' 5 (out.length+1) 0 (out.length+1))=some ⟨X2,q2⟩ ∧
    VB d ov dv bv X2 (out++[zT]) m'∧m'<q2∧q≤q2∧(out≠[]→m'=m)∧(out=[]→q≤m')∧FrB ov m' q X X2:=by
 rcases I with ⟨h0,I,hm⟩ | ⟨rfl,i1,i2,i3⟩
 ·obtain ⟨n1,n2,n3,n4,n5⟩:=I.ne1
  refine ⟨_,_,fun nx=>row_of I.iov rfl,rfl,rfl,m,Zv.upd (Zv.upd X m (.arr 5 (((out++[zT]).map eT).map .d))) ov (.arr 1 [.own m 5 (out.length+1) 0 (out.length+1)]),q,⟨Zv.upd X m (.arr 5 (((out++[zT]).map eT).map .d)),q⟩,?_,?_,?_,hm,Nat.le_refl _,fun _=>rfl,fun h=>absurd h h0,?_⟩
  ·have:=app_row (es:=5) (b:=72) (m:=m) (q:=q) (Y:=X) (S:=out.map eT) (x:=eT zT) (nl:=some false) I.irow rfl (by rw[List.length_map];unfold roomB;omega)
   rw[List.length_map] at this
   rw[this]
   simp
  ·have hr:Hp.row ⟨Zv.upd X m (.arr 5 (((out++[zT]).map eT).map .d)),q⟩ ov 1=some (1,[.own m 5 out.length 0 out.length]):=row_of (by rw[Zs.look_upd,if_neg (fun e=>n1 e.symm)];exact I.iov) rfl
   rw[st_all (i:=0) hr rfl rfl rfl]
   rfl
  ·refine ⟨?_,?_,?_,?_⟩<;>rw[Zs.look_upd]
   ·rw[if_pos rfl,Zs.look_upd,if_neg (fun e=>n1 e.symm),I.iov,List.length_append];rfl
   ·rw[if_neg n1,Zs.look_upd,if_pos rfl,I.irow];rfl
   ·rw[if_neg n4,Zs.look_upd,if_neg (fun e=>n2 e.symm)];exact I.idv
   ·rw[if_neg n5,Zs.look_upd,if_neg (fun e=>n3 e.symm)];exact I.ibv
  ·intro n _ h1 h2
   rw[Zs.look_upd,if_neg h1,Zs.look_upd,if_neg h2]
 ·refine ⟨_,_,fun nx=>row_of i1 rfl,rfl,rfl,q,Zv.upd ((q,.arr 5 [.d (eT zT)])::X) ov (.arr 1 [.own q 5 1 0 1]),q+1,⟨(q,.arr 5 [.d (eT zT)])::X,q+1⟩,?_,?_,?_,by omega,by omega,fun h=>absurd rfl h,fun _=>Nat.le_refl _,?_⟩
  ·exact app_0 (eT zT) rfl _ _ _
  ·have hr:Hp.row ⟨(q,.arr 5 [.d (eT zT)])::X,q+1⟩ ov 1=some (1,[.agg [.tl [] (some true)]]):=row_of (by rw[look_tl _ _ (by omega)];exact i1) rfl
   rw[show ([]:List Ts).length+1=1 from rfl,st_all (i:=0) hr rfl rfl rfl]
   rfl
  ·refine ⟨?_,?_,?_,?_⟩<;>rw[Zs.look_upd]
   ·rw[if_pos rfl,look_tl _ _ (by omega),i1];rfl
   ·rw[if_neg (by omega),look_hd];rfl
   ·rw[if_neg (fun e=>by rw[e,i1] at i2;cases i2),look_tl _ _ (by omega)];exact i2
   ·rw[if_neg (fun e=>by rw[e,i1] at i3;cases i3),look_tl _ _ (by omega)];exact i3
  ·intro n hn h1 h2
   rw[Zs.look_upd,if_neg h1,look_tl _ _ h2]
end
end Zc28
end
section
set_option maxHeartbeats 4000000
namespace Zc28
open Go Zv Zs
theorem take_drop_at {α:Type} {l:List α} {n:Nat} {x:α} (h:l[n]? = some x):l=l.take n++x::l.drop (n+1):=by
 obtain ⟨h1,h2⟩:=List.getElem?_eq_some_iff.1 h
 rw[←h2,←List.drop_eq_getElem_cons h1,List.take_append_drop]
theorem row_at {d:List Dt} {ta tb:List Int} {t:Int} {ps:List Pt} (h:fitR d (ta++t::tb) ps=true):∃ pa p pb,ps=pa++p::pb∧pa.length=ta.length∧fitR d ta pa=true∧fitsP d t p=true∧fitR d tb pb=true:=by
 have hl:=fitR_len h
 rw[List.length_append,List.length_cons] at hl
 obtain ⟨p,hp⟩:=get_of_lt (l:=ps) (n:=ta.length) (by omega)
 have e:=take_drop_at hp
 have hta:(ps.take ta.length).length=ta.length:=by rw[List.length_take];omega
 rw[e] at h
 obtain ⟨h1,h2⟩:=fitR_split hta.symm h
 simp only[fitR,Bool.and_eq_true] at h2
 exact⟨_,p,_,e,hta,h1,h2.1,h2.2⟩
theorem patAt_mid {n:Int} {pa pb:List Pt} {p:Pt} {k:Nat} (h:pa.length=k):patAt ⟨n,pa++p::pb⟩ k=p:=by
 unfold patAt;subst h;simp
theorem putP_mid {n:Int} {pa pb a:List Pt} {p:Pt} {k:Nat} (h:pa.length=k):putP ⟨n,pa++p::pb⟩ k a=⟨n,pa++a++pb⟩:=by
 unfold putP;subst h;simp
theorem putC_mid {ca cb a:List Co} {c:Co} {k:Nat} (h:ca.length=k):putC (ca++c::cb) k a=ca++a++cb:=by
 unfold putC;subst h;simp
theorem es_at {ta tb:List Int} {t:Int} {es:List (List Int)} (h:es.length=(ta++t::tb).length):∃ ea e eb,es=ea++e::eb∧ea.length=ta.length∧eb.length=tb.length:=by
 rw[List.length_append,List.length_cons] at h
 obtain ⟨e,he⟩:=get_of_lt (l:=es) (n:=ta.length) (by omega)
 refine ⟨_,e,_,take_drop_at he,by rw[List.length_take];omega,by rw[List.length_drop];omega⟩
theorem nw_filterMap {f:Rw→Option Rw}:∀ rows:List Rw,(∀ r,r ∈ rows→∀ r',f r=some r'→nwL r'.pats≤nwL r.pats)→nwW (rows.filterMap f)≤nwW rows
 | [],_=>Nat.le_refl _
 |r::rs,hf=>by
  have ih:=nw_filterMap rs fun r hr=>hf r (.tail _ hr)
  unfold nwW at ih ⊢
  cases h:f r with
  |none=>rw[List.filterMap_cons_none h,List.map_cons,List.sum_cons];omega
  |some r'=>have:=hf r (.head _) r' h;rw[List.filterMap_cons_some h,List.map_cons,List.map_cons,List.sum_cons,List.sum_cons];omega
theorem nw_head {f:Rw→Option Rw} {rows:List Rw} {r0:Rw} (hf:∀ r,r ∈ rows→∀ r',f r=some r'→nwL r'.pats≤nwL r.pats) (h0:rows[0]? = some r0) (hp:1≤nwL r0.pats) (hs:∀ r',f r0=some r'→nwL r'.pats<nwL r0.pats):nwW (rows.filterMap f)<nwW rows:=by
 cases rows with
 |nil=>cases h0
 |cons r rs=>
  cases h0
  have ih:=nw_filterMap rs fun r hr=>hf r (.tail _ hr)
  unfold nwW at ih ⊢
  cases h:f r0 with
  |none=>rw[List.filterMap_cons_none h,List.map_cons,List.sum_cons];omega
  |some r'=>have:=hs r' h;rw[List.filterMap_cons_some h,List.map_cons,List.map_cons,List.sum_cons,List.sum_cons];omega
theorem nw_mid (pa pb:List Pt) (p:Pt):nwL (pa++p::pb)=nwL pa+nwP p+nwL pb:=by rw[nwL_app,nwL];omega
theorem nw_mid' (pa pb a:List Pt):nwL (pa++a++pb)=nwL pa+nwL a+nwL pb:=by rw[nwL_app,nwL_app]
theorem nwP_pos {p:Pt} (h:kdP p≠0):nwP p=1+nwL (argsP p):=by
 obtain ⟨k,c,m,qs⟩:=p
 have h:¬ k=0:=h
 rw[nwP,if_neg h];rfl
theorem nwP_lt {p:Pt} {con:Int} {nf:Nat} {a:List Pt} (h:argsFor p con nf=some a):nwL a≤nwP p∧(kdP p≠0→nwL a<nwP p):=by
 unfold argsFor at h
 split at h
 ·rename_i k0
  cases h
  rw[nwL_wild]
  exact⟨Nat.zero_le _,fun h=>absurd k0 h⟩
 ·rename_i k0
  have:=nwP_pos k0
  split at h
  ·cases h;exact⟨by omega,fun _=>by omega⟩
  ·cases h
structure At (d:List Dt) (k n:Nat) (cols:List Co) (rows:List Rw) (c:Co) (ca cb:List Co):Prop where
 e:cols=ca++c::cb
 l:ca.length=n
 fit:∀ r,r ∈ rows→∃ pa p pb,r.pats=pa++p::pb∧pa.length=n∧patAt r n=p∧(∀ a,putP r n a=⟨r.n,pa++a++pb⟩)∧fitR d (ca.map Co.ty) pa=true∧fitsP d c.ty p=true∧fitR d (cb.map Co.ty) pb=true
theorem BI.at {d:List Dt} {k n:Nat} {cols:List Co} {rows:List Rw} {c:Co} (I:BI d k cols rows) (hc:cols[n]? = some c):∃ ca cb,At d k n cols rows c ca cb:=by
 have e:=take_drop_at hc
 have hl:(cols.take n).length=n:=by have:=(List.getElem?_eq_some_iff.1 hc).1;rw[List.length_take];omega
 refine ⟨_,_,e,hl,fun r hr=>?_⟩
 have hf:=I.fit r hr
 rw[e,List.map_append,List.map_cons] at hf
 obtain ⟨pa,p,pb,hp,hpl,f1,f2,f3⟩:=row_at hf
 have hpl':pa.length=n:=by rw[hpl,List.length_map,hl]
 obtain ⟨rn,rp⟩:=r
 have hp:rp=_:=hp
 subst hp
 exact⟨pa,p,pb,rfl,hpl',patAt_mid hpl',fun a=>putP_mid hpl',f1,f2,f3⟩
theorem BI.nonwild {d:List Dt} {k n:Nat} {cols:List Co} {rows:List Rw} {r0:Rw} {c:Co} {ca cb:List Co} (A:At d k n cols rows c ca cb) (h0:rows[0]? = some r0) (hn:idxZ nwB r0.pats=(n:Int)):kdP (patAt r0 n)≠0∧1≤nwL r0.pats:=by
 obtain ⟨pa,p,pb,hp,hpl,hpa,_⟩:=A.fit r0 (List.mem_of_getElem? h0)
 have hk:kdP (patAt r0 n)≠0:=by
  rcases idxZ_cases nwB r0.pats with hz | ⟨m,x,hz,hx,hx2⟩
  ·omega
  ·have:m=n:=by omega
   subst this
   rw[hp,List.getElem?_append_right (by omega),hpl] at hx
   simp at hx
   rw[hpa,hx]
   unfold nwB wildP at hx2
   simpa using hx2
 refine ⟨hk,?_⟩
 rw[hpa] at hk
 have:=nwP_pos hk
 rw[hp,nw_mid];omega
theorem mem_putC {cols a:List Co} {k:Nat} {c:Co} (h:c ∈ putC cols k a):c ∈ cols∨c ∈ a:=by
 unfold putC at h
 rcases List.mem_append.1 h with h | h
 ·rcases List.mem_append.1 h with h | h
  ·exact .inl (List.mem_of_mem_take h)
  ·exact .inr h
 ·exact .inl (List.mem_of_mem_drop h)
theorem putC_len (cols a:List Co) {k:Nat} (h:k<cols.length):(putC cols k a).length=cols.length - 1+a.length:=by
 unfold putC;simp only[List.length_append,List.length_take,List.length_drop];omega
theorem fldC_mem {path fs:List Int} {c:Co} (h:c ∈ fldC path fs):c.path.length=path.length+1∧c.ty ∈ fs:=by
 unfold fldC at h
 obtain ⟨⟨f,i⟩,hq,rfl⟩:=List.mem_map.1 h
 obtain ⟨_,_,hq3⟩:=List.mem_zipIdx hq
 exact⟨by simp,by rw[show (⟨path++[((f,i).2:Int)],(f,i).1⟩:Co).ty=f from rfl,hq3];exact List.getElem_mem _⟩
theorem fldC_ty (path fs:List Int):(fldC path fs).map Co.ty=fs:=by
 unfold fldC
 rw[List.map_map]
 exact List.zipIdx_map_fst 0 fs
theorem args_fit {d:List Dt} {t:Int} {p:Pt} {i:Nat} {z:Cn} {a:List Pt} (hf:fitsP d t p=true) (ht:t≠0) (hz:(consOf d t)[i]? = some z) (h:argsFor p (i:Int) z.flds.length=some a):fitR d z.flds a=true:=by
 obtain ⟨k,c,m,qs⟩:=p
 unfold argsFor at h
 rcases fits_cases hf with ⟨rfl,_⟩ | ⟨_,h2,_⟩ | ⟨rfl,_,_,j,y,rfl,hy,_,hfr⟩
 ·rw[if_pos (show kdP (Pt.mk 0 c m qs)=0 from rfl)] at h;cases h;exact fitR_wild ..
 ·exact absurd h2 ht
 ·rw[if_neg (show ¬ kdP (Pt.mk 1 (j:Int) m qs)=0 from (by decide:¬ (1:Int)=0))] at h
  split at h
  ·rename_i hji
   have hji:(j:Int)=(i:Int):=hji
   have:j=i:=by omega
   subst this
   rw[hy] at hz;cases hz
   cases h
   exact hfr
  ·cases h
theorem args_mt {d:List Dt} {t:Int} {p:Pt} {i:Nat} {z:Cn} {m:Int} {av:List Vl} (hf:fitsP d t p=true) (ht:t≠0) (hl:av.length=z.flds.length) (hm:mtP p (.mk m (i:Int) av)=true):∃ a,argsFor p (i:Int) z.flds.length=some a∧mtL a av=true:=by
 obtain ⟨k,c,m',qs⟩:=p
 unfold argsFor
 rw[mtP] at hm
 rcases fits_cases hf with ⟨rfl,_⟩ | ⟨_,h2,_⟩ | ⟨rfl,_,_,j,y,rfl,hy,_,hfr⟩
 ·exact⟨_,if_pos rfl,by rw[←hl];exact mtL_wild av⟩
 ·exact absurd h2 ht
 ·rw[if_neg (by decide),if_neg (by decide),if_pos rfl,Bool.and_eq_true,decide_eq_true_eq] at hm
  exact⟨qs,by rw[if_neg (show ¬ kdP (Pt.mk 1 (j:Int) m' qs)=0 from (by decide:¬ (1:Int)=0))];exact if_pos hm.1.symm,hm.2⟩
theorem mt_mid {pa pb:List Pt} {p:Pt} {va vb:List Vl} {v:Vl} (hl:pa.length=va.length):mtL (pa++p::pb) (va++v::vb)=(mtL pa va && (mtP p v && mtL pb vb)):=by rw[mtL_app hl,mtL]
theorem mt_mid' {pa pb a:List Pt} {va vb av:List Vl} (hl:pa.length=va.length) (h2:a.length=av.length):mtL (pa++a++pb) (va++av++vb)=(mtL pa va && (mtL a av && mtL pb vb)):=by
 rw[List.append_assoc,List.append_assoc,mtL_app hl,mtL_app h2]
theorem dom_mid {d:List Dt} {ta tb:List Int} {t:Int} {ea eb:List (List Int)} {e:List Int} {va vb:List Vl} {v:Vl} (h1:domL d ta ea va) (h2:domV d t e v) (h3:domL d tb eb vb):domL d (ta++t::tb) (ea++e::eb) (va++v::vb):=
 domL_app h1 ⟨h2,h3⟩
theorem BI.con {d:List Dt} {k n i:Nat} {cols:List Co} {rows:List Rw} {r0:Rw} {c:Co} {z:Cn} (I:BI d (k+1) cols rows) (h0:rows[0]? = some r0) (hn:idxZ nwB r0.pats=(n:Int)) (hc:cols[n]? = some c) (ht:c.ty≠0) (hz:(consOf d c.ty)[i]? = some z) :
  BI d k (putC cols n (fldC c.path z.flds)) (conRows n (i:Int) z.flds.length rows):=by
 obtain ⟨ca,cb,A⟩:=I.at hc
 obtain ⟨hk0,hp0⟩:=BI.nonwild A h0 hn
 have hty:=typed_flds (check_typed I.chk)
 obtain ⟨y,hy,hzy⟩:∃ y,y ∈ d∧z ∈ y.cons:=by
  rcases tcase d c.ty with h | h | ⟨m,y,hm,hy⟩
  ·rw[consOf_lo h] at hz;cases hz
  ·rw[consOf_hi h] at hz;cases hz
  ·rw[hm,consOf_at hy] at hz
   exact⟨y,List.mem_of_getElem? hy,List.mem_of_getElem? hz⟩
 have hnl:=(List.getElem?_eq_some_iff.1 hc).1
 have hcm:=List.mem_of_getElem? hc
 have hflen:=I.flds y hy z hzy
 have hfl:(fldC c.path z.flds).length=z.flds.length:=by rw[←List.length_map (f:=Co.ty),fldC_ty]
 have hcols:putC cols n (fldC c.path z.flds)=ca++fldC c.path z.flds++cb:=by rw[A.e];exact putC_mid A.l
 have hmap:(putC cols n (fldC c.path z.flds)).map Co.ty=ca.map Co.ty++z.flds++cb.map Co.ty:=by rw[hcols,List.map_append,List.map_append,fldC_ty]
 have hrow:∀ r',r' ∈ conRows n (i:Int) z.flds.length rows→∃ r a,r ∈ rows∧argsFor (patAt r n) (i:Int) z.flds.length=some a∧r'=putP r n a:=by
  intro r' hr'
  obtain ⟨r,hr,hs⟩:=List.mem_filterMap.1 hr'
  unfold conRow at hs
  obtain ⟨a,ha,rfl⟩:=Option.map_eq_some_iff.1 hs
  exact⟨r,a,hr,ha,rfl⟩
 refine ⟨?_,?_,?_,?_,?_,?_,I.chk,I.flds,?_⟩
 ·intro r' hr'
  obtain ⟨r,a,hr,ha,rfl⟩:=hrow r' hr'
  obtain ⟨pa,p,pb,hp,hpl,hpa,hput,f1,f2,f3⟩:=A.fit r hr
  rw[hput,hmap]
  rw[hpa] at ha
  exact fitR_app (fitR_app f1 (args_fit f2 ht hz ha)) f3
 ·intro x hx
  rcases mem_putC hx with h | h
  ·exact I.typ x h
  ·exact hty y hy z hzy _ (fldC_mem h).2
 ·have:=nw_head (f:=conRow n (i:Int) z.flds.length) (rows:=rows) (r0:=r0) ?_ h0 hp0 ?_
  ·have h2:=I.nw
   unfold conRows;omega
  ·intro r hr r' h
   unfold conRow at h
   obtain ⟨a,ha,rfl⟩:=Option.map_eq_some_iff.1 h
   obtain ⟨pa,p,pb,hp,hpl,hpa,hput,_⟩:=A.fit r hr
   rw[hpa] at ha
   rw[hput,hp,nw_mid]
   show nwL (pa++a++pb)≤_
   rw[nw_mid']
   have:=(nwP_lt ha).1
   omega
  ·intro r' h
   unfold conRow at h
   obtain ⟨a,ha,rfl⟩:=Option.map_eq_some_iff.1 h
   obtain ⟨pa,p,pb,hp,hpl,hpa,hput,_⟩:=A.fit r0 (List.mem_of_getElem? h0)
   rw[hpa] at ha hk0
   rw[hput,hp,nw_mid]
   show nwL (pa++a++pb)<_
   rw[nw_mid']
   have:=(nwP_lt ha).2 hk0
   omega
 ·intro x hx
  have hpc:=I.path c hcm
  rcases mem_putC hx with h | h
  ·have:=I.path x h;omega
  ·have:=(fldC_mem h).1;omega
 ·have:=I.len
  rw[putC_len _ _ hnl,hfl];omega
 ·have:=List.length_filterMap_le (conRow n (i:Int) z.flds.length) rows
  have:=I.rl
  unfold conRows;omega
 ·obtain ⟨es,h1,h2,h3⟩:=I.cov
  rw[A.e,List.map_append,List.map_cons] at h1 h2 h3
  obtain ⟨ea,e,eb,rfl,hla,hlb⟩:=es_at h1
  refine ⟨ea++List.replicate z.flds.length []++eb,?_,?_,?_⟩
  ·rw[hmap];simp[hla,hlb]
  ·rw[hmap]
   intro vs hv
   obtain ⟨w,vb,rfl,d1,d3⟩:=domL_split (by simp[hla]) hv
   obtain ⟨va,av,rfl,d1,d2⟩:=domL_split hla.symm d1
   have hty2:=domL_ty d2
   have hm:=dom_mid (t:=c.ty) (e:=e) (v:=.mk 0 (i:Int) av) d1 ⟨by rw[tyV,if_neg ht];exact⟨i,z,rfl,hz,hty2⟩,fun h=>absurd h ht⟩ d3
   obtain ⟨ps,hps,hmt⟩:=h2 _ hm
   obtain ⟨r,hr,rfl⟩:=List.mem_map.1 hps
   obtain ⟨pa,p,pb,hp,hpl,hpa,hput,f1,f2,f3⟩:=A.fit r hr
   have hva:=(domL_len d1).1
   have hpv:pa.length=va.length:=by rw[hva,List.length_map,A.l,hpl]
   rw[hp,mt_mid hpv,Bool.and_eq_true,Bool.and_eq_true] at hmt
   obtain ⟨a,ha,hma⟩:=args_mt f2 ht (tyL_len hty2) hmt.2.1
   refine ⟨(putP r n a).pats,List.mem_map.2 ⟨putP r n a,List.mem_filterMap.2 ⟨r,hr,by unfold conRow;rw[hpa,ha];rfl⟩,rfl⟩,?_⟩
   rw[hput]
   show mtL (pa++a++pb) _=true
   rw[mt_mid' hpv (mtL_len hma),hmt.1,hma,hmt.2.2];rfl
  ·rw[hmap]
   intro ps hps
   obtain ⟨r',hr',rfl⟩:=List.mem_map.1 hps
   obtain ⟨r,a,hr,ha,rfl⟩:=hrow r' hr'
   obtain ⟨pa,p,pb,hp,hpl,hpa,hput,f1,f2,f3⟩:=A.fit r hr
   have hfr:=h3 r.pats (List.mem_map.2 ⟨r,hr,rfl⟩)
   have hla2:(ca.map Co.ty).length=pa.length:=by rw[List.length_map,A.l,hpl]
   rw[hp,freshL_app hla.symm hla2] at hfr
   rw[hput]
   rw[hpa] at ha
   have haf:=fitR_len (args_fit f2 ht hz ha)
   show freshL _ _ (pa++a++pb)
   rw[freshL_app (by simp[hla]) (by simp[A.l,hpl,haf]),freshL_app hla.symm hla2]
   exact⟨⟨hfr.1,freshL_none ..⟩,hfr.2.2⟩
theorem BI.same {d:List Dt} {k n:Nat} {cols:List Co} {rows:List Rw} {r0:Rw} {c:Co} (I:BI d (k+1) cols rows) (h0:rows[0]? = some r0) (hn:idxZ nwB r0.pats=(n:Int)) (hc:cols[n]? = some c) (ht:c.ty=0) :
  BI d k (putC cols n []) (sameRows n (nmP (patAt r0 n)) rows):=by
 obtain ⟨ca,cb,A⟩:=I.at hc
 obtain ⟨hk0,hp0⟩:=BI.nonwild A h0 hn
 have hnl:=(List.getElem?_eq_some_iff.1 hc).1
 have hcols:putC cols n []=ca++cb:=by rw[A.e,putC_mid A.l,List.append_nil]
 have hmap:(putC cols n []).map Co.ty=ca.map Co.ty++cb.map Co.ty:=by rw[hcols,List.map_append]
 have hrow:∀ r',r' ∈ sameRows n (nmP (patAt r0 n)) rows→∃ r,r ∈ rows∧r'=putP r n []:=by
  intro r' hr'
  obtain ⟨r,hr,hs⟩:=List.mem_filterMap.1 hr'
  split at hs
  ·cases hs;exact⟨r,hr,rfl⟩
  ·cases hs
 refine ⟨?_,?_,?_,?_,?_,?_,I.chk,I.flds,?_⟩
 ·intro r' hr'
  obtain ⟨r,hr,rfl⟩:=hrow r' hr'
  obtain ⟨pa,p,pb,hp,hpl,hpa,hput,f1,f2,f3⟩:=A.fit r hr
  rw[hput,hmap,List.append_nil]
  exact fitR_app f1 f3
 ·intro x hx
  rcases mem_putC hx with h | h
  ·exact I.typ x h
  ·cases h
 ·have:=nw_head (f:=fun r=>if sameB n (nmP (patAt r0 n)) r=true then some (putP r n []) else none) (rows:=rows) (r0:=r0) ?_ h0 hp0 ?_
  ·have h2:=I.nw
   unfold sameRows;omega
  ·intro r hr r' h
   split at h
   ·cases h
    obtain ⟨pa,p,pb,hp,hpl,hpa,hput,_⟩:=A.fit r hr
    rw[hput,hp,nw_mid,List.append_nil]
    show nwL (pa++pb)≤_
    rw[nwL_app];omega
   ·cases h
  ·intro r' h
   split at h
   ·cases h
    obtain ⟨pa,p,pb,hp,hpl,hpa,hput,_⟩:=A.fit r0 (List.mem_of_getElem? h0)
    rw[hpa] at hk0
    have:=nwP_pos hk0
    rw[hput,hp,nw_mid,List.append_nil]
    show nwL (pa++pb)<_
    rw[nwL_app];omega
   ·cases h
 ·intro x hx
  rcases mem_putC hx with h | h
  ·have:=I.path x h;omega
  ·cases h
 ·have:=I.len
  rw[putC_len _ _ hnl];simp only[List.length_nil];omega
 ·have:=List.length_filterMap_le (fun r=>if sameB n (nmP (patAt r0 n)) r=true then some (putP r n []) else none) rows
  have:=I.rl
  unfold sameRows;omega
 ·obtain ⟨es,h1,h2,h3⟩:=I.cov
  rw[A.e,List.map_append,List.map_cons] at h1 h2 h3
  obtain ⟨ea,e,eb,rfl,hla,hlb⟩:=es_at h1
  refine ⟨ea++eb,?_,?_,?_⟩
  ·rw[hmap];simp only[List.length_append,hla,hlb]
  ·rw[hmap]
   intro vs hv
   obtain ⟨va,vb,rfl,d1,d3⟩:=domL_split hla.symm hv
   have hfresh:nmP (patAt r0 n) ∉ e:=by
    have h0m:=List.mem_of_getElem? h0
    obtain ⟨pa,p,pb,hp,hpl,hpa,hput,f1,f2,f3⟩:=A.fit r0 h0m
    have hfr:=h3 r0.pats (List.mem_map.2 ⟨r0,h0m,rfl⟩)
    rw[hp,freshL_app hla.symm (by rw[List.length_map,A.l,hpl])] at hfr
    rw[hpa] at hk0 ⊢
    exact hfr.2.1 ht hk0
   have hm:=dom_mid (t:=c.ty) (e:=e) (v:=.mk (nmP (patAt r0 n)) 0 []) d1 ⟨by rw[tyV,if_pos ht];trivial,fun _=>hfresh⟩ d3
   obtain ⟨ps,hps,hmt⟩:=h2 _ hm
   obtain ⟨r,hr,rfl⟩:=List.mem_map.1 hps
   obtain ⟨pa,p,pb,hp,hpl,hpa,hput,f1,f2,f3⟩:=A.fit r hr
   have hva:=(domL_len d1).1
   have hpv:pa.length=va.length:=by rw[hva,List.length_map,A.l,hpl]
   rw[hp,mt_mid hpv,Bool.and_eq_true,Bool.and_eq_true] at hmt
   have hsb:sameB n (nmP (patAt r0 n)) r=true:=by
    unfold sameB
    rw[hpa]
    obtain ⟨pk,pc,pm,pq⟩:=p
    have hpm:=hmt.2.1
    rw[mtP] at hpm
    rcases fits_cases f2 with ⟨rfl,_⟩ | ⟨rfl,_,_,_⟩ | ⟨_,h2,_⟩
    ·rfl
    ·rw[if_neg (by decide),if_pos rfl,decide_eq_true_eq] at hpm
     rw[hpm];simp[nmP]
    ·exact absurd ht h2
   refine ⟨(putP r n []).pats,List.mem_map.2 ⟨putP r n [],List.mem_filterMap.2 ⟨r,hr,if_pos hsb⟩,rfl⟩,?_⟩
   rw[hput,List.append_nil]
   show mtL (pa++pb) _=true
   rw[mtL_app hpv,hmt.1,hmt.2.2];rfl
  ·rw[hmap]
   intro ps hps
   obtain ⟨r',hr',rfl⟩:=List.mem_map.1 hps
   obtain ⟨r,hr,rfl⟩:=hrow r' hr'
   obtain ⟨pa,p,pb,hp,hpl,hpa,hput,f1,f2,f3⟩:=A.fit r hr
   have hfr:=h3 r.pats (List.mem_map.2 ⟨r,hr,rfl⟩)
   have hla2:(ca.map Co.ty).length=pa.length:=by rw[List.length_map,A.l,hpl]
   rw[hp,freshL_app hla.symm hla2] at hfr
   rw[hput,List.append_nil]
   show freshL _ _ (pa++pb)
   rw[freshL_app hla.symm hla2]
   exact⟨hfr.1,hfr.2.2⟩
theorem filter_fm {α:Type} (p:α→Bool):∀ l:List α,l.filter p=l.filterMap fun r=>if p r=true then some r else none
 | []=>rfl
 |x::l=>by
  rw[List.filter_cons,filter_fm p l]
  by_cases h:p x=true<;>simp[h]
theorem BI.oth {d:List Dt} {k n:Nat} {cols:List Co} {rows:List Rw} {r0:Rw} {c:Co} (I:BI d (k+1) cols rows) (h0:rows[0]? = some r0) (hn:idxZ nwB r0.pats=(n:Int)) (hc:cols[n]? = some c) (ht:c.ty=0) :
  BI d k cols (othRows n (nmP (patAt r0 n)) rows):=by
 obtain ⟨ca,cb,A⟩:=I.at hc
 obtain ⟨hk0,hp0⟩:=BI.nonwild A h0 hn
 have hnl:=(List.getElem?_eq_some_iff.1 hc).1
 have hmap:cols.map Co.ty=ca.map Co.ty++c.ty::cb.map Co.ty:=by rw[A.e,List.map_append,List.map_cons]
 have hrow:∀ r',r' ∈ othRows n (nmP (patAt r0 n)) rows→r' ∈ rows∧othB n (nmP (patAt r0 n)) r'=true:=fun r' h=>List.mem_filter.1 h
 refine ⟨?_,I.typ,?_,?_,?_,?_,I.chk,I.flds,?_⟩
 ·exact fun r hr=>I.fit r (hrow r hr).1
 ·have:=nw_head (f:=fun r=>if othB n (nmP (patAt r0 n)) r=true then some r else none) (rows:=rows) (r0:=r0) ?_ h0 hp0 ?_
  ·have h2:=I.nw
   unfold othRows;rw[filter_fm];omega
  ·intro r hr r' h
   split at h<;>cases h
   exact Nat.le_refl _
  ·intro r' h
   have:othB n (nmP (patAt r0 n)) r0=false:=by unfold othB;simp[hk0]
   rw[if_neg (by rw[this];decide)] at h
   cases h
 ·intro x hx
  have:=I.path x hx;omega
 ·have:=I.len;omega
 ·have:=List.length_filter_le (othB n (nmP (patAt r0 n))) rows
  have:=I.rl
  unfold othRows;omega
 ·obtain ⟨es,h1,h2,h3⟩:=I.cov
  rw[hmap] at h1 h2 h3 ⊢
  obtain ⟨ea,e,eb,rfl,hla,hlb⟩:=es_at h1
  refine ⟨ea++(nmP (patAt r0 n)::e)::eb,by simpa using h1,?_,?_⟩
  ·intro vs hv
   obtain ⟨va,w,rfl,d1,d3⟩:=domL_split hla.symm hv
   obtain ⟨v,vb,rfl,dv,d3⟩:∃ v vb,w=v::vb∧domV d c.ty (nmP (patAt r0 n)::e) v∧domL d (cb.map Co.ty) eb vb:=by
    cases w with
    |nil=>exact d3.elim
    |cons v vb=>exact⟨v,vb,rfl,d3⟩
   have hne:=dv.2 ht
   rw[List.mem_cons,not_or] at hne
   have hm:=dom_mid (t:=c.ty) (e:=e) (v:=v) d1 ⟨dv.1,fun _=>hne.2⟩ d3
   obtain ⟨ps,hps,hmt⟩:=h2 _ hm
   obtain ⟨r,hr,rfl⟩:=List.mem_map.1 hps
   refine ⟨r.pats,List.mem_map.2 ⟨r,List.mem_filter.2 ⟨hr,?_⟩,rfl⟩,hmt⟩
   obtain ⟨pa,p,pb,hp,hpl,hpa,hput,f1,f2,f3⟩:=A.fit r hr
   have hva:=(domL_len d1).1
   have hpv:pa.length=va.length:=by rw[hva,List.length_map,A.l,hpl]
   rw[hp,mt_mid hpv,Bool.and_eq_true,Bool.and_eq_true] at hmt
   unfold othB
   rw[hpa]
   obtain ⟨pk,pc,pm,pq⟩:=p
   obtain ⟨vm,vc,vq⟩:=v
   have hpm:=hmt.2.1
   rw[mtP] at hpm
   rcases fits_cases f2 with ⟨rfl,_⟩ | ⟨rfl,_,_,_⟩ | ⟨_,h2,_⟩
   ·rfl
   ·rw[if_neg (by decide),if_pos rfl,decide_eq_true_eq] at hpm
    have h1:vm≠nmP (patAt r0 n):=hne.1
    rw[hpm] at h1
    rw[show decide (nmP (Pt.mk 2 pc pm pq)≠nmP (patAt r0 n))=true from decide_eq_true h1,Bool.or_true]
   ·exact absurd ht h2
  ·intro ps hps
   obtain ⟨r,hr',rfl⟩:=List.mem_map.1 hps
   obtain ⟨hr,hob⟩:=hrow r hr'
   obtain ⟨pa,p,pb,hp,hpl,hpa,hput,f1,f2,f3⟩:=A.fit r hr
   have hfr:=h3 r.pats (List.mem_map.2 ⟨r,hr,rfl⟩)
   have hla2:(ca.map Co.ty).length=pa.length:=by rw[List.length_map,A.l,hpl]
   rw[hp,freshL_app hla.symm hla2] at hfr ⊢
   refine ⟨hfr.1,fun h0 hk=>?_,hfr.2.2⟩
   rw[List.mem_cons,not_or]
   refine ⟨?_,hfr.2.1 h0 hk⟩
   unfold othB at hob
   rw[hpa] at hob
   simpa [hk] using hob
end Zc28
end
