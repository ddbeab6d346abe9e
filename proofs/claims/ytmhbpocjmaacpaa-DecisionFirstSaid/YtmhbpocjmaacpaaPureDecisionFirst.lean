/-
  Parts of the proof.
-/
import Derived.Test.YtmhbpocjmaacpaaZc28B4
import Derived.Test.YtmhbpocjmaacpaaZc28S6
set_option linter.unusedSimpArgs false
set_option linter.unusedVariables false
section
set_option maxHeartbeats 4000000
namespace Zc28
open Go Zv Zs
theorem nwB_ok (p:Pt) (h:Hp):callW tab 39 [.d (ePt p)] h=some (.d (.bool (nwB p)),h):=by
 refine call_wp (fn:=f39) rfl rfl ?_
 obtain ⟨k,c,m,qs⟩:=p
 have hc:=ePt_cells (.mk k c m qs)
 have hk:∀ b:Bool,(k == 0)=b→nwB (.mk k c m qs) = !b:=by
  intro b hb;unfold nwB wildP;rw[←hb];simp[kdP];rfl
 cases hb:(k == 0)<;>simp only[e39,hc,ePt_cs,hb,hk _ hb,bne,wz,opX,intBin,↓reduceIte,simprocAttr]
theorem st_cell4 {X:List (Nat × Ob)} {out:List Ts} {m L:Nat} (hr:Zv.look X m=some (.arr 5 (((out++[zT]).map eT).map .d))) (hL:L=out.length+1) (n:Int) (nx:Nat) :
  st 1 ⟨X,nx⟩ (.ptr m L out.length 4) (.d (eI n))=some ⟨Zv.upd X m (.arr 5 (((out++[leafAt n]).map eT).map .d)),nx⟩:=by
 subst hL
 have hrow:(⟨X,nx⟩:Hp).row m (out.length+1)=some (5,((out++[zT]).map eT).map .d):=row_of hr (by simp)
 have e:=st_in (sz:=1) (i:=out.length) (off:=4) (x:=.d (eI n)) hrow (e:=.d (eT zT)) (by simp) rfl rfl (by show 5≤5;omega) (by omega) (by omega)
 rw[e]
 have:(((out++[zT]).map eT).map V.d).set out.length (mkAgg (List.take 4 (V.d (eT zT)).cells++(V.d (eI n)).cells++List.drop (4+1) (V.d (eT zT)).cells))=((out++[leafAt n]).map eT).map .d:=by
  have e2:mkAgg (List.take 4 (V.d (eT zT)).cells++(V.d (eI n)).cells++List.drop (4+1) (V.d (eT zT)).cells)=.d (eT (leafAt n)):=rfl
  rw[e2]
  simp[List.set_append,leafAt]
 rw[this]
 rfl
abbrev gT (p:List Int) (c:Bool) (n:Int) (v:V):V:=V.agg [.d (eIs p),.d (.bool c),.d (eI n),v,.d (eI 0)]
theorem mk_t0 (x y z w:D):mkAgg [.d x,.d y,.d z,.tl [] (some true),.d w]=V.agg [.d x,.d y,.d z,.tl [] (some true),.d w]:=rfl
theorem rowN_agg (m:Nat) (s:List D) (x y z w:D):mkAgg [.d x,.d y,.d z,rowN m 1 s,.d w]=V.agg [.d x,.d y,.d z,rowN m 1 s,.d w]:=by unfold rowN;split<;>rfl
theorem rowN_stor (m:Nat) (s:List D):stor (rowN m 1 s)=true:=by unfold rowN;split<;>rfl
theorem rowN_cells (m:Nat) (s:List D):(rowN m 1 s).cells=[rowN m 1 s]:=by unfold rowN;split<;>rfl
theorem st_num (a nx:Nat) (p:List Int) (c:Bool) (n m:Int) (L:List (Nat × Ob)):st 1 ⟨(a,.arr 5 [gT p c n (.tl [] (some true))])::L,nx⟩ (.ptr a 1 0 2) (.d (eI m))=some ⟨(a,.arr 5 [gT p c m (.tl [] (some true))])::L,nx⟩:=by
 simp[st,row_hd,stor,V.cells,D.cells,set_hd]
 rfl
theorem st_next {X:List (Nat × Ob)} {a:Nat} {p:List Int} {c:Bool} {n:Int} {v:V} (hr:Zv.look X a=some (.arr 5 [gT p c n v])) (m:Nat) (s:List D) (nx:Nat) :
  st 1 ⟨X,nx⟩ (.ptr a 1 0 3) (rowN m 1 s)=some ⟨Zv.upd X a (.arr 5 [gT p c n (rowN m 1 s)]),nx⟩:=by
 have hrow:(⟨X,nx⟩:Hp).row a 1=some (5,[gT p c n v]):=row_of hr rfl
 have e:=st_in (sz:=1) (i:=0) (off:=3) (x:=rowN m 1 s) hrow (e:=gT p c n v) rfl (rowN_stor m s) (by rw[rowN_cells];rfl) (by show 4≤5;omega) (by omega) (by omega)
 rw[e,rowN_cells]
 have:mkAgg (List.take 3 (gT p c n v).cells++[rowN m 1 s]++List.drop (3+1) (gT p c n v).cells)=gT p c n (rowN m 1 s):=rowN_agg m s _ _ _ _
 rw[this]
 rfl
theorem fz_T {X:List (Nat × Ob)} {a m q q0:Nat} {p:List Int} {c:Bool} {n:Int} {v:V} {s:List Int} (hr:Zv.look X a=some (.arr 5 [gT p c n v])) (R:RA X q q0 1 v (s.map eI) m) (ha:a<q0) :
  ∃ Y,(∀ nx,Zv.fzd ⟨X,nx⟩ (.ptr a 1 0 0)=some (.fp (eT ⟨p,c,n,s,0⟩) 0,⟨Y,nx⟩))∧∀ x,x≠a→(s≠[]→x≠m)→Zv.look Y x=Zv.look X x:=by
 obtain ⟨Y,hY,hf⟩:=ra_frz R
 have hYa:Zv.look Y a=Zv.look X a:=hf a (fun h=>by have:=R.lo h;omega)
 refine ⟨Zv.del Y a,fun nx=>?_,fun x hx hm=>?_⟩
 ·have hrow:(⟨X,nx⟩:Hp).row a 1=some (5,[gT p c n v]):=row_of hr rfl
  unfold Zv.fzd
  simp only[hrow,Option.bind_some,List.getElem?_cons_zero]
  have d1:∀ (hh:Hp) (x:D),Zv.frz hh (.d x)=some (.d x,hh):=fun _ _=>rfl
  have hfr:frzs [V.d (eIs p),.d (.bool c),.d (eI n),v,.d (eI 0)] ⟨X,nx⟩=some ([eIs p,.bool c,eI n,.lst (s.map eI),eI 0],⟨Y,nx⟩):=by
   simp only[frzs,d1,Option.bind_some,hY,Option.map_some]
  rw[hfr,Option.bind_some]
  have hs:sameAt ⟨X,nx⟩ ⟨Y,nx⟩ (.ptr a 1 0 0)=true:=by
   simp only[sameAt,Hp.get,hYa,hr,Ob.beq_refl]
  rw[if_pos hs]
  rfl
 ·rw[look_del hx]
  exact hf x (fun h=>hm (by simpa using h))
theorem st_elem {X:List (Nat × Ob)} {out:List Ts} {m L at_:Nat} (hr:Zv.look X m=some (.arr 5 ((out.map eT).map .d))) (hL:L=out.length) (ha:at_<out.length) (t:Ts) (nx:Nat) :
  st 5 ⟨X,nx⟩ (.ptr m L at_ 0) (.d (eT t))=some ⟨Zv.upd X m (.arr 5 (((out.set at_ t).map eT).map .d)),nx⟩:=by
 subst hL
 have hrow:(⟨X,nx⟩:Hp).row m out.length=some (5,(out.map eT).map .d):=row_of hr (by simp)
 obtain ⟨x,hx⟩:=get_of_lt ha
 have e:=st_all (sz:=5) (i:=at_) (x:=.d (eT t)) hrow (e:=.d (eT x)) (by simp[hx]) rfl rfl
 rw[e]
 show some (⟨Zv.upd X m _,nx⟩:Hp)=_
 rw[List.map_set,List.map_set]
theorem deep_own {H:Hp} {n n0 es:Nat} {L:List D} (hr:H.row n L.length=some (es,L.map .d)) (hn:n0≤n):deep H n0 8 (.own n es L.length 0 L.length)=some (.lst L):=by
 unfold deep
 simp only[hn,if_true,hr,Option.bind_some,List.length_map,Nat.zero_add,Nat.le_refl,List.drop_zero]
 rw[List.take_of_length_le (by simp),Zc28.deep_ds]
 rfl
theorem mkslP1 {n:Nat} (hn:n≤1000) (h:Hp):mkslO (.d (.agg [.int .i64 0,.int .i64 0,.int .i64 0,.lst []])) 4 48 h (.d (.int .i64 (n:Int)))=some (.own h.next 4 n 0 n,⟨(h.next,.arr 4 (((List.replicate n wildT).map ePt).map V.d))::h.objs,h.next+1⟩):=mkslOP hn h
theorem args_ok (p:Pt) (con:Int) (nf:Nat) (hn:nf≤1000) (h:Hp):callW tab 42 [.d (ePt p),.d (eI con),.d (.int .i64 (nf:Int))] h=some (.tup [.d (ePs ((argsFor p con nf).getD [])),.d (.bool (argsFor p con nf).isSome)],h):=by
 refine call_wp (fn:=f42) rfl rfl ?_
 obtain ⟨k,c,m,qs⟩:=p
 have hc:=ePt_cells (.mk k c m qs)
 have hmk:=fun h=>mkslP1 hn h
 cases hk:(k == 0) with
 |true=>
  have hk1:k=0:=by simpa using hk
  have hA:argsFor (.mk k c m qs) con nf=some (List.replicate nf wildT):=by unfold argsFor;exact if_pos hk1
  rw[hA]
  have hfin:finS h ⟨(h.next+1,.arr 4 (((List.replicate nf wildT).map ePt).map V.d))::h.objs,h.next+1+1⟩ [.own (h.next+1) 4 nf 0 nf,.d (.bool true)]=some (.tup [.d (ePs (List.replicate nf wildT)),.d (.bool true)],h):=by
   have hr:Hp.row ⟨(h.next+1,.arr 4 (((List.replicate nf wildT).map ePt).map V.d))::h.objs,h.next+1+1⟩ (h.next+1) ((List.replicate nf wildT).map ePt).length=some (4,((List.replicate nf wildT).map ePt).map V.d):=by rw[row_hd,if_pos (by simp)]
   have hd:=deep_own (n0:=h.next) hr (by omega)
   rw[List.length_map,List.length_replicate] at hd
   rw[finS,if_pos (suf_one _ _)]
   simp only[List.mapM_cons,List.mapM_nil,back1,hd]
   rfl
  simp only[e42,hc,ePt_cs,hk,hmk,hfin,Option.getD_some,Option.isSome_some,wz,opX,intBin,↓reduceIte,simprocAttr]
 |false=>
  have hk1:¬ k=0:=by simpa using hk
  cases hcc:(c == con) with
  |true=>
   have hA:argsFor (.mk k c m qs) con nf=some qs:=by unfold argsFor;rw[if_neg (show ¬ kdP (.mk k c m qs)=0 from hk1)];exact if_pos (show c=con from by simpa using hcc)
   rw[hA]
   simp only[e42,hc,ePt_cs,hk,hcc,Option.getD_some,Option.isSome_some,wz,opX,intBin,↓reduceIte,simprocAttr]
  |false=>
   have hA:argsFor (.mk k c m qs) con nf=none:=by unfold argsFor;rw[if_neg (show ¬ kdP (.mk k c m qs)=0 from hk1)];exact if_neg (show ¬ c=con from by simpa using hcc)
   rw[hA]
   have hfin:∀ q,finS h ⟨h.objs,q⟩ [.tl [] (some true),.d (.bool false)]=some (.tup [.d (ePs []),.d (.bool false)],h):=fun q=>finS2n h (some true) false q
   simp only[e42,hc,ePt_cs,hk,hcc,hfin,Option.getD_none,Option.isSome_none,wz,opX,intBin,↓reduceIte,simprocAttr]
theorem build_ok {d:List Dt} (S:Sml d) {ov dv bv:Nat}:∀ (k:Nat) (out:List Ts) (cols:List Co) (rows:List Rw) (X:List (Nat × Ob)) (m q:Nat),BI d k cols rows→out.length≤4097→VS d ov dv bv X out m q→ov<q→dv<q→bv<q →
  ∃ r,callW tab 37 [.d (eOs cols),.d (eWs rows),.ptr ov 1 0 0,.ptr dv 1 0 0,.ptr bv 1 0 0] ⟨X,q⟩=some r ∧
   ∃ m' X' q',r=(.d (eI (buildS d k out cols rows).2),⟨X',q'⟩)∧VB d ov dv bv X' (buildS d k out cols rows).1 m'∧m'<q'∧q≤q'∧(out≠[]→m'=m)∧(out=[]→q≤m')∧FrB ov m' q X X':=by
 intro k
 induction k with
 |zero=>intro out cols rows X m q I;have:=I.nw;omega
 |succ k ih=>
  intro out cols rows X m q I hol VV ho hd hb
  refine call_wpE (fn:=f37) rfl rfl ?_
  by_cases h4:4096<out.length
  ·have hB:buildS d (k+1) out cols rows=(out,(out.length:Int)):=by unfold buildS;rw[if_pos h4]
   have h4':(4096:Int)<(out.length:Int):=by omega
   rcases VV with ⟨h0,VV,hm⟩ | ⟨rfl,_⟩
   ·have hrw:=fun nx=>row_of (q:=nx) VV.iov (tot:=1) rfl
    simp only[e37,hrw,h4',wz,opX,intBin,↓reduceIte,simprocAttr]
    exact⟨_,rfl,m,X,q,by rw[hB],by rw[hB];exact VV,hm,Nat.le_refl _,fun _=>rfl,fun h=>absurd h h0,fun _ _ _ _=>rfl⟩
   ·simp at h4
  ·have h4':¬ (4096:Int)<(out.length:Int):=by omega
   have hB0:buildS d (k+1) out cols rows=bldB d (buildS d k) cols rows out:=by rw[buildS,if_neg h4]
   obtain ⟨r0,hr0⟩:∃ r0,rows[0]? = some r0:=get_of_lt (List.length_pos_iff.2 I.ne)
   have hB1:bldB d (buildS d k) cols rows out=bldK d (buildS d k) cols rows r0 (idxZ nwB r0.pats) out:=by
    cases rows with
    |nil=>cases hr0
    |cons x rs=>cases hr0;rfl
   rw[hB0,hB1]
   have hr0m:=List.mem_of_getElem? hr0
   have hfit:=I.fit r0 hr0m
   have hpl:=fitR_len hfit
   rw[List.length_map] at hpl
   have hcl:=I.len
   obtain ⟨w,outL,hrw,hcell,hlen,m',X2,q2,H1,happ,hst,V2,hm2,hq2,hmm,hm0,F2⟩:=vs_add VV ho hd hb (by omega)
   have ia0:ia 2 (.d (.lst (rows.map eW))) (.d (.int .i64 0))=some (.fp (eW r0) 0):=iaW hr0
   have hidx:=fun h=>idxFP r0.pats (.clo 39 []) nwB h (by omega) rfl (fun c _=>by rw[cW_clo,if_neg (by decide)];exact nwB_ok c h)
   have hrw2:=fun nx=>row_of (q:=nx) V2.iov (tot:=1) rfl
   rw[List.length_append,List.length_cons,List.length_nil,Nat.zero_add] at hrw2
   have hio:=ia_own (es:=5) (n:=m') (tot:=out.length+1) .i64 (show out.length<out.length+1 by omega)
   rcases idxZ_cases nwB r0.pats with hz | ⟨n,p,hz,hp,hpn⟩
   ·have hB2:bldK d (buildS d k) cols rows r0 (idxZ nwB r0.pats) out=(out++[leafAt r0.n],(out.length:Int)):=by rw[hz];rfl
    rw[hB2]
    rw[hz] at hidx
    have hst4:=fun nx=>st_cell4 V2.irow (L:=out.length+1) rfl r0.n nx
    simp only[e37,hrw,hcell,hlen,h4',mk_z1,mk_z,happ,hst,ia0,hidx,hrw2,hio,hst4,wz,opX,intBin,↓reduceIte,simprocAttr]
    refine ⟨_,rfl,m',_,q2,rfl,V2.put (by simp),hm2,hq2,hmm,hm0,?_⟩
    intro x hx h1 h2
    rw[Zs.look_upd,if_neg h2];exact F2 x hx h1 h2
   ·have hnl:n<cols.length:=by have:=(List.getElem?_eq_some_iff.1 hp).1;omega
    obtain ⟨c,hc⟩:=get_of_lt hnl
    have hB2:bldK d (buildS d k) cols rows r0 (idxZ nwB r0.pats) out=if c.ty=0 then bldN (buildS d k) cols rows r0 n c out else bldC d (buildS d k) cols rows n c out:=by
     rw[hz];unfold bldK;rw[getI_nat,hc];rfl
    rw[hB2]
    have hcm:=List.mem_of_getElem? hc
    have hcp:=I.path c hcm
    have hct:=I.typ c hcm
    have hcl2:=fun h=>cloneI_ok c.path (by omega) h
    have hn0:¬ ((n:Nat):Int)<0:=by omega
    rw[hz] at hidx
    have hpat:patAt r0 n=p:=by unfold patAt;rw[List.getD_eq_getElem?_getD,hp];rfl
    cases hty:(c.ty == 0) with
    |true=>
     have hty2:c.ty=0:=by simpa using hty
     rw[if_pos hty2]
     have I1:=I.same hr0 hz hc hty2
     have I2:=I.oth hr0 hz hc hty2
     rw[hpat] at I1 I2
     obtain ⟨pk,pc,pm,pq⟩:=p
     have hB3:bldN (buildS d k) cols rows r0 n c out=((buildS d k (buildS d k (out++[zT]) (putC cols n []) (sameRows n pm rows)).1 cols (othRows n pm rows)).1.set out.length ⟨c.path,false,pm,[(buildS d k (out++[zT]) (putC cols n []) (sameRows n pm rows)).2,(buildS d k (buildS d k (out++[zT]) (putC cols n []) (sameRows n pm rows)).1 cols (othRows n pm rows)).2],0⟩,(out.length:Int)):=by
      unfold bldN;rw[hpat];rfl
     rw[hB3]
     have hiaP:=iaP hp
     rw[ePt_mk] at hiaP
     have hsn:=fun a nx L=>st_num a nx c.path false 0 pm L
     simp only[e37,hrw,hcell,hlen,h4',mk_z1,mk_z,happ,hst,ia0,hidx,hrw2,hn0,iaO hc,hcl2,hty,bne,mk_t0,hiaP,hsn,wz,opX,intBin,↓reduceIte,simprocAttr]
     have hm2':m'<q2:=hm2
     have k1:∀ x,x<q2→Zv.look ((q2,Ob.arr 5 [gT c.path false pm (.tl [] (some true))])::X2) x=Zv.look X2 x:=fun x hx=>look_tl _ _ (by omega)
     have k2:Zv.look ((q2,Ob.arr 5 [gT c.path false pm (.tl [] (some true))])::X2) q2=some (.arr 5 [gT c.path false pm (.tl [] (some true))]):=look_hd ..
     generalize ((q2,Ob.arr 5 [gT c.path false pm (.tl [] (some true))])::X2)=X3 at k1 k2 ⊢
     have V3:VB d ov dv bv X3 (out++[zT]) m':=V2.same (k1 _ (by omega)) (k1 _ (by omega)) (k1 _ (by omega)) (k1 _ (by omega))
     have hrl:=I.rl
     refine loop_wp rows.length (fun i e h'=>∃ Y qq m1 v1 m3 v3,h'=⟨Y,qq⟩∧RA Y qq (q2+1) 2 v1 ((sameRows n pm (rows.take i)).map eW) m1∧RA Y qq (q2+1) 2 v3 ((othRows n pm (rows.take i)).map eW) m3∧((sameRows n pm (rows.take i)).map eW≠[]→(othRows n pm (rows.take i)).map eW≠[]→m1≠m3)∧q2+1≤qq∧(∀ x,x<q2+1→Zv.look Y x=Zv.look X3 x) ∧
      e=[(0,.d (eOs cols)),(2,.ptr ov 1 0 0),(4,.ptr bv 1 0 0),(8,.d (.int .i64 (out.length:Int))),(9,.d (eI n)),(10,.ptr q2 1 0 0),(21,v1),(22,v3),(161,.d (eWs rows)),(162,.d (.int .i64 rows.length)),(163,.d (.int .i64 (i:Int)))]) _ ?_ ?_ rows.length 0 _ _ (by omega) ⟨X3,q2+1,0,_,0,_,rfl,RA.nil ..,RA.nil ..,fun h=>absurd rfl h,Nat.le_refl _,fun _ _=>rfl,rfl⟩
     ·rintro i e h' hi ⟨Y,qq,m1,v1,m3,v3,rfl,R1,R3,hdi,hqq,hfr,rfl⟩
      obtain ⟨r,hr⟩:=get_of_lt hi
      have hwr:IntKind.i64.wrap ((i:Int)+1)=((i+1:Nat):Int):=by rw[wrap_ok (by omega) (by omega)];rfl
      have hrf:=fitR_len (I.fit r (List.mem_of_getElem? hr))
      rw[List.length_map] at hrf
      obtain ⟨pr,hpr⟩:=get_of_lt (l:=r.pats) (n:=n) (by omega)
      have hpa:patAt r n=pr:=by unfold patAt;rw[List.getD_eq_getElem?_getD,hpr];rfl
      have hrep:=fun h=>replP_ok r.pats n [] (by omega) (by omega) (by simp) h
      have hrep:∀ h,callW tab 43 [.d (ePs r.pats),.d (.int .i64 (n:Int)),.d (.lst [])] h=some (.d (ePs (putP r n []).pats),h):=hrep
      have hcW:(eW r).cells.length=2:=rfl
      have hiaR:=iaP hpr
      have hss:=same_snoc n pm hr
      have hso:=oth_snoc n pm hr
      have hsl:(sameRows n pm (rows.take i)).length≤6:=by
       have:=List.length_filterMap_le (fun r=>if sameB n pm r=true then some (putP r n []) else none) (rows.take i)
       rw[List.length_take] at this;unfold sameRows;omega
      have hol3:(othRows n pm (rows.take i)).length≤6:=by
       have:=List.length_filter_le (othB n pm) (rows.take i)
       rw[List.length_take] at this;unfold othRows;omega
      obtain ⟨qk,qc,qm,qs⟩:=pr
      rw[ePt_mk] at hiaR
      have hcP:(D.agg [.int .i64 qk,.int .i64 qc,.int .i64 qm,.lst (qs.map ePt)]).cells.length=4:=rfl
      have r10:=fun nx=>row_of (q:=nx) (show Zv.look Y q2=some (.arr 5 [gT c.path false pm (.tl [] (some true))]) by rw[hfr q2 (by omega)];exact k2) (tot:=1) rfl
      have R1':=R1.mono (q':=qq+1+1) (by omega) (fun _=>rfl)
      have R3':=R3.mono (q':=qq+1+1) (by omega) (fun _=>rfl)
      have hb1:(((sameRows n pm (rows.take i)).map eW).length+1)*32≤roomB:=by rw[List.length_map];unfold roomB;omega
      have hb3:(((othRows n pm (rows.take i)).map eW).length+1)*32≤roomB:=by rw[List.length_map];unfold roomB;omega
      cases hk0:(qk == 0) with
      |true=>
       have hsb:sameB n pm r=true:=by unfold sameB;rw[hpa];show (decide (qk=0) || _)=true;rw[show decide (qk=0)=(qk == 0) from rfl,hk0];rfl
       have hob:othB n pm r=true:=by unfold othB;rw[hpa];show (decide (qk=0) || _)=true;rw[show decide (qk=0)=(qk == 0) from rfl,hk0];rfl
       rw[hsb,if_pos rfl] at hss
       rw[hob,if_pos rfl] at hso
       obtain ⟨v1',Y1,q1,m1',e1,R1a,R3a,hd1,hqa,hfa⟩:=ra_app2 (nl:=some false) (x:=eW (putP r n [])) R1' R3' hdi (by omega) rfl hb1
       obtain ⟨v3',Y3,q3,m3',e3,R3b,R1b,hd3,hqb,hfb⟩:=ra_app2 (nl:=some false) (x:=eW r) R3a R1a (fun h1 _=>fun e=>hd1 h1 e.symm) (by omega) rfl hb3
       have e1:app 2 32 ⟨Y,qq+1+1⟩ v1 (.tl [.d (D.agg [eI r.n,ePs (putP r n []).pats])] (some false))=_:=e1
       have e3:app 2 32 ⟨Y1,q1⟩ v3 (.tl [.d (D.agg [eI r.n,ePs r.pats])] (some false))=_:=e3
       simp only[e37,hi,iaW hr,hcW,hiaR,hcP,hk0,hrep,e1,e3,hwr,wz,opX,intBin,↓reduceIte,simprocAttr]
       refine ⟨Y3,q3,m1',v1',m3',v3',rfl,?_,?_,fun _ _=>fun e=>hd3 (by simp) e.symm,by omega,fun x hx=>by rw[hfb x hx,hfa x hx,hfr x hx],rfl⟩
       ·rw[hss,List.map_append];exact R1b
       ·rw[hso,List.map_append];exact R3b
      |false=>
       have hk1:decide (qk=0)=false:=by rw[←hk0];rfl
       cases hnm:(qm == pm) with
       |true=>
        have hnm1:qm=pm:=by simpa using hnm
        have hsb:sameB n pm r=true:=by unfold sameB;rw[hpa];show (decide (qk=0) || decide (qm=pm))=true;rw[hk1,decide_eq_true hnm1];rfl
        have hob:othB n pm r=false:=by unfold othB;rw[hpa];show (decide (qk=0) || decide (qm≠pm))=false;rw[hk1,decide_eq_false (by simp[hnm1])];rfl
        rw[hsb,if_pos rfl] at hss
        rw[hob,if_neg (by simp),List.append_nil] at hso
        obtain ⟨v1',Y1,q1,m1',e1,R1a,R3a,hd1,hqa,hfa⟩:=ra_app2 (nl:=some false) (x:=eW (putP r n [])) R1' R3' hdi (by omega) rfl hb1
        have e1:app 2 32 ⟨Y,qq+1+1⟩ v1 (.tl [.d (D.agg [eI r.n,ePs (putP r n []).pats])] (some false))=_:=e1
        have r10b:=fun nx=>row_of (q:=nx) (show Zv.look Y1 q2=some (.arr 5 [gT c.path false pm (.tl [] (some true))]) by rw[hfa q2 (by omega),hfr q2 (by omega)];exact k2) (tot:=1) rfl
        simp only[e37,hi,iaW hr,hcW,hiaR,hcP,hk0,r10,r10b,hnm,bne,hrep,e1,hwr,wz,opX,intBin,↓reduceIte,simprocAttr]
        refine ⟨Y1,q1,m1',v1',m3,v3,rfl,?_,?_,fun _ h=>hd1 (by rw[hso] at h;exact h),by omega,fun x hx=>by rw[hfa x hx,hfr x hx],rfl⟩
        ·rw[hss,List.map_append];exact R1a
        ·rw[hso];exact R3a
       |false=>
        have hnm1:qm≠pm:=by simpa using hnm
        have hsb:sameB n pm r=false:=by unfold sameB;rw[hpa];show (decide (qk=0) || decide (qm=pm))=false;rw[hk1,decide_eq_false hnm1];rfl
        have hob:othB n pm r=true:=by unfold othB;rw[hpa];show (decide (qk=0) || decide (qm≠pm))=true;rw[hk1,decide_eq_true hnm1];rfl
        rw[hsb,if_neg (by simp),List.append_nil] at hss
        rw[hob,if_pos rfl] at hso
        obtain ⟨v3',Y3,q3,m3',e3,R3b,R1b,hd3,hqb,hfb⟩:=ra_app2 (nl:=some false) (x:=eW r) R3' R1' (fun h1 h2=>fun e=>hdi h2 h1 e.symm) (by omega) rfl hb3
        have e3:app 2 32 ⟨Y,qq+1+1⟩ v3 (.tl [.d (D.agg [eI r.n,ePs r.pats])] (some false))=_:=e3
        simp only[e37,hi,iaW hr,hcW,hiaR,hcP,hk0,r10,hnm,bne,hrep,e3,hwr,wz,opX,intBin,↓reduceIte,simprocAttr]
        refine ⟨Y3,q3,m1,v1,m3',v3',rfl,?_,?_,fun h _=>fun e=>hd3 (by rw[hss] at h;exact h) e.symm,by omega,fun x hx=>by rw[hfb x hx,hfr x hx],rfl⟩
        ·rw[hss];exact R1b
        ·rw[hso,List.map_append];exact R3b
     ·rintro e h' ⟨Y,qq,m1,v1,m3,v3,rfl,R1,R3,hdi,hqq,hfr,rfl⟩
      rw[List.take_length] at R1 R3 hdi
      obtain ⟨Y1,hz1,hf1⟩:=ra_frz R1
      have hY1:∀ x,x<q2+1→Zv.look Y1 x=Zv.look X3 x:=fun x hx=>by rw[hf1 x (fun h=>by have:=R1.lo h;omega),hfr x hx]
      have R3a:RA Y1 qq (q2+1) 2 v3 ((othRows n pm rows).map eW) m3:=R3.mono (Nat.le_refl _) fun h3=>hf1 m3 fun h1 e=>hdi h1 h3 e.symm
      have V4:VB d ov dv bv Y1 (out++[zT]) m':=V3.same (hY1 _ (by omega)) (hY1 _ (by omega)) (hY1 _ (by omega)) (hY1 _ (by omega))
      obtain ⟨r1,hv1,ma,Xa,qa,rfl,V5,hma,hqa,hme,_,F5⟩:=ih (out++[zT]) (putC cols n []) (sameRows n pm rows) Y1 m' qq I1 (by simp;omega) (.inl ⟨by simp,V4,by omega⟩) (by omega) (by omega) (by omega)
      obtain rfl:ma=m':=hme (by simp)
      have L1:=(buildS_len d k (out++[zT]) (putC cols n []) (sameRows n pm rows))
      rw[List.length_append,List.length_cons,List.length_nil] at L1
      have hrpO:=fun h=>replO_ok cols n [] hnl (by omega) (by simp) h
      have hrpO:∀ h,callW tab 44 [.d (eOs cols),.d (.int .i64 (n:Int)),.d (.lst [])] h=some (.d (eOs (putC cols n [])),h):=hrpO
      have rb1:=fun nx=>row_of (q:=nx) V4.ibv (tot:=1) rfl
      generalize buildS d k (out++[zT]) (putC cols n []) (sameRows n pm rows)=Q1 at hv1 V5 L1 ⊢
      have hne1:Q1.1≠[]:=fun h=>by rw[h] at L1;simp at L1
      have hXa2:Zv.look Xa q2=some (.arr 5 [gT c.path false pm (.tl [] (some true))]):=by rw[F5 q2 (by omega) (by omega) (by omega),hY1 q2 (by omega)];exact k2
      have hst3:=st_next (X:=(qa,.arr 1 [.d (eI Q1.2),.d (.int .i64 0)])::Xa) (a:=q2) (by rw[look_tl _ _ (by omega)];exact hXa2) qa [eI Q1.2,eI 0] (qa+1)
      have hst3:st 1 ⟨(qa,.arr 1 [.d (eI Q1.2),.d (.int .i64 0)])::Xa,qa+1⟩ (.ptr q2 1 0 3) (.own qa 1 2 0 2)=some ⟨Zv.upd ((qa,.arr 1 [.d (eI Q1.2),.d (.int .i64 0)])::Xa) q2 (.arr 5 [gT c.path false pm (.own qa 1 2 0 2)]),qa+1⟩:=hst3
      have hb0:∀ x,x≠q2→x≠qa→Zv.look (Zv.upd ((qa,.arr 1 [.d (eI Q1.2),.d (.int .i64 0)])::Xa) q2 (.arr 5 [gT c.path false pm (.own qa 1 2 0 2)])) x=Zv.look Xa x:=fun x h1 h2=>by rw[Zs.look_upd,if_neg h1,look_tl _ _ h2]
      have hb1:Zv.look (Zv.upd ((qa,.arr 1 [.d (eI Q1.2),.d (.int .i64 0)])::Xa) q2 (.arr 5 [gT c.path false pm (.own qa 1 2 0 2)])) q2=some (.arr 5 [gT c.path false pm (.own qa 1 2 0 2)]):=by rw[Zs.look_upd,if_pos rfl,look_tl _ _ (by omega),hXa2];rfl
      have hb2:Zv.look (Zv.upd ((qa,.arr 1 [.d (eI Q1.2),.d (.int .i64 0)])::Xa) q2 (.arr 5 [gT c.path false pm (.own qa 1 2 0 2)])) qa=some (.arr 1 [.d (eI Q1.2),.d (.int .i64 0)]):=by rw[Zs.look_upd,if_neg (by omega),look_hd]
      generalize Zv.upd ((qa,.arr 1 [.d (eI Q1.2),.d (.int .i64 0)])::Xa) q2 (.arr 5 [gT c.path false pm (.own qa 1 2 0 2)])=Xb at hst3 hb0 hb1 hb2
      have R3b:RA Xb (qa+1) (q2+1) 2 v3 ((othRows n pm rows).map eW) m3:=R3a.mono (by omega) fun h3=>by
       have h5:=R3a.lo h3
       have h6:=R3a.hi h3
       rw[hb0 m3 (by omega) (by omega),F5 m3 h6 (by omega) (by omega)]
      obtain ⟨Y2,hz2,hf2⟩:=ra_frz R3b
      have hY2:∀ x,x<q2+1→Zv.look Y2 x=Zv.look Xb x:=fun x hx=>hf2 x (fun h=>by have:=R3b.lo h;omega)
      have hY2a:Zv.look Y2 qa=some (.arr 1 [.d (eI Q1.2),.d (.int .i64 0)]):=by rw[hf2 qa (fun h=>by have:=R3a.hi h;omega)];exact hb2
      have hY2t:Zv.look Y2 q2=some (.arr 5 [gT c.path false pm (.own qa 1 2 0 2)]):=by rw[hY2 q2 (by omega)];exact hb1
      have V6:VB d ov dv bv Y2 Q1.1 ma:=V5.same (by rw[hY2 _ (by omega),hb0 _ (by omega) (by omega)]) (by rw[hY2 _ (by omega),hb0 _ (by omega) (by omega)]) (by rw[hY2 _ (by omega),hb0 _ (by omega) (by omega)]) (by rw[hY2 _ (by omega),hb0 _ (by omega) (by omega)])
      obtain ⟨r2,hv2,mb,Xc,qc,rfl,V7,hmb,hqc,hme2,_,F7⟩:=ih Q1.1 cols (othRows n pm rows) Y2 ma (qa+1) I2 (L1.2 (by omega)) (.inl ⟨hne1,V6,by omega⟩) (by omega) (by omega) (by omega)
      obtain rfl:mb=ma:=hme2 hne1
      have L2:=(buildS_len d k Q1.1 cols (othRows n pm rows))
      generalize buildS d k Q1.1 cols (othRows n pm rows)=Q2 at hv2 V7 L2 ⊢
      have rb2:=fun nx=>row_of (q:=nx) V6.ibv (tot:=1) rfl
      have rt2:=fun nx=>row_of (q:=nx) hY2t (tot:=1) rfl
      have hldk:∀ nx,ldk false 1 ⟨Y2,nx⟩ (.ptr q2 1 0 0) (.ptr q2 1 0 3)=some (.own qa 1 2 0 2):=by
       intro nx;simp[ldk,ld,rt2,partV,V.cells]
      have hXct:Zv.look Xc q2=Zv.look Y2 q2:=F7 q2 (by omega) (by omega) (by omega)
      have hsm:∀ n1,sameAt ⟨Y2,n1⟩ ⟨Xc,qc⟩ (.ptr q2 1 0 0)=true:=by
       intro n1;simp only[sameAt,Hp.get,hXct,hY2t,Ob.beq_refl]
      have hXca:Zv.look Xc qa=some (.arr 1 [.d (eI Q1.2),.d (.int .i64 0)]):=by rw[F7 qa (by omega) (by omega) (by omega)];exact hY2a
      have hia1:ia 1 (.own qa 1 2 0 2) (.d (.int .i64 1))=some (.ptr qa 2 1 0):=ia_own (n:=qa) (tot:=2) .i64 (show 1<2 by omega)
      have hst5:st 1 ⟨Xc,qc⟩ (.ptr qa 2 1 0) (.d (eI Q2.2))=some ⟨Zv.upd Xc qa (.arr 1 [.d (eI Q1.2),.d (eI Q2.2)]),qc⟩:=by
       exact st_all (sz:=1) (i:=1) (x:=.d (eI Q2.2)) (row_of (tot:=2) hXca rfl) (e:=.d (.int .i64 0)) rfl rfl rfl
      have hd0:∀ x,x≠qa→Zv.look (Zv.upd Xc qa (.arr 1 [.d (eI Q1.2),.d (eI Q2.2)])) x=Zv.look Xc x:=fun x h=>by rw[Zs.look_upd,if_neg h]
      have hd1:Zv.look (Zv.upd Xc qa (.arr 1 [.d (eI Q1.2),.d (eI Q2.2)])) qa=some (.arr 1 [.d (eI Q1.2),.d (eI Q2.2)]):=by rw[Zs.look_upd,if_pos rfl,hXca];rfl
      generalize Zv.upd Xc qa (.arr 1 [.d (eI Q1.2),.d (eI Q2.2)])=Xd at hst5 hd0 hd1
      obtain ⟨Ye,hz3,hf3⟩:=fz_T (X:=Xd) (a:=q2) (m:=qa) (q:=qc) (q0:=q2+1) (s:=[Q1.2,Q2.2]) (by rw[hd0 q2 (by omega),hXct];exact hY2t) ⟨rfl,fun _=>hd1,fun _=>by omega,fun _=>by omega⟩ (by omega)
      have hYe:∀ x,x≠q2→x≠qa→Zv.look Ye x=Zv.look Xc x:=fun x h1 h2=>by rw[hf3 x h1 (fun _=>h2),hd0 x h2]
      have V8:VB d ov dv bv Ye Q2.1 mb:=V7.same (hYe _ (by omega) (by omega)) (hYe _ (by omega) (by omega)) (hYe _ (by omega) (by omega)) (hYe _ (by omega) (by omega))
      have rw8:=fun nx=>row_of (q:=nx) V8.iov (tot:=1) rfl
      have hio8:=ia_own (es:=5) (n:=mb) (tot:=Q2.1.length) .i64 (show out.length<Q2.1.length by omega)
      have hst8:=fun nx=>st_elem V8.irow (L:=Q2.1.length) rfl (show out.length<Q2.1.length by omega) ⟨c.path,false,pm,[Q1.2,Q2.2],0⟩ nx
      have hst8:∀ nx,st 5 ⟨Ye,nx⟩ (.ptr mb Q2.1.length out.length 0) (.d (D.agg [eIs c.path,.bool false,eI pm,eIs [Q1.2,Q2.2],eI 0]))=_:=hst8
      simp only[e37,hz1,rb1,hrpO,hv1,hst3,hz2,hldk,rb2,hv2,hsm,hia1,hst5,hz3,rw8,hio8,hst8,wz,opX,intBin,↓reduceIte,simprocAttr]
      refine ⟨_,rfl,mb,_,qc,rfl,V8.put (by rw[List.length_set]),hmb,by omega,hmm,hm0,?_⟩
      intro x hx h1 h2
      rw[Zs.look_upd,if_neg h2,hYe x (by omega) (by omega),F7 x (by omega) h1 h2,hY2 x (by omega),hb0 x (by omega) (by omega),F5 x (by omega) h1 h2,hY1 x (by omega),k1 x (by omega)]
      exact F2 x hx h1 h2
    |false=>
     have hty2:c.ty≠0:=by simpa using hty
     rw[if_neg hty2]
     obtain ⟨n',y,hct2,hy⟩:∃ (n':Nat) (y:Dt),c.ty=(n':Int)+1∧d[n']? = some y:=by
      rcases tcase d c.ty with h | h | h
      ·exfalso;unfold isT at hct;simp only[Bool.and_eq_true,decide_eq_true_eq] at hct;omega
      ·exfalso;unfold isT at hct;simp only[Bool.and_eq_true,decide_eq_true_eq] at hct;omega
      ·exact h
     have hym:=List.mem_of_getElem? hy
     have hyl:=(S.ds y hym).2.1
     have hdl:=S.len
     have hnd:=(List.getElem?_eq_some_iff.1 hy).1
     have hws:=wrap_sub1 (n:=n') (by omega)
     have hco:consOf d c.ty=y.cons:=by rw[hct2];exact consOf_at hy
     have hB3:bldC d (buildS d k) cols rows n c out=((conL (buildS d k) cols rows n c 0 y.cons (out++[zT]) []).1.set out.length ⟨c.path,true,0,(conL (buildS d k) cols rows n c 0 y.cons (out++[zT]) []).2,0⟩,(out.length:Int)):=by
      unfold bldC;rw[hco]
     rw[hB3]
     have rd:=fun o nx=>row_cn (n:=dv) (m:=q2) (o:=o) (nx:=nx) (by omega) (fun nx=>row_of (q:=nx) V2.idv (tot:=1) rfl)
     simp only[e37,hrw,hcell,hlen,h4',mk_z1,mk_z,happ,hst,ia0,hidx,hrw2,hn0,iaO hc,hcl2,hty,bne,mk_t0,hct2,rd,hws,iaD hy,wz,opX,intBin,↓reduceIte,simprocAttr]
     have hm2':m'<q2:=hm2
     have k1:∀ x,x<q2→Zv.look ((q2,Ob.arr 5 [gT c.path true 0 (.tl [] (some true))])::X2) x=Zv.look X2 x:=fun x hx=>look_tl _ _ (by omega)
     have k2:Zv.look ((q2,Ob.arr 5 [gT c.path true 0 (.tl [] (some true))])::X2) q2=some (.arr 5 [gT c.path true 0 (.tl [] (some true))]):=look_hd ..
     generalize ((q2,Ob.arr 5 [gT c.path true 0 (.tl [] (some true))])::X2)=X3 at k1 k2 ⊢
     have V3:VB d ov dv bv X3 (out++[zT]) m':=V2.same (k1 _ (by omega)) (k1 _ (by omega)) (k1 _ (by omega)) (k1 _ (by omega))
     have hrl:=I.rl
     refine loop_wp y.cons.length (fun i e h'=>∃ Xi qi o nxs m10 v10,h'=⟨Xi,qi⟩∧VB d ov dv bv Xi o m'∧Zv.look Xi q2=some (.arr 5 [gT c.path true 0 v10])∧RA Xi qi (q2+1) 1 v10 (nxs.map eI) m10∧q2+1≤qi∧(∀ x,x<q2→x≠ov→x≠m'→Zv.look Xi x=Zv.look X3 x)∧out.length+1≤o.length∧o.length≤4097∧nxs.length=i ∧
      conL (buildS d k) cols rows n c 0 y.cons (out++[zT]) []=conL (buildS d k) cols rows n c i (y.cons.drop i) o nxs ∧
      e=[(0,.d (eOs cols)),(1,.d (eWs rows)),(2,.ptr ov 1 0 0),(4,.ptr bv 1 0 0),(8,.d (.int .i64 (out.length:Int))),(9,.d (eI n)),(10,.ptr q2 1 0 0),(79,.d (.lst (y.cons.map eC))),(80,.d (.int .i64 y.cons.length)),(81,.d (.int .i64 (i:Int)))]) _ ?_ ?_ y.cons.length 0 _ _ (by omega) ⟨X3,q2+1,out++[zT],[],0,_,rfl,V3,k2,RA.nil ..,Nat.le_refl _,fun _ _ _ _=>rfl,by simp,by simp;omega,rfl,rfl,rfl⟩
     ·rintro i e h' hi ⟨Xi,qi,o,nxs,m10,v10,rfl,Vi,hti,R10,hqi,hfi,ho1,ho2,hnx,hch,rfl⟩
      obtain ⟨z,hz1⟩:=get_of_lt hi
      have hzm:=List.mem_of_getElem? hz1
      have hzf:=((S.ds y hym).2.2 z hzm).2
      have hwr:IntKind.i64.wrap ((i:Int)+1)=((i+1:Nat):Int):=by rw[wrap_ok (by omega) (by omega)];rfl
      rw[drop_at hz1] at hch
      have hIc:=I.con hr0 hz hc hty2 (by rw[hco];exact hz1)
      have hcC:(eC z).cells.length=2:=rfl
      simp only[e37,hi,iaC hz1,hcC,wz,opX,intBin,↓reduceIte,simprocAttr]
      refine loop_wp z.flds.length (fun j e h'=>∃ Y qq m13 v13,h'=⟨Y,qq⟩∧RA Y qq (qi+1) 2 v13 ((fldC c.path (z.flds.take j)).map eO) m13∧qi+1≤qq∧(∀ x,x<qi+1→Zv.look Y x=Zv.look Xi x) ∧
       e=[(0,.d (eOs cols)),(1,.d (eWs rows)),(2,.ptr ov 1 0 0),(4,.ptr bv 1 0 0),(8,.d (.int .i64 (out.length:Int))),(9,.d (eI n)),(10,.ptr q2 1 0 0),(11,.d (.int .i64 (i:Int))),(12,.fp (eC z) 0),(13,v13),(79,.d (.lst (y.cons.map eC))),(80,.d (.int .i64 y.cons.length)),(81,.d (.int .i64 (i:Int))),(87,.d (.lst (z.flds.map eI))),(88,.d (.int .i64 z.flds.length)),(89,.d (.int .i64 (j:Int)))]) _ ?_ ?_ z.flds.length 0 _ _ (by omega) ⟨Xi,qi+1,0,_,rfl,RA.nil ..,Nat.le_refl _,fun _ _=>rfl,rfl⟩
      ·rintro j e h' hj ⟨Y,qq,m13,v13,rfl,R13,hqq,hfr,rfl⟩
       obtain ⟨f,hf⟩:=get_of_lt hj
       have hwj:IntKind.i64.wrap ((j:Int)+1)=((j+1:Nat):Int):=by rw[wrap_ok (by omega) (by omega)];rfl
       have hlo:=fun h=>longer_ok c.path (j:Int) (by omega) h
       have hfs:=fldC_snoc c.path hf
       have hfl:(fldC c.path (z.flds.take j)).length≤8:=by unfold fldC;rw[List.length_map,List.length_zipIdx,List.length_take];omega
       obtain ⟨v',Y1,q1,m1',e1,R1a,hqa,_,_,hfa⟩:=ra_app (nl:=some false) (x:=eO ⟨c.path++[(j:Int)],f⟩) (b:=32) R13 hqq rfl (by rw[List.length_map];unfold roomB;omega)
       have e1:app 2 32 ⟨Y,qq⟩ v13 (.tl [.d (D.agg [eIs (c.path++[(j:Int)]),eI f])] (some false))=_:=e1
       simp only[e37,hj,iaI hf,iaO hc,hlo,hwj,e1,wz,opX,intBin,↓reduceIte,simprocAttr]
       refine ⟨Y1,q1,m1',v',rfl,?_,by omega,fun x hx=>by rw[hfa x (by omega) (fun h=>by have:=R13.lo h;omega),hfr x hx],rfl⟩
       rw[hfs,List.map_append];exact R1a
      ·rintro e h' ⟨Y,qq,m13,v13,rfl,R13,hqq,hfr,rfl⟩
       rw[List.take_length] at R13
       simp only[e37,wz,opX,intBin,↓reduceIte,simprocAttr]
       refine loop_wp rows.length (fun ii e h'=>∃ Y qq m16 v16,h'=⟨Y,qq⟩∧RA Y qq (qi+1) 2 v13 ((fldC c.path z.flds).map eO) m13∧RA Y qq (qi+1) 2 v16 ((conRows n (i:Int) z.flds.length (rows.take ii)).map eW) m16∧((conRows n (i:Int) z.flds.length (rows.take ii)).map eW≠[]→(fldC c.path z.flds).map eO≠[]→m16≠m13)∧qi+1≤qq∧(∀ x,x<qi+1→Zv.look Y x=Zv.look Xi x) ∧
        e=[(0,.d (eOs cols)),(1,.d (eWs rows)),(2,.ptr ov 1 0 0),(4,.ptr bv 1 0 0),(8,.d (.int .i64 (out.length:Int))),(9,.d (eI n)),(10,.ptr q2 1 0 0),(11,.d (.int .i64 (i:Int))),(12,.fp (eC z) 0),(13,v13),(16,v16),(79,.d (.lst (y.cons.map eC))),(80,.d (.int .i64 y.cons.length)),(81,.d (.int .i64 (i:Int))),(107,.d (eWs rows)),(108,.d (.int .i64 rows.length)),(109,.d (.int .i64 (ii:Int)))]) _ ?_ ?_ rows.length 0 _ _ (by omega) ⟨Y,qq,0,_,rfl,R13,RA.nil ..,fun h=>absurd rfl h,hqq,hfr,rfl⟩
       ·rintro ii e h' hii ⟨Y,qq,m16,v16,rfl,R13,R16,hdi,hqq,hfr,rfl⟩
        obtain ⟨r,hr⟩:=get_of_lt hii
        have hwi:IntKind.i64.wrap ((ii:Int)+1)=((ii+1:Nat):Int):=by rw[wrap_ok (by omega) (by omega)];rfl
        have hrfit:=I.fit r (List.mem_of_getElem? hr)
        have hrf:=fitR_len hrfit
        rw[List.length_map] at hrf
        obtain ⟨pr,hpr⟩:=get_of_lt (l:=r.pats) (n:=n) (by omega)
        have hpa:patAt r n=pr:=by unfold patAt;rw[List.getD_eq_getElem?_getD,hpr];rfl
        have hcW:(eW r).cells.length=2:=rfl
        have hcs:=con_snoc n (i:Int) z.flds.length hr
        have hal:=fitR_args S hrfit pr (List.mem_of_getElem? hpr)
        have hag:=fun h=>args_ok pr (i:Int) z.flds.length (by omega) h
        cases ha:argsFor pr (i:Int) z.flds.length with
        |none=>
         rw[ha] at hag
         have hcr:conRow n (i:Int) z.flds.length r=none:=by unfold conRow;rw[hpa,ha];rfl
         rw[hcr,Option.toList_none,List.append_nil] at hcs
         simp only[e37,hii,iaW hr,hcW,iaP hpr,pts,hag,Option.getD_none,Option.isSome_none,hwi,wz,opX,intBin,↓reduceIte,simprocAttr]
         refine ⟨Y,qq+1,m16,v16,rfl,R13.mono (by omega) (fun _=>rfl),?_,by rw[hcs];exact hdi,by omega,hfr,rfl⟩
         rw[hcs];exact R16.mono (by omega) (fun _=>rfl)
        |some a=>
         rw[ha] at hag
         have hcr:conRow n (i:Int) z.flds.length r=some (putP r n a):=by unfold conRow;rw[hpa,ha];rfl
         rw[hcr,Option.toList_some] at hcs
         have hale:a.length≤10000:=by
          unfold argsFor at ha
          split at ha
          ·cases ha;rw[List.length_replicate];omega
          ·split at ha
           ·cases ha;exact hal
           ·cases ha
         have hrep:=fun h=>replP_ok r.pats n a (by omega) (by omega) (by omega) h
         have hrep:∀ h,callW tab 43 [.d (ePs r.pats),.d (.int .i64 (n:Int)),.d (ePs a)] h=some (.d (ePs (putP r n a).pats),h):=hrep
         have hsl:(conRows n (i:Int) z.flds.length (rows.take ii)).length≤6:=by
          have:=List.length_filterMap_le (conRow n (i:Int) z.flds.length) (rows.take ii)
          rw[List.length_take] at this;unfold conRows;omega
         obtain ⟨v',Y1,q1,m1',e1,R1a,R13a,hd1,hqa,hfa⟩:=ra_app2 (nl:=some false) (x:=eW (putP r n a)) (b:=32) (R16.mono (q':=qq+1) (by omega) (fun _=>rfl)) (R13.mono (q':=qq+1) (by omega) (fun _=>rfl)) hdi (by omega) rfl (by rw[List.length_map];unfold roomB;omega)
         have e1:app 2 32 ⟨Y,qq+1⟩ v16 (.tl [.d (D.agg [eI r.n,ePs (putP r n a).pats])] (some false))=_:=e1
         simp only[e37,hii,iaW hr,hcW,iaP hpr,pts,hag,Option.getD_some,Option.isSome_some,hrep,e1,hwi,wz,opX,intBin,↓reduceIte,simprocAttr]
         refine ⟨Y1,q1,m1',v',rfl,R13a,?_,fun _ h=>hd1 h,by omega,fun x hx=>by rw[hfa x hx,hfr x hx],rfl⟩
         rw[hcs,List.map_append];exact R1a
       ·rintro e h' ⟨Y,qq,m16,v16,rfl,R13,R16,hdi,hqq,hfr,rfl⟩
        rw[List.take_length] at R16 hdi
        obtain ⟨Y1,hz16,hf16⟩:=ra_frz R16
        have R13a:RA Y1 qq (qi+1) 2 v13 ((fldC c.path z.flds).map eO) m13:=R13.mono (Nat.le_refl _) fun h3=>hf16 m13 fun h1 e=>hdi h1 h3 e.symm
        obtain ⟨Y2,hz13,hf13⟩:=ra_frz R13a
        have hY2:∀ x,x<qi+1→Zv.look Y2 x=Zv.look Xi x:=fun x hx=>by rw[hf13 x (fun h=>by have:=R13a.lo h;omega),hf16 x (fun h=>by have:=R16.lo h;omega),hfr x hx]
        have V4:VB d ov dv bv Y2 o m':=Vi.same (hY2 _ (by omega)) (hY2 _ (by omega)) (hY2 _ (by omega)) (hY2 _ (by omega))
        have hone:o≠[]:=fun h=>by rw[h] at ho1;simp at ho1
        obtain ⟨r1,hv1,ma,Xa,qa,rfl,V5,hma,hqa,hme,_,F5⟩:=ih o (putC cols n (fldC c.path z.flds)) (conRows n (i:Int) z.flds.length rows) Y2 m' qq hIc ho2 (.inl ⟨hone,V4,by omega⟩) (by omega) (by omega) (by omega)
        obtain rfl:ma=m':=hme hone
        have L1:=(buildS_len d k o (putC cols n (fldC c.path z.flds)) (conRows n (i:Int) z.flds.length rows))
        have hconL:conL (buildS d k) cols rows n c i (z::y.cons.drop (i+1)) o nxs=conL (buildS d k) cols rows n c (i+1) (y.cons.drop (i+1)) (buildS d k o (putC cols n (fldC c.path z.flds)) (conRows n (i:Int) z.flds.length rows)).1 (nxs++[(buildS d k o (putC cols n (fldC c.path z.flds)) (conRows n (i:Int) z.flds.length rows)).2]):=rfl
        rw[hconL] at hch
        generalize buildS d k o (putC cols n (fldC c.path z.flds)) (conRows n (i:Int) z.flds.length rows)=Q1 at hv1 V5 L1 hch
        have hfll:(fldC c.path z.flds).length≤8:=by unfold fldC;rw[List.length_map,List.length_zipIdx];omega
        have hrpO:=fun h=>replO_ok cols n (fldC c.path z.flds) hnl (by omega) (by omega) h
        have hrpO:∀ h,callW tab 44 [.d (eOs cols),.d (.int .i64 (n:Int)),.d (eOs (fldC c.path z.flds))] h=some (.d (eOs (putC cols n (fldC c.path z.flds))),h):=hrpO
        have rb1:=fun nx=>row_of (q:=nx) V4.ibv (tot:=1) rfl
        have hYt:Zv.look Y2 q2=some (.arr 5 [gT c.path true 0 v10]):=by rw[hY2 q2 (by omega)];exact hti
        have rt2:=fun nx=>row_of (q:=nx) hYt (tot:=1) rfl
        have hldk:∀ nx,ldk false 1 ⟨Y2,nx⟩ (.ptr q2 1 0 0) (.ptr q2 1 0 3)=some v10:=by
         intro nx;simp[ldk,ld,rt2,partV,V.cells]
        have hXat:Zv.look Xa q2=Zv.look Y2 q2:=F5 q2 (by omega) (by omega) (by omega)
        have hsm:∀ n1,sameAt ⟨Y2,n1⟩ ⟨Xa,qa⟩ (.ptr q2 1 0 0)=true:=by
         intro n1;simp only[sameAt,Hp.get,hXat,hYt,Ob.beq_refl]
        have R10a:RA Xa qa (q2+1) 1 v10 (nxs.map eI) m10:=R10.mono (by omega) fun h=>by
         have h5:=R10.lo h
         have h6:=R10.hi h
         rw[F5 m10 (by omega) (by omega) (by omega),hY2 m10 (by omega)]
        obtain ⟨v',Xb,qb,m1',e1,R1a,hqb,hmA,hmB,hfb⟩:=ra_app (nl:=some false) (x:=eI Q1.2) (b:=8) R10a (by omega) rfl (by rw[List.length_map];unfold roomB;omega)
        have hXbt:Zv.look Xb q2=some (.arr 5 [gT c.path true 0 v10]):=by rw[hfb q2 (by omega) (fun h=>by have:=R10.lo h;omega),hXat];exact hYt
        have hst3:st 1 ⟨Xb,qb⟩ (.ptr q2 1 0 3) v'=some ⟨Zv.upd Xb q2 (.arr 5 [gT c.path true 0 v']),qb⟩:=by
         rw[R1a.v];exact st_next hXbt m1' _ qb
        have hlo1:=R1a.lo (by simp)
        have hXc:∀ x,x≠q2→Zv.look (Zv.upd Xb q2 (.arr 5 [gT c.path true 0 v'])) x=Zv.look Xb x:=fun x h=>by rw[Zs.look_upd,if_neg h]
        have hXb0:∀ x,x<q2→Zv.look Xb x=Zv.look Xa x:=fun x hx=>hfb x (by omega) (fun h=>by have:=R10.lo h;omega)
        simp only[e37,hz16,hz13,hldk,rb1,hrpO,hv1,hsm,e1,hst3,hwr,wz,opX,intBin,↓reduceIte,simprocAttr]
        refine ⟨Zv.upd Xb q2 (.arr 5 [gT c.path true 0 v']),qb,Q1.1,nxs++[Q1.2],m1',v',rfl,?_,?_,?_,by omega,?_,by omega,L1.2 ho2,by simp[hnx],hch⟩
        ·exact V5.same (by rw[hXc _ (by omega),hXb0 _ (by omega)]) (by rw[hXc _ (by omega),hXb0 _ (by omega)]) (by rw[hXc _ (by omega),hXb0 _ (by omega)]) (by rw[hXc _ (by omega),hXb0 _ (by omega)])
        ·rw[Zs.look_upd,if_pos rfl,hXbt];rfl
        ·rw[List.map_append];exact R1a.mono (Nat.le_refl _) (fun _=>hXc m1' (by omega))
        ·intro x hx h1 h2
         rw[hXc x (by omega),hXb0 x hx,F5 x (by omega) h1 h2,hY2 x (by omega),hfi x hx h1 h2]
     ·rintro e h' ⟨Xi,qi,o,nxs,m10,v10,rfl,Vi,hti,R10,hqi,hfi,ho1,ho2,hnx,hch,rfl⟩
      rw[show y.cons.drop y.cons.length=[] from List.drop_of_length_le (Nat.le_refl _)] at hch
      rw[hch]
      have hce:conL (buildS d k) cols rows n c y.cons.length [] o nxs=(o,nxs):=rfl
      rw[hce]
      obtain ⟨Ye,hz3,hf3⟩:=fz_T (X:=Xi) (a:=q2) hti R10 (by omega)
      have hYe:∀ x,x<q2→Zv.look Ye x=Zv.look Xi x:=fun x h1=>hf3 x (by omega) (fun h=>by have:=R10.lo (by simpa using h);omega)
      have V8:VB d ov dv bv Ye o m':=Vi.same (hYe _ (by omega)) (hYe _ (by omega)) (hYe _ (by omega)) (hYe _ (by omega))
      have rw8:=fun nx=>row_of (q:=nx) V8.iov (tot:=1) rfl
      have hio8:=ia_own (es:=5) (n:=m') (tot:=o.length) .i64 (show out.length<o.length by omega)
      have hst8:=fun nx=>st_elem V8.irow (L:=o.length) rfl (show out.length<o.length by omega) ⟨c.path,true,0,nxs,0⟩ nx
      have hst8:∀ nx,st 5 ⟨Ye,nx⟩ (.ptr m' o.length out.length 0) (.d (D.agg [eIs c.path,.bool true,eI 0,eIs nxs,eI 0]))=_:=hst8
      simp only[e37,hz3,rw8,hio8,hst8,wz,opX,intBin,↓reduceIte,simprocAttr]
      refine ⟨_,rfl,m',_,qi,rfl,V8.put (by rw[List.length_set]),by omega,by omega,hmm,hm0,?_⟩
      intro x hx h1 h2
      rw[Zs.look_upd,if_neg h2,hYe x (by omega),hfi x (by omega) h1 h2,k1 x (by omega)]
      exact F2 x hx h1 h2
end Zc28
end
section
set_option maxHeartbeats 4000000
namespace Zc28
open Go Zv Zs
theorem app_rowL {es b m q:Nat} {Y:List (Nat × Ob)} {S r:List D} (hr:Zv.look Y m=some (.arr es (S.map .d))) (hx:∀ y,y ∈ r→y.cells.length=es) (hne:r≠[]) (hb:(S.length+r.length)*b≤roomB) :
  app es b ⟨Y,q⟩ (.own m es S.length 0 S.length) (.d (.lst r))=some (.own m es (S++r).length 0 (S++r).length,⟨Zv.upd Y m (.arr es ((S++r).map .d)),q⟩):=by
 have hrow:(⟨Y,q⟩:Hp).row m S.length=some (es,S.map .d):=row_of hr (by simp)
 have hp:0<r.length:=List.length_pos_iff.2 hne
 have he:(r.map V.d).isEmpty=false:=by cases r with | nil=>exact absurd rfl hne | cons=>rfl
 have h1:¬ S.length+r.length≤S.length:=by omega
 have h2:List.take S.length (S.map V.d)=S.map V.d:=List.take_of_length_le (by simp)
 unfold app
 simp only[elems,Option.bind_some,norm_map_d,allV_d hx,if_true,hrow,List.length_map,Nat.zero_add,Nat.le_refl,and_self,he,Bool.false_eq_true,if_false,h1,hb,h2,Hp.set,List.map_append,List.length_append]
theorem raL {Y:List (Nat × Ob)} {q q0 es b m:Nat} {v:V} {S r:List D} (R:RA Y q q0 es v S m) (hq:q0≤q) (hx:∀ y,y ∈ r→y.cells.length=es) (hb:(S.length+r.length)*b≤roomB) :
  ∃ v' Y' q' m',app es b ⟨Y,q⟩ v (.d (.lst r))=some (v',⟨Y',q'⟩)∧RA Y' q' q0 es v' (S++r) m'∧q≤q'∧∀ n,n<q0→Zv.look Y' n=Zv.look Y n:=by
 by_cases hr:r=[]
 ·subst hr
  refine ⟨v,Y,q,m,?_,by rw[List.append_nil];exact R,Nat.le_refl _,fun _ _=>rfl⟩
  rw[R.v]
  unfold rowN
  split
  ·rfl
  ·rename_i hs
   have hrow:(⟨Y,q⟩:Hp).row m S.length=some (es,S.map .d):=row_of (R.row hs) (by simp)
   simp[app,elems,hrow,allV]
 ·by_cases hs:S=[]
  ·subst hs
   have h:=tl_app (nl:=some true) (es:=es) (b:=b) (h:=⟨Y,q⟩) (r:=r) hx (by simpa using hb)
   unfold cloV cloO at h
   simp only[hr,if_false] at h
   refine ⟨.own q es r.length 0 r.length,(q,.arr es (r.map .d))::Y,q+1,q,by rw[R.v];exact h,⟨by rw[List.nil_append];unfold rowN;rw[if_neg hr],fun _=>by rw[List.nil_append];exact look_hd ..,fun _=>hq,fun _=>by omega⟩,by omega,fun n hn=>look_tl _ _ (by omega)⟩
  ·have hv:v=.own m es S.length 0 S.length:=by rw[R.v];exact if_neg hs
   have hn:S++r≠[]:=by simp[hs]
   refine ⟨_,_,_,m,by rw[hv];exact app_rowL (R.row hs) hx hr hb,⟨by unfold rowN;rw[if_neg hn],fun _=>by rw[Zs.look_upd,if_pos rfl,R.row hs];rfl,fun _=>R.lo hs,fun _=>R.hi hs⟩,Nat.le_refl _,fun n hn'=>?_⟩
   rw[Zs.look_upd,if_neg (by have:=R.lo hs;omega)]
theorem raX {Y:List (Nat × Ob)} {q q0 es b m:Nat} {v:V} {S:List D} {x:D} {nl:Option Bool} (R:RA Y q q0 es v S m) (hq:q0≤q) (hx:x.cells.length=es) (hb:(S.length+1)*b≤roomB) :
  ∃ v' Y' q' m',app es b ⟨Y,q⟩ v (.tl [.d x] nl)=some (v',⟨Y',q'⟩)∧RA Y' q' q0 es v' (S++[x]) m'∧q≤q'∧∀ n,n<q0→Zv.look Y' n=Zv.look Y n:=by
 rw[show app es b ⟨Y,q⟩ v (.tl [.d x] nl)=app es b ⟨Y,q⟩ v (.d (.lst [x])) from app_tl1 ..]
 exact raL R hq (by intro y hy;rw[List.mem_singleton] at hy;subst hy;exact hx) hb
theorem rz {Y:List (Nat × Ob)} {q q0 es m:Nat} {v:V} {S:List D} (R:RA Y q q0 es v S m) :
  ∃ Y',(∀ nx,Zv.frz ⟨Y,nx⟩ v=some (.d (.lst S),⟨Y',nx⟩))∧∀ n,n<q0→Zv.look Y' n=Zv.look Y n:=by
 obtain ⟨Y',h1,h2⟩:=ra_frz R
 exact⟨Y',h1,fun n hn=>h2 n fun hs=>by have:=R.lo hs;omega⟩
theorem RA.keep {Y Y':List (Nat × Ob)} {q q' q0 es m L:Nat} {v:V} {S:List D} (R:RA Y q q0 es v S m) (hq:q≤q') (hL:q≤L) (h:∀ n,n<L→Zv.look Y' n=Zv.look Y n):RA Y' q' q0 es v S m:=
 R.mono hq fun hs=>h m (by have:=R.hi hs;omega)
theorem RA.up {Y:List (Nat × Ob)} {q q' q0 es m:Nat} {v:V} {S:List D} (R:RA Y q q0 es v S m) (hq:q≤q'):RA Y q' q0 es v S m:=R.mono hq fun _=>rfl
theorem idxZ_first {α:Type} (p:α→Bool) (l:List α):(idxZ p l = -1∧∀ x,x ∈ l→p x=false)∨∃ (n:Nat) (x:α),idxZ p l=n∧l[n]? = some x∧p x=true∧∀ (j:Nat) y,j<n→l[j]? = some y→p y=false:=by
 have hnn:(0≤idxZ p l)=(l.any p=true):=idxZ_nn p l
 unfold idxZ at hnn ⊢
 cases h:fst? p 0 l with
 |none=>
  left
  refine ⟨rfl,fun x hx=>?_⟩
  rw[h] at hnn
  cases hp:p x with
  |false=>rfl
  |true=>
   have:l.any p=true:=List.any_eq_true.2 ⟨x,hx,hp⟩
   rw[this] at hnn
   simp at hnn
 |some q=>
  obtain ⟨n,x⟩:=q
  obtain ⟨h0,h1,h2,h3⟩:=fst_some h
  exact .inr ⟨n,x,rfl,by simpa using h1,h2,fun j y hj hy=>h3 j y (by omega) hj (by simpa using hy)⟩
end Zc28
end
section
set_option maxHeartbeats 4000000
namespace Zc28
open Go Zv Zs
end Zc28
end
section
set_option maxHeartbeats 4000000
namespace Zc28
open Go Zv Zs
def wi3:Option (List Pt)→V
 |none=>.tup [.d (.lst []),.d (.bool false),.d (.int .i64 0)]
 |some w=>.tup [.d (ePs w),.d (.bool true),.d (.int .i64 0)]
theorem Witness_ok {d:List Dt} {ts:List Int} {l:List (List Pt)} (G:Gd d ts l) (F:Rng d ts l) (hc:chk27 d ts l=0) (h:Hp) :
  callW tab 36 [.d (eDs d),.d (eIs ts),.d (eRs l)] h=some (wi3 (wiS d 8001 ts l),h):=by
 refine call_wp (fn:=f36) rfl rfl ?_
 have hck:=fun h=>chk_ok F h
 rw[hc] at hck
 have hw:=fun h=>witness_ok G.sml G.typ 8001 ts l (by have:=G.w;omega) G.w G.len G.tys G.fit h
 cases hu:wiS d 8001 ts l with
 |none=>rw[hu] at hw;simp only[e36,hck,ibne,hw,wiV,wi3,wz,opX,intBin,↓reduceIte,simprocAttr]
 |some w=>rw[hu] at hw;simp only[e36,hck,ibne,hw,wiV,wi3,wz,opX,intBin,↓reduceIte,simprocAttr]
theorem gd28 {d:List Dt} {ts:List Int} {l:List (List Pt)} (S:Sml d) (ht:ts.length≤10) (hl:l.length≤9) (hs:nwS l≤100) (hc:chk27 d ts l=0):Gd d ts l∧checkS d=0:=by
 unfold chk27 at hc
 by_cases h1:checkS d≠0
 ·rw[if_pos h1] at hc;cases hc
 rw[if_neg h1] at hc
 by_cases h2:8<ts.length∨64<l.length
 ·rw[if_pos h2] at hc;cases hc
 rw[if_neg h2] at hc
 by_cases h3:ts.any (badT d)=true
 ·rw[if_pos h3] at hc;cases hc
 rw[if_neg h3] at hc
 by_cases h4:l.any deepR=true
 ·rw[if_pos h4] at hc;cases hc
 rw[if_neg h4] at hc
 by_cases h5:l.any (badR d ts)=true
 ·rw[if_pos h5] at hc;cases hc
 refine ⟨⟨S,check_typed (Decidable.not_not.1 h1),fun t hm=>?_,fun r hr=>?_,by omega,by omega⟩,Decidable.not_not.1 h1⟩
 ·cases hb:isT d t with
  |true=>rfl
  |false=>exact absurd (List.any_eq_true.2 ⟨t,hm,by rw[badT,hb];rfl⟩) h3
 ·cases hb:badR d ts r with
  |true=>exact absurd (List.any_eq_true.2 ⟨r,hr,hb⟩) h5
  |false=>
   unfold badR at hb
   rw[←fitsL_any] at hb
   simp only[Bool.not_eq_false',Bool.and_eq_true,decide_eq_true_eq] at hb
   exact fitR_of_L hb.1.symm hb.2
theorem Few8.nw {d:List Dt} {ts:List Int} {l:List (List Pt)} (F:Few8 d ts l):nwS l≤72:=by
 have h1:∀ (l:List (List Pt)),(∀ r,r ∈ l→cntL r≤12)→nwS l≤12*l.length:=by
  intro l
  induction l with
  |nil=>intro _;exact Nat.le_refl _
  |cons r l ih=>
   intro h
   have a:=ih fun r hr=>h r (.tail _ hr)
   have b:=h r (.head _)
   have c:=nw_cntL r
   rw[nwS,List.length_cons];omega
 have:=h1 l fun r hr=>(F.row r hr).2
 have:=F.rows
 omega
theorem Few8.rng {d:List Dt} {ts:List Int} {l:List (List Pt)} (F:Few8 d ts l):Rng d ts l:=
 ⟨F.sml.bd,F.sml.nm,by have:=F.ts;omega,by have:=F.rows;omega,fun r hr=>by have:=(F.row r hr).2;omega⟩
def col0 (ts:List Int):List Co:=ts.zipIdx.map fun q=>⟨[(q.2:Int)],q.1⟩
def row0 (l:List (List Pt)):List Rw:=l.zipIdx.map fun q=>⟨(q.2:Int),q.1⟩
theorem col0_ty (ts:List Int):(col0 ts).map Co.ty=ts:=by
 unfold col0;rw[List.map_map];exact List.zipIdx_map_fst 0 ts
theorem row0_pats (l:List (List Pt)):(row0 l).map Rw.pats=l:=by
 unfold row0;rw[List.map_map];exact List.zipIdx_map_fst 0 l
theorem col0_snoc {ts:List Int} {n:Nat} {t:Int} (h:ts[n]? = some t):col0 (ts.take (n+1))=col0 (ts.take n)++[⟨[(n:Int)],t⟩]:=by
 have hn:=(List.getElem?_eq_some_iff.1 h).1
 rw[List.take_add_one,h]
 unfold col0
 rw[Option.toList_some,List.zipIdx_append,List.map_append]
 simp[show min n ts.length=n by omega]
theorem row0_snoc {l:List (List Pt)} {n:Nat} {r:List Pt} (h:l[n]? = some r):row0 (l.take (n+1))=row0 (l.take n)++[⟨(n:Int),r⟩]:=by
 have hn:=(List.getElem?_eq_some_iff.1 h).1
 rw[List.take_add_one,h]
 unfold row0
 rw[Option.toList_some,List.zipIdx_append,List.map_append]
 simp[show min n l.length=n by omega]
theorem col0_len (ts:List Int):(col0 ts).length=ts.length:=by unfold col0;simp
theorem row0_len (l:List (List Pt)):(row0 l).length=l.length:=by unfold row0;simp
theorem nwW_eq:∀ rows:List Rw,nwW rows=nwS (rows.map Rw.pats)
 | []=>rfl
 |r::rs=>by
  have:=nwW_eq rs
  unfold nwW at this ⊢
  rw[List.map_cons,List.sum_cons,this,List.map_cons,nwS]
theorem us_none {d:List Dt} {ts:List Int} {l:List (List Pt)} (G:Gd d ts l) (h:wiS d 8001 ts l=none) (K:Nat):usS d K ts l (List.replicate ts.length wildT)=false:=by
 have h1:=wi_us d 8001 ts l
 rw[h] at h1
 have h1:false=usS d 8001 ts l (List.replicate ts.length wildT):=h1
 cases hu:usS d K ts l (List.replicate ts.length wildT) with
 |false=>rfl
 |true=>
  have h2:=us_le 8001 hu
  have hw:nwL (List.replicate ts.length wildT)=0:=nwL_wild _
  have h3:=us_fuel G.sml G.typ (k:=8001) (k':=K+8001) (ts:=ts) (l:=l) (r:=List.replicate ts.length wildT) (by have:=G.w;omega) (by have:=G.w;omega) (by have:=G.w;omega) G.len G.tys G.fit (fitR_wild d ts)
  rw[←h1,h2] at h3
  cases h3
theorem bi0 {d:List Dt} {ts:List Int} {l:List (List Pt)} (F:Few8 d ts l) (hc:chk27 d ts l=0) (h:wiS d 8001 ts l=none):BI d 80 (col0 ts) (row0 l):=by
 obtain ⟨G,hC⟩:=gd28 F.sml (by have:=F.ts;omega) (by have:=F.rows;omega) (by have:=F.nw;omega) hc
 refine ⟨fun r hr=>?_,fun c hcm=>?_,?_,fun c hcm=>?_,?_,?_,hC,fun y hy c hcm=>((F.sml.ds y hy).2.2 c hcm).2,?_⟩
 ·rw[col0_ty]
  have:r.pats ∈ (row0 l).map Rw.pats:=List.mem_map.2 ⟨r,hr,rfl⟩
  rw[row0_pats] at this
  exact G.fit _ this
 ·have:c.ty ∈ (col0 ts).map Co.ty:=List.mem_map.2 ⟨c,hcm,rfl⟩
  rw[col0_ty] at this
  exact G.tys _ this
 ·rw[nwW_eq,row0_pats];have:=F.nw;omega
 ·unfold col0 at hcm
  obtain ⟨q,_,rfl⟩:=List.mem_map.1 hcm
  simp
 ·rw[col0_len];have:=F.ts;omega
 ·rw[row0_len];exact F.rows
 ·rw[col0_ty,row0_pats]
  exact covL0 G.fit (us_none G h)
def TOk (t:Ts):Prop:=t.path.length≤100∧t.next.length≤30
def TsOk (l:List Ts):Prop:=∀ t,t ∈ l→TOk t
theorem conL_ind {f:Bld} {cols:List Co} {rows:List Rw} {k:Nat} {c:Co} (P:List Ts→Prop):∀ (zs:List Cn) (i:Nat) (out:List Ts) (nx:List Int),
  (∀ j z,zs[j]? = some z→∀ out,P out→P (f out (putC cols k (fldC c.path z.flds)) (conRows k ((i+j:Nat):Int) z.flds.length rows)).1)→P out→P (conL f cols rows k c i zs out nx).1
 | [],i,out,nx,_,h=>h
 |z::zs,i,out,nx,H,h=>by
  unfold conL
  refine conL_ind P zs (i+1) _ _ (fun j z' hj=>?_) (H 0 z rfl out h)
  have:=H (j+1) z' (by simpa using hj)
  rw[show i+(j+1)=i+1+j by omega] at this
  exact this
theorem TsOk.snoc {l:List Ts} {t:Ts} (h:TsOk l) (ht:TOk t):TsOk (l++[t]):=fun x hx=>by
 rcases List.mem_append.1 hx with h' | h'
 ·exact h x h'
 ·rw[List.mem_singleton] at h';subst h';exact ht
theorem TsOk.set {l:List Ts} {t:Ts} {n:Nat} (h:TsOk l) (ht:TOk t):TsOk (l.set n t):=fun x hx=>by
 rcases List.mem_or_eq_of_mem_set hx with h' | h'
 ·exact h x h'
 ·subst h';exact ht
theorem zT_ok:TOk zT:=⟨by simp[zT],by simp[zT]⟩
theorem leaf_ok28 (n:Int):TOk (leafAt n):=⟨by simp[leafAt],by simp[leafAt]⟩
theorem consOf_8 {d:List Dt} (S:Sml d) (t:Int):(consOf d t).length≤8:=(cons_sm S t).1
theorem build_ts {d:List Dt} (S:Sml d):∀ (k:Nat) (out:List Ts) (cols:List Co) (rows:List Rw),BI d k cols rows→TsOk out→TsOk (buildS d k out cols rows).1
 |0,out,cols,rows,I,_=>by have:=I.nw;omega
 |k+1,out,cols,rows,I,h=>by
  unfold buildS
  split
  ·exact h
  obtain ⟨r0,hr0⟩:∃ r0,rows[0]? = some r0:=get_of_lt (List.length_pos_iff.2 I.ne)
  have hB1:bldB d (buildS d k) cols rows out=bldK d (buildS d k) cols rows r0 (idxZ nwB r0.pats) out:=by
   cases rows with
   |nil=>cases hr0
   |cons x rs=>cases hr0;rfl
  rw[hB1]
  rcases idxZ_cases nwB r0.pats with hz | ⟨n,p,hz,hp,hpn⟩
  ·rw[hz]
   exact h.snoc (leaf_ok28 _)
  ·have hpl:=fitR_len (I.fit r0 (List.mem_of_getElem? hr0))
   rw[List.length_map] at hpl
   obtain ⟨c,hc⟩:=get_of_lt (l:=cols) (n:=n) (by have:=(List.getElem?_eq_some_iff.1 hp).1;omega)
   have hcp:=I.path c (List.mem_of_getElem? hc)
   have hB2:bldK d (buildS d k) cols rows r0 (idxZ nwB r0.pats) out=if c.ty=0 then bldN (buildS d k) cols rows r0 n c out else bldC d (buildS d k) cols rows n c out:=by
    rw[hz];unfold bldK;rw[getI_nat,hc];rfl
   rw[hB2]
   split
   ·rename_i ht
    unfold bldN
    exact (build_ts S k _ _ _ (I.oth hr0 hz hc ht) (build_ts S k _ _ _ (I.same hr0 hz hc ht) (h.snoc zT_ok))).set ⟨by show c.path.length≤100;omega,by simp⟩
   ·rename_i ht
    unfold bldC
    refine TsOk.set (conL_ind TsOk (consOf d c.ty) 0 (out++[zT]) [] (fun j z hj out ho=>?_) (h.snoc zT_ok)) ⟨by show c.path.length≤100;omega,?_⟩
    ·rw[Nat.zero_add]
     exact build_ts S k _ _ _ (I.con hr0 hz hc ht hj) ho
    ·show (conL (buildS d k) cols rows n c 0 (consOf d c.ty) (out++[zT]) []).2.length≤30
     rw[(conL_len (buildS_len d k) ..).2.2]
     have:=consOf_8 S c.ty
     simp only[List.length_nil];omega
end Zc28
end
section
set_option maxHeartbeats 4000000
namespace Zc28
open Go Zv Zs
def compE (d:List Dt) (ts:List Int) (l:List (List Pt)):Int:=
 if chk27 d ts l≠0 then chk27 d ts l else if (wiS d 8001 ts l).isSome=true then 13 else if 4096<(buildS d 80 [] (col0 ts) (row0 l)).1.length then 6 else 0
def compT (d:List Dt) (ts:List Int) (l:List (List Pt)):List Ts:=if compE d ts l=0 then (buildS d 80 [] (col0 ts) (row0 l)).1 else []
theorem finS_e2 (n:Nat) (h:Hp) (x y:D):finS ⟨[],n⟩ h [.d x,.d y]=some (.tup [.d x,.d y],⟨[],n⟩):=by
 have:sufOk [] h.objs=true:=by
  unfold sufOk
  rw[List.length_nil,Nat.sub_zero,List.drop_length]
  exact objsBeq_refl _
 rw[finS,if_pos this]
 rfl
theorem suf_nil (l:List (Nat × Ob)):sufOk [] l=true:=by
 unfold sufOk
 rw[List.length_nil,Nat.sub_zero,List.drop_length]
 exact objsBeq_refl _
theorem finS_d2 {n:Nat} {h:Hp} {v:V} {x y:D} (hv:deep h n 8 v=some x):finS ⟨[],n⟩ h [v,.d y]=some (.tup [.d x,.d y],⟨[],n⟩):=by
 unfold finS
 rw[if_pos (suf_nil _)]
 have hy:deep h n 8 (.d y)=some y:=rfl
 simp[back1,hv,hy,resV]
theorem deep_row {n m q k es:Nat} {X:List (Nat × Ob)} {s:List D} (hm:n≤m) (hr:Zv.look X m=some (.arr es (s.map .d))):deep ⟨X,q⟩ n (k+2) (.own m es s.length 0 s.length)=some (.lst s):=by
 have hrow:Hp.row ⟨X,q⟩ m s.length=some (es,s.map .d):=row_of hr (by simp)
 have hm2:∀ (l:List D),(l.map V.d).mapM (deep ⟨X,q⟩ n (k+1))=some l:=by
  intro l
  induction l with
  |nil=>rfl
  |cons x l ih=>rw[List.map_cons,List.mapM_cons,ih];rfl
 have ht:List.take s.length (s.map V.d)=s.map V.d:=List.take_of_length_le (by simp)
 show (if n≤m then _ else _)=_
 rw[if_pos hm,hrow,Option.bind_some,if_pos (by simp),List.drop_zero,ht,hm2];rfl
theorem deep_c {n m q es:Nat} {X:List (Nat × Ob)} {s:List D} (hm:n≤m) (hr:Zv.look X m=some (.arr es (s.map .d))):deep ⟨X,q⟩ n 8 (.agg [.own m es s.length 0 s.length])=some (.agg [.lst s]):=by
 have h1:=deep_row (q:=q) (k:=5) hm hr
 show Option.map D.agg (List.mapM (deep _ n 7) [_])=_
 rw[List.mapM_cons,h1];rfl
theorem ld_agg {h:Hp} {n:Nat} {vs:List V} (hr:h.row n 1=some (1,[.agg vs])):ld true 1 h (.ptr n 1 0 0)=some (.agg vs):=by simp[ld,hr]
theorem ld_own {h:Hp} {n m es L:Nat} (hr:h.row n 1=some (1,[.own m es L 0 L])):ld true 1 h (.ptr n 1 0 0)=some (.agg [.own m es L 0 L]):=by simp[ld,hr,partV,V.cells,mkAgg_own]
theorem mk_o2 (a b:D):norm (V.agg [.tl [.d a] (some false),.d b])=.d (.agg [.lst [a],b]):=rfl
theorem compile_ok {d:List Dt} {ts:List Int} {l:List (List Pt)} (F:Few8 d ts l) (n:Nat):callW tab 11 [.d (eDs d),.d (eIs ts),.d (eRs l)] ⟨[],n⟩=some (.tup [.d (.agg [eTs (compT d ts l)]),.d (eI (compE d ts l))],⟨[],n⟩):=by
 refine call_wp (fn:=f11) rfl rfl ?_
 have hck:=fun h=>chk_ok F.rng h
 have hzc:∀ h,deep h n 8 zC=some (.agg [.lst []]):=fun h=>rfl
 have hfz:=fun h y=>finS_d2 (y:=y) (hzc h)
 have c2:(eDs d).cells.length=1:=rfl
 have rd:∀ nx,Hp.row ⟨[(n+1,.arr 1 [.agg [.tl [] (some true)]]),(n,.arr 1 [.d (eDs d)])],nx⟩ n 1=some (1,[.d (eDs d)]):=fun nx=>row_cn (by omega) (fun nx=>by rw[row_hd];rfl)
 have hlz:=fun r q=>ld_z (n+1) r q
 by_cases hc:chk27 d ts l=0
 ·obtain ⟨G,hC⟩:=gd28 F.sml (by have:=F.ts;omega) (by have:=F.rows;omega) (by have:=F.nw;omega) hc
  have w1:=fun h=>Witness_ok G F.rng hc h
  rw[hc] at hck
  cases hw:wiS d 8001 ts l with
  |some w=>
   rw[hw] at w1
   have hE:compE d ts l=13:=by unfold compE;rw[if_neg (by simp[hc]),hw];rfl
   have hT:compT d ts l=[]:=by unfold compT;rw[hE];rfl
   rw[hE,hT]
   simp only[e11,c2,rd,hck,ibne,w1,wi3,hlz,hfz,wz,opX,intBin,↓reduceIte,simprocAttr]
   rfl
  |none=>
   rw[hw] at w1
   simp only[e11,c2,rd,hck,ibne,w1,wi3,wz,opX,intBin,↓reduceIte,simprocAttr]
   have hts:=F.ts
   have hrl:=F.rows
   let L4:List (Nat × Ob):=[(n+1+1+1,.arr 1 [.clo 37 [.ptr (n+1+1) 1 0 0,.ptr n 1 0 0,.ptr (n+1+1+1) 1 0 0]]),(n+1+1,.arr 1 [.agg [.tl [] (some true)]]),(n+1,.arr 1 [.agg [.tl [] (some true)]]),(n,.arr 1 [.d (eDs d)])]
   have k0:Zv.look L4 n=some (.arr 1 [.d (eDs d)]):=by show Zv.look L4 n=_;rw[look_tl _ _ (by omega),look_tl _ _ (by omega),look_tl _ _ (by omega),look_hd]
   have k1:Zv.look L4 (n+1)=some (.arr 1 [.agg [.tl [] (some true)]]):=by show Zv.look L4 (n+1)=_;rw[look_tl _ _ (by omega),look_tl _ _ (by omega),look_hd]
   have k2:Zv.look L4 (n+1+1)=some (.arr 1 [.agg [.tl [] (some true)]]):=by show Zv.look L4 (n+1+1)=_;rw[look_tl _ _ (by omega),look_hd]
   have k3:Zv.look L4 (n+1+1+1)=some (.arr 1 [.clo 37 [.ptr (n+1+1) 1 0 0,.ptr n 1 0 0,.ptr (n+1+1+1) 1 0 0]]):=look_hd ..
   have hL4:L4=[(n+1+1+1,.arr 1 [.clo 37 [.ptr (n+1+1) 1 0 0,.ptr n 1 0 0,.ptr (n+1+1+1) 1 0 0]]),(n+1+1,.arr 1 [.agg [.tl [] (some true)]]),(n+1,.arr 1 [.agg [.tl [] (some true)]]),(n,.arr 1 [.d (eDs d)])]:=rfl
   rw[←hL4]
   clear_value L4
   refine loop_wp ts.length (fun i e h'=>∃ Y q m v,h'=⟨Y,q⟩∧RA Y q (n+1+1+1+1) 2 v ((col0 (ts.take i)).map eO) m∧n+1+1+1+1≤q∧(∀ x,x<n+1+1+1+1→Zv.look Y x=Zv.look L4 x) ∧
    e=[(2,.d (eRs l)),(6,.ptr (n+1) 1 0 0),(12,.ptr (n+1+1) 1 0 0),(13,.ptr (n+1+1+1) 1 0 0),(14,v),(43,.d (eIs ts)),(44,.d (.int .i64 ts.length)),(45,.d (.int .i64 (i:Int)))]) _ ?_ ?_ ts.length 0 _ _ (by omega) ⟨L4,_,0,_,rfl,RA.nil ..,Nat.le_refl _,fun _ _=>rfl,rfl⟩
   ·rintro i e h' hi ⟨Y,q,m,v,rfl,R,hq,hfr,rfl⟩
    obtain ⟨t,ht⟩:=get_of_lt hi
    have hwr:IntKind.i64.wrap ((i:Int)+1)=((i+1:Nat):Int):=by rw[wrap_ok (by omega) (by omega)];rfl
    have hsn:=col0_snoc ht
    obtain ⟨v',Y',q',m',happ,R',hq',hfa⟩:=raX (b:=32) (nl:=some false) (x:=eO ⟨[(i:Int)],t⟩) R hq rfl (by rw[List.length_map,col0_len,List.length_take];unfold roomB;omega)
    have happ:app 2 32 ⟨Y,q⟩ v (.tl [.d (D.agg [.lst [.int .i64 (i:Int)],.int .i64 t])] (some false))=_:=happ
    simp only[e11,hi,iaI ht,mk_o2,happ,hwr,wz,opX,intBin,↓reduceIte,simprocAttr]
    exact⟨Y',q',m',v',rfl,by rw[hsn,List.map_append];exact R',by omega,fun x hx=>by rw[hfa x hx,hfr x hx],rfl⟩
   ·rintro e h' ⟨Y,q,m,v,rfl,R,hq,hfr,rfl⟩
    rw[List.take_length] at R
    simp only[e11,wz,opX,intBin,↓reduceIte,simprocAttr]
    refine loop_wp l.length (fun i e h'=>∃ Y2 q2 m2 v2,h'=⟨Y2,q2⟩∧RA Y2 q2 q 2 v2 ((row0 (l.take i)).map eW) m2∧q≤q2∧(∀ x,x<q→Zv.look Y2 x=Zv.look Y x) ∧
     e=[(6,.ptr (n+1) 1 0 0),(12,.ptr (n+1+1) 1 0 0),(13,.ptr (n+1+1+1) 1 0 0),(14,v),(17,v2),(58,.d (eRs l)),(59,.d (.int .i64 l.length)),(60,.d (.int .i64 (i:Int)))]) _ ?_ ?_ l.length 0 _ _ (by omega) ⟨Y,q,0,_,rfl,RA.nil ..,Nat.le_refl _,fun _ _=>rfl,rfl⟩
    ·rintro i e h' hi ⟨Y2,q2,m2,v2,rfl,R2,hq2,hfr2,rfl⟩
     obtain ⟨t,ht⟩:=get_of_lt hi
     have hwr:IntKind.i64.wrap ((i:Int)+1)=((i+1:Nat):Int):=by rw[wrap_ok (by omega) (by omega)];rfl
     have hsn:=row0_snoc ht
     obtain ⟨v',Y',q',m',happ,R',hq',hfa⟩:=raX (b:=32) (nl:=some false) (x:=eW ⟨(i:Int),t⟩) R2 hq2 rfl (by rw[List.length_map,row0_len,List.length_take];unfold roomB;omega)
     have happ:app 2 32 ⟨Y2,q2⟩ v2 (.tl [.d (D.agg [.int .i64 (i:Int),ePs t])] (some false))=_:=happ
     simp only[e11,hi,iaR ht,happ,hwr,wz,opX,intBin,↓reduceIte,simprocAttr]
     exact⟨Y',q',m',v',rfl,by rw[hsn,List.map_append];exact R',by omega,fun x hx=>by rw[hfa x hx,hfr2 x hx],rfl⟩
    ·rintro e h' ⟨Y2,q2,m2,v2,rfl,R2,hq2,hfr2,rfl⟩
     rw[List.take_length] at R2
     obtain ⟨Y3,z2,f3⟩:=rz R2
     have R1:RA Y3 q2 (n+1+1+1+1) 2 v ((col0 ts).map eO) m:=R.keep hq2 (Nat.le_refl _) fun x hx=>by rw[f3 x hx,hfr2 x hx]
     obtain ⟨Y4,z1,f4⟩:=rz R1
     have fr:∀ x,x<n+1+1+1+1→Zv.look Y4 x=Zv.look L4 x:=fun x hx=>by rw[f4 x hx,f3 x (by omega),hfr2 x (by omega),hfr x hx]
     have I:=bi0 F hc hw
     obtain ⟨r,hv,m',X',q',rfl,VV,hm',hq',_,hm0,F4⟩:=build_ok F.sml 80 [] (col0 ts) (row0 l) Y4 0 q2 (ov:=n+1+1) (dv:=n) (bv:=n+1+1+1) I (by simp) (.inr ⟨rfl,by rw[fr _ (by omega)];exact k2,by rw[fr _ (by omega)];exact k0,by rw[fr _ (by omega)];exact k3⟩) (by omega) (by omega) (by omega)
     have hm0:=hm0 rfl
     have r3:=fun nx=>row_of (q:=nx) (show Zv.look Y4 (n+1+1+1)=_ by rw[fr _ (by omega)];exact k3) (tot:=1) rfl
     have r4:=fun nx=>row_of (q:=nx) VV.iov (tot:=1) rfl
     have e1:Zv.look X' (n+1)=some (.arr 1 [.agg [.tl [] (some true)]]):=by rw[F4 _ (by omega) (by omega) (by omega),fr _ (by omega)];exact k1
     have r5:=fun nx=>row_of (q:=nx) e1 (tot:=1) rfl
     have hs6:st 1 ⟨X',q'⟩ (.ptr (n+1) 1 0 0) zC=some ⟨Zv.upd X' (n+1) (.arr 1 [zC]),q'⟩:=st_all (i:=0) (x:=zC) (r5 q') rfl rfl rfl
     have r6:=row_of (q:=q') (show Zv.look (Zv.upd X' (n+1) (.arr 1 [zC])) (n+1)=some (.arr 1 [zC]) by rw[Zs.look_upd,if_pos rfl,e1];rfl) (tot:=1) rfl
     have hl6:=ld_agg r6
     have hs7:st 1 ⟨X',q'⟩ (.ptr (n+1) 1 0 0) (.agg [.own m' 5 (buildS d 80 [] (col0 ts) (row0 l)).1.length 0 (buildS d 80 [] (col0 ts) (row0 l)).1.length])=some ⟨Zv.upd X' (n+1) (.arr 1 [.agg [.own m' 5 (buildS d 80 [] (col0 ts) (row0 l)).1.length 0 (buildS d 80 [] (col0 ts) (row0 l)).1.length]]),q'⟩:=st_all (i:=0) (r5 q') rfl rfl rfl
     have r7:=row_of (q:=q') (show Zv.look (Zv.upd X' (n+1) (.arr 1 [.agg [.own m' 5 (buildS d 80 [] (col0 ts) (row0 l)).1.length 0 (buildS d 80 [] (col0 ts) (row0 l)).1.length]])) (n+1)=_ by rw[Zs.look_upd,if_pos rfl,e1];rfl) (tot:=1) rfl
     have hl7:=ld_agg r7
     have hl8:=ld_own (r4 q')
     have hd:=deep_c (n:=n) (q:=q') (X:=Zv.upd X' (n+1) (.arr 1 [.agg [.own m' 5 (buildS d 80 [] (col0 ts) (row0 l)).1.length 0 (buildS d 80 [] (col0 ts) (row0 l)).1.length]])) (m:=m') (s:=(buildS d 80 [] (col0 ts) (row0 l)).1.map eT) (by omega) (by rw[Zs.look_upd,if_neg (by omega)];exact VV.irow)
     rw[List.length_map] at hd
     have hf7:=fun y=>finS_d2 (y:=y) hd
     by_cases h4:4096<(buildS d 80 [] (col0 ts) (row0 l)).1.length
     ·have hE:compE d ts l=6:=by unfold compE;rw[if_neg (by simp[hc]),hw,if_neg (by simp),if_pos h4]
      have hT:compT d ts l=[]:=by unfold compT;rw[hE];rfl
      rw[hE,hT]
      have h4':(4096:Int)<((buildS d 80 [] (col0 ts) (row0 l)).1.length:Int):=by omega
      simp only[e11,z1,z2,r3,hv,r4,h4',hs6,hl6,hfz,wz,opX,intBin,↓reduceIte,simprocAttr]
      rfl
     ·have hE:compE d ts l=0:=by unfold compE;rw[if_neg (by simp[hc]),hw,if_neg (by simp),if_neg h4]
      have hT:compT d ts l=(buildS d 80 [] (col0 ts) (row0 l)).1:=by unfold compT;rw[hE];rfl
      rw[hE,hT]
      have h4':¬ (4096:Int)<((buildS d 80 [] (col0 ts) (row0 l)).1.length:Int):=by omega
      simp only[e11,z1,z2,r3,hv,r4,h4',hl8,hs7,hl7,hf7,wz,opX,intBin,↓reduceIte,simprocAttr]
 ·have hE:compE d ts l=chk27 d ts l:=by unfold compE;rw[if_pos hc]
  have hT:compT d ts l=[]:=by unfold compT;rw[hE,if_neg hc]
  rw[hE,hT]
  simp only[e11,c2,rd,hck,ibne,hc,hlz,hfz,wz,opX,intBin,↓reduceIte,simprocAttr]
  rfl
end Zc28
end
section
set_option maxHeartbeats 4000000
namespace Zc28
open Go Zv Zs
end Zc28
end
section
set_option maxHeartbeats 4000000
namespace Zc28
open Go Zv Zs
theorem compT_z {d:List Dt} {ts:List Int} {l:List (List Pt)} (h:compE d ts l=0):chk27 d ts l=0∧wiS d 8001 ts l=none∧(buildS d 80 [] (col0 ts) (row0 l)).1.length≤4096∧compT d ts l=(buildS d 80 [] (col0 ts) (row0 l)).1:=by
 have h':=h
 unfold compE at h
 by_cases hc:chk27 d ts l=0
 ·rw[if_neg (by simp[hc])] at h
  cases hw:wiS d 8001 ts l with
  |some w=>rw[hw] at h;cases h
  |none=>
   rw[hw,if_neg (by simp)] at h
   by_cases h4:4096<(buildS d 80 [] (col0 ts) (row0 l)).1.length
   ·rw[if_pos h4] at h;cases h
   ·exact⟨hc,rfl,by omega,if_pos h'⟩
 ·rw[if_pos hc] at h;exact absurd h hc
theorem compT_ok {d:List Dt} {ts:List Int} {l:List (List Pt)} (F:Few8 d ts l):TsOk (compT d ts l)∧(compT d ts l).length≤4097:=by
 by_cases h:compE d ts l=0
 ·obtain ⟨hc,hw,h4,hT⟩:=compT_z h
  rw[hT]
  exact⟨build_ts F.sml 80 _ _ _ (bi0 F hc hw) (fun t h=>by cases h),by omega⟩
 ·have hT:compT d ts l=[]:=if_neg h
  rw[hT]
  exact⟨fun t h=>(by cases h),by simp⟩
end Zc28
end
section
set_option maxHeartbeats 4000000
namespace Zc28
open Go Zv Zs
def fstR (rows:List Rw) (vs:List Vl):Option Int:=(rows.find? fun r=>mtL r.pats vs).map Rw.n
theorem fst_fm {f:Rw→Option Rw} {vs vs':List Vl}:∀ (rows:List Rw),(∀ r,r ∈ rows→f r=none→mtL r.pats vs=false)→(∀ r,r ∈ rows→∀ r',f r=some r'→r'.n=r.n∧mtL r'.pats vs'=mtL r.pats vs)→fstR (rows.filterMap f) vs'=fstR rows vs
 | [],_,_=>rfl
 |r::rs,h0,h1=>by
  have ih:=fst_fm rs (fun r hr=>h0 r (.tail _ hr)) (fun r hr=>h1 r (.tail _ hr))
  unfold fstR at ih ⊢
  cases hf:f r with
  |none=>
   rw[List.filterMap_cons_none hf,ih,List.find?_cons,h0 r (.head _) hf]
  |some r'=>
   obtain ⟨e1,e2⟩:=h1 r (.head _) r' hf
   rw[List.filterMap_cons_some hf,List.find?_cons,List.find?_cons,e2]
   cases mtL r.pats vs with
   |true=>simp[e1]
   |false=>exact ih
theorem fst_some {rows:List Rw} {vs:List Vl} (h:(fstR rows vs).isSome=true):∃ r,r ∈ rows∧mtL r.pats vs=true∧fstR rows vs=some r.n:=by
 unfold fstR at h ⊢
 cases hf:rows.find? fun r=>mtL r.pats vs with
 |none=>rw[hf] at h;cases h
 |some r=>exact⟨r,List.mem_of_find?_eq_some hf,by have:=List.find?_some hf;simpa using this,rfl⟩
theorem fst_of {rows:List Rw} {vs:List Vl} {r:Rw} (hr:r ∈ rows) (hm:mtL r.pats vs=true):(fstR rows vs).isSome=true:=by
 unfold fstR
 cases hf:rows.find? fun r=>mtL r.pats vs with
 |none=>exact absurd hm (by have:=List.find?_eq_none.1 hf r hr;simpa using this)
 |some r=>rfl
theorem fst_head {rows:List Rw} {vs:List Vl} {r0:Rw} (h0:rows[0]? = some r0) (hm:mtL r0.pats vs=true):fstR rows vs=some r0.n:=by
 cases rows with
 |nil=>cases h0
 |cons r rs=>cases h0;unfold fstR;rw[List.find?_cons,hm];rfl
section
variable {d:List Dt} {k n:Nat} {cols:List Co} {rows:List Rw} {c:Co} {ca cb:List Co}
theorem At.con_fst (A:At d k n cols rows c ca cb) (ht:c.ty≠0) {i:Nat} {z:Cn} {m:Int} {va av vb:List Vl} (hz:(consOf d c.ty)[i]? = some z) (hva:va.length=n) (hav:av.length=z.flds.length):fstR (conRows n (i:Int) z.flds.length rows) (va++av++vb)=fstR rows (va++.mk m (i:Int) av::vb):=by
 refine fst_fm rows (fun r hr hf=>?_) (fun r hr r' hf=>?_)
 ·obtain ⟨pa,p,pb,hp,hpl,hpa,hput,f1,f2,f3⟩:=A.fit r hr
  unfold conRow at hf
  rw[hpa,Option.map_eq_none_iff] at hf
  rw[hp,mt_mid (by omega)]
  cases hm:mtP p (.mk m (i:Int) av) with
  |false=>simp
  |true=>
   obtain ⟨a,ha,_⟩:=args_mt f2 ht hav hm
   rw[ha] at hf;cases hf
 ·obtain ⟨pa,p,pb,hp,hpl,hpa,hput,f1,f2,f3⟩:=A.fit r hr
  unfold conRow at hf
  rw[hpa] at hf
  obtain ⟨a,ha,rfl⟩:=Option.map_eq_some_iff.1 hf
  rw[hput]
  refine ⟨rfl,?_⟩
  show mtL (pa++a++pb) _=_
  rw[hp,mt_mid (by omega)]
  have hma:mtP p (.mk m (i:Int) av)=mtL a av:=by
   obtain ⟨pk,pc,pm,pq⟩:=p
   unfold argsFor at ha
   rw[mtP]
   rcases fits_cases f2 with ⟨rfl,_⟩ | ⟨_,h2,_⟩ | ⟨rfl,_,_,j,y,rfl,hy,hyl,hfr⟩
   ·rw[if_pos (show kdP (Pt.mk 0 pc pm pq)=0 from rfl)] at ha
    cases ha
    rw[if_pos rfl,←hav];exact (mtL_wild av).symm
   ·exact absurd h2 ht
   ·rw[if_neg (show ¬ kdP (Pt.mk 1 (j:Int) pm pq)=0 from (by decide:¬ (1:Int)=0))] at ha
    split at ha
    ·rename_i hji
     have hji:(j:Int)=(i:Int):=hji
     cases ha
     rw[if_neg (by decide),if_neg (by decide),if_pos rfl,decide_eq_true hji.symm,Bool.true_and];rfl
    ·cases ha
  rw[hma]
  have hfl:=fitR_len (args_fit f2 ht hz ha)
  rw[mt_mid' (by omega) (by omega)]
theorem At.same_fst (A:At d k n cols rows c ca cb) (ht:c.ty=0) {pm m i:Int} {va av vb:List Vl} (hva:va.length=n) (hm:m=pm):fstR (sameRows n pm rows) (va++vb)=fstR rows (va++.mk m i av::vb):=by
 have key:∀ r,r ∈ rows→(sameB n pm r=true→mtL (putP r n []).pats (va++vb)=mtL r.pats (va++.mk m i av::vb))∧(sameB n pm r=false→mtL r.pats (va++.mk m i av::vb)=false):=by
  intro r hr
  obtain ⟨pa,p,pb,hp,hpl,hpa,hput,f1,f2,f3⟩:=A.fit r hr
  rw[hput,List.append_nil]
  show (_→mtL (pa++pb) _=_)∧_
  rw[hp,mt_mid (by omega),mtL_app (by omega)]
  unfold sameB
  rw[hpa]
  obtain ⟨pk,pc,pn,pq⟩:=p
  rw[mtP]
  rcases fits_cases f2 with ⟨rfl,_⟩ | ⟨rfl,_,_,_⟩ | ⟨_,h2,_⟩
  ·exact⟨fun _=>by rw[if_pos rfl,Bool.true_and],fun h=>by cases h⟩
  ·rw[if_neg (by decide),if_pos rfl]
   by_cases e:pn=pm
   ·subst e;subst hm
    exact⟨fun _=>by rw[decide_eq_true rfl,Bool.true_and],fun h=>by simp[nmP] at h⟩
   ·have e':¬ m=pn:=fun h=>e (by rw[←h,hm])
    refine ⟨fun h=>absurd h ?_,fun _=>by rw[decide_eq_false e',Bool.false_and,Bool.and_false]⟩
    show ¬ (decide ((2:Int)=0) || decide (pn=pm))=true
    rw[decide_eq_false e];decide
  ·exact absurd ht h2
 refine fst_fm rows (fun r hr hf=>?_) (fun r hr r' hf=>?_)
 ·split at hf
  ·cases hf
  ·rename_i hb
   exact (key r hr).2 (by simpa using hb)
 ·split at hf
  ·rename_i hb
   cases hf
   exact⟨rfl,(key r hr).1 hb⟩
  ·cases hf
theorem At.oth_fst (A:At d k n cols rows c ca cb) (ht:c.ty=0) {pm:Int} {v:Vl} {va vb:List Vl} (hva:va.length=n) (hm:numV v≠pm):fstR (othRows n pm rows) (va++v::vb)=fstR rows (va++v::vb):=by
 unfold othRows
 rw[filter_fm]
 refine fst_fm rows (fun r hr hf=>?_) (fun r hr r' hf=>?_)
 ·split at hf
  ·cases hf
  ·rename_i hb
   obtain ⟨pa,p,pb,hp,hpl,hpa,hput,f1,f2,f3⟩:=A.fit r hr
   rw[hp,mt_mid (by omega)]
   unfold othB at hb
   rw[hpa] at hb
   obtain ⟨pk,pc,pn,pq⟩:=p
   obtain ⟨vm,vc,vq⟩:=v
   rw[mtP]
   rcases fits_cases f2 with ⟨rfl,_⟩ | ⟨rfl,_,_,_⟩ | ⟨_,h2,_⟩
   ·exact absurd rfl hb
   ·rw[if_neg (by decide),if_pos rfl]
    have e:pn=pm:=by
     have hb:¬ (decide ((2:Int)=0) || decide (pn≠pm))=true:=hb
     by_cases e:pn=pm
     ·exact e
     ·rw[decide_eq_true e] at hb;exact absurd rfl hb
    have e':¬ vm=pn:=fun h=>hm (by show vm=pm;rw[h,e])
    rw[decide_eq_false e',Bool.false_and,Bool.and_false]
   ·exact absurd ht h2
 ·split at hf
  ·cases hf;exact⟨rfl,rfl⟩
  ·cases hf
end
def putE (es:List (List Int)) (n:Nat) (a:List (List Int)):List (List Int):=es.take n++a++es.drop (n+1)
def othE (es:List (List Int)) (n:Nat) (pm:Int):List (List Int):=putE es n [pm::es.getD n []]
theorem putE_mid {ea eb a:List (List Int)} {e:List Int} {k:Nat} (h:ea.length=k):putE (ea++e::eb) k a=ea++a++eb:=by
 unfold putE;subst h;simp
theorem othE_mid {ea eb:List (List Int)} {e:List Int} {k:Nat} {pm:Int} (h:ea.length=k):othE (ea++e::eb) k pm=ea++(pm::e)::eb:=by
 unfold othE;rw[putE_mid h];subst h;simp
structure CovE (d:List Dt) (es:List (List Int)) (cols:List Co) (rows:List Rw):Prop where
 len:es.length=cols.length
 all:∀ vs,domL d (cols.map Co.ty) es vs→(fstR rows vs).isSome=true
 fresh:∀ r,r ∈ rows→freshL (cols.map Co.ty) es r.pats
section
variable {d:List Dt} {k n:Nat} {cols:List Co} {rows:List Rw} {c:Co} {ca cb:List Co} {es:List (List Int)}
theorem At.exs (A:At d k n cols rows c ca cb) (C:CovE d es cols rows):∃ ea e eb,es=ea++e::eb∧ea.length=n∧eb.length=cb.length:=by
 have h:=C.len
 rw[A.e,List.length_append,List.length_cons] at h
 have hl:=A.l
 obtain ⟨e,he⟩:=get_of_lt (l:=es) (n:=n) (by omega)
 exact⟨_,e,_,take_drop_at he,by rw[List.length_take];omega,by rw[List.length_drop];omega⟩
theorem At.ty (A:At d k n cols rows c ca cb):cols.map Co.ty=ca.map Co.ty++c.ty::cb.map Co.ty:=by rw[A.e,List.map_append,List.map_cons]
theorem At.con_ty (A:At d k n cols rows c ca cb) (fs:List Int):(putC cols n (fldC c.path fs)).map Co.ty=ca.map Co.ty++fs++cb.map Co.ty:=by
 rw[A.e,putC_mid A.l,List.map_append,List.map_append,fldC_ty]
theorem At.same_ty (A:At d k n cols rows c ca cb):(putC cols n []).map Co.ty=ca.map Co.ty++cb.map Co.ty:=by
 rw[A.e,putC_mid A.l,List.append_nil,List.map_append]
theorem At.con_dom (A:At d k n cols rows c ca cb) (ht:c.ty≠0) {i:Nat} {z:Cn} (hz:(consOf d c.ty)[i]? = some z) (hl:es.length=cols.length) {vs:List Vl} (hv:domL d ((putC cols n (fldC c.path z.flds)).map Co.ty) (putE es n (List.replicate z.flds.length [])) vs) :
  ∃ va av vb,vs=va++av++vb∧va.length=n∧av.length=z.flds.length∧domL d (cols.map Co.ty) es (va++.mk 0 (i:Int) av::vb):=by
 have h:=hl
 rw[A.e,List.length_append,List.length_cons] at h
 have hal:=A.l
 obtain ⟨e,he⟩:=get_of_lt (l:=es) (n:=n) (by omega)
 have hes:=take_drop_at he
 have hla:(es.take n).length=n:=by rw[List.length_take];omega
 rw[A.con_ty,hes,putE_mid hla] at hv
 obtain ⟨w,vb,rfl,d1,d3⟩:=domL_split (by simp[hla,hal]) hv
 obtain ⟨va,av,rfl,d1,d2⟩:=domL_split (by rw[List.length_map,hla,hal]) d1
 have hty2:=domL_ty d2
 refine ⟨va,av,vb,rfl,by rw[(domL_len d1).1,List.length_map,hal],tyL_len hty2,?_⟩
 rw[A.ty,hes]
 exact dom_mid d1 ⟨by rw[tyV,if_neg ht];exact⟨i,z,rfl,hz,hty2⟩,fun h=>absurd h ht⟩ d3
theorem At.same_dom (A:At d k n cols rows c ca cb) (ht:c.ty=0) (hl:es.length=cols.length) {pm:Int} (hpm:pm ∉ es.getD n []) {vs:List Vl} (hv:domL d ((putC cols n []).map Co.ty) (putE es n []) vs) :
  ∃ va vb,vs=va++vb∧va.length=n∧domL d (cols.map Co.ty) es (va++.mk pm 0 []::vb):=by
 have h:=hl
 rw[A.e,List.length_append,List.length_cons] at h
 have hal:=A.l
 obtain ⟨e,he⟩:=get_of_lt (l:=es) (n:=n) (by omega)
 have hes:=take_drop_at he
 have hla:(es.take n).length=n:=by rw[List.length_take];omega
 have hpm:pm ∉ e:=by rw[List.getD_eq_getElem?_getD,he] at hpm;exact hpm
 rw[A.same_ty,hes,putE_mid hla,List.append_nil] at hv
 obtain ⟨va,vb,rfl,d1,d3⟩:=domL_split (by rw[List.length_map,hla,hal]) hv
 refine ⟨va,vb,rfl,by rw[(domL_len d1).1,List.length_map,hal],?_⟩
 rw[A.ty,hes]
 exact dom_mid d1 ⟨by rw[tyV,if_pos ht];trivial,fun _=>hpm⟩ d3
theorem At.oth_dom (A:At d k n cols rows c ca cb) (ht:c.ty=0) (hl:es.length=cols.length) {pm:Int} {vs:List Vl} (hv:domL d (cols.map Co.ty) (othE es n pm) vs) :
  ∃ va v vb,vs=va++v::vb∧va.length=n∧numV v≠pm∧domL d (cols.map Co.ty) es (va++v::vb):=by
 have h:=hl
 rw[A.e,List.length_append,List.length_cons] at h
 have hal:=A.l
 obtain ⟨e,he⟩:=get_of_lt (l:=es) (n:=n) (by omega)
 have hes:=take_drop_at he
 have hla:(es.take n).length=n:=by rw[List.length_take];omega
 rw[A.ty,hes,othE_mid hla] at hv
 obtain ⟨va,w,rfl,d1,d3⟩:=domL_split (by rw[List.length_map,hla,hal]) hv
 obtain ⟨v,vb,rfl,dv,d3⟩:∃ v vb,w=v::vb∧domV d c.ty (pm::e) v∧domL d (cb.map Co.ty) (es.drop (n+1)) vb:=by
  cases w with
  |nil=>exact d3.elim
  |cons v vb=>exact⟨v,vb,rfl,d3⟩
 have hne:=dv.2 ht
 rw[List.mem_cons,not_or] at hne
 have hnv:nbV v=numV v:=by obtain ⟨a,b,q⟩:=v;rfl
 refine ⟨va,v,vb,rfl,by rw[(domL_len d1).1,List.length_map,hal],by rw[←hnv];exact hne.1,?_⟩
 rw[A.ty,hes]
 exact dom_mid d1 ⟨dv.1,fun _=>hne.2⟩ d3
theorem CovE.getD_fresh (A:At d k n cols rows c ca cb) (C:CovE d es cols rows) (ht:c.ty=0) {r:Rw} (hr:r ∈ rows) (hk:kdP (patAt r n)≠0):nmP (patAt r n) ∉ es.getD n []:=by
 obtain ⟨ea,e,eb,rfl,hla,hlb⟩:=A.exs C
 obtain ⟨pa,p,pb,hp,hpl,hpa,hput,f1,f2,f3⟩:=A.fit r hr
 have hfr:=C.fresh r hr
 have hal:=A.l
 rw[A.ty,hp,freshL_app (by rw[List.length_map,hla,hal]) (by rw[List.length_map,hal,hpl])] at hfr
 rw[hpa] at hk ⊢
 have:=hfr.2.1 ht hk
 subst hla
 simpa using this
theorem CovE.con (A:At d k n cols rows c ca cb) (C:CovE d es cols rows) (ht:c.ty≠0) {i:Nat} {z:Cn} (hz:(consOf d c.ty)[i]? = some z):CovE d (putE es n (List.replicate z.flds.length [])) (putC cols n (fldC c.path z.flds)) (conRows n (i:Int) z.flds.length rows):=by
 have hfl:(fldC c.path z.flds).length=z.flds.length:=by rw[←List.length_map (f:=Co.ty),fldC_ty]
 have hal:=A.l
 refine ⟨?_,fun vs hv=>?_,fun r' hr'=>?_⟩
 ·obtain ⟨ea,e,eb,rfl,hla,hlb⟩:=A.exs C
  rw[putE_mid hla,A.e,putC_mid hal]
  simp only[List.length_append,List.length_replicate,hfl];omega
 ·obtain ⟨va,av,vb,rfl,hva,hav,hd⟩:=A.con_dom ht hz C.len hv
  rw[A.con_fst ht (m:=0) hz hva hav]
  exact C.all _ hd
 ·obtain ⟨r,hr,hs⟩:=List.mem_filterMap.1 hr'
  unfold conRow at hs
  obtain ⟨a,ha,rfl⟩:=Option.map_eq_some_iff.1 hs
  obtain ⟨ea,e,eb,rfl,hla,hlb⟩:=A.exs C
  obtain ⟨pa,p,pb,hp,hpl,hpa,hput,f1,f2,f3⟩:=A.fit r hr
  have hfr:=C.fresh r hr
  have h1:(ca.map Co.ty).length=ea.length:=by rw[List.length_map,hla,hal]
  have h2:(ca.map Co.ty).length=pa.length:=by rw[List.length_map,hal,hpl]
  rw[A.ty,hp,freshL_app h1 h2] at hfr
  rw[hpa] at ha
  have haf:=fitR_len (args_fit f2 ht hz ha)
  rw[A.con_ty,hput,putE_mid hla]
  show freshL _ _ (pa++a++pb)
  rw[freshL_app (by simp[hla,hal]) (by simp[hal,hpl,haf]),freshL_app h1 h2]
  exact⟨⟨hfr.1,freshL_none ..⟩,hfr.2.2⟩
theorem CovE.same (A:At d k n cols rows c ca cb) (C:CovE d es cols rows) (ht:c.ty=0) {pm:Int} (hpm:pm ∉ es.getD n []):CovE d (putE es n []) (putC cols n []) (sameRows n pm rows):=by
 have hal:=A.l
 refine ⟨?_,fun vs hv=>?_,fun r' hr'=>?_⟩
 ·obtain ⟨ea,e,eb,rfl,hla,hlb⟩:=A.exs C
  rw[putE_mid hla,A.e,putC_mid hal]
  simp only[List.append_nil,List.length_append];omega
 ·obtain ⟨va,vb,rfl,hva,hd⟩:=A.same_dom ht C.len hpm hv
  rw[A.same_fst ht hva rfl]
  exact C.all _ hd
 ·obtain ⟨r,hr,hs⟩:=List.mem_filterMap.1 hr'
  split at hs
  ·cases hs
   obtain ⟨ea,e,eb,rfl,hla,hlb⟩:=A.exs C
   obtain ⟨pa,p,pb,hp,hpl,hpa,hput,f1,f2,f3⟩:=A.fit r hr
   have hfr:=C.fresh r hr
   have h1:(ca.map Co.ty).length=ea.length:=by rw[List.length_map,hla,hal]
   have h2:(ca.map Co.ty).length=pa.length:=by rw[List.length_map,hal,hpl]
   rw[A.ty,hp,freshL_app h1 h2] at hfr
   rw[A.same_ty,hput,putE_mid hla,List.append_nil,List.append_nil]
   show freshL _ _ (pa++pb)
   rw[freshL_app h1 h2]
   exact⟨hfr.1,hfr.2.2⟩
  ·cases hs
theorem CovE.oth (A:At d k n cols rows c ca cb) (C:CovE d es cols rows) (ht:c.ty=0) (pm:Int):CovE d (othE es n pm) cols (othRows n pm rows):=by
 have hal:=A.l
 refine ⟨?_,fun vs hv=>?_,fun r hr'=>?_⟩
 ·have:=C.len
  obtain ⟨ea,e,eb,rfl,hla,hlb⟩:=A.exs C
  rw[othE_mid hla]
  simpa using this
 ·obtain ⟨va,v,vb,rfl,hva,hne,hd⟩:=A.oth_dom ht C.len hv
  rw[A.oth_fst ht hva hne]
  exact C.all _ hd
 ·obtain ⟨hr,hob⟩:=List.mem_filter.1 hr'
  obtain ⟨ea,e,eb,rfl,hla,hlb⟩:=A.exs C
  obtain ⟨pa,p,pb,hp,hpl,hpa,hput,f1,f2,f3⟩:=A.fit r hr
  have hfr:=C.fresh r hr
  have h1:(ca.map Co.ty).length=ea.length:=by rw[List.length_map,hla,hal]
  have h2:(ca.map Co.ty).length=pa.length:=by rw[List.length_map,hal,hpl]
  rw[A.ty,hp,freshL_app h1 h2] at hfr
  rw[A.ty,hp,othE_mid hla,freshL_app h1 h2]
  refine ⟨hfr.1,fun h0 hk=>?_,hfr.2.2⟩
  rw[List.mem_cons,not_or]
  refine ⟨?_,hfr.2.1 h0 hk⟩
  unfold othB at hob
  rw[hpa] at hob
  simpa [hk] using hob
end
end Zc28
end
section
set_option maxHeartbeats 4000000
namespace Zc28
open Go Zv Zs
abbrev BtP:=List Co→List Rw→List (List Int)→Nat→Nat→Prop
def Bc (P:BtP) (cols:List Co) (rows:List Rw) (es:List (List Int)) (n:Nat) (c:Co):Nat→List Cn→Nat→Nat→List Int→Prop
 |_,[],lo,hi,nx=>lo=hi∧nx=[]
 |i,z::zs,lo,hi,nx=>∃ mid nx',nx=(lo:Int)::nx'∧P (putC cols n (fldC c.path z.flds)) (conRows n (i:Int) z.flds.length rows) (putE es n (List.replicate z.flds.length [])) lo mid∧Bc P cols rows es n c (i+1) zs mid hi nx'
def Bt (d:List Dt) (l:List Ts):Nat→BtP
  |0,_,_,_,_,_=>False
  |k+1,cols,rows,es,lo,hi=>BI d (k+1) cols rows∧CovE d es cols rows∧∃ r0,rows[0]? = some r0 ∧
    ((idxZ nwB r0.pats = -1∧l[lo]? = some (leafAt r0.n)∧hi=lo+1) ∨
     (∃ (n:Nat) (c:Co) (mid:Nat),idxZ nwB r0.pats=(n:Int)∧cols[n]? = some c∧c.ty=0∧l[lo]? = some ⟨c.path,false,nmP (patAt r0 n),[((lo+1:Nat):Int),(mid:Int)],0⟩ ∧
        Bt d l k (putC cols n []) (sameRows n (nmP (patAt r0 n)) rows) (putE es n []) (lo+1) mid∧Bt d l k cols (othRows n (nmP (patAt r0 n)) rows) (othE es n (nmP (patAt r0 n))) mid hi) ∨
     (∃ (n:Nat) (c:Co) (nx:List Int),idxZ nwB r0.pats=(n:Int)∧cols[n]? = some c∧c.ty≠0∧l[lo]? = some ⟨c.path,true,0,nx,0⟩∧Bc (Bt d l k) cols rows es n c 0 (consOf d c.ty) (lo+1) hi nx))
theorem bc_le {P:BtP} (hP:∀ cols rows es lo hi,P cols rows es lo hi→lo<hi) {cols:List Co} {rows:List Rw} {es:List (List Int)} {n:Nat} {c:Co}:∀ {zs:List Cn} {i lo hi:Nat} {nx:List Int},Bc P cols rows es n c i zs lo hi nx→lo≤hi
 | [],i,lo,hi,nx,h=>by have:=h.1;omega
 |z::zs,i,lo,hi,nx,h=>by
  obtain ⟨mid,nx',_,h1,h2⟩:=h
  have:=hP _ _ _ _ _ h1
  have:=bc_le hP h2
  omega
theorem bt_lt {d:List Dt} {l:List Ts}:∀ (k:Nat) {cols:List Co} {rows:List Rw} {es:List (List Int)} {lo hi:Nat},Bt d l k cols rows es lo hi→lo<hi
 |0,_,_,_,_,_,h=>h.elim
 |k+1,cols,rows,es,lo,hi,h=>by
  obtain ⟨_,_,r0,_,⟨_,_,h⟩ | ⟨n,c,mid,_,_,_,_,h1,h2⟩ | ⟨n,c,nx,_,_,_,_,h1⟩⟩:=h
  ·omega
  ·have:=bt_lt k h1;have:=bt_lt k h2;omega
  ·have:=bc_le (fun _ _ _ _ _ h=>bt_lt k h) h1;omega
theorem bc_len {P:BtP} {cols:List Co} {rows:List Rw} {es:List (List Int)} {n:Nat} {c:Co}:∀ {zs:List Cn} {i lo hi:Nat} {nx:List Int},Bc P cols rows es n c i zs lo hi nx→nx.length=zs.length
 | [],i,lo,hi,nx,h=>by rw[h.2];rfl
 |z::zs,i,lo,hi,nx,h=>by
  obtain ⟨mid,nx',rfl,h1,h2⟩:=h
  rw[List.length_cons,List.length_cons,bc_len h2]
theorem bc_get {P:BtP} (hP:∀ cols rows es lo hi,P cols rows es lo hi→lo<hi) {cols:List Co} {rows:List Rw} {es:List (List Int)} {n:Nat} {c:Co}:∀ {zs:List Cn} {i lo hi:Nat} {nx:List Int},Bc P cols rows es n c i zs lo hi nx→∀ (j:Nat) z,zs[j]? = some z →
  ∃ (a b:Nat),nx[j]? = some (a:Int)∧lo≤a∧b≤hi∧P (putC cols n (fldC c.path z.flds)) (conRows n ((i+j:Nat):Int) z.flds.length rows) (putE es n (List.replicate z.flds.length [])) a b
 | [],i,lo,hi,nx,h,j,z,hj=>by simp at hj
 |y::zs,i,lo,hi,nx,h,0,z,hj=>by
  obtain ⟨mid,nx',rfl,h1,h2⟩:=h
  cases hj
  have:=bc_le hP h2
  exact⟨lo,mid,rfl,Nat.le_refl _,this,h1⟩
 |y::zs,i,lo,hi,nx,h,j+1,z,hj=>by
  obtain ⟨mid,nx',rfl,h1,h2⟩:=h
  have:=hP _ _ _ _ _ h1
  obtain ⟨a,b,e1,e2,e3,e4⟩:=bc_get hP h2 j z (by simpa using hj)
  rw[show i+1+j=i+(j+1) by omega] at e4
  exact⟨a,b,by simpa using e1,by omega,e3,e4⟩
def Made (P:List Ts→Nat→Nat→Prop) (out res:List Ts):Prop:=(∀ j,j<out.length→res[j]? = out[j]?)∧∀ l:List Ts,(∀ j,out.length≤j→j<res.length→l[j]? = res[j]?)→P l out.length res.length
theorem getI_snoc {out res:List Ts} {t:Ts} (h:∀ j,j<(out++[t]).length→res[j]? = (out++[t])[j]?):(∀ j,j<out.length→res[j]? = out[j]?)∧res[out.length]? = some t:=by
 refine ⟨fun j hj=>?_,?_⟩
 ·rw[h j (by simp;omega),List.getElem?_append_left hj]
 ·rw[h out.length (by simp)];simp
theorem conL_bt {d:List Dt} {k n:Nat} {cols:List Co} {rows:List Rw} {es:List (List Int)} {c:Co}:∀ (zs:List Cn) (i:Nat) (out:List Ts) (nx:List Int),
  (∀ (j:Nat) z,zs[j]? = some z→∀ out:List Ts,(buildS d k out (putC cols n (fldC c.path z.flds)) (conRows n ((i+j:Nat):Int) z.flds.length rows)).1.length≤4096 →
   (buildS d k out (putC cols n (fldC c.path z.flds)) (conRows n ((i+j:Nat):Int) z.flds.length rows)).2=(out.length:Int) ∧
   Made (fun l=>Bt d l k (putC cols n (fldC c.path z.flds)) (conRows n ((i+j:Nat):Int) z.flds.length rows) (putE es n (List.replicate z.flds.length []))) out (buildS d k out (putC cols n (fldC c.path z.flds)) (conRows n ((i+j:Nat):Int) z.flds.length rows)).1) →
  (conL (buildS d k) cols rows n c i zs out nx).1.length≤4096 →
  ∃ nx',(conL (buildS d k) cols rows n c i zs out nx).2=nx++nx'∧Made (fun l lo hi=>Bc (Bt d l k) cols rows es n c i zs lo hi nx') out (conL (buildS d k) cols rows n c i zs out nx).1
 | [],i,out,nx,_,_=>⟨[],by rw[conL,List.append_nil],fun _ _=>rfl,fun _ _=>⟨rfl,rfl⟩⟩
 |z::zs,i,out,nx,H,hl=>by
  unfold conL at hl ⊢
  have h0:=H 0 z rfl out
  rw[Nat.add_zero] at h0
  have hle:=(conL_len (buildS_len d k) cols rows n c zs (i+1) (buildS d k out (putC cols n (fldC c.path z.flds)) (conRows n (i:Int) z.flds.length rows)).1 (nx++[(buildS d k out (putC cols n (fldC c.path z.flds)) (conRows n (i:Int) z.flds.length rows)).2])).1
  obtain ⟨e2,m1,m2⟩:=h0 (by omega)
  have hge:=(buildS_len d k out (putC cols n (fldC c.path z.flds)) (conRows n (i:Int) z.flds.length rows)).1
  generalize buildS d k out (putC cols n (fldC c.path z.flds)) (conRows n (i:Int) z.flds.length rows)=R at hl e2 m1 m2 hle hge ⊢
  obtain ⟨nx',f1,f2,f3⟩:=conL_bt (es:=es) zs (i+1) R.1 (nx++[R.2]) (fun j z' hj=>by
   have:=H (j+1) z' (by simpa using hj)
   rw[show i+(j+1)=i+1+j by omega] at this
   exact this) hl
  refine ⟨R.2::nx',by rw[f1,List.append_assoc];rfl,fun j hj=>by rw[f2 j (by omega),m1 j hj],fun l hl=>?_⟩
  refine ⟨R.1.length,nx',by rw[e2],m2 l fun j h1 h2=>?_,f3 l fun j h1 h2=>?_⟩
  ·rw[hl j h1 (by omega),f2 j h2]
  ·exact hl j (by omega) h2
theorem bldN_eq (f:Bld) (cols:List Co) (rows:List Rw) (r0:Rw) (k:Nat) (c:Co) (out:List Ts):bldN f cols rows r0 k c out =
  ((f (f (out++[zT]) (putC cols k []) (sameRows k (nmP (patAt r0 k)) rows)).1 cols (othRows k (nmP (patAt r0 k)) rows)).1.set out.length ⟨c.path,false,nmP (patAt r0 k),[(f (out++[zT]) (putC cols k []) (sameRows k (nmP (patAt r0 k)) rows)).2,(f (f (out++[zT]) (putC cols k []) (sameRows k (nmP (patAt r0 k)) rows)).1 cols (othRows k (nmP (patAt r0 k)) rows)).2],0⟩,(out.length:Int)):=rfl
theorem build_bt {d:List Dt}:∀ (k:Nat) (out:List Ts) (cols:List Co) (rows:List Rw) (es:List (List Int)),BI d k cols rows→CovE d es cols rows→(buildS d k out cols rows).1.length≤4096 →
  (buildS d k out cols rows).2=(out.length:Int)∧Made (fun l=>Bt d l k cols rows es) out (buildS d k out cols rows).1
 |0,out,cols,rows,es,I,_,_=>by have:=I.nw;omega
 |k+1,out,cols,rows,es,I,C,hl=>by
  have hge:=(buildS_len d (k+1) out cols rows).1
  have h4:¬ 4096<out.length:=by omega
  unfold buildS at hl ⊢
  rw[if_neg h4] at hl ⊢
  obtain ⟨r0,hr0⟩:∃ r0,rows[0]? = some r0:=get_of_lt (List.length_pos_iff.2 I.ne)
  have hB1:bldB d (buildS d k) cols rows out=bldK d (buildS d k) cols rows r0 (idxZ nwB r0.pats) out:=by
   cases rows with
   |nil=>cases hr0
   |cons x rs=>cases hr0;rfl
  rw[hB1] at hl ⊢
  have hol:∀ t:Ts,(out++[t]).length=out.length+1:=fun t=>by simp
  rcases idxZ_cases nwB r0.pats with hz | ⟨n,p,hz,hp,hpn⟩
  ·rw[hz] at hl ⊢
   show ((out++[leafAt r0.n],(out.length:Int)):List Ts × Int).2=_∧Made _ out (out++[leafAt r0.n])
   refine ⟨rfl,fun j hj=>by rw[List.getElem?_append_left hj],fun l hl=>⟨I,C,r0,hr0,.inl ⟨hz,?_,hol _⟩⟩⟩
   rw[hl out.length (Nat.le_refl _) (by rw[hol];omega)];simp
  ·have hpl:=fitR_len (I.fit r0 (List.mem_of_getElem? hr0))
   rw[List.length_map] at hpl
   obtain ⟨c,hc⟩:=get_of_lt (l:=cols) (n:=n) (by have:=(List.getElem?_eq_some_iff.1 hp).1;omega)
   have hB2:bldK d (buildS d k) cols rows r0 (idxZ nwB r0.pats) out=if c.ty=0 then bldN (buildS d k) cols rows r0 n c out else bldC d (buildS d k) cols rows n c out:=by
    rw[hz];unfold bldK;rw[getI_nat,hc];rfl
   rw[hB2] at hl ⊢
   obtain ⟨ca,cb,A⟩:=I.at hc
   have hk0:=(BI.nonwild A hr0 hz).1
   by_cases ht:c.ty=0
   ·rw[if_pos ht] at hl ⊢
    rw[bldN_eq] at hl ⊢
    have hpm:=CovE.getD_fresh A C ht (List.mem_of_getElem? hr0) hk0
    have hg1:=(buildS_len d k (out++[zT]) (putC cols n []) (sameRows n (nmP (patAt r0 n)) rows)).1
    have hg2:=(buildS_len d k (buildS d k (out++[zT]) (putC cols n []) (sameRows n (nmP (patAt r0 n)) rows)).1 cols (othRows n (nmP (patAt r0 n)) rows)).1
    simp only[List.length_set] at hl
    obtain ⟨a2,a3,a4⟩:=build_bt k (out++[zT]) _ _ _ (I.same hr0 hz hc ht) (CovE.same A C ht hpm) (by omega)
    generalize buildS d k (out++[zT]) (putC cols n []) (sameRows n (nmP (patAt r0 n)) rows)=R1 at *
    obtain ⟨b2,b3,b4⟩:=build_bt k R1.1 _ _ _ (I.oth hr0 hz hc ht) (CovE.oth A C ht (nmP (patAt r0 n))) hl
    generalize buildS d k R1.1 cols (othRows n (nmP (patAt r0 n)) rows)=R2 at *
    rw[hol] at hg1
    obtain ⟨a5,a6⟩:=getI_snoc a3
    refine ⟨rfl,fun j hj=>?_,fun l hll=>?_⟩
    ·show (R2.1.set out.length _)[j]? = _
     rw[List.getElem?_set_ne (by omega),b3 j (by omega),a5 j hj]
    ·have hsl:∀ t,(R2.1.set out.length t).length=R2.1.length:=fun t=>by simp
     show Bt d l (k+1) cols rows es out.length (R2.1.set out.length _).length
     rw[hsl]
     have hll:∀ j,out.length≤j→j<R2.1.length→l[j]? = (R2.1.set out.length ⟨c.path,false,nmP (patAt r0 n),[R1.2,R2.2],0⟩)[j]? := fun j h1 h2=>hll j h1 (by show j<(R2.1.set out.length _).length;rw[hsl];exact h2)
     refine ⟨I,C,r0,hr0,.inr (.inl ⟨n,c,R1.1.length,hz,hc,ht,?_,?_,?_⟩)⟩
     ·rw[hll out.length (Nat.le_refl _) (by omega),List.getElem?_set_self (by omega),a2,b2,hol]
     ·rw[←hol zT]
      refine a4 l fun j h1 h2=>?_
      rw[hol] at h1
      rw[hll j (by omega) (by omega),List.getElem?_set_ne (by omega),b3 j h2]
     ·refine b4 l fun j h1 h2=>?_
      rw[hll j (by omega) h2,List.getElem?_set_ne (by omega)]
   ·rw[if_neg ht] at hl ⊢
    unfold bldC at hl ⊢
    simp only[List.length_set] at hl
    have hg1:=(conL_len (buildS_len d k) cols rows n c (consOf d c.ty) 0 (out++[zT]) []).1
    obtain ⟨nx,a2,a3,a4⟩:=conL_bt (es:=es) (consOf d c.ty) 0 (out++[zT]) [] (fun j z hj out' hl'=>by
     rw[Nat.zero_add] at hl' ⊢
     exact build_bt k out' _ _ _ (I.con hr0 hz hc ht hj) (CovE.con A C ht hj) hl') hl
    generalize conL (buildS d k) cols rows n c 0 (consOf d c.ty) (out++[zT]) []=R1 at *
    rw[hol] at hg1
    obtain ⟨a5,a6⟩:=getI_snoc a3
    rw[List.nil_append] at a2
    refine ⟨rfl,fun j hj=>?_,fun l hll=>?_⟩
    ·show (R1.1.set out.length _)[j]? = _
     rw[List.getElem?_set_ne (by omega),a5 j hj]
    ·have hsl:∀ t,(R1.1.set out.length t).length=R1.1.length:=fun t=>by simp
     show Bt d l (k+1) cols rows es out.length (R1.1.set out.length _).length
     rw[hsl]
     have hll:∀ j,out.length≤j→j<R1.1.length→l[j]? = (R1.1.set out.length ⟨c.path,true,0,R1.2,0⟩)[j]? := fun j h1 h2=>hll j h1 (by show j<(R1.1.set out.length _).length;rw[hsl];exact h2)
     refine ⟨I,C,r0,hr0,.inr (.inr ⟨n,c,nx,hz,hc,ht,?_,?_⟩)⟩
     ·rw[hll out.length (Nat.le_refl _) (by omega),List.getElem?_set_self (by omega),a2]
     ·rw[←hol zT]
      refine a4 l fun j h1 h2=>?_
      rw[hol] at h1
      rw[hll j (by omega) h2,List.getElem?_set_ne (by omega)]
end Zc28
end
section
set_option maxHeartbeats 4000000
namespace Zc28
open Go Zv Zs
def onV (V:List Vl):List Co→List Vl→Prop
 | [],[]=>True
 |c::cs,v::vs=>atR c.path V=some v∧onV V cs vs
 |_,_=>False
theorem onV_app {V:List Vl}:∀ {ca cb:List Co} {va vb:List Vl},ca.length=va.length→(onV V (ca++cb) (va++vb) ↔ onV V ca va∧onV V cb vb)
 | [],cb,[],vb,_=>by simp[onV]
 |c::ca,cb,v::va,vb,h=>by
  simp only[List.cons_append,onV]
  rw[onV_app (by simpa using h),and_assoc]
 | [],_,_::_,_,h=>by cases h
 |_::_,_,[],_,h=>by cases h
theorem atG_snoc (i:Int):∀ (p:List Int) (x:Vl) (v:List Vl),p≠[]→atG (p++[i]) x v=(atG p x v).bind fun y=>getI (argV y) i
 | [],_,_,h=>absurd rfl h
 | [j],x,v,_=>by
  show (match getI v j with | none=>none | some y=>atG [i] y (argV y))=_
  simp only[atG]
  cases getI v j with
  |none=>rfl
  |some y=>
   show (match getI (argV y) i with | none=>none | some z=>some z)=getI (argV y) i
   cases getI (argV y) i<;>rfl
 |j::j2::p,x,v,_=>by
  show (match getI v j with | none=>none | some y=>atG ((j2::p)++[i]) y (argV y))=(match getI v j with | none=>none | some y=>atG (j2::p) y (argV y)).bind _
  cases getI v j with
  |none=>rfl
  |some y=>exact atG_snoc i (j2::p) y (argV y) (by simp)
theorem atR_snoc {p:List Int} {v:List Vl} {x:Vl} (h:atR p v=some x) (i:Int):atR (p++[i]) v=getI (argV x) i:=by
 have hp:p≠[]:=by intro e;rw[e] at h;cases h
 rw[atR_cons hp v zV] at h
 rw[atR_cons (by simp) v zV,atG_snoc i p zV v hp,h];rfl
theorem onV_fld {V:List Vl} {path:List Int}:∀ (fs:List Int) (av:List Vl) (k:Nat),fs.length=av.length→(∀ (j:Nat) v,av[j]? = some v→atR (path++[((k+j:Nat):Int)]) V=some v)→onV V ((fs.zipIdx k).map fun q=>⟨path++[(q.2:Int)],q.1⟩) av
 | [],[],_,_,_=>trivial
 |f::fs,v::av,k,hl,h=>by
  rw[List.zipIdx_cons,List.map_cons]
  refine ⟨h 0 v rfl,onV_fld fs av (k+1) (by simpa using hl) fun j w hj=>?_⟩
  have:=h (j+1) w (by simpa using hj)
  rw[show k+(j+1)=k+1+j by omega] at this
  exact this
 | [],_::_,_,h,_=>by cases h
 |_::_,[],_,h,_=>by cases h
theorem mt_allwild:∀ {ps:List Pt} {vs:List Vl},ps.length=vs.length→(∀ p,p ∈ ps→kdP p=0)→mtL ps vs=true
 | [],[],_,_=>by rw[mtL]
 |p::ps,v::vs,h,hk=>by
  have:=hk p (.head _)
  obtain ⟨k,c,m,qs⟩:=p
  obtain ⟨a,b,q⟩:=v
  have this:k=0:=this
  rw[mtL,mtP,if_pos this,mt_allwild (by simpa using h) fun p hp=>hk p (.tail _ hp)];rfl
 | [],_::_,h,_=>by cases h
 |_::_,[],h,_=>by cases h
theorem idx_wild {ps:List Pt} (h:idxZ nwB ps = -1):∀ p,p ∈ ps→kdP p=0:=by
 rcases idxZ_first nwB ps with ⟨_,h2⟩ | ⟨n,x,h2,_⟩
 ·intro p hp
  have:=h2 p hp
  unfold nwB wildP at this
  simpa using this
 ·omega
theorem leaf_fst {d:List Dt} {k:Nat} {cols:List Co} {rows:List Rw} {es:List (List Int)} {r0:Rw} (I:BI d k cols rows) (h0:rows[0]? = some r0) (hz:idxZ nwB r0.pats = -1) {vs:List Vl} (hd:domL d (cols.map Co.ty) es vs):fstR rows vs=some r0.n:=by
 refine fst_head h0 (mt_allwild ?_ (idx_wild hz))
 rw[fitR_len (I.fit r0 (List.mem_of_getElem? h0)),(domL_len hd).1]
section
variable {d:List Dt} {k n:Nat} {cols:List Co} {rows:List Rw} {c:Co} {ca cb:List Co} {es:List (List Int)}
theorem At.split (A:At d k n cols rows c ca cb) (hl:es.length=cols.length) {vs:List Vl} (hv:domL d (cols.map Co.ty) es vs) :
  ∃ ea e eb va v vb,es=ea++e::eb∧ea.length=n∧vs=va++v::vb∧va.length=n∧domL d (ca.map Co.ty) ea va∧domV d c.ty e v∧domL d (cb.map Co.ty) eb vb:=by
 have h:=hl
 rw[A.e,List.length_append,List.length_cons] at h
 have hal:=A.l
 obtain ⟨e,he⟩:=get_of_lt (l:=es) (n:=n) (by omega)
 have hes:=take_drop_at he
 have hla:(es.take n).length=n:=by rw[List.length_take];omega
 rw[A.ty,hes] at hv
 obtain ⟨va,w,rfl,d1,d3⟩:=domL_split (by rw[List.length_map,hla,hal]) hv
 obtain ⟨v,vb,rfl,dv,d3⟩:∃ v vb,w=v::vb∧domV d c.ty e v∧domL d (cb.map Co.ty) (es.drop (n+1)) vb:=by
  cases w with
  |nil=>exact d3.elim
  |cons v vb=>exact⟨v,vb,rfl,d3⟩
 exact⟨_,e,_,va,v,vb,hes,hla,rfl,by rw[(domL_len d1).1,List.length_map,hal],d1,dv,d3⟩
end
theorem bt_sel {d:List Dt} {l:List Ts} {V:List Vl}:∀ (k:Nat) {cols:List Co} {rows:List Rw} {es:List (List Int)} {lo hi:Nat},Bt d l k cols rows es lo hi→∀ vs,domL d (cols.map Co.ty) es vs→onV V cols vs→∀ f,hi - lo≤f→∃ m,fstR rows vs=some m∧runS l V f (lo:Int)=(m,0)
 |0,_,_,_,_,_,h=>h.elim
 |k+1,cols,rows,es,lo,hi,h=>by
  intro vs hd ho f hf
  have hlt:=bt_lt (k+1) h
  obtain ⟨I,C,r0,hr0,h⟩:=h
  obtain ⟨f,rfl⟩:∃ g,f=g+1:=⟨f - 1,by omega⟩
  rw[runS]
  rcases h with ⟨hz,hl,he⟩ | ⟨n,c,mid,hz,hc,ht,hl,h1,h2⟩ | ⟨n,c,nx,hz,hc,ht,hl,h1⟩
  ·refine ⟨r0.n,leaf_fst I hr0 hz hd,?_⟩
   have:stpS l V (lo:Int)=.R r0.n:=by unfold stpS;rw[getI_nat,hl];rfl
   rw[this];rfl
  ·obtain ⟨ca,cb,A⟩:=I.at hc
   obtain ⟨ea,e,eb,va,v,vb,rfl,hla,rfl,hva,d1,dv,d3⟩:=A.split C.len hd
   have hal:=A.l
   have ho':=ho
   rw[A.e,onV_app (by omega)] at ho'
   obtain ⟨o1,o2,o3⟩:=ho'
   have hgo:stpS l V (lo:Int)=.G (if numV v=nmP (patAt r0 n) then ((lo+1:Nat):Int) else (mid:Int)):=by
    unfold stpS goS
    rw[getI_nat,hl]
    simp only[o2]
    by_cases e1:numV v=nmP (patAt r0 n)
    ·rw[if_pos e1,if_pos e1];rfl
    ·rw[if_neg e1,if_neg e1];rfl
   rw[hgo]
   have l1:=bt_lt k h1
   have l2:=bt_lt k h2
   by_cases e1:numV v=nmP (patAt r0 n)
   ·rw[if_pos e1]
    obtain ⟨m,i,av⟩:=v
    obtain ⟨w,g1,g2⟩:=bt_sel k h1 (va++vb) (by rw[A.same_ty,putE_mid hla,List.append_nil];exact domL_app d1 d3) (by rw[A.e,putC_mid hal,List.append_nil,onV_app (by omega)];exact⟨o1,o3⟩) f (by omega)
    rw[A.same_fst ht hva (m:=m) (i:=i) (av:=av) e1] at g1
    exact⟨w,g1,g2⟩
   ·rw[if_neg e1]
    have hnv:nbV v=numV v:=by obtain ⟨a,b,q⟩:=v;rfl
    obtain ⟨w,g1,g2⟩:=bt_sel k h2 (va++v::vb) (by
     rw[A.ty,othE_mid hla]
     refine dom_mid d1 ⟨dv.1,fun h0=>?_⟩ d3
     rw[List.mem_cons,not_or,hnv]
     exact⟨e1,by rw[←hnv];exact dv.2 h0⟩) ho f (by omega)
    rw[A.oth_fst ht hva e1] at g1
    exact⟨w,g1,g2⟩
  ·obtain ⟨ca,cb,A⟩:=I.at hc
   obtain ⟨ea,e,eb,va,v,vb,rfl,hla,rfl,hva,d1,dv,d3⟩:=A.split C.len hd
   have hal:=A.l
   have ho':=ho
   rw[A.e,onV_app (by omega)] at ho'
   obtain ⟨o1,o2,o3⟩:=ho'
   obtain ⟨m,i0,av⟩:=v
   have hty:=dv.1
   rw[tyV,if_neg ht] at hty
   obtain ⟨i,z,rfl,hz2,hta⟩:=hty
   have hal2:=tyL_len hta
   obtain ⟨a,b,n1,n2,n3,n4⟩:=bc_get (fun _ _ _ _ _ h=>bt_lt k h) h1 i z hz2
   rw[Nat.zero_add] at n4
   have hne:nx.length≠0:=by have:=(List.getElem?_eq_some_iff.1 n1).1;omega
   have hgo:stpS l V (lo:Int)=.G (a:Int):=by
    unfold stpS goS
    rw[getI_nat,hl]
    simp only[o2,if_neg hne,if_true]
    show spO (getI nx (i:Int))=_
    rw[getI_nat,n1];rfl
   rw[hgo]
   have l1:=bt_lt k n4
   obtain ⟨w,g1,g2⟩:=bt_sel k n4 (va++av++vb) (by
    rw[A.con_ty,putE_mid hla]
    refine domL_app (domL_app d1 ?_) d3
    exact ty_domL hta) (by
    rw[A.e,putC_mid hal,onV_app (by simp[hal,hva,hal2,fldC]),onV_app (by omega)]
    refine ⟨⟨o1,onV_fld z.flds av 0 hal2.symm fun j w hj=>?_⟩,o3⟩
    rw[atR_snoc o2,Nat.zero_add,getI_nat]
    exact hj) f (by omega)
   rw[A.con_fst ht (m:=m) hz2 hva hal2] at g1
   exact⟨w,g1,g2⟩
end Zc28
end
section
set_option maxHeartbeats 4000000
namespace Zc28
open Go Zv Zs
def KRl (kn:List Kn):List Co→List (List Int)→Prop
 |c::cs,e::es=>(∃ p,p ∈ kn∧p.path=c.path∧p.ty=c.ty∧p.done=false∧∀ x,x ∈ p.nots→x ∈ e)∧KRl kn cs es
 |_,_=>True
theorem KRl_app {kn:List Kn}:∀ {ca cb:List Co} {ea eb:List (List Int)},ca.length=ea.length→(KRl kn (ca++cb) (ea++eb) ↔ KRl kn ca ea∧KRl kn cb eb)
 | [],cb,[],eb,_=>by simp[KRl]
 |c::ca,cb,e::ea,eb,h=>by
  simp only[List.cons_append,KRl]
  rw[KRl_app (by simpa using h),and_assoc]
 | [],_,_::_,_,h=>by cases h
 |_::_,_,[],_,h=>by cases h
theorem KRl_mono {kn kn':List Kn} {P:List Int} (h:∀ p,p ∈ kn→p.path≠P→p ∈ kn'):∀ {cs:List Co} {es:List (List Int)},(∀ c,c ∈ cs→c.path≠P)→KRl kn cs es→KRl kn' cs es
 | [],_,_,_=>by unfold KRl;trivial
 |_::_,[],_,_=>by unfold KRl;trivial
 |c::cs,e::es,hc,⟨⟨p,h1,h2,h3⟩,hr⟩=>⟨⟨p,h p h1 (by rw[h2];exact hc c (.head _)),h2,h3⟩,KRl_mono h (fun c' h'=>hc c' (.tail _ h')) hr⟩
theorem KRl_new {kn:List Kn}:∀ (cs:List Co),(∀ c,c ∈ cs→∃ p,p ∈ kn∧p.path=c.path∧p.ty=c.ty∧p.done=false∧p.nots=[])→KRl kn cs (List.replicate cs.length [])
 | [],_=>by unfold KRl;trivial
 |c::cs,h=>by
  obtain ⟨p,h1,h2,h3,h4,h5⟩:=h c (.head _)
  exact⟨⟨p,h1,h2,h3,h4,fun x hx=>by rw[h5] at hx;cases hx⟩,KRl_new cs fun c' h'=>h c' (.tail _ h')⟩
theorem fldC_in (path fs:List Int) {c:Co} (h:c ∈ fldC path fs):(⟨c.path,c.ty,false,[]⟩:Kn) ∈ newK path fs:=by
 unfold fldC at h
 obtain ⟨q,hq,rfl⟩:=List.mem_map.1 h
 exact List.mem_map.2 ⟨q,hq,rfl⟩
theorem fldC_paths (path fs:List Int):(fldC path fs).map Co.path=(newK path fs).map Kn.path:=by
 unfold fldC newK;rw[List.map_map,List.map_map];rfl
theorem mem_set_ne {kn:List Kn} {i:Nat} {p q:Kn} (hp:kn[i]? = some p) {P:List Int} (hP:p.path=P):∀ r,r ∈ kn→r.path≠P→r ∈ kn.set i q:=by
 intro r hr hne
 obtain ⟨j,hj⟩:=List.mem_iff_getElem?.1 hr
 have:i≠j:=by intro e;subst e;rw[hp] at hj;cases hj;exact hne hP
 exact List.mem_of_getElem? (i:=j) (by rw[List.getElem?_set_ne this];exact hj)
def FalseM (M:List Bool) (lo hi:Nat):Prop:=∀ j,lo≤j→j<hi→M[j]? = some false
structure FillM (M M':List Bool) (lo hi:Nat):Prop where
 inn:∀ j,lo≤j→j<hi→M'[j]? = some true
 out:∀ j,j<lo∨hi≤j→M'[j]? = M[j]?
theorem FillM.one {M:List Bool} {lo:Nat} (h:M[lo]? = some false):FillM M (M.set lo true) lo (lo+1):=by
 have:=(List.getElem?_eq_some_iff.1 h).1
 refine ⟨fun j h1 h2=>?_,fun j h1=>?_⟩
 ·obtain rfl:j=lo:=by omega
  exact List.getElem?_set_self this
 ·exact List.getElem?_set_ne (by omega)
theorem FillM.trans {M M' M'':List Bool} {lo mid hi:Nat} (a:FillM M M' lo mid) (b:FillM M' M'' mid hi) (h1:lo≤mid) (h2:mid≤hi):FillM M M'' lo hi:=by
 refine ⟨fun j h3 h4=>?_,fun j h3=>?_⟩
 ·by_cases h:j<mid
  ·rw[b.out j (.inl h),a.inn j h3 h]
  ·exact b.inn j (by omega) h4
 ·rw[b.out j (by omega),a.out j (by omega)]
theorem FillM.left {M M':List Bool} {lo mid hi:Nat} (a:FillM M M' lo mid) (h:FalseM M lo hi) (hl:lo≤mid):FalseM M' mid hi:=fun j h1 h2=>by
 rw[a.out j (.inr h1)];exact h j (by omega) h2
theorem FillM.nil (M:List Bool) (lo:Nat):FillM M M lo lo:=⟨fun j h1 h2=>by omega,fun _ _=>rfl⟩
def VisOk (f:Vis) (kn:List Kn) (M:List Bool) (lo hi:Nat):Prop:=(f (lo:Int) kn M).1=true∧FillM M (f (lo:Int) kn M).2 lo hi
theorem bc_vis {P:BtP} (hP:∀ cols rows es lo hi,P cols rows es lo hi→lo<hi) {f:Vis} {base:List Kn} {cols:List Co} {rows:List Rw} {es:List (List Int)} {n:Nat} {c:Co} {B:Nat}:∀ {zs:List Cn} {i lo hi:Nat} {nx:List Int},Bc P cols rows es n c i zs lo hi nx→B≤lo →
  (∀ (j:Nat) z a b M,zs[j]? = some z→P (putC cols n (fldC c.path z.flds)) (conRows n ((i+j:Nat):Int) z.flds.length rows) (putE es n (List.replicate z.flds.length [])) a b→B≤a→b≤hi→FalseM M a b→VisOk f (base++newK c.path z.flds) M a b) →
  ∀ M,FalseM M lo hi→(chL f base c.path (nx.zip zs) M).1=true∧FillM M (chL f base c.path (nx.zip zs) M).2 lo hi
 | [],i,lo,hi,nx,h,_,_,M,hM=>by
  obtain ⟨rfl,rfl⟩:=h
  exact⟨rfl,FillM.nil ..⟩
 |z::zs,i,lo,hi,nx,h,hB,H,M,hM=>by
  obtain ⟨mid,nx',rfl,h1,h2⟩:=h
  have l1:=hP _ _ _ _ _ h1
  have l2:=bc_le hP h2
  obtain ⟨v1,v2⟩:=H 0 z lo mid M rfl h1 hB l2 (fun j a b=>hM j a (by omega))
  rw[List.zip_cons_cons]
  unfold chL
  rw[if_pos v1]
  obtain ⟨w1,w2⟩:=bc_vis (f:=f) (base:=base) (B:=B) hP h2 (by omega) (fun j z' a b M' hj hp h3 h4 hM'=>by
   rw[show i+1+j=i+(j+1) by omega] at hp
   exact H (j+1) z' a b M' (by simpa using hj) hp h3 h4 hM') _ (v2.left hM (by omega))
  exact⟨w1,v2.trans w2 (by omega) l2⟩
theorem con_ns {n i:Nat} {nf:Nat} {rows:List Rw} (h:∀ r,r ∈ rows→0≤r.n):∀ r,r ∈ conRows n (i:Int) nf rows→0≤r.n:=by
 intro r' hr'
 obtain ⟨r,hr,hs⟩:=List.mem_filterMap.1 hr'
 unfold conRow at hs
 obtain ⟨a,ha,rfl⟩:=Option.map_eq_some_iff.1 hs
 exact h r hr
theorem same_ns {n:Nat} {pm:Int} {rows:List Rw} (h:∀ r,r ∈ rows→0≤r.n):∀ r,r ∈ sameRows n pm rows→0≤r.n:=by
 intro r' hr'
 obtain ⟨r,hr,hs⟩:=List.mem_filterMap.1 hr'
 split at hs
 ·cases hs;exact h r hr
 ·cases hs
theorem bt_chk {d:List Dt} {l:List Ts}:∀ (k:Nat) {cols:List Co} {rows:List Rw} {es:List (List Int)} {lo hi:Nat},Bt d l k cols rows es lo hi→(∀ r,r ∈ rows→0≤r.n)→∀ kn,KnD kn→KRl kn cols es→(cols.map Co.path).Nodup→∀ M,FalseM M lo hi→∀ f,hi - lo≤f→VisOk (chS d l f) kn M lo hi
 |0,_,_,_,_,_,h=>h.elim
 |k+1,cols,rows,es,lo,hi,h=>by
  intro hN kn K R hnd M hM f hf
  have hlt:=bt_lt (k+1) h
  obtain ⟨I,C,r0,hr0,h⟩:=h
  obtain ⟨f,rfl⟩:∃ g,f=g+1:=⟨f - 1,by omega⟩
  have hMlo:=hM lo (Nat.le_refl _) hlt
  unfold VisOk
  have F1:=FillM.one hMlo
  have hM1:=F1.left hM (by omega)
  have hch:∀ t,l[lo]? = some t→chS d l (f+1) (lo:Int) kn M=chT d (chS d l f) t kn (M.set lo true):=by
   intro t ht
   rw[chS,getI_nat,ht,getI_nat,hMlo]
   rfl
  rcases h with ⟨hz,hl,he⟩ | ⟨n,c,mid,hz,hc,ht,hl,h1,h2⟩ | ⟨n,c,nx,hz,hc,ht,hl,h1⟩
  ·rw[hch _ hl]
   have h0:=hN r0 (List.mem_of_getElem? hr0)
   subst he
   refine ⟨?_,F1⟩
   show (if ([]:List Int)=[] then _ else _:Bool × List Bool).1=true
   rw[if_pos rfl]
   show leafT (leafAt r0.n)=true
   unfold leafT leafAt
   simp[h0]
  ·rw[hch _ hl]
   obtain ⟨ca,cb,A⟩:=I.at hc
   have hal:=A.l
   obtain ⟨ea,e,eb,rfl,hla,hlb⟩:=A.exs C
   have hpm:=CovE.getD_fresh A C ht (List.mem_of_getElem? hr0) (BI.nonwild A hr0 hz).1
   have hpe:nmP (patAt r0 n) ∉ e:=by subst hla;simpa using hpm
   have R':=R
   rw[A.e,KRl_app (by omega)] at R'
   obtain ⟨Ra,⟨p,hp,q1,q2,q3,q4⟩,Rb⟩:=R'
   obtain ⟨i,hi⟩:=List.mem_iff_getElem?.1 hp
   have hnd':=hnd
   rw[A.e,List.map_append,List.map_cons,List.nodup_append,List.nodup_cons] at hnd'
   obtain ⟨n1,⟨n2,n3⟩,n4⟩:=hnd'
   have hca:∀ x,x ∈ ca→x.path≠c.path:=fun x hx e=>n4 x.path (List.mem_map.2 ⟨x,hx,rfl⟩) c.path (.head _) e
   have hcb:∀ x,x ∈ cb→x.path≠c.path:=fun x hx e=>n2 (List.mem_map.2 ⟨x,hx,e⟩)
   have hidx:=idx_uniq K ⟨c.path,false,nmP (patAt r0 n),[((lo+1:Nat):Int),(mid:Int)],0⟩ hi q1
   have hno:(p.nots.any fun y=>nmP (patAt r0 n) == y)=false:=by
    rw[List.any_eq_false]
    intro y hy
    have:=q4 y hy
    simp only[beq_iff_eq]
    intro e';exact hpe (e'▸this)
   have l1:=bt_lt k h1
   have l2:=bt_lt k h2
   have cT:chT d (chS d l f) ⟨c.path,false,nmP (patAt r0 n),[((lo+1:Nat):Int),(mid:Int)],0⟩ kn (M.set lo true)=chN (chS d l f) ⟨c.path,false,nmP (patAt r0 n),[((lo+1:Nat):Int),(mid:Int)],0⟩ kn i p (M.set lo true):=by
    have hrf:refuse ⟨c.path,false,nmP (patAt r0 n),[((lo+1:Nat):Int),(mid:Int)],0⟩ p=false:=by
     unfold refuse;rw[q3,q2,ht];rfl
    unfold chT
    rw[if_neg (by simp),if_neg (by simp),hidx]
    unfold chP
    rw[getI_nat,hi]
    simp only[hrf,Bool.false_eq_true,if_false,if_true,Int.toNat_natCast]
   rw[cT]
   unfold chN
   rw[if_pos ⟨rfl,hno⟩]
   have K1:KnD (kn.set i (kDone p)):=K.set hi rfl (fun _=>rfl)
   have hRa:=fun q=>KRl_mono (es:=ea) (mem_set_ne (q:=q) hi q1) hca
   have hRb:=fun q=>KRl_mono (es:=eb) (mem_set_ne (q:=q) hi q1) hcb
   obtain ⟨v1,v2⟩:=bt_chk k h1 (same_ns hN) (kn.set i (kDone p)) K1 (by
    rw[A.e,putC_mid hal,putE_mid hla,List.append_nil,List.append_nil,KRl_app (by omega)]
    exact⟨hRa _ Ra,hRb _ Rb⟩) (by
    rw[A.e,putC_mid hal,List.append_nil,List.map_append,List.nodup_append]
    exact⟨n1,n3,fun x hx y hy=>n4 x hx y (.tail _ hy)⟩) (M.set lo true) (fun j a b=>hM1 j a (by omega)) f (by omega)
   have hM2:=v2.left hM1 (by omega)
   have K2:KnD (kn.set i (kNot p (nmP (patAt r0 n)))):=K.set hi rfl (fun h=>h)
   obtain ⟨w1,w2⟩:=bt_chk k h2 (fun r hr=>hN r (List.mem_filter.1 hr).1) (kn.set i (kNot p (nmP (patAt r0 n)))) K2 (by
    rw[A.e,othE_mid hla,KRl_app (by omega)]
    refine ⟨hRa _ Ra,⟨kNot p (nmP (patAt r0 n)),List.mem_set (List.getElem?_eq_some_iff.1 hi).1 _,q1,q2,q3,fun x hx=>?_⟩,hRb _ Rb⟩
    have hx:x ∈ p.nots++[nmP (patAt r0 n)]:=hx
    rcases List.mem_append.1 hx with h | h
    ·exact .tail _ (q4 x h)
    ·rw[List.mem_singleton] at h;subst h;exact .head _) hnd _ hM2 f (by omega)
   have e0:List.getD [((lo+1:Nat):Int),(mid:Int)] 0 0=((lo+1:Nat):Int):=rfl
   have e1:List.getD [((lo+1:Nat):Int),(mid:Int)] 1 0=(mid:Int):=rfl
   simp only[e0,e1]
   rw[if_pos v1]
   exact⟨w1,F1.trans (v2.trans w2 (by omega) (by omega)) (by omega) (by omega)⟩
  ·rw[hch _ hl]
   obtain ⟨ca,cb,A⟩:=I.at hc
   have hal:=A.l
   obtain ⟨ea,e,eb,rfl,hla,hlb⟩:=A.exs C
   have R':=R
   rw[A.e,KRl_app (by omega)] at R'
   obtain ⟨Ra,⟨p,hp,q1,q2,q3,q4⟩,Rb⟩:=R'
   obtain ⟨i,hi⟩:=List.mem_iff_getElem?.1 hp
   have hnd':=hnd
   rw[A.e,List.map_append,List.map_cons,List.nodup_append,List.nodup_cons] at hnd'
   obtain ⟨n1,⟨n2,n3⟩,n4⟩:=hnd'
   have hca:∀ x,x ∈ ca→x.path≠c.path:=fun x hx e=>n4 x.path (List.mem_map.2 ⟨x,hx,rfl⟩) c.path (.head _) e
   have hcb:∀ x,x ∈ cb→x.path≠c.path:=fun x hx e=>n2 (List.mem_map.2 ⟨x,hx,e⟩)
   have hidx:=idx_uniq K ⟨c.path,true,0,nx,0⟩ hi q1
   have hnl:=bc_len h1
   have hlz:=bc_le (fun _ _ _ _ _ h=>bt_lt k h) h1
   have hne:nx≠[]:=by
    intro e0
    rw[e0,List.length_nil] at hnl
    obtain ⟨v,hv⟩:=inhab I.chk (I.typ c (List.mem_of_getElem? hc))
    obtain ⟨vm,vc,vq⟩:=v
    rw[tyV,if_neg ht] at hv
    obtain ⟨j,z,_,hz2,_⟩:=hv
    have:=(List.getElem?_eq_some_iff.1 hz2).1
    omega
   have cT:chT d (chS d l f) ⟨c.path,true,0,nx,0⟩ kn (M.set lo true)=chC d (chS d l f) ⟨c.path,true,0,nx,0⟩ kn i p (M.set lo true):=by
    have hrf:refuse ⟨c.path,true,0,nx,0⟩ p=false:=by
     unfold refuse;rw[q3,q2,decide_eq_true ht];rfl
    unfold chT
    rw[if_neg hne,if_neg (by simp),hidx]
    unfold chP
    rw[getI_nat,hi]
    simp only[hrf,Bool.false_eq_true,if_false,Int.toNat_natCast,if_neg (show ¬ (true=false) by decide)]
   rw[cT]
   unfold chC
   rw[if_pos ⟨rfl,by show nx.length=_;rw[hnl,q2]⟩,q2]
   obtain ⟨v1,v2⟩:=bc_vis (f:=chS d l f) (base:=kn.set i (kDone p)) (B:=lo+1) (fun _ _ _ _ _ h=>bt_lt k h) h1 (Nat.le_refl _) (fun j z a b M' hj hp' hba hbh hM'=>by
    have l1:=bt_lt k hp'
    have K3:KnD (kn.set i (kDone p)++newK c.path z.flds):=by have:=K.more hi q3 z.flds;rw[q1] at this;exact this
    have hmem:∀ r,r ∈ kn→r.path≠c.path→r ∈ kn.set i (kDone p)++newK c.path z.flds:=fun r h1 h2=>List.mem_append_left _ (mem_set_ne hi q1 r h1 h2)
    have hfl:(fldC c.path z.flds).length=z.flds.length:=by rw[←List.length_map (f:=Co.ty),fldC_ty]
    have hnew:∀ x,x ∈ fldC c.path z.flds→x.path ∉ kn.map Kn.path:=by
     intro x hx hin
     have hx2:=fldC_in _ _ hx
     have:=K3.nd
     rw[List.map_append,set_path (p':=kDone p) hi rfl,List.nodup_append] at this
     exact this.2.2 x.path hin x.path (List.mem_map.2 ⟨_,hx2,rfl⟩) rfl
    have hold:∀ {cs:List Co} {es:List (List Int)},cs.length=es.length→KRl kn cs es→∀ x,x ∈ cs→x.path ∈ kn.map Kn.path:=by
     intro cs
     induction cs with
     |nil=>intro es _ _ x hx;cases hx
     |cons y cs ih=>
      intro es hle hk x hx
      cases es with
      |nil=>cases hle
      |cons e' es=>
       obtain ⟨⟨p',hp1,hp2,_⟩,hk2⟩:=hk
       rcases List.mem_cons.1 hx with rfl | hx
       ·exact List.mem_map.2 ⟨p',hp1,hp2⟩
       ·exact ih (by simpa using hle) hk2 x hx
    have hndF:((fldC c.path z.flds).map Co.path).Nodup:=by
     rw[fldC_paths]
     have:=K3.nd
     rw[List.map_append,List.nodup_append] at this
     exact this.2.1
    refine bt_chk k hp' (con_ns hN) _ K3 ?_ ?_ M' hM' f (by omega)
    ·rw[A.e,putC_mid hal,putE_mid hla,KRl_app (by simp[hal,hla,hfl]),KRl_app (by omega)]
     refine ⟨⟨KRl_mono hmem hca Ra,?_⟩,KRl_mono hmem hcb Rb⟩
     have:=KRl_new (kn:=kn.set i (kDone p)++newK c.path z.flds) (fldC c.path z.flds) fun x hx=>⟨_,List.mem_append_right _ (fldC_in _ _ hx),rfl,rfl,rfl,rfl⟩
     rw[hfl] at this
     exact this
    ·rw[A.e,putC_mid hal,List.map_append,List.map_append,List.nodup_append,List.nodup_append]
     refine ⟨⟨n1,hndF,fun x hx y hy e=>?_⟩,n3,fun x hx y hy e=>?_⟩
     ·obtain ⟨x',hx',rfl⟩:=List.mem_map.1 hx
      obtain ⟨y',hy',rfl⟩:=List.mem_map.1 hy
      exact hnew y' hy' (e▸hold (by omega) Ra x' hx')
     ·rcases List.mem_append.1 hx with hx | hx
      ·exact n4 x hx y (.tail _ hy) e
      ·obtain ⟨x',hx',rfl⟩:=List.mem_map.1 hx
       obtain ⟨y',hy',rfl⟩:=List.mem_map.1 hy
       exact hnew x' hx' (e▸hold hlb.symm Rb y' hy')) (M.set lo true) hM1
   exact⟨v1,F1.trans v2 (by omega) hlz⟩
end Zc28
end
section
set_option maxHeartbeats 4000000
namespace Zc28
open Go Zv Zs
structure WK (d:List Dt) (pv dv cv vv:Nat) (X:List (Nat × Ob)) (n:Nat):Prop where
 p:Zv.look X pv=some (.arr 1 [.clo 124 []])
 dd:Zv.look X dv=some (.arr 1 [.d (eDs d)])
 c:Zv.look X cv=some (.arr 1 [.d (eI n)])
 v:Zv.look X vv=some (.arr 1 [.clo 139 [.ptr pv 1 0 0,.ptr dv 1 0 0,.ptr cv 1 0 0,.ptr vv 1 0 0]])
theorem WK.ne {d:List Dt} {pv dv cv vv:Nat} {X:List (Nat × Ob)} {n:Nat} (W:WK d pv dv cv vv X n):pv≠cv∧vv≠cv:=by
 refine ⟨?_,?_⟩<;>intro e
 ·have h1:=W.p;rw[e,W.c] at h1;cases h1
 ·have h1:=W.v;rw[e,W.c] at h1;cases h1
theorem WK.same {d:List Dt} {pv dv cv vv:Nat} {X X':List (Nat × Ob)} {n:Nat} (W:WK d pv dv cv vv X n) {q:Nat} (hp:pv<q) (hd:dv<q) (hc:cv<q) (hv:vv<q) (h:∀ x,x<q→Zv.look X' x=Zv.look X x):WK d pv dv cv vv X' n:=
 ⟨by rw[h _ hp];exact W.p,by rw[h _ hd];exact W.dd,by rw[h _ hc];exact W.c,by rw[h _ hv];exact W.v⟩
theorem WK.put {d:List Dt} {pv dv cv vv:Nat} {X:List (Nat × Ob)} {n:Nat} (W:WK d pv dv cv vv X n) (hdc:dv≠cv) (m:Nat):WK d pv dv cv vv (Zv.upd X cv (.arr 1 [.d (eI m)])) m:=by
 obtain ⟨h1,h2⟩:=W.ne
 refine ⟨?_,?_,?_,?_⟩<;>rw[Zs.look_upd]
 ·rw[if_neg h1];exact W.p
 ·rw[if_neg hdc];exact W.dd
 ·rw[if_pos rfl,W.c];rfl
 ·rw[if_neg h2];exact W.v
theorem fin_nil (h:Hp):finS h h []=some (.tup [],h):=by
 unfold finS
 rw[if_pos (by unfold sufOk;rw[Nat.sub_self,List.drop_zero];exact objsBeq_refl _)]
 simp[resV]
theorem cells1_ok (a b:V) (h:Hp):callW tab 124 [a,b] h=some (.tup [],h):=by
 refine call_wp (fn:=f124) rfl rfl ?_
 simp only[e124,fin_nil,wz,opX,intBin,↓reduceIte,simprocAttr]
theorem tyL_of {d:List Dt}:∀ {fs:List Int} {vs:List Vl},vs.length=fs.length→(∀ (j:Nat) f v,fs[j]? = some f→vs[j]? = some v→tyV d f v)→tyL d fs vs
 | [],[],_,_=>by rw[tyL];trivial
 |f::fs,v::vs,hl,h=>by
  rw[tyL]
  exact⟨h 0 f v rfl rfl,tyL_of (by simpa using hl) fun j g w h1 h2=>h (j+1) g w (by simpa using h1) (by simpa using h2)⟩
 | [],_::_,h,_=>by cases h
 |_::_,[],h,_=>by cases h
theorem vcnt_get {l:List Vl} {n:Nat} {x:Vl} (h:l[n]? = some x):vcnt x≤vcntL l:=by
 induction l generalizing n with
 |nil=>simp at h
 |cons y l ih=>
  rw[vcntL]
  cases n with
  |zero=>cases h;omega
  |succ n=>have:=ih (by simpa using h);omega
theorem vwalk_ok {d:List Dt} (B:Bd d) (Fl:∀ y,y ∈ d→∀ c,c ∈ y.cons→c.flds.length≤8) (T:∀ y,y ∈ d→∀ c,c ∈ y.cons→∀ f,f ∈ c.flds→isT d f=true) {pv dv cv vv:Nat} (hdc:dv≠cv) :
  ∀ (N:Nat) (v:Vl),vcnt v≤N→∀ (t:Int) (n:Nat) (X:List (Nat × Ob)) (q:Nat),isT d t=true→WK d pv dv cv vv X n→n≤65536→pv<q→dv<q→cv<q→vv<q →
   ∃ r,callW tab 139 [.d (eI t),.d (eV v),.ptr pv 1 0 0,.ptr dv 1 0 0,.ptr cv 1 0 0,.ptr vv 1 0 0] ⟨X,q⟩=some r ∧
    ∃ e n' X' q',r=(.d (eI e),⟨X',q'⟩)∧WK d pv dv cv vv X' n'∧n'≤65536∧q≤q'∧(e=0→tyV d t v)∧∀ x,x<q→x≠cv→Zv.look X' x=Zv.look X x:=by
 intro N
 induction N with
 |zero=>intro v hv;obtain ⟨m,c,qs⟩:=v;rw[vcnt] at hv;omega
 |succ N ih=>
  intro v hv t n X q ht W hn hp hd hc hvv
  obtain ⟨m,c,qs⟩:=v
  rw[vcnt] at hv
  refine call_wpE (fn:=f139) rfl rfl ?_
  have rp:=fun nx=>row_of (q:=nx) W.p (tot:=1) rfl
  have rd:=fun nx=>row_of (q:=nx) W.dd (tot:=1) rfl
  have rc:=fun nx=>row_of (q:=nx) W.c (tot:=1) rfl
  have rv:=fun nx=>row_of (q:=nx) W.v (tot:=1) rfl
  have hcl:(D.agg [.int .i64 m,.int .i64 c,.lst (qs.map eV)]).cells.length=3:=rfl
  rw[eV_mk]
  by_cases t0:t=0
  ·have hty:∀ c',tyV d 0 (.mk m c' qs):=fun c'=>by rw[tyV,if_pos rfl];trivial
   by_cases c0:c=0
   ·by_cases l0:(0:Int)<(qs.length:Int)
    ·simp only[e139,hcl,ibeq,ibne,t0,c0,l0,wz,opX,intBin,↓reduceIte,simprocAttr]
     exact⟨_,rfl,10,n,X,q+1,rfl,W,hn,by omega,fun h=>absurd h (by decide),fun _ _ _=>rfl⟩
    ·simp only[e139,hcl,ibeq,ibne,t0,c0,l0,rp,cells1_ok,wz,opX,intBin,↓reduceIte,simprocAttr]
     exact⟨_,rfl,0,n,X,q+1,rfl,W,hn,by omega,fun _=>hty 0,fun _ _ _=>rfl⟩
   ·simp only[e139,hcl,ibeq,ibne,t0,c0,wz,opX,intBin,↓reduceIte,simprocAttr]
    exact⟨_,rfl,10,n,X,q+1,rfl,W,hn,by omega,fun h=>absurd h (by decide),fun _ _ _=>rfl⟩
  ·obtain ⟨j,y,rfl,hy⟩:∃ (j:Nat) (y:Dt),t=(j:Int)+1∧d[j]? = some y:=by
    unfold isT at ht
    simp only[Bool.and_eq_true,decide_eq_true_eq] at ht
    rcases tcase d t with h | h | ⟨j,y,h1,h2⟩
    ·omega
    ·omega
    ·exact⟨j,y,h1,h2⟩
   have hjd:=(List.getElem?_eq_some_iff.1 hy).1
   have hB:=B.len
   have hw:IntKind.i64.wrap ((j:Int)+1 - 1)=(j:Int):=wrap_sub1 (by omega)
   have hcy:=(B.at hy).2.2
   by_cases m0:m=0
   ·by_cases c0:c<0
    ·simp only[e139,hcl,ibeq,ibne,t0,rd,hw,iaD hy,m0,c0,wz,opX,intBin,↓reduceIte,simprocAttr]
     exact⟨_,rfl,10,n,X,q+1,rfl,W,hn,by omega,fun h=>absurd h (by decide),fun _ _ _=>rfl⟩
    ·obtain ⟨i,rfl⟩:∃ i:Nat,c=(i:Int):=⟨c.toNat,by omega⟩
     by_cases c1:(y.cons.length:Int)≤(i:Int)
     ·simp only[e139,hcl,ibeq,ibne,t0,rd,hw,iaD hy,m0,c0,c1,wz,opX,intBin,↓reduceIte,simprocAttr]
      exact⟨_,rfl,10,n,X,q+1,rfl,W,hn,by omega,fun h=>absurd h (by decide),fun _ _ _=>rfl⟩
     ·obtain ⟨z,hz⟩:=get_of_lt (l:=y.cons) (n:=i) (by omega)
      have hzm:=List.mem_of_getElem? hz
      have hym:=List.mem_of_getElem? hy
      have hfl:=Fl y hym z hzm
      by_cases hl:(qs.length:Int)=(z.flds.length:Int)
      ·have hql:qs.length=z.flds.length:=by omega
       have hc2:(consOf d ((j:Int)+1))[i]? = some z:=by rw[consOf_at hy];exact hz
       have hiC:=iaC hz
       have hzc:(eC z).cells.length=2:=rfl
       have hl1:((qs.length:Int)=(z.flds.length:Int))=True:=eq_true hl
       have hl2:((qs.length:Int) != (z.flds.length:Int))=false:=bne_eq_false_iff_eq.2 hl
       have hty:∀ m',tyL d z.flds qs→tyV d ((j:Int)+1) (.mk m' (i:Int) qs):=fun m' h=>by rw[tyV,if_neg (by omega)];exact⟨i,z,rfl,hc2,h⟩
       by_cases q0:qs=[]
       ·have hb:¬ (0:Int)<(qs.length:Int):=by rw[q0];simp
        simp only[e139,hcl,ibeq,ibne,t0,rd,hw,iaD hy,m0,c0,c1,hiC,hl2,hb,rp,cells1_ok,wz,opX,intBin,↓reduceIte,simprocAttr]
        rw[wq_loop]
        simp only[e139,hb,wz,opX,intBin,↓reduceIte,simprocAttr]
        subst m0
        exact⟨_,rfl,0,n,X,q+1,rfl,W,hn,by omega,fun _=>hty 0 (tyL_of hql fun j f v h1 h2=>by rw[q0] at h2;simp at h2),fun _ _ _=>rfl⟩
       ·have hb:(0:Int)<(qs.length:Int):=by have:=List.length_pos_iff.2 q0;omega
        by_cases n6:n=65536
        ·subst n6
         simp only[e139,hcl,ibeq,ibne,t0,rd,hw,iaD hy,m0,c0,c1,hiC,hl2,hb,rc,wz,opX,intBin,↓reduceIte,simprocAttr]
         exact⟨_,rfl,18,65536,X,q+1,rfl,W,hn,by omega,fun h=>absurd h (by decide),fun _ _ _=>rfl⟩
        ·have hne:((n:Int) == 65536)=false:=beq_eq_false_iff_ne.2 (by omega)
         have hwn:=wrap_succ (show n<2 ^ 62 by omega)
         have hst:∀ nx,st 1 ⟨X,nx⟩ (.ptr cv 1 0 0) (.d (.int .i64 ((n+1:Nat):Int)))=some ⟨Zv.upd X cv (.arr 1 [.d (eI ((n+1:Nat):Int))]),nx⟩:=by
          intro nx
          rw[st_all (sz:=1) (i:=0) (x:=.d (.int .i64 ((n+1:Nat):Int))) (rc nx) rfl rfl rfl]
          rfl
         have W1:=W.put hdc (n+1)
         have F1:∀ x,x≠cv→Zv.look (Zv.upd X cv (.arr 1 [.d (eI ((n+1:Nat):Int))])) x=Zv.look X x:=fun x hx=>by rw[Zs.look_upd,if_neg hx]
         generalize Zv.upd X cv (.arr 1 [.d (eI ((n+1:Nat):Int))])=X1 at hst W1 F1
         have rp1:=fun nx=>row_of (q:=nx) W1.p (tot:=1) rfl
         simp only[e139,hcl,ibeq,ibne,hne,t0,rd,hw,iaD hy,m0,c0,c1,hiC,hl2,hb,rc,hwn,hst,rp1,cells1_ok,wz,opX,intBin,↓reduceIte,simprocAttr]
         refine loop_wp qs.length (fun i' e h'=>∃ n' X' q',h'=⟨X',q'⟩∧e=[(5,.ptr vv 1 0 0),(7,.fp (.agg [.int .i64 m,.int .i64 (i:Int),.lst (qs.map eV)]) 0),(9,.d (.lst (y.cons.map eC))),(75,.d (.lst (qs.map eV))),(76,.d (.int .i64 (qs.length:Int))),(77,.d (.int .i64 (i':Int)))]∧WK d pv dv cv vv X' n'∧n'≤65536∧q≤q'∧(∀ (j:Nat) f v,j<i'→z.flds[j]? = some f→qs[j]? = some v→tyV d f v)∧∀ x,x<q→x≠cv→Zv.look X' x=Zv.look X x) _ ?_ ?_ qs.length 0 _ _ (by omega) ⟨n+1,X1,q+1,rfl,by simp[m0,hl],W1,by omega,by omega,fun j f v h=>by omega,fun x _ hx=>F1 x hx⟩
         ·rintro i' e h' hi ⟨n',X',q',rfl,rfl,W',hn',hq',hty',hF'⟩
          obtain ⟨x,hx⟩:=get_of_lt hi
          obtain ⟨f,hf⟩:=get_of_lt (l:=z.flds) (n:=i') (by omega)
          have hft:=T y hym z hzm f (List.mem_of_getElem? hf)
          have hvx:=vcnt_get hx
          have rv':=fun nx=>row_of (q:=nx) W'.v (tot:=1) rfl
          obtain ⟨r,hr,e2,n2,X2,q2,rfl,W2,hn2,hq2,ht2,hF2⟩:=ih x (by omega) f n' X' (q'+1) hft W' hn' (by omega) (by omega) (by omega) (by omega)
          have hwi:=wrap_succ (show i'<2 ^ 62 by omega)
          have hrest:∀ x,x<q→x≠cv→Zv.look X2 x=Zv.look X x:=fun x hx hxc=>by rw[hF2 x (by omega) hxc,hF' x hx hxc]
          by_cases e0:e2=0
          ·subst e0
           simp only[e139,hi,iaV hx,vls,rv',hcl,hiC,iaI hf,hr,ibne,hwi,wz,opX,intBin,↓reduceIte,simprocAttr]
           refine ⟨n2,X2,q2,by simp,W2,hn2,by omega,fun j g v hj hg hv=>?_,hrest⟩
           by_cases hji:j<i'
           ·exact hty' j g v hji hg hv
           ·obtain rfl:j=i':=by omega
            rw[hf] at hg;rw[hx] at hv;cases hg;cases hv
            exact ht2 rfl
          ·simp only[e139,hi,iaV hx,vls,rv',hcl,hiC,iaI hf,hr,ibne,e0,wz,opX,intBin,↓reduceIte,simprocAttr]
           exact⟨_,rfl,e2,n2,X2,q2,rfl,W2,hn2,by omega,fun h=>absurd h e0,hrest⟩
         ·rintro e h' ⟨n',X',q',rfl,rfl,W',hn',hq',hty',hF'⟩
          simp only[e139,wz,opX,intBin,↓reduceIte,simprocAttr]
          exact⟨_,rfl,0,n',X',q',rfl,W',hn',hq',fun _=>hty m (tyL_of hql fun j f v h1 h2=>hty' j f v (List.getElem?_eq_some_iff.1 h2).1 h1 h2),hF'⟩
      ·simp only[e139,hcl,ibeq,ibne,t0,rd,hw,iaD hy,m0,c0,c1,iaC hz,hl,wz,opX,intBin,↓reduceIte,simprocAttr]
       exact⟨_,rfl,10,n,X,q+1,rfl,W,hn,by omega,fun h=>absurd h (by decide),fun _ _ _=>rfl⟩
   ·simp only[e139,hcl,ibeq,ibne,t0,rd,hw,iaD hy,m0,wz,opX,intBin,↓reduceIte,simprocAttr]
    exact⟨_,rfl,10,n,X,q+1,rfl,W,hn,by omega,fun h=>absurd h (by decide),fun _ _ _=>rfl⟩
end Zc28
end
section
set_option maxHeartbeats 4000000
namespace Zc28
open Go Zv Zs
theorem tyL_split {d:List Dt}:∀ {fs ts:List Int} {ws:List Vl},tyL d (fs++ts) ws→∃ av vs,ws=av++vs∧tyL d fs av∧tyL d ts vs
 | [],ts,ws,h=>⟨[],ws,rfl,by rw[tyL];trivial,h⟩
 |f::fs,ts,[],h=>by simp[tyL] at h
 |f::fs,ts,w::ws,h=>by
  rw[List.cons_append,tyL] at h
  obtain ⟨av,vs,rfl,h1,h2⟩:=tyL_split h.2
  exact⟨w::av,vs,rfl,by rw[tyL];exact⟨h.1,h1⟩,h2⟩
theorem tys_inh {d:List Dt} (h:checkS d=0) {fs:List Int} (hf:∀ f,f ∈ fs→isT d f=true):∃ av,tyL d fs av:=by
 obtain ⟨av,ha⟩:=dom_inh h (es:=List.replicate fs.length []) (ts:=fs) (by simp) hf
 exact⟨av,domL_ty ha⟩
theorem sp_fwd {i:Nat} {n:Nat} {l:List (List Pt)} {m:Int} {av vs:List Vl} (hn:n=av.length) {d:List Dt} {t:Int} (ht:t≠0) {ts:List Int} (hM:fitM d (t::ts) l) (h:∀ x,x ∈ spS (i:Int) n l→mtL x (av++vs)=false) :
  ∀ x,x ∈ l→mtL x (.mk m (i:Int) av::vs)=false:=by
 intro x hx
 refine Bool.eq_false_iff.2 fun hxm=>?_
 cases x with
 |nil=>simp[mtL] at hxm
 |cons q s=>
  obtain ⟨kq,cq,mq,qq⟩:=q
  rw[mtL,mtP,Bool.and_eq_true] at hxm
  have hf:=hM _ hx
  simp only[fitR,Bool.and_eq_true] at hf
  rcases fits_cases hf.1 with ⟨k0,_⟩ | ⟨k2,t0,_⟩ | ⟨k1,t0,_,i',z',e',hz',hl',_⟩
  ·have hin:List.replicate n wildT++s ∈ spS (i:Int) n l:=List.mem_filterMap.2 ⟨_,hx,by simp[spF,k0]⟩
   have:=h _ hin
   rw[mtL_app (by simp[hn]),hn,mtL_wild,hxm.2] at this
   cases this
  ·exact ht t0
  ·subst k1
   rw[if_neg (by decide),if_neg (by decide),if_pos rfl,Bool.and_eq_true,decide_eq_true_eq] at hxm
   obtain ⟨⟨hc1,hq1⟩,hs1⟩:=hxm
   have hin:qq++s ∈ spS (i:Int) n l:=List.mem_filterMap.2 ⟨_,hx,by simp[spF,hc1]⟩
   have:=h _ hin
   rw[mtL_app (mtL_len hq1),hq1,hs1] at this
   cases this
theorem useful_vals {d:List Dt} (hd:checkS d=0):∀ (k:Nat) (ts:List Int) (l:List (List Pt)) (r:List Pt),(∀ t,t ∈ ts→isT d t=true)→fitM d ts l→fitR d ts r=true→usS d k ts l r=true →
  ∃ vs,tyL d ts vs∧mtL r vs=true∧∀ x,x ∈ l→mtL x vs=false
 |0,_,_,_,_,_,_,h=>by cases h
 |k+1,[],l,r,_,_,hR,h=>by
  rw[usS,decide_eq_true_eq] at h
  have:r=[]:=List.eq_nil_of_length_eq_zero (fitR_len hR)
  subst this
  exact⟨[],by rw[tyL];trivial,by rw[mtL],fun x hx=>by have:=List.length_pos_of_mem hx;omega⟩
 |k+1,t::ts,l,[],_,_,hR,_=>by cases hR
 |k+1,t::ts,l,.mk kd c m qs::r,hT,hM,hR,h=>by
  have T:=check_typed hd
  have hTt:∀ f,f ∈ ts→isT d f=true:=fun f hf=>hT f (List.mem_cons_of_mem _ hf)
  simp only[fitR,Bool.and_eq_true] at hR
  have hTi:∀ (i:Nat) (z:Cn),(consOf d t)[i]? = some z→∀ f,f ∈ z.flds++ts→isT d f=true:=by
   intro i z hz f hf
   rcases List.mem_append.1 hf with hf | hf
   ·exact flds_isT' T t i f (by unfold fldsOf;rw[hz];exact hf)
   ·exact hTt f hf
  rcases fits_cases hR.1 with ⟨k0,c0,m0,q0⟩ | ⟨k2,t0,c0,q0⟩ | ⟨k1,t0,m0,i,z,rfl,hz,hzl,hzR⟩
  ·subst k0
   rw[usS,if_neg (by decide),if_neg (by decide)] at h
   by_cases hc:t=0∨(consS l).length<(consOf d t).length
   ·rw[if_pos hc] at h
    obtain ⟨vs,h1,h2,h3⟩:=useful_vals hd k ts _ r hTt (restS_fit wildP hM) hR.2 h
    have fin:∀ v:Vl,tyV d t v→(∀ q s,(q::s) ∈ l→kdP q≠0→mtP q v=false)→∃ vs,tyL d (t::ts) vs∧mtL (.mk 0 c m qs::r) vs=true∧∀ x,x ∈ l→mtL x vs=false:=by
     intro v hv hq
     refine ⟨v::vs,by rw[tyL];exact⟨hv,h1⟩,?_,?_⟩
     ·obtain ⟨a,b,e⟩:=v
      rw[mtL,mtP,if_pos rfl,h2];rfl
     ·intro x hx
      cases x with
      |nil=>simp[mtL]
      |cons q s=>
       by_cases hk:kdP q=0
       ·have hin:s ∈ restS wildP l:=List.mem_filterMap.2 ⟨_,hx,by simp[restF,wildP,hk]⟩
        rw[mtL,h3 s hin,Bool.and_false]
       ·rw[mtL,hq q s hx hk,Bool.false_and]
    by_cases ht:t=0
    ·subst ht
     refine fin (.mk ((missN (numsS l):Nat):Int) 0 []) (by rw[tyV,if_pos rfl];trivial) fun q s hx hk=>?_
     obtain ⟨kq,cq,mq,qq⟩:=q
     have hf:=hM _ hx
     simp only[fitR,Bool.and_eq_true] at hf
     rcases fits_cases hf.1 with ⟨h0,_⟩ | ⟨h2,_⟩ | ⟨_,h1,_⟩
     ·exact absurd h0 hk
     ·subst h2
      rw[mtP,if_neg (by decide),if_pos rfl,decide_eq_false_iff_not]
      intro e
      have hin:mq ∈ numsS l:=(numsS_mem _ _).2 ⟨_,s,hx,rfl,rfl⟩
      rw[←e] at hin
      exact (missN_spec (numsS l)).1 hin
     ·exact absurd rfl h1
    ·have hlt:=hc.resolve_left ht
     have hm:=miss_lt hM hlt
     obtain ⟨z,hz⟩:=get_of_lt hm
     obtain ⟨av,hav⟩:=tys_inh hd (fs:=z.flds) fun f hf=>hTi _ z hz f (List.mem_append_left _ hf)
     refine fin (.mk 0 ((missN (consS l):Nat):Int) av) (by rw[tyV,if_neg ht];exact⟨_,z,rfl,hz,hav⟩) fun q s hx hk=>?_
     obtain ⟨kq,cq,mq,qq⟩:=q
     have hf:=hM _ hx
     simp only[fitR,Bool.and_eq_true] at hf
     rcases fits_cases hf.1 with ⟨h0,_⟩ | ⟨_,h2,_⟩ | ⟨k1,h1,_⟩
     ·exact absurd h0 hk
     ·exact absurd h2 ht
     ·subst k1
      rw[mtP,if_neg (by decide),if_neg (by decide),if_pos rfl]
      rw[Bool.and_eq_false_iff]
      left
      rw[decide_eq_false_iff_not]
      intro e
      have hin:cq ∈ consS l:=(consS_mem _ _).2 ⟨_,s,hx,rfl,rfl⟩
      rw[←e] at hin
      exact (missN_spec (consS l)).1 hin
   ·rw[if_neg hc,List.any_eq_true] at h
    obtain ⟨i,hi,hu⟩:=h
    have ht:t≠0:=fun e=>hc (.inl e)
    obtain ⟨z,hz⟩:=get_of_lt (List.mem_range.1 hi)
    have hfz:fldsOf d t i=z.flds:=by unfold fldsOf;rw[hz]
    have hM':=spS_fit i hM
    rw[hfz] at hM' hu
    obtain ⟨ws,h1,h2,h3⟩:=useful_vals hd k _ _ _ (hTi i z hz) hM' (fitR_app (fitR_wild d _) hR.2) hu
    obtain ⟨av,vs,rfl,h4,h5⟩:=tyL_split h1
    have hal:=tyL_len h4
    rw[mtL_app (by simp[hal]),Bool.and_eq_true] at h2
    refine ⟨.mk 0 (i:Int) av::vs,by rw[tyL,tyV,if_neg ht];exact⟨⟨i,z,rfl,hz,h4⟩,h5⟩,by rw[mtL,mtP,if_pos rfl,h2.2];rfl,sp_fwd hal.symm ht hM h3⟩
  ·subst k2
   subst t0
   rw[usS,if_neg (by decide),if_pos rfl] at h
   obtain ⟨vs,h1,h2,h3⟩:=useful_vals hd k ts _ r hTt (restS_fit _ hM) hR.2 h
   refine ⟨.mk m 0 []::vs,by rw[tyL,tyV,if_pos rfl];exact⟨trivial,h1⟩,by rw[mtL,mtP,if_neg (by decide),if_pos rfl,h2,decide_eq_true rfl];rfl,?_⟩
   intro x hx
   cases x with
   |nil=>simp[mtL]
   |cons q s=>
    obtain ⟨kq,cq,mq,qq⟩:=q
    have hf:=hM _ hx
    simp only[fitR,Bool.and_eq_true] at hf
    by_cases hk:wildP (.mk kq cq mq qq)=true∨mq=m
    ·have hin:s ∈ restS (fun q=>wildP q || decide (nmP q=m)) l:=List.mem_filterMap.2 ⟨_,hx,by
      have:(wildP (.mk kq cq mq qq) || decide (nmP (.mk kq cq mq qq)=m))=true:=by
       rw[Bool.or_eq_true];exact hk.imp id fun e=>decide_eq_true e
      simp only[restF,this,if_true]⟩
     rw[mtL,h3 s hin,Bool.and_false]
    ·rw[not_or] at hk
     rcases fits_cases hf.1 with ⟨h0,_⟩ | ⟨h2,_⟩ | ⟨_,h1,_⟩
     ·exact absurd (by unfold wildP;exact decide_eq_true h0) hk.1
     ·subst h2
      rw[mtL,mtP,if_neg (by decide),if_pos rfl,decide_eq_false (fun e=>hk.2 e.symm),Bool.false_and]
     ·exact absurd rfl h1
  ·subst k1
   have hfz:fldsOf d t i=z.flds:=by unfold fldsOf;rw[hz]
   have hM':=spS_fit i hM
   rw[hfz] at hM'
   rw[usS,if_pos rfl,Int.toNat_natCast,hfz,←hzl] at h
   obtain ⟨ws,h1,h2,h3⟩:=useful_vals hd k _ _ _ (hTi i z hz) hM' (fitR_app hzR hR.2) h
   obtain ⟨av,vs,rfl,h4,h5⟩:=tyL_split h1
   have hal:=tyL_len h4
   rw[mtL_app (by rw[hal,hzl]),Bool.and_eq_true] at h2
   exact⟨.mk 0 (i:Int) av::vs,by rw[tyL,tyV,if_neg t0];exact⟨⟨i,z,rfl,hz,h4⟩,h5⟩,by rw[mtL,mtP,if_neg (by decide),if_neg (by decide),if_pos rfl,decide_eq_true rfl,h2.1,h2.2];rfl,sp_fwd hal.symm t0 hM h3⟩
end Zc28
end
section
set_option maxHeartbeats 4000000
namespace Zc28
open Go Zv Zs
theorem bc_find {P:BtP} (hP:∀ cols rows es lo hi,P cols rows es lo hi→lo<hi) {cols:List Co} {rows:List Rw} {es:List (List Int)} {n:Nat} {c:Co} {j:Nat}:∀ {zs:List Cn} {i lo hi:Nat} {nx:List Int},Bc P cols rows es n c i zs lo hi nx→lo≤j→j<hi →
  ∃ (i':Nat) (z:Cn) (a b:Nat),zs[i']? = some z∧P (putC cols n (fldC c.path z.flds)) (conRows n ((i+i':Nat):Int) z.flds.length rows) (putE es n (List.replicate z.flds.length [])) a b∧a≤j∧j<b∧lo≤a∧b≤hi
 | [],i,lo,hi,nx,h,h1,h2=>by have:=h.1;omega
 |z::zs,i,lo,hi,nx,h,h1,h2=>by
  obtain ⟨mid,nx',rfl,h3,h4⟩:=h
  have l1:=hP _ _ _ _ _ h3
  have l2:=bc_le hP h4
  by_cases hj:j<mid
  ·exact⟨0,z,lo,mid,rfl,h3,h1,hj,Nat.le_refl _,l2⟩
  ·obtain ⟨i',z',a,b,e1,e2,e3,e4,e5,e6⟩:=bc_find hP h4 (by omega) h2
   rw[show i+1+i'=i+(i'+1) by omega] at e2
   exact⟨i'+1,z',a,b,by simpa using e1,e2,e3,e4,by omega,e6⟩
theorem bt_nx {d:List Dt} {k:Nat} {cols:List Co} {rows:List Rw} {P:BtP} {es:List (List Int)} {n:Nat} {c:Co} {lo hi:Nat} {nx:List Int} (I:BI d k cols rows) (hc:cols[n]? = some c) (ht:c.ty≠0) (h:Bc P cols rows es n c 0 (consOf d c.ty) lo hi nx):nx≠[]:=by
 intro e0
 have hnl:=bc_len h
 rw[e0,List.length_nil] at hnl
 obtain ⟨v,hv⟩:=inhab I.chk (I.typ c (List.mem_of_getElem? hc))
 obtain ⟨vm,vc,vq⟩:=v
 rw[tyV,if_neg ht] at hv
 obtain ⟨j,z,_,hz2,_⟩:=hv
 have:=(List.getElem?_eq_some_iff.1 hz2).1
 omega
theorem bt_leaf {d:List Dt} {l:List Ts} {j:Nat} {t:Ts} (hj:l[j]? = some t) (hn:t.next=[]):∀ (k:Nat) {cols:List Co} {rows:List Rw} {es:List (List Int)} {lo hi:Nat},Bt d l k cols rows es lo hi→lo≤j→j<hi →
  ∃ vs,domL d (cols.map Co.ty) es vs∧fstR rows vs=some t.row
 |0,_,_,_,_,_,h,_,_=>h.elim
 |k+1,cols,rows,es,lo,hi,h,h1,h2=>by
  obtain ⟨I,C,r0,hr0,h⟩:=h
  rcases h with ⟨hz,hl,he⟩ | ⟨n,c,mid,hz,hc,ht,hl,hb1,hb2⟩ | ⟨n,c,nx,hz,hc,ht,hl,hb1⟩
  ·obtain rfl:j=lo:=by omega
   rw[hj] at hl;cases hl
   obtain ⟨vs,hv⟩:=dom_inh I.chk (es:=es) (ts:=cols.map Co.ty) (by rw[C.len,List.length_map]) (fun t ht=>by
    obtain ⟨c,hc,rfl⟩:=List.mem_map.1 ht
    exact I.typ c hc)
   exact⟨vs,hv,leaf_fst I hr0 hz hv⟩
  ·obtain ⟨ca,cb,A⟩:=I.at hc
   have hpm:=CovE.getD_fresh A C ht (List.mem_of_getElem? hr0) (BI.nonwild A hr0 hz).1
   by_cases e0:j=lo
   ·subst e0;rw[hj] at hl;cases hl;cases hn
   by_cases e1:j<mid
   ·obtain ⟨vs,hv,hf⟩:=bt_leaf hj hn k hb1 (by omega) e1
    obtain ⟨va,vb,rfl,hva,hd⟩:=A.same_dom ht C.len hpm hv
    exact⟨_,hd,by rw[←A.same_fst ht hva rfl];exact hf⟩
   ·obtain ⟨vs,hv,hf⟩:=bt_leaf hj hn k hb2 (by omega) h2
    obtain ⟨va,v,vb,rfl,hva,hne,hd⟩:=A.oth_dom ht C.len hv
    exact⟨_,hd,by rw[←A.oth_fst ht hva hne];exact hf⟩
  ·obtain ⟨ca,cb,A⟩:=I.at hc
   by_cases e0:j=lo
   ·subst e0;rw[hj] at hl;cases hl
    exact absurd hn (bt_nx I hc ht hb1)
   ·obtain ⟨i,z,a,b,hz2,hp,h3,h4,_,_⟩:=bc_find (fun _ _ _ _ _ h=>bt_lt k h) hb1 (by omega) h2
    obtain ⟨vs,hv,hf⟩:=bt_leaf hj hn k hp h3 h4
    rw[Nat.zero_add] at hf
    obtain ⟨va,av,vb,rfl,hva,hav,hd⟩:=A.con_dom ht hz2 C.len hv
    exact⟨_,hd,by rw[←A.con_fst ht (m:=0) hz2 hva hav];exact hf⟩
theorem bt_has {d:List Dt} {l:List Ts}:∀ (k:Nat) {cols:List Co} {rows:List Rw} {es:List (List Int)} {lo hi:Nat},Bt d l k cols rows es lo hi→∀ vs,domL d (cols.map Co.ty) es vs→∃ j t,lo≤j∧j<hi∧l[j]? = some t∧t.next=[]∧fstR rows vs=some t.row
 |0,_,_,_,_,_,h=>h.elim
 |k+1,cols,rows,es,lo,hi,h=>by
  intro vs hd
  have hlt:=bt_lt (k+1) h
  obtain ⟨I,C,r0,hr0,h⟩:=h
  rcases h with ⟨hz,hl,he⟩ | ⟨n,c,mid,hz,hc,ht,hl,h1,h2⟩ | ⟨n,c,nx,hz,hc,ht,hl,h1⟩
  ·exact⟨lo,_,Nat.le_refl _,hlt,hl,rfl,leaf_fst I hr0 hz hd⟩
  ·obtain ⟨ca,cb,A⟩:=I.at hc
   obtain ⟨ea,e,eb,va,v,vb,rfl,hla,rfl,hva,d1,dv,d3⟩:=A.split C.len hd
   have hal:=A.l
   have l1:=bt_lt k h1
   have l2:=bt_lt k h2
   by_cases e1:numV v=nmP (patAt r0 n)
   ·obtain ⟨m,i,av⟩:=v
    obtain ⟨j,t,g1,g2,g3,g4,g5⟩:=bt_has k h1 (va++vb) (by rw[A.same_ty,putE_mid hla,List.append_nil];exact domL_app d1 d3)
    rw[A.same_fst ht hva (m:=m) (i:=i) (av:=av) e1] at g5
    exact⟨j,t,by omega,by omega,g3,g4,g5⟩
   ·have hnv:nbV v=numV v:=by obtain ⟨a,b,q⟩:=v;rfl
    obtain ⟨j,t,g1,g2,g3,g4,g5⟩:=bt_has k h2 (va++v::vb) (by
     rw[A.ty,othE_mid hla]
     refine dom_mid d1 ⟨dv.1,fun h0=>?_⟩ d3
     rw[List.mem_cons,not_or,hnv]
     exact⟨e1,by rw[←hnv];exact dv.2 h0⟩)
    rw[A.oth_fst ht hva e1] at g5
    exact⟨j,t,by omega,by omega,g3,g4,g5⟩
  ·obtain ⟨ca,cb,A⟩:=I.at hc
   obtain ⟨ea,e,eb,va,v,vb,rfl,hla,rfl,hva,d1,dv,d3⟩:=A.split C.len hd
   have hal:=A.l
   obtain ⟨m,i0,av⟩:=v
   have hty:=dv.1
   rw[tyV,if_neg ht] at hty
   obtain ⟨i,z,rfl,hz2,hta⟩:=hty
   have hal2:=tyL_len hta
   obtain ⟨a,b,n1,n2,n3,n4⟩:=bc_get (fun _ _ _ _ _ h=>bt_lt k h) h1 i z hz2
   rw[Nat.zero_add] at n4
   obtain ⟨j,t,g1,g2,g3,g4,g5⟩:=bt_has k n4 (va++av++vb) (by
    rw[A.con_ty,putE_mid hla]
    refine domL_app (domL_app d1 ?_) d3
    exact ty_domL hta)
   rw[A.con_fst ht (m:=m) hz2 hva hal2] at g5
   exact⟨j,t,by omega,by omega,g3,g4,g5⟩
def Apart (a b:List Int):Prop:=¬ a <+: b∧¬ b <+: a
theorem Apart.symm {a b:List Int} (h:Apart a b):Apart b a:=⟨h.2,h.1⟩
theorem Apart.snoc {a b:List Int} (h:Apart a b) (j:Int):Apart a (b++[j]):=by
 refine ⟨fun h'=>?_,fun h'=>h.2 ((List.prefix_append b [j]).trans h')⟩
 rcases List.prefix_concat_iff.1 h' with e | e
 ·exact h.2 (by rw[e];exact List.prefix_append b [j])
 ·exact h.1 e
end Zc28
end
section
set_option maxHeartbeats 4000000
namespace Zc28
open Go Zv Zs
theorem vwalk0_ok {d:List Dt} (S:Sml d) (hd:checkS d=0) {t:Int} (ht:isT d t=true) (v:Vl) (n:Nat):∃ (c e:Int),callW tab 123 [.d (eDs d),.d (eI t),.d (eV v),.clo 124 []] ⟨[],n⟩=some (.tup [.d (eI c),.d (eI e)],⟨[],n⟩)∧(e=0→tyV d t v):=by
 obtain ⟨r,h1,c,e,rfl,h2⟩:∃ r,callW tab 123 [.d (eDs d),.d (eI t),.d (eV v),.clo 124 []] ⟨[],n⟩=some r∧∃ (c e:Int),r=(.tup [.d (eI c),.d (eI e)],⟨[],n⟩)∧(e=0→tyV d t v):=by
  refine call_wpE (fn:=f123) rfl rfl ?_
  have W:WK d (n+1+1) n (n+1+1+1) (n+1+1+1+1) [(n+1+1+1+1,.arr 1 [.clo 139 [.ptr (n+1+1) 1 0 0,.ptr n 1 0 0,.ptr (n+1+1+1) 1 0 0,.ptr (n+1+1+1+1) 1 0 0]]),(n+1+1+1,.arr 1 [.d (.int .i64 0)]),(n+1+1,.arr 1 [.clo 124 []]),(n,.arr 1 [.d (eDs d)])] 0:=by
   refine ⟨?_,?_,?_,?_⟩<;>simp only[Zv.look]<;>(repeat (first | rw[if_pos rfl] | rw[if_neg (by omega)]))<;>rfl
  obtain ⟨r,hr,e,n',X',q',rfl,W',_,_,hty,_⟩:=vwalk_ok S.bd (fun y hy c hc=>((S.ds y hy).2.2 c hc).2) (typed_flds (check_typed hd)) (pv:=n+1+1) (dv:=n) (cv:=n+1+1+1) (vv:=n+1+1+1+1) (by omega) (vcnt v) v (Nat.le_refl _) t 0 _ (n+1+1+1+1+1) ht W (by omega) (by omega) (by omega) (by omega) (by omega)
  have rc:=fun nx=>row_of (q:=nx) W'.c (tot:=1) rfl
  simp only[e123,vls,hr,rc,finS_e2,wz,opX,intBin,↓reduceIte,simprocAttr]
  exact⟨_,rfl,n',e,rfl,hty⟩
 exact⟨c,e,h1,h2⟩
theorem vCells_ok {d:List Dt} (S:Sml d) (hd:checkS d=0) {t:Int} (ht:isT d t=true) (v:Vl) (n:Nat):∃ (c e:Int),callW tab 73 [.d (eDs d),.d (eI t),.d (eV v)] ⟨[],n⟩=some (.tup [.d (eI c),.d (eI e)],⟨[],n⟩)∧(e=0→tyV d t v):=by
 have ht2:=ht
 unfold isT at ht2
 simp only[Bool.and_eq_true,decide_eq_true_eq] at ht2
 have h1:=fun h=>pcheck_ok S.bd S.nm h
 rw[hd] at h1
 have hT:∀ h,callW tab 122 [.d (eDs d),.d (eI t)] h=some (.d (eI 0),h):=by
  intro h
  refine call_wp (fn:=f122) rfl rfl ?_
  have b1:¬ t<0:=by omega
  have b2:¬ (d.length:Int)<t:=by omega
  simp only[e122,h1,ibne,b1,b2,wz,opX,intBin,↓reduceIte,simprocAttr]
 obtain ⟨c,e,hw,hty⟩:=vwalk0_ok S hd ht v (n+1)
 obtain ⟨r,h1,c,e,rfl,h2⟩:∃ r,callW tab 73 [.d (eDs d),.d (eI t),.d (eV v)] ⟨[],n⟩=some r∧∃ (c e:Int),r=(.tup [.d (eI c),.d (eI e)],⟨[],n⟩)∧(e=0→tyV d t v):=by
  refine call_wpE (fn:=f73) rfl rfl ?_
  by_cases e0:e=0
  ·subst e0
   simp only[e73,vls,hT,hw,ibne,wz,opX,intBin,↓reduceIte,simprocAttr]
   exact⟨_,rfl,c,0,rfl,hty⟩
  ·simp only[e73,vls,hT,hw,ibne,e0,wz,opX,intBin,↓reduceIte,simprocAttr]
   exact⟨_,rfl,0,e,rfl,hty⟩
 exact⟨c,e,h1,h2⟩
theorem vCheck_ok {d:List Dt} (S:Sml d) (hd:checkS d=0) {t:Int} (ht:isT d t=true) (v:Vl) (n:Nat):∃ e:Int,callW tab 30 [.d (eDs d),.d (eI t),.d (eV v)] ⟨[],n⟩=some (.d (eI e),⟨[],n⟩)∧(e=0→tyV d t v):=by
 obtain ⟨c,e,hw,hty⟩:=vCells_ok S hd ht v (n+1)
 refine ⟨e,?_,hty⟩
 refine call_wp (fn:=f30) rfl rfl ?_
 simp only[e30,vls,hw,wz,opX,intBin,↓reduceIte,simprocAttr]
theorem Gd.never {d:List Dt} {ts:List Int} {l:List (List Pt)} (G:Gd d ts l) {n:Nat} {x:List Pt} (hx:l[n]? = some x) (h:usS d 8001 ts (l.take n) x=false) (K:Nat):usS d K ts (l.take n) x=false:=by
 cases hu:usS d K ts (l.take n) x with
 |false=>rfl
 |true=>
  have h2:=us_le 8001 hu
  have hw:=nwS_take hx
  have h3:=us_fuel G.sml G.typ (k:=8001) (k':=K+8001) (ts:=ts) (l:=l.take n) (r:=x) (by have:=G.w;omega) (by have:=G.w;omega) (by have:=G.w;omega) (by rw[List.length_take];have:=G.len;omega) G.tys (fun r hr=>G.fit r (List.mem_of_mem_take hr)) (G.fit x (List.mem_of_getElem? hx))
  rw[h,h2] at h3
  cases h3
theorem fst_row0 (l:List (List Pt)) (vs:List Vl):∀ k:Nat,(((l.zipIdx k).map fun q:List Pt × Nat=>(⟨(q.2:Int),q.1⟩:Rw)).find? fun r=>mtL r.pats vs).map Rw.n=(fst? (fun r=>mtL r vs) k l).map fun q=>(q.1:Int):=by
 induction l with
 |nil=>intro k;rfl
 |cons r l ih=>
  intro k
  rw[List.zipIdx_cons,List.map_cons,List.find?_cons]
  unfold fst?
  cases hm:mtL r vs with
  |true=>simp
  |false=>simpa [hm] using ih (k+1)
theorem fst_first {l:List (List Pt)} {vs:List Vl} {m:Int} (h:fstR (row0 l) vs=some m):firstS l vs=m:=by
 unfold fstR row0 at h
 rw[fst_row0 l vs 0] at h
 unfold firstS idxZ
 cases hf:fst? (fun r=>mtL r vs) 0 l with
 |none=>rw[hf] at h;cases h
 |some q=>rw[hf] at h;cases h;rfl
theorem fst_iff {l:List (List Pt)} {vs:List Vl} {m:Int} (h:fstR (row0 l) vs=some m):∃ (i:Nat) (x:List Pt),m=(i:Int)∧l[i]? = some x∧mtL x vs=true∧∀ y,y ∈ l.take i→mtL y vs=false:=by
 unfold fstR row0 at h
 rw[fst_row0 l vs 0] at h
 cases hf:fst? (fun r=>mtL r vs) 0 l with
 |none=>rw[hf] at h;cases h
 |some q=>
  obtain ⟨i,x⟩:=q
  rw[hf] at h;cases h
  obtain ⟨_,h2,h3,h4⟩:=Zs.fst_some hf
  refine ⟨i,x,rfl,by simpa using h2,h3,fun y hy=>?_⟩
  obtain ⟨j,hj⟩:=List.mem_iff_getElem?.1 hy
  rw[List.getElem?_take] at hj
  split at hj
  ·exact h4 j y (by omega) (by assumption) (by simpa using hj)
  ·cases hj
theorem fst_of_first {l:List (List Pt)} {vs:List Vl} {i:Nat} {x:List Pt} (hx:l[i]? = some x) (hm:mtL x vs=true) (hb:∀ y,y ∈ l.take i→mtL y vs=false):fstR (row0 l) vs=some (i:Int):=by
 have hs:(fstR (row0 l) vs).isSome=true:=by
  refine fst_of (r:=⟨(i:Int),x⟩) ?_ hm
  unfold row0
  exact List.mem_map.2 ⟨(x,i),List.mem_iff_getElem?.2 ⟨i,by rw[List.getElem?_zipIdx,hx];simp⟩,rfl⟩
 obtain ⟨m,hm'⟩:=Option.isSome_iff_exists.1 hs
 obtain ⟨j,y,rfl,hy,hmy,hby⟩:=fst_iff hm'
 rw[hm']
 rcases Nat.lt_trichotomy i j with h | h | h
 ·have:=hby x (List.mem_iff_getElem?.2 ⟨i,by rw[List.getElem?_take,if_pos h];exact hx⟩)
  rw[hm] at this;cases this
 ·rw[h]
 ·have:=hb y (List.mem_iff_getElem?.2 ⟨j,by rw[List.getElem?_take,if_pos h];exact hy⟩)
  rw[hmy] at this;cases this
structure Tree (d:List Dt) (ts:List Int) (l:List (List Pt)) (T:List Ts):Prop where
 gd:Gd d ts l
 chk:checkS d=0
 len:T.length≤4096
 light:Light T
 bt:Bt d T 80 (col0 ts) (row0 l) (List.replicate ts.length []) 0 T.length
theorem tree {d:List Dt} {ts:List Int} {l:List (List Pt)} (F:Few8 d ts l) (h:compE d ts l=0):Tree d ts l (compT d ts l):=by
 obtain ⟨hc,hw,h4,hT⟩:=compT_z h
 obtain ⟨G,hC⟩:=gd28 F.sml (by have:=F.ts;omega) (by have:=F.rows;omega) (by have:=F.nw;omega) hc
 have I:=bi0 F hc hw
 have C:CovE d (List.replicate ts.length []) (col0 ts) (row0 l):=by
  refine ⟨by rw[List.length_replicate,col0_len],fun vs hv=>?_,fun r hr=>freshL_none ..⟩
  rw[col0_ty] at hv
  have hty:=domL_ty hv
  have hl:=tyL_len hty
  obtain ⟨x,hx,hm⟩:=cover (vcntL vs) ts l (List.replicate ts.length wildT) vs (Nat.le_refl _) hty G.fit (fitR_wild d ts) (us_none G hw) (by rw[←hl];exact mtL_wild vs)
  rw[←row0_pats l] at hx
  obtain ⟨r,hr,rfl⟩:=List.mem_map.1 hx
  exact fst_of hr hm
 obtain ⟨_,_,hb⟩:=build_bt 80 [] (col0 ts) (row0 l) _ I C h4
 obtain ⟨t1,_⟩:=compT_ok F
 rw[hT] at t1 ⊢
 exact⟨G,hC,h4,⟨h4,fun t ht=>by have:=t1 t ht;exact⟨by have:=this.1;omega,by have:=this.2;omega⟩⟩,hb _ fun _ _ _=>rfl⟩
section
variable {d:List Dt} {ts:List Int} {l:List (List Pt)} {T:List Ts}
theorem col0_fld (ts:List Int):col0 ts=fldC [] ts:=rfl
theorem row0_n {l:List (List Pt)}:∀ r,r ∈ row0 l→0≤r.n:=by
 intro r hr
 unfold row0 at hr
 obtain ⟨q,_,rfl⟩:=List.mem_map.1 hr
 exact Int.natCast_nonneg _
theorem Tree.check (R:Tree d ts l T):checkC d ts T=0:=by
 have hb:ts.any (badTy d)=false:=by
  rw[List.any_eq_false]
  intro t ht
  have:=R.gd.tys t ht
  unfold isT at this
  simp only[Bool.and_eq_true,decide_eq_true_eq] at this
  unfold badTy
  simp;omega
 have hnd:((col0 ts).map Co.path).Nodup:=by
  rw[col0_fld,fldC_paths]
  exact (kn0_D ts).nd
 obtain ⟨v1,v2⟩:=bt_chk 80 R.bt row0_n (kn0 ts) (kn0_D ts) (by
  have:=KRl_new (kn:=kn0 ts) (col0 ts) (fun c hc=>⟨_,fldC_in [] ts hc,rfl,rfl,rfl,rfl⟩)
  rw[col0_len] at this
  exact this) hnd (List.replicate T.length false) (fun j _ h=>by rw[List.getElem?_replicate,if_pos h]) (T.length+1) (by omega)
 unfold checkC
 rw[if_neg (by rw[R.chk];simp),if_neg (by rw[hb];simp),if_neg]
 unfold visC
 rw[not_or]
 have v1':(chS d T (T.length+1) 0 (kn0 ts) (List.replicate T.length false)).1=true:=v1
 refine ⟨by rw[v1'];simp,?_⟩
 rw[Bool.not_eq_true,List.any_eq_false]
 intro x hx
 obtain ⟨j,hj⟩:=List.mem_iff_getElem?.1 hx
 have v2':FillM (List.replicate T.length false) (chS d T (T.length+1) 0 (kn0 ts) (List.replicate T.length false)).2 0 T.length:=v2
 by_cases h:j<T.length
 ·rw[v2'.inn j (by omega) h] at hj;cases hj;simp
 ·rw[v2'.out j (by omega),List.getElem?_replicate,if_neg h] at hj;cases hj
theorem Tree.sel (R:Tree d ts l T) {vs:List Vl} (hv:tyL d ts vs):runS T vs (T.length+1) 0=(firstS l vs,0):=by
 obtain ⟨m,h1,h2⟩:=bt_sel (V:=vs) 80 R.bt vs (by rw[col0_ty];exact ty_domL hv) (by
  have:=onV_fld (V:=vs) (path:=[]) ts vs 0 (tyL_len hv).symm (fun j v hj=>by
   rw[Nat.zero_add]
   show (match getI vs (j:Int) with | none=>none | some y=>some y)=some v
   rw[getI_nat,hj])
  exact this) (T.length+1) (by omega)
 rw[fst_first h1];exact h2
theorem Tree.leaf (R:Tree d ts l T) {j:Nat} {t:Ts} (hj:T[j]? = some t) (hn:t.next=[]):∃ (i:Nat) (x:List Pt),t.row=(i:Int)∧l[i]? = some x∧usS d 8001 ts (l.take i) x=true:=by
 obtain ⟨vs,hd,hf⟩:=bt_leaf hj hn 80 R.bt (by omega) (List.getElem?_eq_some_iff.1 hj).1
 obtain ⟨i,x,e,hx,hm,hb⟩:=fst_iff hf
 refine ⟨i,x,e,hx,?_⟩
 cases hu:usS d 8001 ts (l.take i) x with
 |true=>rfl
 |false=>
  rw[col0_ty] at hd
  obtain ⟨y,hy,hmy⟩:=cover (vcntL vs) ts (l.take i) x vs (Nat.le_refl _) (domL_ty hd) (fun r hr=>R.gd.fit r (List.mem_of_mem_take hr)) (R.gd.fit x (List.mem_of_getElem? hx)) (R.gd.never hx hu) hm
  rw[hb y hy] at hmy;cases hmy
theorem Tree.has (R:Tree d ts l T) {i:Nat} {x:List Pt} (hx:l[i]? = some x) (hu:usS d 8001 ts (l.take i) x=true):∃ (j:Nat) (t:Ts),T[j]? = some t∧t.next=[]∧t.row=(i:Int):=by
 obtain ⟨vs,h1,h2,h3⟩:=useful_vals R.chk 8001 ts (l.take i) x R.gd.tys (fun r hr=>R.gd.fit r (List.mem_of_mem_take hr)) (R.gd.fit x (List.mem_of_getElem? hx)) hu
 obtain ⟨j,t,_,_,g3,g4,g5⟩:=bt_has 80 R.bt vs (by rw[col0_ty];exact ty_domL h1)
 rw[fst_of_first hx h2 h3] at g5
 exact⟨j,t,g3,g4,(Option.some.inj g5).symm⟩
end
end Zc28
end
section
set_option maxHeartbeats 4000000
namespace Zc28
open Go Zv Zs
theorem okCase {x:D} (h:ok (EE es) (.st [.l 0,.l 2,.l 3,.l 7]) x):∃ d ts l v,x=.agg [eDs d,eIs ts,eRs l,eVs v]∧ts.length≤maxLen∧l.length≤maxLen:=by
 obtain ⟨l,rfl,h1⟩:=ok_st h
 obtain ⟨y1,r,rfl,h2,h1⟩:=okCs_cons h1
 obtain ⟨y2,r,rfl,h3,h1⟩:=okCs_cons h1
 obtain ⟨y3,r,rfl,h4,h1⟩:=okCs_cons h1
 obtain ⟨y4,r,rfl,h5,h1⟩:=okCs_cons h1
 obtain rfl:=okCs_nil h1
 obtain ⟨d,rfl⟩:=okDs h2
 obtain ⟨ts,rfl,hts⟩:=okIs h3
 obtain ⟨l,rfl,hl⟩:=okRs h4
 obtain ⟨v,rfl,hv⟩:=okVs h5
 exact⟨d,ts,l,v,rfl,hts,hl⟩
theorem decisionFirst:∀ x0:D,ok (EE Zc28.es) (.st [.l 0,.l 2,.l 3,.l 7]) x0→∃ h',callW Zc28.tab 8 [.d x0] ⟨[],0⟩=some (.d (.bool true),h'):=by
 intro x0 h0
 obtain ⟨d,ts,l,v,rfl,hts,hl⟩:=okCase h0
 refine ⟨⟨[],0⟩,?_⟩
 refine call_wp (fn:=f8) rfl rfl ?_
 have hcc:(D.agg [eDs d,eIs ts,eRs l,eVs v]).cells.length=4:=rfl
 have aw:∀ q,callW tab 10 [] ⟨[],q⟩=some (.d (.bool true),⟨[],q⟩):=fun q=>awake_any (fun _ _=>rfl)
 obtain ⟨b,hf,hb⟩:=few_ok d ts l ⟨[],1⟩
 cases b with
 |false=>simp only[e8,hcc,aw,hf,wz,opX,intBin,↓reduceIte,simprocAttr]
 |true=>
  have F:=hb rfl
  by_cases hvl:(v.length:Int)=(ts.length:Int)
  ·have hv0:((v.length:Int) != (ts.length:Int))=false:=bne_eq_false_iff_eq.2 hvl
   have m1:=fun h=>matrixOf_ok l (by have:=F.rows;omega) (fun r hr=>by have:=(F.row r hr).2;omega) h
   have c1:=fun n=>compile_ok F n
   have hcl:(D.agg [eTs (compT d ts l)]).cells.length=1:=rfl
   by_cases e0:compE d ts l=0
   ·have R:=tree F e0
    have s1:=fun n=>pcheck28_ok F.sml (ts:=ts) F.ts R.light n
    rw[R.check] at s1
    rw[e0] at c1
    simp only[e8,hcc,aw,hf,hv0,m1,c1,hcl,s1,ibne,wz,opX,intBin,↓reduceIte,simprocAttr]
    refine loop_wp v.length (fun n e h'=>(∃ q,h'=⟨[],q⟩)∧e=[(1,.fp (.agg [eDs d,eIs ts,eRs l,eVs v]) 0),(3,.d (eRs l)),(4,.fp (.agg [eTs (compT d ts l)]) 0),(57,.d (eVs v)),(58,.d (.int .i64 (v.length:Int))),(59,.d (.int .i64 (n:Int)))]∧∀ (j:Nat) t x,j<n→ts[j]? = some t→v[j]? = some x→tyV d t x) _ ?_ ?_ v.length 0 _ _ (by omega) ⟨⟨_,rfl⟩,rfl,fun j t x h=>by omega⟩
    ·rintro n e h' hn ⟨⟨q,rfl⟩,rfl,hty⟩
     have hts4:=F.ts
     obtain ⟨x,hx⟩:=get_of_lt hn
     obtain ⟨t,ht⟩:=get_of_lt (l:=ts) (n:=n) (by omega)
     obtain ⟨e,hc,hce⟩:=vCheck_ok F.sml R.chk (R.gd.tys t (List.mem_of_getElem? ht)) x (q+1)
     have hw:=wrap_succ (show n<2 ^ 62 by omega)
     by_cases he:e=0
     ·subst he
      simp only[e8,hcc,hn,iaV hx,vls,iaI ht,hc,ibne,hw,wz,opX,intBin,↓reduceIte,simprocAttr]
      refine ⟨⟨_,rfl⟩,fun j t' x' hj ht' hx'=>?_⟩
      by_cases hjn:j<n
      ·exact hty j t' x' hjn ht' hx'
      ·obtain rfl:j=n:=by omega
       rw[ht] at ht';rw[hx] at hx';cases ht';cases hx'
       exact hce rfl
     ·simp only[e8,hcc,hn,iaV hx,vls,iaI ht,hc,ibne,he,aw,wz,opX,intBin,↓reduceIte,simprocAttr]
    ·rintro e h' ⟨⟨q,rfl⟩,rfl,hty⟩
     have hts4:=F.ts
     have hV:tyL d ts v:=tyL_of (by omega) fun j t x h1 h2=>hty j t x (List.getElem?_eq_some_iff.1 h2).1 h1 h2
     have p1:=fun h=>psel_ok (l:=compT d ts l) (v:=v) R.light (by omega) h
     rw[R.sel hV] at p1
     have p2:=fun h=>first_ok l (by have:=F.rows;omega) (fun r hr=>by have:=(F.row r hr).2;omega) v h
     have hbe:(firstS l v == firstS l v)=true:=beq_self_eq_true _
     simp only[e8,hcc,hcl,p1,p2,ibeq,hbe,aw,wz,opX,intBin,↓reduceIte,simprocAttr]
   ·have hT:compT d ts l=[]:=if_neg e0
    rw[hT] at c1
    simp only[e8,hcc,aw,hf,hv0,m1,c1,ibne,e0,wz,opX,intBin,↓reduceIte,simprocAttr]
  ·have hv0:((v.length:Int) != (ts.length:Int))=true:=bne_iff_ne.2 hvl
   simp only[e8,hcc,aw,hf,hv0,wz,opX,intBin,↓reduceIte,simprocAttr]
end Zc28
end
