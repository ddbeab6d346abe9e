/-
  Parts of the proof.
-/
import Derived.Test.YtmhbpocjmaacpaaZc28C1
set_option linter.unusedSimpArgs false
set_option linter.unusedVariables false
section
set_option maxHeartbeats 4000000
namespace Zc28
open Go Zv Zs
def compE (d:List Dt) (ts:List Int) (l:List (List Pt)):Int:=
 if chk27 d ts l≠0 then chk27 d ts l else if (wiS d 8001 ts l).isSome=true then 13 else if 4096<(buildS d 80 [] (col0 ts) (row0 l)).1.length then 6 else 0
def compT (d:List Dt) (ts:List Int) (l:List (List Pt)):List Ts:=if compE d ts l=0 then (buildS d 80 [] (col0 ts) (row0 l)).1 else []
theorem suf_nil (l:List (Nat × Ob)):sufOk [] l=true:=by
 unfold sufOk
 rw[List.length_nil,Nat.sub_zero,List.drop_length]
 exact objsBeq_refl _
theorem finS_d2 {n:Nat} {h:Hp} {v:V} {x y:D} (hv:deep h n 8 v=some x):finS ⟨[],n⟩ h [v,.d y]=some (.tup [.d x,.d y],⟨[],n⟩):=by
 unfold finS
 rw[if_pos (suf_nil _)]
 have hy:deep h n 8 (.d y)=some y:=rfl
 simp[back1,hv,hy,resV]
theorem deep_row {n m q k es:Nat} {X:List (Nat × Ob)} {s:List D} (hm:n≤m) (hr:Zv.look X m=some (.arr es (s.map .d))):deep ⟨X,q⟩ n (k+2) (.own m es s.length 0 s.length)=some (.lst s):=by
 have hrow:Hp.row ⟨X,q⟩ m s.length=some (es,s.map .d):=row_of hr (by simp)
 have hm2:∀ (l:List D),(l.map V.d).mapM (deep ⟨X,q⟩ n (k+1))=some l:=by
  intro l
  induction l with
  |nil=>rfl
  |cons x l ih=>rw[List.map_cons,List.mapM_cons,ih];rfl
 have ht:List.take s.length (s.map V.d)=s.map V.d:=List.take_of_length_le (by simp)
 show (if n≤m then _ else _)=_
 rw[if_pos hm,hrow,Option.bind_some,if_pos (by simp),List.drop_zero,ht,hm2];rfl
theorem deep_c {n m q es:Nat} {X:List (Nat × Ob)} {s:List D} (hm:n≤m) (hr:Zv.look X m=some (.arr es (s.map .d))):deep ⟨X,q⟩ n 8 (.agg [.own m es s.length 0 s.length])=some (.agg [.lst s]):=by
 have h1:=deep_row (q:=q) (k:=5) hm hr
 show Option.map D.agg (List.mapM (deep _ n 7) [_])=_
 rw[List.mapM_cons,h1];rfl
theorem ld_agg {h:Hp} {n:Nat} {vs:List V} (hr:h.row n 1=some (1,[.agg vs])):ld true 1 h (.ptr n 1 0 0)=some (.agg vs):=by simp[ld,hr]
theorem ld_own {h:Hp} {n m es L:Nat} (hr:h.row n 1=some (1,[.own m es L 0 L])):ld true 1 h (.ptr n 1 0 0)=some (.agg [.own m es L 0 L]):=by simp[ld,hr,partV,V.cells,mkAgg_own]
theorem mk_o2 (a b:D):norm (V.agg [.tl [.d a] (some false),.d b])=.d (.agg [.lst [a],b]):=rfl
theorem compile_ok {d:List Dt} {ts:List Int} {l:List (List Pt)} (F:Few8 d ts l) (n:Nat):callW tab 11 [.d (eDs d),.d (eIs ts),.d (eRs l)] ⟨[],n⟩=some (.tup [.d (.agg [eTs (compT d ts l)]),.d (eI (compE d ts l))],⟨[],n⟩):=by
 refine call_wp (fn:=f11) rfl rfl ?_
 have hck:=fun h=>chk_ok F.rng h
 have hzc:∀ h,deep h n 8 zC=some (.agg [.lst []]):=fun h=>rfl
 have hfz:=fun h y=>finS_d2 (y:=y) (hzc h)
 have c2:(eDs d).cells.length=1:=rfl
 have rd:∀ nx,Hp.row ⟨[(n+1,.arr 1 [.agg [.tl [] (some true)]]),(n,.arr 1 [.d (eDs d)])],nx⟩ n 1=some (1,[.d (eDs d)]):=fun nx=>row_cn (by omega) (fun nx=>by rw[row_hd];rfl)
 have hlz:=fun r q=>ld_z (n+1) r q
 by_cases hc:chk27 d ts l=0
 ·obtain ⟨G,hC⟩:=gd28 F.sml (by have:=F.ts;omega) (by have:=F.rows;omega) (by have:=F.nw;omega) hc
  have w1:=fun h=>Witness_ok G F.rng hc h
  rw[hc] at hck
  cases hw:wiS d 8001 ts l with
  |some w=>
   rw[hw] at w1
   have hE:compE d ts l=13:=by unfold compE;rw[if_neg (by simp[hc]),hw];rfl
   have hT:compT d ts l=[]:=by unfold compT;rw[hE];rfl
   rw[hE,hT]
   (simp only[e11,c2,rd,hck,ibne,w1,wi3,hlz,hfz,wz,opX,intBin,↓reduceIte,simprocAttr]<;>repeat' (first | refine wpG_s ?_ ?_ | refine wpC_s ?_ ?_)<;>intro hgo<;>(try simp only[dq] at hgo)<;>simp only[hgo,e11,c2,rd,hck,ibne,w1,wi3,hlz,hfz,wz,opX,intBin,↓reduceIte,simprocAttr])
   rfl
  |none=>
   rw[hw] at w1
   (simp only[e11,c2,rd,hck,ibne,w1,wi3,wz,opX,intBin,↓reduceIte,simprocAttr]<;>repeat' (first | refine wpG_s ?_ ?_ | refine wpC_s ?_ ?_)<;>intro hgo<;>(try simp only[dq] at hgo)<;>simp only[hgo,e11,c2,rd,hck,ibne,w1,wi3,wz,opX,intBin,↓reduceIte,simprocAttr])
   have hts:=F.ts
   have hrl:=F.rows
   let L4:List (Nat × Ob):=[(n+1+1+1,.arr 1 [.clo 37 [.ptr (n+1+1) 1 0 0,.ptr n 1 0 0,.ptr (n+1+1+1) 1 0 0]]),(n+1+1,.arr 1 [.agg [.tl [] (some true)]]),(n+1,.arr 1 [.agg [.tl [] (some true)]]),(n,.arr 1 [.d (eDs d)])]
   have k0:Zv.look L4 n=some (.arr 1 [.d (eDs d)]):=by show Zv.look L4 n=_;rw[look_tl _ _ (by omega),look_tl _ _ (by omega),look_tl _ _ (by omega),look_hd]
   have k1:Zv.look L4 (n+1)=some (.arr 1 [.agg [.tl [] (some true)]]):=by show Zv.look L4 (n+1)=_;rw[look_tl _ _ (by omega),look_tl _ _ (by omega),look_hd]
   have k2:Zv.look L4 (n+1+1)=some (.arr 1 [.agg [.tl [] (some true)]]):=by show Zv.look L4 (n+1+1)=_;rw[look_tl _ _ (by omega),look_hd]
   have k3:Zv.look L4 (n+1+1+1)=some (.arr 1 [.clo 37 [.ptr (n+1+1) 1 0 0,.ptr n 1 0 0,.ptr (n+1+1+1) 1 0 0]]):=look_hd ..
   have hL4:L4=[(n+1+1+1,.arr 1 [.clo 37 [.ptr (n+1+1) 1 0 0,.ptr n 1 0 0,.ptr (n+1+1+1) 1 0 0]]),(n+1+1,.arr 1 [.agg [.tl [] (some true)]]),(n+1,.arr 1 [.agg [.tl [] (some true)]]),(n,.arr 1 [.d (eDs d)])]:=rfl
   rw[←hL4]
   clear_value L4
   refine loop_wp ts.length (fun i e h'=>∃ Y q m v,h'=⟨Y,q⟩∧RA Y q (n+1+1+1+1) 2 v ((col0 (ts.take i)).map eO) m∧n+1+1+1+1≤q∧(∀ x,x<n+1+1+1+1→Zv.look Y x=Zv.look L4 x) ∧
    e=[(2,.d (eRs l)),(6,.ptr (n+1) 1 0 0),(12,.ptr (n+1+1) 1 0 0),(13,.ptr (n+1+1+1) 1 0 0),(14,v),(43,.d (eIs ts)),(44,.d (.int .i64 ts.length)),(45,.d (.int .i64 (i:Int)))]) _ ?_ ?_ ts.length 0 _ _ (by omega) ⟨L4,_,0,_,rfl,RA.nil ..,Nat.le_refl _,fun _ _=>rfl,rfl⟩
   ·rintro i e h' hi ⟨Y,q,m,v,rfl,R,hq,hfr,rfl⟩
    obtain ⟨t,ht⟩:=get_of_lt hi
    have hwr:IntKind.i64.wrap ((i:Int)+1)=((i+1:Nat):Int):=by rw[wrap_ok (by omega) (by omega)];rfl
    have hsn:=col0_snoc ht
    obtain ⟨v',Y',q',m',happ,R',hq',hfa⟩:=raX (b:=32) (nl:=some false) (x:=eO ⟨[(i:Int)],t⟩) R hq rfl (by rw[List.length_map,col0_len,List.length_take];unfold roomB;omega)
    have happ:app 2 32 ⟨Y,q⟩ v (.tl [.d (D.agg [.lst [.int .i64 (i:Int)],.int .i64 t])] (some false))=_:=happ
    (simp only[e11,hi,iaI ht,mk_o2,happ,hwr,wz,opX,intBin,↓reduceIte,simprocAttr]<;>repeat' (first | refine wpG_s ?_ ?_ | refine wpC_s ?_ ?_)<;>intro hgo<;>(try simp only[dq] at hgo)<;>simp only[hgo,e11,hi,iaI ht,mk_o2,happ,hwr,wz,opX,intBin,↓reduceIte,simprocAttr])
    exact⟨Y',q',m',v',rfl,by rw[hsn,List.map_append];exact R',by omega,fun x hx=>by rw[hfa x hx,hfr x hx],rfl⟩
   ·rintro e h' ⟨Y,q,m,v,rfl,R,hq,hfr,rfl⟩
    rw[List.take_length] at R
    (simp only[e11,wz,opX,intBin,↓reduceIte,simprocAttr]<;>repeat' (first | refine wpG_s ?_ ?_ | refine wpC_s ?_ ?_)<;>intro hgo<;>(try simp only[dq] at hgo)<;>simp only[hgo,e11,wz,opX,intBin,↓reduceIte,simprocAttr])
    refine loop_wp l.length (fun i e h'=>∃ Y2 q2 m2 v2,h'=⟨Y2,q2⟩∧RA Y2 q2 q 2 v2 ((row0 (l.take i)).map eW) m2∧q≤q2∧(∀ x,x<q→Zv.look Y2 x=Zv.look Y x) ∧
     e=[(6,.ptr (n+1) 1 0 0),(12,.ptr (n+1+1) 1 0 0),(13,.ptr (n+1+1+1) 1 0 0),(14,v),(17,v2),(58,.d (eRs l)),(59,.d (.int .i64 l.length)),(60,.d (.int .i64 (i:Int)))]) _ ?_ ?_ l.length 0 _ _ (by omega) ⟨Y,q,0,_,rfl,RA.nil ..,Nat.le_refl _,fun _ _=>rfl,rfl⟩
    ·rintro i e h' hi ⟨Y2,q2,m2,v2,rfl,R2,hq2,hfr2,rfl⟩
     obtain ⟨t,ht⟩:=get_of_lt hi
     have hwr:IntKind.i64.wrap ((i:Int)+1)=((i+1:Nat):Int):=by rw[wrap_ok (by omega) (by omega)];rfl
     have hsn:=row0_snoc ht
     obtain ⟨v',Y',q',m',happ,R',hq',hfa⟩:=raX (b:=32) (nl:=some false) (x:=eW ⟨(i:Int),t⟩) R2 hq2 rfl (by rw[List.length_map,row0_len,List.length_take];unfold roomB;omega)
     have happ:app 2 32 ⟨Y2,q2⟩ v2 (.tl [.d (D.agg [.int .i64 (i:Int),ePs t])] (some false))=_:=happ
     (simp only[e11,hi,iaR ht,happ,hwr,wz,opX,intBin,↓reduceIte,simprocAttr]<;>repeat' (first | refine wpG_s ?_ ?_ | refine wpC_s ?_ ?_)<;>intro hgo<;>(try simp only[dq] at hgo)<;>simp only[hgo,e11,hi,iaR ht,happ,hwr,wz,opX,intBin,↓reduceIte,simprocAttr])
     exact⟨Y',q',m',v',rfl,by rw[hsn,List.map_append];exact R',by omega,fun x hx=>by rw[hfa x hx,hfr2 x hx],rfl⟩
    ·rintro e h' ⟨Y2,q2,m2,v2,rfl,R2,hq2,hfr2,rfl⟩
     rw[List.take_length] at R2
     obtain ⟨Y3,z2,f3⟩:=rz R2
     have R1:RA Y3 q2 (n+1+1+1+1) 2 v ((col0 ts).map eO) m:=R.keep hq2 (Nat.le_refl _) fun x hx=>by rw[f3 x hx,hfr2 x hx]
     obtain ⟨Y4,z1,f4⟩:=rz R1
     have fr:∀ x,x<n+1+1+1+1→Zv.look Y4 x=Zv.look L4 x:=fun x hx=>by rw[f4 x hx,f3 x (by omega),hfr2 x (by omega),hfr x hx]
     have I:=bi0 F hc hw
     obtain ⟨r,hv,m',X',q',rfl,VV,hm',hq',_,hm0,F4⟩:=build_ok F.sml 80 [] (col0 ts) (row0 l) Y4 0 q2 (ov:=n+1+1) (dv:=n) (bv:=n+1+1+1) I (by simp) (.inr ⟨rfl,by rw[fr _ (by omega)];exact k2,by rw[fr _ (by omega)];exact k0,by rw[fr _ (by omega)];exact k3⟩) (by omega) (by omega) (by omega)
     have hm0:=hm0 rfl
     have r3:=fun nx=>row_of (q:=nx) (show Zv.look Y4 (n+1+1+1)=_ by rw[fr _ (by omega)];exact k3) (tot:=1) rfl
     have r4:=fun nx=>row_of (q:=nx) VV.iov (tot:=1) rfl
     have e1:Zv.look X' (n+1)=some (.arr 1 [.agg [.tl [] (some true)]]):=by rw[F4 _ (by omega) (by omega) (by omega),fr _ (by omega)];exact k1
     have r5:=fun nx=>row_of (q:=nx) e1 (tot:=1) rfl
     have hs6:st 1 ⟨X',q'⟩ (.ptr (n+1) 1 0 0) zC=some ⟨Zv.upd X' (n+1) (.arr 1 [zC]),q'⟩:=st_all (i:=0) (x:=zC) (r5 q') rfl rfl rfl
     have r6:=row_of (q:=q') (show Zv.look (Zv.upd X' (n+1) (.arr 1 [zC])) (n+1)=some (.arr 1 [zC]) by rw[Zs.look_upd,if_pos rfl,e1];rfl) (tot:=1) rfl
     have hl6:=ld_agg r6
     have hs7:st 1 ⟨X',q'⟩ (.ptr (n+1) 1 0 0) (.agg [.own m' 5 (buildS d 80 [] (col0 ts) (row0 l)).1.length 0 (buildS d 80 [] (col0 ts) (row0 l)).1.length])=some ⟨Zv.upd X' (n+1) (.arr 1 [.agg [.own m' 5 (buildS d 80 [] (col0 ts) (row0 l)).1.length 0 (buildS d 80 [] (col0 ts) (row0 l)).1.length]]),q'⟩:=st_all (i:=0) (r5 q') rfl rfl rfl
     have r7:=row_of (q:=q') (show Zv.look (Zv.upd X' (n+1) (.arr 1 [.agg [.own m' 5 (buildS d 80 [] (col0 ts) (row0 l)).1.length 0 (buildS d 80 [] (col0 ts) (row0 l)).1.length]])) (n+1)=_ by rw[Zs.look_upd,if_pos rfl,e1];rfl) (tot:=1) rfl
     have hl7:=ld_agg r7
     have hl8:=ld_own (r4 q')
     have hd:=deep_c (n:=n) (q:=q') (X:=Zv.upd X' (n+1) (.arr 1 [.agg [.own m' 5 (buildS d 80 [] (col0 ts) (row0 l)).1.length 0 (buildS d 80 [] (col0 ts) (row0 l)).1.length]])) (m:=m') (s:=(buildS d 80 [] (col0 ts) (row0 l)).1.map eT) (by omega) (by rw[Zs.look_upd,if_neg (by omega)];exact VV.irow)
     rw[List.length_map] at hd
     have hf7:=fun y=>finS_d2 (y:=y) hd
     by_cases h4:4096<(buildS d 80 [] (col0 ts) (row0 l)).1.length
     ·have hE:compE d ts l=6:=by unfold compE;rw[if_neg (by simp[hc]),hw,if_neg (by simp),if_pos h4]
      have hT:compT d ts l=[]:=by unfold compT;rw[hE];rfl
      rw[hE,hT]
      have h4':(4096:Int)<((buildS d 80 [] (col0 ts) (row0 l)).1.length:Int):=by omega
      (simp only[e11,z1,z2,r3,hv,r4,h4',hs6,hl6,hfz,wz,opX,intBin,↓reduceIte,simprocAttr]<;>repeat' (first | refine wpG_s ?_ ?_ | refine wpC_s ?_ ?_)<;>intro hgo<;>(try simp only[dq] at hgo)<;>simp only[hgo,e11,z1,z2,r3,hv,r4,h4',hs6,hl6,hfz,wz,opX,intBin,↓reduceIte,simprocAttr])
      rfl
     ·have hE:compE d ts l=0:=by unfold compE;rw[if_neg (by simp[hc]),hw,if_neg (by simp),if_neg h4]
      have hT:compT d ts l=(buildS d 80 [] (col0 ts) (row0 l)).1:=by unfold compT;rw[hE];rfl
      rw[hE,hT]
      have h4':¬ (4096:Int)<((buildS d 80 [] (col0 ts) (row0 l)).1.length:Int):=by omega
      (simp only[e11,z1,z2,r3,hv,r4,h4',hl8,hs7,hl7,hf7,wz,opX,intBin,↓reduceIte,simprocAttr]<;>repeat' (first | refine wpG_s ?_ ?_ | refine wpC_s ?_ ?_)<;>intro hgo<;>(try simp only[dq] at hgo)<;>simp only[hgo,e11,z1,z2,r3,hv,r4,h4',hl8,hs7,hl7,hf7,wz,opX,intBin,↓reduceIte,simprocAttr])
 ·have hE:compE d ts l=chk27 d ts l:=by unfold compE;rw[if_pos hc]
  have hT:compT d ts l=[]:=by unfold compT;rw[hE,if_neg hc]
  rw[hE,hT]
  (simp only[e11,c2,rd,hck,ibne,hc,hlz,hfz,wz,opX,intBin,↓reduceIte,simprocAttr]<;>repeat' (first | refine wpG_s ?_ ?_ | refine wpC_s ?_ ?_)<;>intro hgo<;>(try simp only[dq] at hgo)<;>simp only[hgo,e11,c2,rd,hck,ibne,hc,hlz,hfz,wz,opX,intBin,↓reduceIte,simprocAttr])
  rfl
end Zc28
end
section
set_option maxHeartbeats 4000000
namespace Zc28
open Go Zv Zs
theorem rcompile_ok {d:List Dt} {ts:List Int} {l:List (List Pt)} (F:Few8 d ts l) (n:Nat):callW tab 13 [.d (eDs d),.d (eIs ts),.d (eRs l)] ⟨[],n⟩=some (.tup [.d (eTs (compT d ts l)),.d (eI (compE d ts l))],⟨[],n⟩):=by
 refine call_wp (fn:=f13) rfl rfl ?_
 have hck:=fun h=>rchk_ok F.rng h
 have hfz:∀ h y,finS ⟨[],n⟩ h [.tl [] (some true),.d y]=some (.tup [.d (.lst []),.d y],⟨[],n⟩):=fun h y=>finS_d2 (y:=y) (x:=.lst []) rfl
 by_cases hc:chk27 d ts l=0
 ·obtain ⟨G,hC⟩:=gd28 F.sml (by have:=F.ts;omega) (by have:=F.rows;omega) (by have:=F.nw;omega) hc
  have w1:=fun h=>rwitness_ok G.sml G.typ 8001 ts l (by have:=G.w;omega) G.w G.len G.tys G.fit h
  rw[hc] at hck
  cases hw:wiS d 8001 ts l with
  |some w=>
   rw[hw] at w1
   have hE:compE d ts l=13:=by unfold compE;rw[if_neg (by simp[hc]),hw];rfl
   have hT:compT d ts l=[]:=by unfold compT;rw[hE];rfl
   rw[hE,hT]
   (simp only[e13,hck,ibne,w1,wiV,hfz,wz,opX,intBin,↓reduceIte,simprocAttr]<;>repeat' (first | refine wpG_s ?_ ?_ | refine wpC_s ?_ ?_)<;>intro hgo<;>(try simp only[dq] at hgo)<;>simp only[hgo,e13,hck,ibne,w1,wiV,hfz,wz,opX,intBin,↓reduceIte,simprocAttr])
   try rfl
  |none=>
   rw[hw] at w1
   (simp only[e13,hck,ibne,w1,wiV,wz,opX,intBin,↓reduceIte,simprocAttr]<;>repeat' (first | refine wpG_s ?_ ?_ | refine wpC_s ?_ ?_)<;>intro hgo<;>(try simp only[dq] at hgo)<;>simp only[hgo,e13,hck,ibne,w1,wiV,wz,opX,intBin,↓reduceIte,simprocAttr])
   have hts:=F.ts
   have hrl:=F.rows
   refine loop_wp ts.length (fun i e h'=>∃ Y q m v,h'=⟨Y,q⟩∧RA Y q n 2 v ((col0 (ts.take i)).map eO) m∧n≤q ∧
    e=[(0,.d (eDs d)),(1,.d (eIs ts)),(2,.d (eRs l)),(11,v),(12,.d (.int .i64 (i:Int)))]) _ ?_ ?_ ts.length 0 _ _ (by omega) ⟨[],n,0,_,rfl,RA.nil ..,Nat.le_refl _,rfl⟩
   ·rintro i e h' hi ⟨Y,q,m,v,rfl,R,hq,rfl⟩
    obtain ⟨t,ht⟩:=get_of_lt hi
    have hwr:IntKind.i64.wrap ((i:Int)+1)=((i+1:Nat):Int):=by rw[wrap_ok (by omega) (by omega)];rfl
    have hsn:=col0_snoc ht
    obtain ⟨v',Y',q',m',happ,R',hq',hfa⟩:=raX (b:=32) (nl:=some false) (x:=eO ⟨[(i:Int)],t⟩) R hq rfl (by rw[List.length_map,col0_len,List.length_take];unfold roomB;omega)
    have happ:app 2 32 ⟨Y,q⟩ v (.tl [.d (D.agg [.lst [.int .i64 (i:Int)],.int .i64 t])] (some false))=_:=happ
    (simp only[e13,hi,iaI ht,mk_o2,happ,hwr,wz,opX,intBin,↓reduceIte,simprocAttr]<;>repeat' (first | refine wpG_s ?_ ?_ | refine wpC_s ?_ ?_)<;>intro hgo<;>(try simp only[dq] at hgo)<;>simp only[hgo,e13,hi,iaI ht,mk_o2,happ,hwr,wz,opX,intBin,↓reduceIte,simprocAttr])
    exact⟨Y',q',m',v',rfl,by rw[hsn,List.map_append];exact R',by omega,rfl⟩
   ·rintro e h' ⟨Y,q,m,v,rfl,R,hq,rfl⟩
    rw[List.take_length] at R
    (simp only[e13,wz,opX,intBin,↓reduceIte,simprocAttr]<;>repeat' (first | refine wpG_s ?_ ?_ | refine wpC_s ?_ ?_)<;>intro hgo<;>(try simp only[dq] at hgo)<;>simp only[hgo,e13,wz,opX,intBin,↓reduceIte,simprocAttr])
    refine loop_wp l.length (fun i e h'=>∃ Y2 q2 m2 v2,h'=⟨Y2,q2⟩∧RA Y2 q2 q 2 v2 ((row0 (l.take i)).map eW) m2∧q≤q2∧(∀ x,x<q→Zv.look Y2 x=Zv.look Y x) ∧
     e=[(0,.d (eDs d)),(2,.d (eRs l)),(11,v),(13,v2),(14,.d (.int .i64 (i:Int)))]) _ ?_ ?_ l.length 0 _ _ (by omega) ⟨Y,q,0,_,rfl,RA.nil ..,Nat.le_refl _,fun _ _=>rfl,rfl⟩
    ·rintro i e h' hi ⟨Y2,q2,m2,v2,rfl,R2,hq2,hfr2,rfl⟩
     obtain ⟨t,ht⟩:=get_of_lt hi
     have hwr:IntKind.i64.wrap ((i:Int)+1)=((i+1:Nat):Int):=by rw[wrap_ok (by omega) (by omega)];rfl
     have hsn:=row0_snoc ht
     obtain ⟨v',Y',q',m',happ,R',hq',hfa⟩:=raX (b:=32) (nl:=some false) (x:=eW ⟨(i:Int),t⟩) R2 hq2 rfl (by rw[List.length_map,row0_len,List.length_take];unfold roomB;omega)
     have happ:app 2 32 ⟨Y2,q2⟩ v2 (.tl [.d (D.agg [.int .i64 (i:Int),ePs t])] (some false))=_:=happ
     (simp only[e13,hi,iaR ht,happ,hwr,wz,opX,intBin,↓reduceIte,simprocAttr]<;>repeat' (first | refine wpG_s ?_ ?_ | refine wpC_s ?_ ?_)<;>intro hgo<;>(try simp only[dq] at hgo)<;>simp only[hgo,e13,hi,iaR ht,happ,hwr,wz,opX,intBin,↓reduceIte,simprocAttr])
     exact⟨Y',q',m',v',rfl,by rw[hsn,List.map_append];exact R',by omega,fun x hx=>by rw[hfa x hx,hfr2 x hx],rfl⟩
    ·rintro e h' ⟨Y2,q2,m2,v2,rfl,R2,hq2,hfr2,rfl⟩
     rw[List.take_length] at R2
     obtain ⟨Y3,z2,f3⟩:=rz R2
     have R1:RA Y3 q2 n 2 v ((col0 ts).map eO) m:=R.keep hq2 (Nat.le_refl _) fun x hx=>by rw[f3 x hx,hfr2 x hx]
     obtain ⟨Y4,z1,f4⟩:=rz R1
     have I:=bi0 F hc hw
     obtain ⟨r,hv,m',v',X',q',rfl,R5,hq',_,hm0,F4⟩:=rbuild_ok F.sml 80 [] (col0 ts) (row0 l) Y4 0 q2 (.tl [] (some true)) I (by simp) (RA.nil ..)
     have hm0:=hm0 rfl
     have hd:deep ⟨X',q'⟩ n 8 v'=some (eTs (buildS d 80 [] (col0 ts) (row0 l)).1):=by
      by_cases hs:(buildS d 80 [] (col0 ts) (row0 l)).1.map eT=[]
      ·rw[R5.v,hs];unfold rowN eTs;rw[hs];rfl
      ·rw[R5.v];unfold rowN;rw[if_neg hs];exact deep_row (k:=6) (by omega) (R5.row hs)
     have hf5:=fun y=>finS_d2 (y:=y) hd
     have hl5:lenL v'=some (.d (.int .i64 ((buildS d 80 [] (col0 ts) (row0 l)).1.length:Int))):=by
      rw[R5.v];unfold rowN
      split
      ·rename_i hs
       have:=congrArg List.length hs
       rw[List.length_map] at this
       rw[this];rfl
      ·show lenL (.own _ _ _ _ _)=_
       simp[lenL];rfl
     by_cases h4:4096<(buildS d 80 [] (col0 ts) (row0 l)).1.length
     ·have hE:compE d ts l=6:=by unfold compE;rw[if_neg (by simp[hc]),hw,if_neg (by simp),if_pos h4]
      have hT:compT d ts l=[]:=by unfold compT;rw[hE];rfl
      rw[hE,hT]
      have h4':(4096:Int)<((buildS d 80 [] (col0 ts) (row0 l)).1.length:Int):=by omega
      (simp only[e13,z1,z2,hv,hl5,h4',hfz,wz,opX,intBin,↓reduceIte,simprocAttr]<;>repeat' (first | refine wpG_s ?_ ?_ | refine wpC_s ?_ ?_)<;>intro hgo<;>(try simp only[dq] at hgo)<;>simp only[hgo,e13,z1,z2,hv,hl5,h4',hfz,wz,opX,intBin,↓reduceIte,simprocAttr])
      try rfl
     ·have hE:compE d ts l=0:=by unfold compE;rw[if_neg (by simp[hc]),hw,if_neg (by simp),if_neg h4]
      have hT:compT d ts l=(buildS d 80 [] (col0 ts) (row0 l)).1:=by unfold compT;rw[hE];rfl
      rw[hE,hT]
      have h4':¬ (4096:Int)<((buildS d 80 [] (col0 ts) (row0 l)).1.length:Int):=by omega
      (simp only[e13,z1,z2,hv,hl5,h4',hf5,wz,opX,intBin,↓reduceIte,simprocAttr]<;>repeat' (first | refine wpG_s ?_ ?_ | refine wpC_s ?_ ?_)<;>intro hgo<;>(try simp only[dq] at hgo)<;>simp only[hgo,e13,z1,z2,hv,hl5,h4',hf5,wz,opX,intBin,↓reduceIte,simprocAttr])
 ·have hE:compE d ts l=chk27 d ts l:=by unfold compE;rw[if_pos hc]
  have hT:compT d ts l=[]:=by unfold compT;rw[hE,if_neg hc]
  rw[hE,hT]
  (simp only[e13,hck,ibne,hc,hfz,wz,opX,intBin,↓reduceIte,simprocAttr]<;>repeat' (first | refine wpG_s ?_ ?_ | refine wpC_s ?_ ?_)<;>intro hgo<;>(try simp only[dq] at hgo)<;>simp only[hgo,e13,hck,ibne,hc,hfz,wz,opX,intBin,↓reduceIte,simprocAttr])
  try rfl
end Zc28
end
section
set_option maxHeartbeats 4000000
namespace Zc28
open Go Zv Zs
theorem is1_ok {t:Ts} (ht:TOk t) (h:Hp):callW tab 50 [.d (eT t),.d (eT t)] h=some (.d (.bool true),h):=by
 refine call_wp (fn:=f50) rfl rfl ?_
 have hc:(eT t).cells.length=5:=rfl
 have e1:=fun h=>eqI_ok t.path t.path (by have:=ht.1;omega) (by have:=ht.1;omega) h
 have e2:=fun h=>eqI_ok t.next t.next (by have:=ht.2;omega) (by have:=ht.2;omega) h
 have d1:decide (t.path=t.path)=true:=decide_eq_true rfl
 have d2:decide (t.next=t.next)=true:=decide_eq_true rfl
 obtain ⟨tp,tc,tn,tx,tr⟩:=t
 simp only[eT,d1,d2] at e1 e2 hc ⊢
 have b1:(tc == tc)=true:=beq_self_eq_true _
 have b2:(tn == tn)=true:=beq_self_eq_true _
 have b3:(tr == tr)=true:=beq_self_eq_true _
 (simp only[e50,hc,e1,e2,b1,b2,b3,wz,opX,intBin,↓reduceIte,simprocAttr]<;>repeat' (first | refine wpG_s ?_ ?_ | refine wpC_s ?_ ?_)<;>intro hgo<;>(try simp only[dq] at hgo)<;>simp only[hgo,e50,hc,e1,e2,b1,b2,b3,wz,opX,intBin,↓reduceIte,simprocAttr])
theorem isEF_ok {l:List Ts} (hl:TsOk l) (hn:l.length≤4097) (h:Hp):callW tab 49 [.d (eTs l),.d (eTs l),.clo 50 []] h=some (.d (.bool true),h):=by
 refine call_wp (fn:=f49) rfl rfl ?_
 have b0:((l.length:Int) != (l.length:Int))=false:=by simp
 (simp only[e49,b0,wz,opX,intBin,↓reduceIte,simprocAttr]<;>repeat' (first | refine wpG_s ?_ ?_ | refine wpC_s ?_ ?_)<;>intro hgo<;>(try simp only[dq] at hgo)<;>simp only[hgo,e49,b0,wz,opX,intBin,↓reduceIte,simprocAttr])
 refine loop_wp l.length (fun i e h'=>∃ q,h'=⟨h.objs,q⟩∧e=[(1,.d (eTs l)),(2,.clo 50 []),(15,.d (eTs l)),(16,.d (.int .i64 l.length)),(17,.d (.int .i64 (i:Int)))]) _ ?_ ?_ l.length 0 _ _ (by omega) ⟨h.next,rfl,rfl⟩
 ·rintro i e h' hi ⟨q,rfl,rfl⟩
  obtain ⟨t,ht⟩:=get_of_lt hi
  have hwr:IntKind.i64.wrap ((i:Int)+1)=((i+1:Nat):Int):=by rw[wrap_ok (by omega) (by omega)];rfl
  have hc:(eT t).cells.length=5:=rfl
  have h1:=fun h=>is1_ok (hl t (List.mem_of_getElem? ht)) h
  have hia:ia 5 (.d (eTs l)) (.d (.int .i64 (i:Int)))=some (.fp (eT t) 0):=iaT ht
  (simp only[e49,hi,hia,hc,h1,hwr,wz,opX,intBin,↓reduceIte,simprocAttr]<;>repeat' (first | refine wpG_s ?_ ?_ | refine wpC_s ?_ ?_)<;>intro hgo<;>(try simp only[dq] at hgo)<;>simp only[hgo,e49,hi,hia,hc,h1,hwr,wz,opX,intBin,↓reduceIte,simprocAttr])
  exact⟨_,rfl⟩
 ·rintro e h' ⟨q,rfl,rfl⟩
  (simp only[e49,wz,opX,intBin,↓reduceIte,simprocAttr]<;>repeat' (first | refine wpG_s ?_ ?_ | refine wpC_s ?_ ?_)<;>intro hgo<;>(try simp only[dq] at hgo)<;>simp only[hgo,e49,wz,opX,intBin,↓reduceIte,simprocAttr])
theorem is_ok {l:List Ts} (hl:TsOk l) (hn:l.length≤4097) (h:Hp):callW tab 14 [.d (.agg [eTs l]),.d (eTs l)] h=some (.d (.bool true),h):=by
 refine call_wp (fn:=f14) rfl rfl ?_
 have c1:(D.agg [eTs l]).cells.length=1:=rfl
 have h1:=fun h=>isEF_ok hl hn h
 (simp only[e14,c1,h1,wz,opX,intBin,↓reduceIte,simprocAttr]<;>repeat' (first | refine wpG_s ?_ ?_ | refine wpC_s ?_ ?_)<;>intro hgo<;>(try simp only[dq] at hgo)<;>simp only[hgo,e14,c1,h1,wz,opX,intBin,↓reduceIte,simprocAttr])
theorem compT_z {d:List Dt} {ts:List Int} {l:List (List Pt)} (h:compE d ts l=0):chk27 d ts l=0∧wiS d 8001 ts l=none∧(buildS d 80 [] (col0 ts) (row0 l)).1.length≤4096∧compT d ts l=(buildS d 80 [] (col0 ts) (row0 l)).1:=by
 have h':=h
 unfold compE at h
 by_cases hc:chk27 d ts l=0
 ·rw[if_neg (by simp[hc])] at h
  cases hw:wiS d 8001 ts l with
  |some w=>rw[hw] at h;cases h
  |none=>
   rw[hw,if_neg (by simp)] at h
   by_cases h4:4096<(buildS d 80 [] (col0 ts) (row0 l)).1.length
   ·rw[if_pos h4] at h;cases h
   ·exact⟨hc,rfl,by omega,if_pos h'⟩
 ·rw[if_pos hc] at h;exact absurd h hc
theorem compT_ok {d:List Dt} {ts:List Int} {l:List (List Pt)} (F:Few8 d ts l):TsOk (compT d ts l)∧(compT d ts l).length≤4097:=by
 by_cases h:compE d ts l=0
 ·obtain ⟨hc,hw,h4,hT⟩:=compT_z h
  rw[hT]
  exact⟨build_ts F.sml 80 _ _ _ (bi0 F hc hw) (fun t h=>by cases h),by omega⟩
 ·have hT:compT d ts l=[]:=if_neg h
  rw[hT]
  exact⟨fun t h=>(by cases h),by simp⟩
end Zc28
end
section
set_option maxHeartbeats 4000000
namespace Zc28
open Go Zv Zs
theorem decisionCompiles:∀ x0 x1 x2:D,ok (EE Zc28.es) (.one (.l 0)) x0→ok (EE Zc28.es) (.one (.l 2)) x1→ok (EE Zc28.es) (.one (.l 3)) x2→∃ h',callW Zc28.tab 3 [.d x0,.d x1,.d x2] ⟨[],0⟩=some (.d (.bool true),h'):=by
 intro x0 x1 x2 h0 h1 h2
 obtain ⟨d,rfl⟩:=okDs h0
 obtain ⟨ts,rfl,hts⟩:=okIs h1
 obtain ⟨l,rfl,hl⟩:=okRs h2
 refine ⟨⟨[],0⟩,?_⟩
 refine call_wp (fn:=f3) rfl rfl ?_
 have aw:=awake
 have aw1:=awake1
 obtain ⟨b,hf,hb⟩:=few_ok d ts l ⟨[],0⟩
 cases b with
 |false=>(simp only[e3,aw,hf,wz,opX,intBin,↓reduceIte,simprocAttr]<;>repeat' (first | refine wpG_s ?_ ?_ | refine wpC_s ?_ ?_)<;>intro hgo<;>(try simp only[dq] at hgo)<;>simp only[hgo,e3,aw,hf,wz,opX,intBin,↓reduceIte,simprocAttr])
 |true=>
  have F:=hb rfl
  have m1:=fun h=>matrixOf_ok l (by have:=F.rows;omega) (fun r hr=>by have:=(F.row r hr).2;omega) h
  have c1:=fun n=>compile_ok F n
  have c2:=fun n=>rcompile_ok F n
  obtain ⟨t1,t2⟩:=compT_ok F
  have i1:=fun h=>is_ok t1 t2 h
  have hcl:(D.agg [eTs (compT d ts l)]).cells.length=1:=rfl
  have hbe:(compE d ts l == compE d ts l)=true:=beq_self_eq_true _
  (simp only[e3,aw1,hf,m1,c1,c2,i1,hcl,hbe,wz,opX,intBin,↓reduceIte,simprocAttr]<;>repeat' (first | refine wpG_s ?_ ?_ | refine wpC_s ?_ ?_)<;>intro hgo<;>(try simp only[dq] at hgo)<;>simp only[hgo,e3,aw1,hf,m1,c1,c2,i1,hcl,hbe,wz,opX,intBin,↓reduceIte,simprocAttr])
  trace_state
end Zc28
end
