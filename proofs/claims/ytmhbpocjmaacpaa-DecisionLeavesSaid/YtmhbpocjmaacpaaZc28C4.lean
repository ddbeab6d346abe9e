/-
  Parts of the proof.
-/
import Derived.Test.YtmhbpocjmaacpaaZc28U7
set_option linter.unusedSimpArgs false
set_option linter.unusedVariables false
section
set_option maxHeartbeats 4000000
namespace Zc28
open Go Zv Zs
theorem wild_ok (p:Pt) (h:Hp):callW tab 109 [.d (ePt p)] h=some (.d (.bool (wildP p)),h):=by
 refine call_wp (fn:=f109) rfl rfl ?_
 simp only[e109,pts,ePt_k,ibeq,wildP,wz,opX,intBin,↓reduceIte,simprocAttr]
def numP (a:Pt) (q:Pt):Bool:=wildP q || decide (nmP q=nmP a)
theorem num_ok (a p:Pt) (h:Hp):callW tab 108 [.d (ePt p),.fp (ePt a) 0] h=some (.d (.bool (numP a p)),h):=by
 refine call_wp (fn:=f108) rfl rfl ?_
 have hw:=fun h=>wild_ok p h
 unfold numP
 cases hk:wildP p<;>simp only[e108,pts,ePt_2,ibeq,hw,hk,Bool.true_or,Bool.false_or,wz,opX,intBin,↓reduceIte,simprocAttr]
theorem matrices_ok (a b c:D) (ha:a.cells.length=1) (hb:b.cells.length=1) (hc:c.cells.length=1) (h:Hp):callW tab 111 [.d a,.d b,.d c] h=some (.clo 134 [.fp a 0,.fp b 0,.fp c 0],⟨h.objs,h.next+3⟩):=by
 refine call_wp (fn:=f111) rfl rfl ?_
 simp only[e111,ha,hb,hc,wz,opX,intBin,↓reduceIte,simprocAttr]
section
variable (o:List (Nat × Ob)) (H:Nat) (A B:List Int) (e0:List (Nat × V))
def HU (b:Bool) (s:Option Ex) (q:Nat):Hp:=⟨(H+10,.lp 960 e0 s)::(H+6,.mp (kvB B))::(H+5,.mp (kvB A))::(H+3,.arr 1 [.d (.bool b)])::o,q⟩
theorem HU_get (b s q):(HU o H A B e0 b s q).get (H+10)=some (.lp 960 e0 s):=by
 unfold HU Hp.get;simp[Zv.look]
theorem HU_set (b s s' q):(HU o H A B e0 b s q).set (H+10) (.lp 960 e0 s')=HU o H A B e0 b s' q:=by
 unfold HU Hp.set;simp[upd]
theorem HU_row (b s q):(HU o H A B e0 b s q).row (H+3) 1=some (1,[.d (.bool b)]):=by
 unfold HU Hp.row Hp.get;simp[Zv.look]
theorem HU_st (b c s q):st 1 (HU o H A B e0 b s q) (.ptr (H+3) 1 0 0) (.d (.bool c))=some (HU o H A B e0 c s q):=by
 unfold st
 simp only[HU_row,Option.bind_some]
 simp[HU,Hp.set,upd,V.cells,stor,D.cells]
end
theorem round_ok {d:List Dt} {n i:Nat} {y:Dt} {z:Cn} (hy:d[n]? = some y) (hz:y.cons[i]? = some z) (hd:d.length<2 ^ 60) (hf:z.flds.length≤8) {ts:List Int} (hl:ts.length≤10000) {p:Pt} {r:List Pt} (hr:r.length≤10000) {m:List (List Pt)} {u:Bool}
  (hu:∀ h,callW tab 60 [.d (eDs d),.d (eIs (z.flds++ts)),.d (eRs m),.d (ePs (List.replicate z.flds.length wildT++r))] h=some (.d (.bool u),h)) (o:List (Nat × Ob)) (H:Nat) (A B:List Int) (cl:V) (q:Nat) :
  let e0:List (Nat × V):=[(4,.fp (eDs d) 0),(5,.fp (eIs (((n:Int)+1)::ts)) 0),(7,.fp (ePs (p::r)) 0),(8,.ptr (H+3) 1 0 0),(92,cl)]
  cW tab (.yld (H+10)) [.d (eI (i:Int)),.d (eRs m)] (HU o H A B e0 false none q)=some (.d (.bool (!u)),HU o H A B e0 u (if u=true then some .ret else none) q):=by
 intro e0
 have hn:=(List.getElem?_eq_some_iff.1 hy).1
 have hw:=wrap_sub1 (n:=n) (by omega)
 have hun:∀ h,callW tab 104 [.d (eDs d),.d (.lst (eI ((n:Int)+1)::ts.map eI)),.d (eI (i:Int))] h=some (.d (eIs (z.flds++ts)),h):=fun h=>under_ok hy hz hd ts hf hl h
 have hia:ia 1 (.d (.lst (eI ((n:Int)+1)::ts.map eI))) (.d (.int .i64 0))=some (.fp (eI ((n:Int)+1)) 0):=iaI0 _ _
 have h1:=mkslP (n:=z.flds.length) (by omega)
 have h2:=appd_tl (es:=4) (b:=48) (l:=(List.replicate z.flds.length wildT).map ePt) (r:=r.map ePt) (nl:=some false) ptcells ptcells (by simp only[List.length_map,List.length_replicate,roomB];omega)
 rw[←List.map_append] at h2
 have hbody:ex tab d60q0 [(4,.fp (eDs d) 0),(5,.fp (eIs (((n:Int)+1)::ts)) 0),(7,.fp (ePs (p::r)) 0),(8,.ptr (H+3) 1 0 0),(12,.d (eI (i:Int))),(13,.d (eRs m))] (HU o H A B e0 false (some .norm) q) =
   some (if u=true then .ret else .norm,if u=true then [(8,.ptr (H+3) 1 0 0)] else [(8,.ptr (H+3) 1 0 0),(118,.d (.bool false))],HU o H A B e0 u (some .norm) q):=by
  unfold d60q0
  apply wq_ex.1
  have hst:=HU_st o H A B e0 false true (some .norm) q
  cases u<;>simp only[e60,hw,iaI0,hia,slcP',slcP,hun,h1,h2,iaD hy,iaC hz,hu,hst,wz,opX,intBin,↓reduceIte,simprocAttr]
 have:=cW_yld (T:=tab) (n:=H+10) (b:=960) (e:=e0) (vs:=[.d (eI (i:Int)),.d (eRs m)]) (h:=HU o H A B e0 false none q) (fn:=f1000960) (asg:=a60q0) (bdy:=d60q0) (e1:=[(4,.fp (eDs d) 0),(5,.fp (eIs (((n:Int)+1)::ts)) 0),(7,.fp (ePs (p::r)) 0),(8,.ptr (H+3) 1 0 0),(12,.d (eI (i:Int))),(13,.d (eRs m))]) (h1:=HU o H A B e0 false none q) (b':=960) (e':=e0)
  (HU_get ..) rfl rfl rfl (by unfold a60q0;apply wq_ex.1;simp only[e60,binds,f1000960,wz,opX,intBin,↓reduceIte,simprocAttr];rfl) (HU_get ..) (by rw[HU_set];exact hbody)
 rw[this]
 unfold rndEnd
 simp only[HU_get]
 cases u<;>simp[HU_set]<;>rfl
theorem HU_mk (o:List (Nat × Ob)) (H:Nat) (A B:List Int) (e0:List (Nat × V)) (b:Bool) (s:Option Ex) (q q':Nat):(⟨(HU o H A B e0 b s q).objs,q'⟩:Hp)=HU o H A B e0 b s q':=rfl
theorem HU_next (o:List (Nat × Ob)) (H:Nat) (A B:List Int) (e0:List (Nat × V)) (b:Bool) (s:Option Ex) (q:Nat):(HU o H A B e0 b s q).next=q:=rfl
theorem range_ok {d:List Dt} {n:Nat} {y:Dt} (hy:d[n]? = some y) (hd:d.length<2 ^ 60) (hK:y.cons.length≤8) (hf:∀ z,z ∈ y.cons→z.flds.length≤8) {ts:List Int} (hts:ts.length≤10000) {p:Pt} {r:List Pt} (hr:r.length≤10000)
  (l:List (List Pt)) (hl:l.length≤1000) (hlr:∀ r,r ∈ l→r≠[]∧r.length≤10000∧∀ p,p ∈ r→(argsP p).length≤10000) {u:Nat→Bool}
  (hu:∀ (i:Nat) (z:Cn),y.cons[i]? = some z→∀ h,callW tab 60 [.d (eDs d),.d (eIs (z.flds++ts)),.d (eRs (spS (i:Int) z.flds.length l)),.d (ePs (List.replicate z.flds.length wildT++r))] h=some (.d (.bool (u i)),h)) (o:List (Nat × Ob)) (H:Nat) (A B:List Int) :
  let cl:V:=.clo 134 [.fp (eDs d) 0,.fp (eIs (((n:Int)+1)::ts)) 0,.fp (eRs l) 0]
  let e0:List (Nat × V):=[(4,.fp (eDs d) 0),(5,.fp (eIs (((n:Int)+1)::ts)) 0),(7,.fp (ePs (p::r)) 0),(8,.ptr (H+3) 1 0 0),(92,cl)]
  ∃ q,callW tab 134 [.yld (H+10),.fp (eDs d) 0,.fp (eIs (((n:Int)+1)::ts)) 0,.fp (eRs l) 0] (HU o H A B e0 false none (H+11))=some (.tup [],HU o H A B e0 ((List.range y.cons.length).any u) (if (List.range y.cons.length).any u=true then some .ret else none) q):=by
 intro cl e0
 have hn:=(List.getElem?_eq_some_iff.1 hy).1
 have hw:=wrap_sub1 (n:=n) (by omega)
 have hia:ia 1 (.d (.lst (eI ((n:Int)+1)::ts.map eI))) (.d (.int .i64 0))=some (.fp (eI ((n:Int)+1)) 0):=iaI0 _ _
 obtain ⟨e,q',hq,hloop⟩:=loop_anyO (T:=tab) (a:=f134l0) (K:=y.cons.length) (p:=u) (f:=fun i=>[(0,.yld (H+10)),(3,.fp (eRs l) 0),(14,.d (.lst (y.cons.map eC))),(15,.d (.int .i64 (y.cons.length:Int))),(16,.d (.int .i64 (i:Int)))]) (O:=(HU o H A B e0 false none 0).objs) (O2:=(HU o H A B e0 true (some .ret) 0).objs) (x1:=.ret) (x2:=.exit 0) (e2:=[(0,.yld (H+10)),(3,.fp (eRs l) 0),(14,.d (.lst (y.cons.map eC))),(15,.d (.int .i64 (y.cons.length:Int))),(16,.d (.int .i64 (y.cons.length:Int))),(17,.d (.bool false))]) (q0:=H+11)
  (by
   intro q i hi hp
   obtain ⟨z,hz⟩:=get_of_lt (l:=y.cons) (n:=i) hi
   have hzf:=hf z (List.mem_of_getElem? hz)
   have hround:∀ q,cW tab (.yld (H+10)) [.d (eI (i:Int)),.d (eRs (spS (i:Int) z.flds.length l))] (HU o H A B e0 false none q)=some (.d (.bool (!u i)),HU o H A B e0 (u i) (if u i=true then some .ret else none) q):=fun q=>round_ok (p:=p) hy hz hd hzf hts hr (hu i z hz) o H A B cl q
   have hsp:=fun h=>special_ok (i:Int) z.flds.length (by omega) l hl hlr h
   simp only[hp] at hround
   simp only[hi,e134,iaC hz,hsp,hround,HU_mk,HU_next,wrap_succ (show i<2 ^ 62 by omega),wz,opX,intBin,↓reduceIte,simprocAttr]
   exact⟨_,rfl,by omega⟩)
  (by
   intro q i hi hp
   obtain ⟨z,hz⟩:=get_of_lt (l:=y.cons) (n:=i) hi
   have hzf:=hf z (List.mem_of_getElem? hz)
   have hround:∀ q,cW tab (.yld (H+10)) [.d (eI (i:Int)),.d (eRs (spS (i:Int) z.flds.length l))] (HU o H A B e0 false none q)=some (.d (.bool (!u i)),HU o H A B e0 (u i) (if u i=true then some .ret else none) q):=fun q=>round_ok (p:=p) hy hz hd hzf hts hr (hu i z hz) o H A B cl q
   have hsp:=fun h=>special_ok (i:Int) z.flds.length (by omega) l hl hlr h
   simp only[hp] at hround
   simp only[hi,e134,iaC hz,hsp,hround,HU_mk,HU_next,wrap_succ (show i<2 ^ 62 by omega),wz,opX,intBin,↓reduceIte,simprocAttr]
   exact⟨_,_,⟨rfl,rfl⟩,by omega⟩)
  (by
   intro q
   simp only[e134,HU_mk,wz,opX,intBin,↓reduceIte,simprocAttr]
   exact⟨_,rfl,by omega⟩)
  (by simp) (by simp)
 refine ⟨q',call_wp (fn:=f134) rfl rfl ?_⟩
 simp only[HU_mk,Int.cast_ofNat_Int] at hloop
 cases hany:(List.range y.cons.length).any u with
 |false=>
  rw[hany] at hloop
  simp only[Bool.false_eq_true,if_false] at hloop
  simp only[e134,hw,iaI0,hia,iaD hy,HU_mk,wq_of hloop,wz,opX,intBin,↓reduceIte,simprocAttr]
 |true=>
  rw[hany] at hloop
  simp only[if_true] at hloop
  simp only[e134,hw,iaI0,hia,iaD hy,HU_mk,wq_of hloop,wz,opX,intBin,↓reduceIte,simprocAttr]
end Zc28
end
section
set_option maxHeartbeats 4000000
namespace Zc28
open Go Zv Zs
section
variable (o:List (Nat × Ob)) (H:Nat) (A B:List Int)
def HV (b:Bool) (q:Nat):Hp:=⟨(H+6,.mp (kvB B))::(H+5,.mp (kvB A))::(H+3,.arr 1 [.d (.bool b)])::o,q⟩
theorem HV_mk (b q q'):(⟨(HV o H A B b q).objs,q'⟩:Hp)=HV o H A B b q':=rfl
theorem HV_next (b q):(HV o H A B b q).next=q:=rfl
theorem HV_of (b):HM2 ((H+3,.arr 1 [.d (.bool b)])::o) (H+5) A B=HV o H A B b (H+7):=rfl
theorem HV_len (b q):lenM (HV o H A B b q) (.map (H+5))=some (.d (.int .i64 (A.length:Int))):=by
 unfold lenM entries HV Hp.get
 simp[Zv.look,kvB,int]
theorem HV_row (b q):(HV o H A B b q).row (H+3) 1=some (1,[.d (.bool b)]):=by
 unfold HV Hp.row Hp.get;simp[Zv.look]
theorem HV_st (b c q):st 1 (HV o H A B b q) (.ptr (H+3) 1 0 0) (.d (.bool c))=some (HV o H A B c q):=by
 unfold st
 simp only[HV_row,Option.bind_some]
 simp[HV,Hp.set,upd,V.cells,stor,D.cells]
theorem HU_kill (e0:List (Nat × V)) (b s q):(HU o H A B e0 b s q).kill (H+10)=HV o H A B b q:=by
 unfold HU HV Hp.kill;simp[del]
end
theorem HV_fin (h:Hp) (A B:List Int) (b:Bool) (q:Nat) (x:D):finS h (HV h.objs h.next A B b q) [.d x]=some (.d x,h):=by
 refine finS_suf (vs:=[x]) ?_
 exact suf_app [_,_,_] h.objs
theorem frz_4 (n es nx:Nat) (o1 o2 o3:Ob) (x:D) (l:List (Nat × Ob)):Zv.frz ⟨(n+1+1+1,o3)::(n+1+1,o2)::(n+1,o1)::(n,.arr es [.d x])::l,nx⟩ (.ptr n 1 0 0)=some (.fp x 0,⟨(n+1+1+1,o3)::(n+1+1,o2)::(n+1,o1)::l,nx⟩):=by
 have hr:Hp.row ⟨(n+1+1+1,o3)::(n+1+1,o2)::(n+1,o1)::(n,.arr es [.d x])::l,nx⟩ n 1=some (es,[.d x]):=by
  unfold Hp.row Hp.get;simp[Zv.look,Nat.add_assoc]
 simp only[Zv.frz,hr,Option.bind_some,List.getElem?_cons_zero,Option.map_some,toD]
 simp[Hp.kill,del,Nat.add_assoc]
theorem frz_3 (n es nx:Nat) (o1 o2:Ob) (x:D) (l:List (Nat × Ob)):Zv.frz ⟨(n+1+1,o2)::(n+1,o1)::(n,.arr es [.d x])::l,nx⟩ (.ptr n 1 0 0)=some (.fp x 0,⟨(n+1+1,o2)::(n+1,o1)::l,nx⟩):=by
 have hr:Hp.row ⟨(n+1+1,o2)::(n+1,o1)::(n,.arr es [.d x])::l,nx⟩ n 1=some (es,[.d x]):=by
  unfold Hp.row Hp.get;simp[Zv.look,Nat.add_assoc]
 simp only[Zv.frz,hr,Option.bind_some,List.getElem?_cons_zero,Option.map_some,toD]
 simp[Hp.kill,del,Nat.add_assoc]
theorem use_r0 (a b c x:D) (ha:a.cells.length=1) (hb:b.cells.length=1) (hx:x.cells.length=1) (h:Hp) :
  ex tab f60r0 (args 0 [.d a,.d b,.d c,.d x]) h=some (.norm,[(2,.d c),(4,.fp a 0),(5,.fp b 0),(7,.fp x 0),(8,.ptr (h.next+3) 1 0 0)],⟨(h.next+3,.arr 1 [.d (.bool false)])::h.objs,h.next+4⟩):=by
 apply wq_ex.1
 simp only[e60,ha,hb,hx,frz_4,frz_3,wz,opX,intBin,↓reduceIte,simprocAttr]
theorem iaI0' (t:Int) (ts:List Int):ia 1 (.d (.lst (eI t::ts.map eI))) (.d (.int .i64 0))=some (.fp (eI t) 0):=iaI0 t ts
theorem cons_sm {d:List Dt} (S:Sml d) (t:Int):(consOf d t).length≤8∧∀ z,z ∈ consOf d t→z.flds.length≤8:=by
 rcases tcase d t with h0 | h0 | ⟨n,y,rfl,hy⟩
 ·rw[consOf_lo h0];exact⟨by simp,fun z hz=>by cases hz⟩
 ·rw[consOf_hi h0];exact⟨by simp,fun z hz=>by cases hz⟩
 ·rw[consOf_at hy]
  have:=S.ds y (List.mem_of_getElem? hy)
  exact⟨this.2.1,fun z hz=>(this.2.2 z hz).2⟩
theorem fit_args {d:List Dt} (S:Sml d) {t:Int} {p:Pt} (h:fitsP d t p=true):(argsP p).length≤8:=by
 obtain ⟨k,c,m,qs⟩:=p
 rw[argsP_mk]
 rcases fits_cases h with ⟨_,_,_,rfl⟩ | ⟨_,_,_,rfl⟩ | ⟨_,_,_,i,z,_,hz,hl,_⟩
 ·simp
 ·simp
 ·have:=(cons_sm S t).2 z (List.mem_of_getElem? hz);omega
theorem fitR_args {d:List Dt} (S:Sml d):∀ {ts:List Int} {r:List Pt},fitR d ts r=true→∀ p,p ∈ r→(argsP p).length≤10000
 |_,[],_,p,hp=>by cases hp
 | [],_::_,h,_,_=>by cases h
 |t::ts,q::r,h,p,hp=>by
  simp only[fitR,Bool.and_eq_true] at h
  rcases List.mem_cons.1 hp with rfl | hp
  ·have:=fit_args S h.1;omega
  ·exact fitR_args S h.2 p hp
theorem fitM_rows {d:List Dt} (S:Sml d) {t:Int} {ts:List Int} {l:List (List Pt)} (hts:ts.length≤9000) (h:fitM d (t::ts) l):∀ r,r ∈ l→r≠[]∧r.length≤10000∧∀ p,p ∈ r→(argsP p).length≤10000:=by
 intro r hr
 have hf:=h r hr
 have hl:=fitR_len hf
 rw[List.length_cons] at hl
 exact⟨fun e=>(by subst e;simp at hl),by omega,fitR_args S hf⟩
theorem fldsOf_at {d:List Dt} {n i:Nat} {y:Dt} {z:Cn} (hy:d[n]? = some y) (hz:y.cons[i]? = some z):fldsOf d ((n:Int)+1) i=z.flds:=by
 unfold fldsOf;rw[consOf_at hy,hz]
theorem flds_isT {d:List Dt} (T:typedS d=true) {t:Int} {z:Cn} (hz:z ∈ consOf d t) {ts:List Int} (ht:∀ f,f ∈ ts→isT d f=true):∀ f,f ∈ z.flds++ts→isT d f=true:=by
 intro f hf
 rcases List.mem_append.1 hf with hf | hf
 ·exact fld_isT27 T hz hf
 ·exact ht f hf
theorem useful_ok {d:List Dt} (S:Sml d) (T:typedS d=true):∀ (k:Nat) (ts:List Int) (rows:List (List Pt)) (row:List Pt),9*(nwS rows+nwL row)+ts.length<k→9*(nwS rows+nwL row)+ts.length≤8000→rows.length≤1000 →
  (∀ t,t ∈ ts→isT d t=true)→fitM d ts rows→fitR d ts row=true→∀ h,callW tab 60 [.d (eDs d),.d (eIs ts),.d (eRs rows),.d (ePs row)] h=some (.d (.bool (usS d k ts rows row)),h)
 |0,_,_,_,h,_,_,_,_,_,_=>by omega
 |k+1,[],rows,row,_,_,hl,_,_,hR,h=>by
  refine call_wp (fn:=f60) rfl rfl ?_
  show wp tab (.seq f60r0 _) _ _ _
  rw[wq_seq,wq_of (use_r0 (eDs d) (eIs []) (eRs rows) (ePs row) rfl rfl rfl h)]
  have e0:((rows.length:Int) == 0)=decide (rows.length=0):=by simp[ibeq]
  simp only[usS]
  simp only[e60,ibeq,e0,wz,opX,intBin,↓reduceIte,simprocAttr]
 |k+1,t::ts,rows,[],_,_,_,_,_,hR,_=>by cases hR
 |k+1,t::ts,rows,.mk kd c m qs::r,hW,hB,hl,hT,hM,hR,h=>by
  simp only[fitR,Bool.and_eq_true] at hR
  obtain ⟨hp,hR⟩:=hR
  have hts:ts.length≤8000:=by rw[List.length_cons] at hB;omega
  have hrl:=fitR_len hR
  have hrows:=fitM_rows S (by omega) hM
  have hTt:∀ f,f ∈ ts→isT d f=true:=fun f hf=>hT f (List.mem_cons_of_mem _ hf)
  rw[nwL,nwP] at hW hB
  rw[List.length_cons] at hW hB
  refine call_wp (fn:=f60) rfl rfl ?_
  show wp tab (.seq f60r0 _) _ _ _
  rw[wq_seq,wq_of (use_r0 (eDs d) (eIs (t::ts)) (eRs rows) (ePs (.mk kd c m qs::r)) rfl rfl rfl h)]
  have hne:(((ts.length+1:Nat):Int) == 0)=false:=by rw[ibeq];exact decide_eq_false (by omega)
  rcases fits_cases hp with ⟨k0,_,_,_⟩ | ⟨k2,t0,_,_⟩ | ⟨k1,t0,_,i,z,rfl,hz,hzl,hzR⟩
  ·subst k0
   have hh:=fun h=>heads_ok rows hl (fun r hr=>(hrows r hr).1) h
   have hrest:=fun h=>rests_ok (.clo 109 []) wildP rfl rows hl (fun r hr=>(hrows r hr).1) (fun p _ _ h=>by rw[cW_clo];exact wild_ok p h) h
   have hnw:=restS_nw wildP rows
   have hlen:=fm_len (restF wildP) rows
   rw[if_pos rfl] at hW hB
   have hIH:=useful_ok S T k ts (restS wildP rows) r (by omega) (by omega) (Nat.le_trans hlen hl) hTt (restS_fit _ hM) hR
   by_cases ht:t=0
   ·have e:usS d (k+1) (t::ts) rows (.mk 0 c m qs::r)=usS d k ts (restS wildP rows) r:=by
     simp[usS,ht]
    rw[e]
    simp only[e60,hne,ht,iaI0,iaI0',iaP0,iaP0',pts,ePt_k,kdP_mk,slcT,slcT',slcP,slcP',hh,HV_of,HV_mk,HV_next,HV_len,HV_st,HV_row,HV_fin,hrest,hIH,wz,opX,intBin,↓reduceIte,simprocAttr]
   ·rcases tcase d t with h0 | h0 | ⟨n,y,rfl,hy⟩
    ·exfalso;have:=hT t List.mem_cons_self;simp only[isT,Bool.and_eq_true,decide_eq_true_eq] at this;omega
    ·exfalso;have:=hT t List.mem_cons_self;simp only[isT,Bool.and_eq_true,decide_eq_true_eq] at this;omega
    have hn:=(List.getElem?_eq_some_iff.1 hy).1
    have hsl:=S.len
    have hw:=wrap_sub1 (n:=n) (by omega)
    have hcs:=cons_sm S ((n:Int)+1)
    rw[consOf_at hy] at hcs
    by_cases hlt:(consS rows).length<y.cons.length
    ·have e:usS d (k+1) (((n:Int)+1)::ts) rows (.mk 0 c m qs::r)=usS d k ts (restS wildP rows) r:=by
      simp[usS,consOf_at hy,hlt]
     rw[e]
     simp only[e60,hne,ht,ibeq,hw,hlt,iaI0,iaI0',iaD hy,iaP0,iaP0',pts,ePt_k,kdP_mk,slcT,slcT',slcP,slcP',hh,HV_of,HV_mk,HV_next,HV_len,HV_st,HV_row,HV_fin,hrest,hIH,wz,opX,intBin,↓reduceIte,simprocAttr]
    ·have hdown:=fun i (hi:i<y.cons.length) (n':Nat)=>spS_down hM (by rw[consOf_at hy];omega) (i:=i) (by rw[consOf_at hy];exact hi) n'
     have hu:∀ (i:Nat) (z:Cn),y.cons[i]? = some z→∀ h,callW tab 60 [.d (eDs d),.d (eIs (z.flds++ts)),.d (eRs (spS (i:Int) z.flds.length rows)),.d (ePs (List.replicate z.flds.length wildT++r))] h=some (.d (.bool (usS d k (fldsOf d ((n:Int)+1) i++ts) (spS (i:Int) (fldsOf d ((n:Int)+1) i).length rows) (List.replicate (fldsOf d ((n:Int)+1) i).length wildT++r))),h):=by
      intro i z hz
      have hi:=(List.getElem?_eq_some_iff.1 hz).1
      have hfz:=fldsOf_at hy hz
      have hzm:=List.mem_of_getElem? hz
      have hz8:=hcs.2 z hzm
      have hd:=hdown i hi z.flds.length
      have hM':=spS_fit i hM
      rw[hfz] at hM' ⊢
      exact useful_ok S T k (z.flds++ts) (spS (i:Int) z.flds.length rows) (List.replicate z.flds.length wildT++r) (by rw[nwL_app,nwL_wild,List.length_append];omega) (by rw[nwL_app,nwL_wild,List.length_append];omega) (Nat.le_trans (fm_len _ _) hl)
       (flds_isT T (by rw[consOf_at hy];exact hzm) hTt) hM' (fitR_app (fitR_wild d _) hR)
     obtain ⟨q,hq⟩:=range_ok hy (by omega) hcs.1 hcs.2 (ts:=ts) (by omega) (p:=.mk 0 c m qs) (r:=r) (by omega) rows hl hrows hu h.objs h.next (consS rows) (numsS rows)
     have e:usS d (k+1) (((n:Int)+1)::ts) rows (.mk 0 c m qs::r)=(List.range y.cons.length).any fun i=>usS d k (fldsOf d ((n:Int)+1) i++ts) (spS (i:Int) (fldsOf d ((n:Int)+1) i).length rows) (List.replicate (fldsOf d ((n:Int)+1) i).length wildT++r):=by
      simp[usS,consOf_at hy,hlt,ht]
     rw[e]
     generalize ((List.range y.cons.length).any fun i=>usS d k (fldsOf d ((n:Int)+1) i++ts) (spS (i:Int) (fldsOf d ((n:Int)+1) i).length rows) (List.replicate (fldsOf d ((n:Int)+1) i).length wildT++r))=u at hq
     have hmat:∀ h,callW tab 111 [.d (eDs d),.d (.lst (eI ((n:Int)+1)::ts.map eI)),.d (eRs rows)] h=some (.clo 134 [.fp (eDs d) 0,.fp (eIs (((n:Int)+1)::ts)) 0,.fp (eRs rows) 0],⟨h.objs,h.next+3⟩):=fun h=>matrices_ok _ _ _ rfl rfl rfl h
     have hrng:ex tab (.rng (.t 92) 960) [(4,.fp (eDs d) 0),(5,.fp (eIs (((n:Int)+1)::ts)) 0),(7,.fp (ePs (.mk 0 c m qs::r)) 0),(8,.ptr (h.next+3) 1 0 0),(92,.clo 134 [.fp (eDs d) 0,.fp (eIs (((n:Int)+1)::ts)) 0,.fp (eRs rows) 0])] (HV h.objs h.next (consS rows) (numsS rows) false (h.next+10)) =
       some (if u=true then .ret else .norm,[(4,.fp (eDs d) 0),(5,.fp (eIs (((n:Int)+1)::ts)) 0),(7,.fp (ePs (.mk 0 c m qs::r)) 0),(8,.ptr (h.next+3) 1 0 0),(92,.clo 134 [.fp (eDs d) 0,.fp (eIs (((n:Int)+1)::ts)) 0,.fp (eRs rows) 0])],HV h.objs h.next (consS rows) (numsS rows) u q):=by
      refine ex_rng (f:=134) rfl hq ?_
      unfold rngEnd
      rw[HV_next]
      simp only[HU_get]
      cases u<;>simp[HU_kill]
     cases u<;>(simp only[if_true,if_false,Bool.false_eq_true] at hrng;simp only[e60,hne,ht,ibeq,hw,hlt,iaI0,iaI0',iaD hy,iaP0,iaP0',pts,ePt_k,kdP_mk,hh,HV_of,HV_mk,HV_next,HV_len,HV_st,HV_row,HV_fin,hmat,wq_of hrng,wz,opX,intBin,↓reduceIte,simprocAttr])
  ·subst k2
   have hrest:=fun h=>rests_ok (.clo 108 [.fp (ePt (.mk 2 c m qs)) 0]) (numP (.mk 2 c m qs)) rfl rows hl (fun r hr=>(hrows r hr).1) (fun p _ _ h=>by rw[cW_clo];exact num_ok _ p h) h
   have hnw:=restS_nw (numP (.mk 2 c m qs)) rows
   have hlen:=fm_len (restF (numP (.mk 2 c m qs))) rows
   have hIH:=useful_ok S T k ts (restS (numP (.mk 2 c m qs)) rows) r (by omega) (by omega) (Nat.le_trans hlen hl) hTt (restS_fit _ hM) hR
   have e:usS d (k+1) (t::ts) rows (.mk 2 c m qs::r)=usS d k ts (restS (numP (.mk 2 c m qs)) rows) r:=by
    simp only[usS];rfl
   rw[e]
   simp only[e60,hne,iaP0,iaP0',pts,ePt_k,kdP_mk,slcT,slcT',slcP,slcP',hrest,hIH,wz,opX,intBin,↓reduceIte,simprocAttr]
  ·subst k1
   rcases tcase d t with h0 | h0 | ⟨n,y,rfl,hy⟩
   ·rw[consOf_lo h0] at hz;cases hz
   ·rw[consOf_hi h0] at hz;cases hz
   have hz':=hz
   rw[consOf_at hy] at hz'
   have hn:=(List.getElem?_eq_some_iff.1 hy).1
   have hsl:=S.len
   have hzm:=List.mem_of_getElem? hz
   have hzf:=(cons_sm S _).2 z hzm
   have hun:∀ h,callW tab 104 [.d (eDs d),.d (.lst (eI ((n:Int)+1)::ts.map eI)),.d (eI (i:Int))] h=some (.d (eIs (z.flds++ts)),h):=fun h=>under_ok hy hz' (by omega) ts hzf (by omega) h
   have hsp:=fun h=>special_ok (i:Int) qs.length (by omega) rows hl hrows h
   have h1:=fun h=>cloneP_ok qs (by omega) h
   have h2:=fun (n:Nat) (o:List (Nat × Ob))=>clo_app (nl:=none) (es:=4) (b:=48) (n:=n) (o:=o) (l:=qs.map ePt) (r:=r.map ePt) ptcells ptcells (by simp only[List.length_map,roomB];omega)
   rw[←List.map_append] at h2
   have h3:=fun (n:Nat) (o:List (Nat × Ob))=>clo_frz (nl:=none) (es:=4) (n:=n) (o:=o) (l:=(qs++r).map ePt)
   have hnw:=spS_nw (i:Int) qs.length rows
   have hlen:=fm_len (spF (i:Int) qs.length) rows
   have hfz:=fldsOf_at hy hz'
   have hM':=spS_fit i hM
   rw[hfz,hzl] at hM'
   rw[if_neg (by decide)] at hW hB
   have hIH:=useful_ok S T k (z.flds++ts) (spS (i:Int) qs.length rows) (qs++r) (by rw[nwL_app,List.length_append];omega) (by rw[nwL_app,List.length_append];omega) (Nat.le_trans hlen hl) (flds_isT T hzm hTt) hM' (fitR_app hzR hR)
   have e:usS d (k+1) (((n:Int)+1)::ts) rows (.mk 1 (i:Int) m qs::r)=usS d k (z.flds++ts) (spS (i:Int) qs.length rows) (qs++r):=by
    simp only[usS,if_true,Int.toNat_natCast,hfz]
   rw[e]
   simp only[e60,hne,iaP0,iaP0',pts,ePt_k,ePt_1,ePt_3,kdP_mk,cnP_mk,argsP_mk,slcT,slcT',slcP,slcP',hun,hsp,h1,h2,h3,hIH,wz,opX,intBin,↓reduceIte,simprocAttr]
end Zc28
end
section
set_option maxHeartbeats 4000000
namespace Zc28
open Go Zv Zs
end Zc28
end
section
set_option maxHeartbeats 4000000
namespace Zc28
open Go Zv Zs
structure Gd (d:List Dt) (ts:List Int) (l:List (List Pt)):Prop where
 sml:Sml d
 typ:typedS d=true
 tys:∀ t,t ∈ ts→isT d t=true
 fit:fitM d ts l
 w:9*nwS l+ts.length≤8000
 len:l.length≤1000
theorem nwS_take:∀ {l:List (List Pt)} {n:Nat} {x:List Pt},l[n]? = some x→nwS (l.take n)+nwL x≤nwS l
 | [],n,x,h=>by simp at h
 |r::l,0,x,h=>by
  simp at h;subst h
  simp only[List.take_zero,nwS];omega
 |r::l,n+1,x,h=>by
  rw[List.getElem?_cons_succ] at h
  have:=nwS_take h
  rw[List.take_succ_cons,nwS,nwS];omega
theorem slc_take (l:List (List Pt)) {n:Nat} (hn:n≤l.length):slc 1 (.d (eRs l)) none (some (.d (.int .i64 (n:Int))))=some (.d (eRs (l.take n))):=by
 have h:Zv.allD 1 (l.map ePs)=true:=by
  unfold Zv.allD
  refine List.all_eq_true.2 fun y hy=>?_
  obtain ⟨p,_,rfl⟩:=List.mem_map.1 hy
  rfl
 simp only[slc,bnd,Option.bind_some,ixOf_nat,h]
 simp[hn,List.map_take]
def deadF (d:List Dt) (ts:List Int) (l:List (List Pt)) (x:List Pt × Nat):Option Int:=if usS d 8001 ts (l.take x.2) x.1=true then none else some (x.2:Int)
def deadS (d:List Dt) (ts:List Int) (l:List (List Pt)):List Int:=l.zipIdx.filterMap (deadF d ts l)
theorem zip_ix {l:List (List Pt)} {n:Nat} {x:List Pt × Nat} (h:l.zipIdx[n]? = some x):l[n]? = some x.1∧x.2=n:=by
 rw[List.getElem?_zipIdx] at h
 simp only[Option.map_eq_some_iff] at h
 obtain ⟨a,ha,rfl⟩:=h
 exact⟨ha,by simp⟩
section
variable {d:List Dt} {ts:List Int} {l:List (List Pt)} (G:Gd d ts l)
include G
theorem Gd.use {n:Nat} {x:List Pt} (hx:l[n]? = some x) (h:Hp):callW tab 60 [.d (eDs d),.d (eIs ts),.d (eRs (l.take n)),.d (ePs x)] h=some (.d (.bool (usS d 8001 ts (l.take n) x)),h):=by
 have hw:=nwS_take hx
 have hg:=G.w
 have:=G.len
 exact useful_ok G.sml G.typ 8001 ts (l.take n) x (by omega) (by omega) (by rw[List.length_take];omega) G.tys (fun r hr=>G.fit r (List.mem_of_mem_take hr)) (G.fit x (List.mem_of_getElem? hx)) h
theorem dead_ok (F:Rng d ts l) (hc:chk27 d ts l=0) (h:Hp):callW tab 23 [.d (eDs d),.d (eIs ts),.d (eRs l)] h=some (.tup [.d (eIs (deadS d ts l)),.d (eI 0)],h):=by
 refine call_wp (fn:=f23) rfl rfl ?_
 have hlen:=G.len
 have hzl:l.zipIdx.length=l.length:=by simp
 have hck:=fun h=>chk_ok F h
 rw[hc] at hck
 obtain ⟨m,q,hm,hq,hloop⟩:=loop_acc (T:=tab) (a:=f23l0) (l:=l.zipIdx) (fun _=>deadF d ts l) eI 1 8 (fun n r=>[(0,.d (eDs d)),(1,.d (eIs ts)),(2,.d (eRs l)),(9,r),(19,.d (eRs l)),(20,.d (.int .i64 (l.length:Int))),(21,.d (.int .i64 (n:Int)))]) (h:=h) (n0:=h.next) (x1:=.exit 0) (e1:=fun r=>[(0,.d (eDs d)),(1,.d (eIs ts)),(2,.d (eRs l)),(9,r),(19,.d (eRs l)),(20,.d (.int .i64 (l.length:Int))),(21,.d (.int .i64 (l.length:Int))),(22,.d (.bool false))]) (Nat.le_refl _)
  (fun _=>rfl) (by rw[hzl];simp only[roomB];omega)
  (by
   intro n x s m q hx hlt hs hsl hG
   obtain ⟨hx,hxn⟩:=zip_ix hx
   rw[hzl] at hlt
   have hu:=fun h=>G.use hx h
   simp only[deadF,hxn] at hG
   have hk:usS d 8001 ts (l.take n) x.1=true:=by
    cases hk:usS d 8001 ts (l.take n) x.1 with
    |true=>rfl
    |false=>rw[if_neg (by rw[hk];simp)] at hG;cases hG
   rw[hk] at hu
   simp only[hlt,e23,slc_take l (Nat.le_of_lt hlt),iaR hx,hu,rowQ_next,rowQ_mk,wrap_succ (show n<2 ^ 62 by omega),wz,opX,intBin,↓reduceIte,simprocAttr]
   exact⟨_,rfl,by omega⟩)
  (by
   intro n x y s m q hx hlt hs hsl hG happ
   obtain ⟨hx,hxn⟩:=zip_ix hx
   rw[hzl] at hlt
   have hu:=fun h=>G.use hx h
   simp only[deadF,hxn] at hG
   have hk:usS d 8001 ts (l.take n) x.1=false:=by
    cases hk:usS d 8001 ts (l.take n) x.1 with
    |false=>rfl
    |true=>rw[if_pos hk] at hG;cases hG
   rw[if_neg (by rw[hk];simp)] at hG
   cases hG
   rw[hk] at hu
   simp only[hlt,e23,slc_take l (Nat.le_of_lt hlt),iaR hx,hu,happ,rowQ_next,rowQ_mk,wrap_succ (show n<2 ^ 62 by omega),wz,opX,intBin,↓reduceIte,simprocAttr]
   exact⟨_,_,⟨rfl,rfl⟩,by omega,Nat.le_refl _⟩)
  (by
   intro m q
   rw[hzl]
   simp only[e23,wz,opX,intBin,↓reduceIte,simprocAttr]
   exact⟨_,rfl,by omega⟩)
  (by simp)
 rw[accL_fm] at hloop hm
 simp only[Int.cast_ofNat_Int] at hloop
 have hfm:l.zipIdx.filterMap (deadF d ts l)=deadS d ts l:=rfl
 rw[hfm] at hloop hm
 have hfin:finS h (rowQ h m 1 ((deadS d ts l).map eI) q) [rowN m 1 ((deadS d ts l).map eI),.d (.int .i64 0)]=some (.tup [.d (eIs (deadS d ts l)),.d (eI 0)],h):=by
  rw[finS,if_pos (rowQ_suf h m 1 _ q)]
  simp only[List.mapM_cons,List.mapM_nil,back1,rowQ_deep h _ q (fun e=>(hm e).1)]
  rfl
 simp only[e23,hck,ibne,wq_of hloop,hfin,wz,opX,intBin,↓reduceIte,simprocAttr]
end
theorem dead_bad {d:List Dt} {ts:List Int} {l:List (List Pt)} (F:Rng d ts l) (hc:chk27 d ts l≠0) (h:Hp):callW tab 23 [.d (eDs d),.d (eIs ts),.d (eRs l)] h=some (.tup [.d (eIs []),.d (eI (chk27 d ts l))],h):=by
 refine call_wp (fn:=f23) rfl rfl ?_
 have hck:=fun h=>chk_ok F h
 simp only[e23,hck,ibne,hc,wz,opX,intBin,↓reduceIte,simprocAttr]
 rw[finS,if_pos (suf_refl _)]
 rfl
mutual
theorem nw_cntP:∀ p:Pt,nwP p≤cntP p
 | .mk k c m qs=>by
  rw[nwP,cntP]
  have:=nw_cntL qs
  split<;>omega
theorem nw_cntL:∀ l:List Pt,nwL l≤cntL l
 | []=>Nat.le_refl _
 |p::r=>by
  rw[nwL,cntL]
  have:=nw_cntP p
  have:=nw_cntL r
  omega
end
end Zc28
end
section
set_option maxHeartbeats 4000000
namespace Zc28
open Go Zv Zs
end Zc28
end
section
set_option maxHeartbeats 4000000
namespace Zc28
open Go Zv Zs
def missG (s:List Int):Nat→Nat→Nat
 |0,n=>n
 |f+1,n=>if (n:Int) ∈ s then missG s f (n+1) else n
def missN (s:List Int):Nat:=missG s (s.length+1) 0
theorem all_le {s:List Int} {n:Nat} (h:∀ i:Nat,i<n→(i:Int) ∈ s):n≤s.length:=by
 have:=sub_len ((List.range n).map fun j:Nat=>(j:Int)) s (by
  exact List.Pairwise.map _ (fun a b e=>by intro q;exact e (Int.ofNat.inj q)) List.nodup_range) (fun x hx=>by
  obtain ⟨j,hj,rfl⟩:=List.mem_map.1 hx
  exact h j (List.mem_range.1 hj))
 simpa using this
theorem missG_spec (s:List Int):∀ f n:Nat,(∀ i:Nat,i<n→(i:Int) ∈ s)→s.length<n+f→((missG s f n:Nat):Int) ∉ s∧(∀ i:Nat,i<missG s f n→(i:Int) ∈ s)∧missG s f n≤s.length
 |0,n,h,hl=>by have:=all_le h;omega
 |f+1,n,h,hl=>by
  simp only[missG]
  by_cases hn:(n:Int) ∈ s
  ·rw[if_pos hn]
   refine missG_spec s f (n+1) (fun i hi=>?_) (by omega)
   by_cases e:i=n
   ·subst e;exact hn
   ·exact h i (by omega)
  ·rw[if_neg hn]
   exact⟨hn,h,all_le h⟩
theorem missN_spec (s:List Int):((missN s:Nat):Int) ∉ s∧(∀ i:Nat,i<missN s→(i:Int) ∈ s)∧missN s≤s.length:=missG_spec s _ 0 (fun i hi=>by omega) (by omega)
def missS (d:List Dt) (t:Int) (rows:List (List Pt)):Pt:=
 if 0<(consS rows).length then .mk 1 (missN (consS rows):Nat) 0 (List.replicate (fldsOf d t (missN (consS rows))).length wildT)
 else if 0<(numsS rows).length then .mk 2 0 (missN (numsS rows):Nat) []
 else wildT
def wfS (i n:Nat) (w:List Pt):List Pt:=.mk 1 (i:Int) 0 (w.take n)::w.drop n
def wiS (d:List Dt):Nat→List Int→List (List Pt)→Option (List Pt)
 |0,_,_=>none
 |_+1,[],rows=>if rows.length=0 then some [] else none
 |k+1,t::ts,rows=>
  if t=0∨(consS rows).length<(consOf d t).length then (wiS d k ts (restS wildP rows)).map (missS d t rows :: ·)
  else (List.range (consOf d t).length).findSome? fun i=>(wiS d k (fldsOf d t i++ts) (spS (i:Int) (fldsOf d t i).length rows)).map (wfS i (fldsOf d t i).length)
theorem wiS_len (d:List Dt):∀ (k:Nat) (ts:List Int) (rows:List (List Pt)) (w:List Pt),wiS d k ts rows=some w→w.length=ts.length
 |0,_,_,_,h=>by cases h
 |k+1,[],rows,w,h=>by
  simp only[wiS] at h
  split at h
  ·cases h;rfl
  ·cases h
 |k+1,t::ts,rows,w,h=>by
  simp only[wiS] at h
  split at h
  ·simp only[Option.map_eq_some_iff] at h
   obtain ⟨v,hv,rfl⟩:=h
   rw[List.length_cons,List.length_cons,wiS_len d k _ _ _ hv]
  ·obtain ⟨i,_,hi⟩:=List.exists_of_findSome?_eq_some h
   simp only[Option.map_eq_some_iff] at hi
   obtain ⟨v,hv,rfl⟩:=hi
   have:=wiS_len d k _ _ _ hv
   rw[List.length_append] at this
   simp only[wfS,List.length_cons,List.length_drop]
   omega
theorem fs_from {β:Type} (g:Nat→Option β) (n:Nat) (b:β):∀ (K s:Nat),s≤n→n<s+K→(∀ i,s≤i→i<n→g i=none)→g n=some b→(List.range' s K).findSome? g=some b
 |0,s,h1,h2,_,_=>by omega
 |K+1,s,h1,h2,h3,h4=>by
  rw[List.range'_succ,List.findSome?_cons]
  by_cases e:s=n
  ·subst e;rw[h4]
  ·rw[h3 s (Nat.le_refl s) (by omega)]
   exact fs_from g n b K (s+1) (by omega) (by omega) (fun i hi hn=>h3 i (by omega) hn) h4
theorem fs_at {β:Type} {g:Nat→Option β} {n K:Nat} {b:β} (hn:n<K) (h:∀ i,i<n→g i=none) (hg:g n=some b):(List.range K).findSome? g=some b:=by
 rw[List.range_eq_range']
 exact fs_from g n b K 0 (Nat.zero_le _) (by omega) (fun i _ hi=>h i hi) hg
theorem fs_none {β:Type} {g:Nat→Option β} {K:Nat} (h:∀ i,i<K→g i=none):(List.range K).findSome? g=none:=by
 rw[List.findSome?_eq_none_iff]
 exact fun x hx=>h x (List.mem_range.1 hx)
theorem loop_fs {β:Type} {a:AC} {K:Nat} {p:Nat→Option β} {f:Nat→Env} {O:List (Nat × Ob)} {O2:β→List (Nat × Ob)} {x1 x2:Ex} {e2:Env} {q0:Nat}
  (hs:∀ q n,n<K→p n=none→wp tab a (f n) ⟨O,q⟩ (fun o=>∃ q',o=(.norm,f (n+1),⟨O,q'⟩)∧q≤q'))
  (hx:∀ q n b,n<K→p n=some b→wp tab a (f n) ⟨O,q⟩ (fun o=>∃ e q',o=(x1,e,⟨O2 b,q'⟩)∧q≤q'))
  (hN:∀ q,wp tab a (f K) ⟨O,q⟩ (fun o=>∃ q',o=(x2,e2,⟨O,q'⟩)∧q≤q')) (ho:x1≠.norm) (hoN:x2≠.norm) :
  ∃ e q',q0≤q'∧ex tab (.loop a) (f 0) ⟨O,q0⟩=some (match (List.range K).findSome? p with
   |some b=>(x1,e,⟨O2 b,q'⟩)
   |none=>(x2,e2,⟨O,q'⟩)):=by
 obtain ⟨o,h1,e,q,hqq,h2⟩:wp tab (.loop a) (f 0) ⟨O,q0⟩ (fun o=>∃ e q',q0≤q'∧o=match (List.range K).findSome? p with
   |some b=>(x1,e,⟨O2 b,q'⟩)
   |none=>(x2,e2,⟨O,q'⟩)):=by
  refine loop_wp K (fun n e h'=>(∃ q,q0≤q∧h'=⟨O,q⟩)∧e=f n∧∀ i,i<n→p i=none) _ ?_ ?_ K 0 _ _ (by omega) ⟨⟨q0,Nat.le_refl _,rfl⟩,rfl,fun i hi=>by omega⟩
  ·rintro n e h' hn ⟨⟨q,hqn,rfl⟩,rfl,hk⟩
   cases hp:p n with
   |some b=>
    obtain ⟨o,hq,e,q',rfl,hle⟩:=hx q n b hn hp
    rw[fs_at hn hk hp]
    exact⟨_,hq,.inr ⟨ho,e,q',Nat.le_trans hqn hle,rfl⟩⟩
   |none=>
    obtain ⟨o,hq,q',rfl,hle⟩:=hs q n hn hp
    refine ⟨_,hq,.inl ⟨rfl,⟨q',Nat.le_trans hqn hle,rfl⟩,rfl,fun i hi=>?_⟩⟩
    by_cases hij:i=n
    ·subst hij;exact hp
    ·exact hk i (by omega)
  ·rintro e h' ⟨⟨q,hqn,rfl⟩,rfl,hk⟩
   rw[fs_none hk]
   obtain ⟨o,hq,q',rfl,hle⟩:=hN q
   exact⟨_,hq,hoN,f 0,q',Nat.le_trans hqn hle,rfl⟩
 exact⟨e,q,hqq,by rw[h1,h2]⟩
section
variable (o:List (Nat × Ob)) (H:Nat) (A B:List Int) (e0:List (Nat × V))
def W0 (v:V) (b:Bool) (q:Nat):Hp:=⟨(H+3,.arr 1 [.d (.bool b)])::(H+2,.arr 1 [v])::o,q⟩
def WV (v:V) (b:Bool) (q:Nat):Hp:=⟨(H+5,.mp (kvB B))::(H+4,.mp (kvB A))::(H+3,.arr 1 [.d (.bool b)])::(H+2,.arr 1 [v])::o,q⟩
def WU (v:V) (b:Bool) (s:Option Ex) (q:Nat):Hp:=⟨(H+9,.lp 1312 e0 s)::(H+5,.mp (kvB B))::(H+4,.mp (kvB A))::(H+3,.arr 1 [.d (.bool b)])::(H+2,.arr 1 [v])::o,q⟩
theorem W0_r2 (v b q):(W0 o H v b q).row (H+2) 1=some (1,[v]):=by unfold W0 Hp.row Hp.get;simp[Zv.look]
theorem W0_r3 (v b q):(W0 o H v b q).row (H+3) 1=some (1,[.d (.bool b)]):=by unfold W0 Hp.row Hp.get;simp[Zv.look]
theorem WV_r2 (v b q):(WV o H A B v b q).row (H+2) 1=some (1,[v]):=by unfold WV Hp.row Hp.get;simp[Zv.look]
theorem WV_r3 (v b q):(WV o H A B v b q).row (H+3) 1=some (1,[.d (.bool b)]):=by unfold WV Hp.row Hp.get;simp[Zv.look]
theorem WU_r2 (v b s q):(WU o H A B e0 v b s q).row (H+2) 1=some (1,[v]):=by unfold WU Hp.row Hp.get;simp[Zv.look]
theorem WU_r3 (v b s q):(WU o H A B e0 v b s q).row (H+3) 1=some (1,[.d (.bool b)]):=by unfold WU Hp.row Hp.get;simp[Zv.look]
theorem W0_s2 (v b q) (x:V) (hs:stor x=true) (hc:x.cells.length=1):st 1 (W0 o H v b q) (.ptr (H+2) 1 0 0) x=some (W0 o H x b q):=by
 unfold st;simp only[W0_r2,Option.bind_some,hs,hc];simp[W0,Hp.set,upd]
theorem W0_s3 (v b q) (c:Bool):st 1 (W0 o H v b q) (.ptr (H+3) 1 0 0) (.d (.bool c))=some (W0 o H v c q):=by
 unfold st;simp only[W0_r3,Option.bind_some];simp[W0,Hp.set,upd,V.cells,stor,D.cells]
theorem WV_s2 (v b q) (x:V) (hs:stor x=true) (hc:x.cells.length=1):st 1 (WV o H A B v b q) (.ptr (H+2) 1 0 0) x=some (WV o H A B x b q):=by
 unfold st;simp only[WV_r2,Option.bind_some,hs,hc];simp[WV,Hp.set,upd]
theorem WV_s3 (v b q) (c:Bool):st 1 (WV o H A B v b q) (.ptr (H+3) 1 0 0) (.d (.bool c))=some (WV o H A B v c q):=by
 unfold st;simp only[WV_r3,Option.bind_some];simp[WV,Hp.set,upd,V.cells,stor,D.cells]
theorem WU_s2 (v b s q) (x:V) (hs:stor x=true) (hc:x.cells.length=1):st 1 (WU o H A B e0 v b s q) (.ptr (H+2) 1 0 0) x=some (WU o H A B e0 x b s q):=by
 unfold st;simp only[WU_r2,Option.bind_some,hs,hc];simp[WU,Hp.set,upd]
theorem WU_s3 (v b s q) (c:Bool):st 1 (WU o H A B e0 v b s q) (.ptr (H+3) 1 0 0) (.d (.bool c))=some (WU o H A B e0 v c s q):=by
 unfold st;simp only[WU_r3,Option.bind_some];simp[WU,Hp.set,upd,V.cells,stor,D.cells]
theorem WU_get (v b s q):(WU o H A B e0 v b s q).get (H+9)=some (.lp 1312 e0 s):=by unfold WU Hp.get;simp[Zv.look]
theorem WU_set (v b s s' q):(WU o H A B e0 v b s q).set (H+9) (.lp 1312 e0 s')=WU o H A B e0 v b s' q:=by unfold WU Hp.set;simp[upd]
theorem WU_kill (v b s q):(WU o H A B e0 v b s q).kill (H+9)=WV o H A B v b q:=by unfold WU WV Hp.kill;simp[del]
theorem WU_mk (v b s q q'):(⟨(WU o H A B e0 v b s q).objs,q'⟩:Hp)=WU o H A B e0 v b s q':=rfl
theorem WU_next (v b s q):(WU o H A B e0 v b s q).next=q:=rfl
theorem WV_mk (v b q q'):(⟨(WV o H A B v b q).objs,q'⟩:Hp)=WV o H A B v b q':=rfl
theorem WV_next (v b q):(WV o H A B v b q).next=q:=rfl
theorem WV_of (v b):HM2 ((H+3,.arr 1 [.d (.bool b)])::(H+2,.arr 1 [v])::o) (H+4) A B=WV o H A B v b (H+6):=rfl
theorem WV_lenA (v b q):lenM (WV o H A B v b q) (.map (H+4))=some (.d (.int .i64 (A.length:Int))):=by
 unfold lenM entries WV Hp.get;simp[Zv.look,kvB,int]
end
theorem W0_fin (h:Hp) (b q):finS h (W0 h.objs h.next (.tl [] (some true)) b q) [.tl [] (some true),.d (.bool b)]=some (.tup [.d (.lst []),.d (.bool b)],h):=by
 have hs:sufOk h.objs (W0 h.objs h.next (.tl [] (some true)) b q).objs=true:=suf_app [_,_] h.objs
 unfold finS
 rw[if_pos hs]
 rfl
theorem WV_fin0 (h:Hp) (A B:List Int) (b q):finS h (WV h.objs h.next A B (.tl [] (some true)) b q) [.tl [] (some true),.d (.bool b)]=some (.tup [.d (.lst []),.d (.bool b)],h):=by
 have hs:sufOk h.objs (WV h.objs h.next A B (.tl [] (some true)) b q).objs=true:=suf_app [_,_,_,_] h.objs
 unfold finS
 rw[if_pos hs]
 rfl
theorem WV_fin (h:Hp) (A B:List Int) (v:V) (b q) (x:D):finS h (WV h.objs h.next A B v b q) [.d x,.d (.bool b)]=some (.tup [.d x,.d (.bool b)],h):=by
 refine finS_suf (vs:=[x,.bool b]) ?_
 exact suf_app [_,_,_,_] h.objs
def wiV:Option (List Pt)→V
 |none=>.tup [.d (.lst []),.d (.bool false)]
 |some w=>.tup [.d (ePs w),.d (.bool true)]
end Zc28
end
section
set_option maxHeartbeats 4000000
namespace Zc28
open Go Zv Zs
theorem wit_r0 (a b c:D) (ha:a.cells.length=1) (hb:b.cells.length=1) (h:Hp) :
  ex tab f82r0 (args 0 [.d a,.d b,.d c]) h=some (.norm,[(2,.d c),(3,.fp a 0),(4,.fp b 0),(6,.ptr (h.next+2) 1 0 0),(7,.ptr (h.next+3) 1 0 0)],W0 h.objs h.next (.tl [] (some true)) false (h.next+4)):=by
 apply wq_ex.1
 simp only[e82,ha,hb,frz_4,frz_3,wz,opX,intBin,↓reduceIte,simprocAttr]
 rfl
theorem slcPt {w:List Pt} {n:Nat} (hn:n≤w.length):slc 4 (.d (.lst (w.map ePt))) none (some (.d (.int .i64 (n:Int))))=some (.d (.lst ((w.take n).map ePt))):=by
 rw[slc_all ptcells (by rw[List.length_map];exact hn),List.map_take]
theorem slcPd {w:List Pt} {n:Nat} (hn:n≤w.length):slc 4 (.d (.lst (w.map ePt))) (some (.d (.int .i64 (n:Int)))) none=some (.d (.lst ((w.drop n).map ePt))):=by
 rw[slc_from ptcells (by rw[List.length_map];exact hn),List.map_drop]
theorem app_one (p:Pt) (l:List Pt) (nl:Option Bool) (h:Hp) (hl:l.length≤100000):((app 4 48 h (.tl [.d (ePt p)] nl) (.d (.lst (l.map ePt)))).bind fun r=>Zv.frz r.2 r.1)=some (.d (.lst (ePt p::l.map ePt)),⟨h.objs,if l=[] then h.next else h.next+1⟩):=by
 by_cases h0:l=[]
 ·subst h0;rfl
 ·have he:(l.map ePt).map V.d≠[]:=by simpa using h0
  have h1:((l.map ePt).map V.d).isEmpty=false:=by cases l with | nil=>exact absurd rfl h0 | cons=>rfl
  unfold app
  simp only[elems,Option.bind_some,norm_map_d,allV_d ptcells,if_true,h1,Bool.false_eq_true,if_false,List.length_cons,List.length_nil,List.length_map]
  rw[if_pos ⟨by simp only[roomB];omega,by simp[Zv.allV,V.cells,ePt_cells]⟩]
  simp only[Option.bind_some,if_neg h0]
  have hrow:(h.alloc (.arr 4 ([V.d (ePt p)]++(l.map ePt).map V.d))).row h.next (0+1+l.length)=some (4,((p::l).map ePt).map V.d):=by
   rw[alloc_eq,row_cons];simp;omega
  simp only[Zv.frz,hrow,Option.bind_some]
  rw[if_pos (by simp;omega),List.drop_zero,List.take_of_length_le (by simp;omega),toDs_map]
  simp[Hp.kill,Hp.alloc,del]
def wuX:Option (List Pt)→Ex
 |none=>.norm
 |some _=>.ret
def wuS:Option (List Pt)→Option Ex
 |none=>none
 |some _=>some .ret
def wuN (o:List (Nat × Ob)) (H:Nat) (A B:List Int) (e0:List (Nat × V)) (i n:Nat) (s:Option Ex):Option (List Pt)→Nat→Hp
 |none,q=>WU o H A B e0 (.tl [] (some true)) false s q
 |some w,q=>WU o H A B e0 (.d (ePs (wfS i n w))) true s q
theorem wuN_get (o:List (Nat × Ob)) (H:Nat) (A B:List Int) (e0:List (Nat × V)) (i n:Nat) (s u q):(wuN o H A B e0 i n s u q).get (H+9)=some (.lp 1312 e0 s):=by cases u<;>exact WU_get ..
theorem wuN_set (o:List (Nat × Ob)) (H:Nat) (A B:List Int) (e0:List (Nat × V)) (i n:Nat) (s s' u q):(wuN o H A B e0 i n s u q).set (H+9) (.lp 1312 e0 s')=wuN o H A B e0 i n s' u q:=by cases u<;>exact WU_set ..
theorem wround_ok {d:List Dt} {n i:Nat} {y:Dt} {z:Cn} (hy:d[n]? = some y) (hz:y.cons[i]? = some z) (hd:d.length<2 ^ 60) (hf:z.flds.length≤8) {ts:List Int} (hl:ts.length≤10000) {m:List (List Pt)} {u:Option (List Pt)}
  (hu:∀ h,callW tab 82 [.d (eDs d),.d (eIs (z.flds++ts)),.d (eRs m)] h=some (wiV u,h)) (hul:∀ w,u=some w→w.length=z.flds.length+ts.length) (o:List (Nat × Ob)) (H:Nat) (A B:List Int) (cl:V) (q:Nat) :
  let e0:List (Nat × V):=[(3,.fp (eDs d) 0),(4,.fp (eIs (((n:Int)+1)::ts)) 0),(6,.ptr (H+2) 1 0 0),(7,.ptr (H+3) 1 0 0),(52,cl)]
  ∃ q',q≤q'∧cW tab (.yld (H+9)) [.d (eI (i:Int)),.d (eRs m)] (WU o H A B e0 (.tl [] (some true)) false none q)=some (.d (.bool u.isNone),wuN o H A B e0 i z.flds.length (wuS u) u q'):=by
 intro e0
 have hn:=(List.getElem?_eq_some_iff.1 hy).1
 have hw:=wrap_sub1 (n:=n) (by omega)
 have hun:∀ h,callW tab 104 [.d (eDs d),.d (.lst (eI ((n:Int)+1)::ts.map eI)),.d (eI (i:Int))] h=some (.d (eIs (z.flds++ts)),h):=fun h=>under_ok hy hz hd ts hf hl h
 have hia:ia 1 (.d (.lst (eI ((n:Int)+1)::ts.map eI))) (.d (.int .i64 0))=some (.fp (eI ((n:Int)+1)) 0):=iaI0 _ _
 have hbody:wp tab d82q0 [(3,.fp (eDs d) 0),(4,.fp (eIs (((n:Int)+1)::ts)) 0),(6,.ptr (H+2) 1 0 0),(7,.ptr (H+3) 1 0 0),(10,.d (eI (i:Int))),(11,.d (eRs m))] (WU o H A B e0 (.tl [] (some true)) false (some .norm) q)
   (fun r=>∃ e' q',q≤q'∧r=(wuX u,e',wuN o H A B e0 i z.flds.length (some .norm) u q')):=by
  unfold d82q0
  cases u with
  |none=>
   simp only[e82,hun,hu,wiV,wz,opX,intBin,↓reduceIte,simprocAttr]
   exact⟨_,q,Nat.le_refl _,rfl,rfl,rfl⟩
  |some w=>
   have hwl:=hul w rfl
   have hE:D.agg [.int .i64 1,.int .i64 (i:Int),.int .i64 0,.lst ((w.take z.flds.length).map ePt)]=ePt (.mk 1 (i:Int) 0 (w.take z.flds.length)):=(ePt_mk ..).symm
   have hsl:=slcPt (w:=w) (n:=z.flds.length) (by omega)
   have hsd:=slcPd (w:=w) (n:=z.flds.length) (by omega)
   have hcl:∀ h,callW tab 106 [.d (.lst ((w.take z.flds.length).map ePt))] h=_:=fun h=>cloneP_ok (w.take z.flds.length) (by rw[List.length_take];omega) h
   have happ:=fun h=>app_one (.mk 1 (i:Int) 0 (w.take z.flds.length)) (w.drop z.flds.length) (some false) h (by rw[List.length_drop];omega)
   have hst2:=fun q=>WU_s2 o H A B e0 (.tl [] (some true)) false (some .norm) q (.d (ePs (wfS i z.flds.length w))) rfl rfl
   have hst3:=fun q=>WU_s3 o H A B e0 (.d (ePs (wfS i z.flds.length w))) false (some .norm) q true
   have hP:ePs (wfS i z.flds.length w)=.lst (ePt (.mk 1 (i:Int) 0 (w.take z.flds.length))::(w.drop z.flds.length).map ePt):=rfl
   rw[hP] at hst2 hst3
   simp only[e82,hw,iaI0,hia,hun,hu,wiV,iaD hy,iaC hz,hsl,hsd,hcl,clo_frz,hE,ePt_cells,happ,WU_mk,WU_next,hst2,hst3,wz,opX,intBin,↓reduceIte,simprocAttr]
   refine ⟨_,_,?_,rfl,rfl,rfl⟩
   split<;>split<;>omega
 obtain ⟨r,hr,e',q',hq,rfl⟩:=hbody
 have:=cW_yld (T:=tab) (n:=H+9) (b:=1312) (e:=e0) (vs:=[.d (eI (i:Int)),.d (eRs m)]) (h:=WU o H A B e0 (.tl [] (some true)) false none q) (fn:=f1001312) (asg:=a82q0) (bdy:=d82q0) (e1:=[(3,.fp (eDs d) 0),(4,.fp (eIs (((n:Int)+1)::ts)) 0),(6,.ptr (H+2) 1 0 0),(7,.ptr (H+3) 1 0 0),(10,.d (eI (i:Int))),(11,.d (eRs m))]) (h1:=WU o H A B e0 (.tl [] (some true)) false none q) (b':=1312) (e':=e0)
  (WU_get ..) rfl rfl rfl (by unfold a82q0;apply wq_ex.1;simp only[e82,binds,f1001312,wz,opX,intBin,↓reduceIte,simprocAttr];rfl) (WU_get ..) (by rw[WU_set];exact hr)
 refine ⟨q',hq,?_⟩
 rw[this]
 unfold rndEnd
 simp only[wuN_get]
 cases u<;>simp[wuN_set,wuX,wuS]<;>rfl
theorem wrange_ok {d:List Dt} {n:Nat} {y:Dt} (hy:d[n]? = some y) (hd:d.length<2 ^ 60) (hK:y.cons.length≤8) (hf:∀ z,z ∈ y.cons→z.flds.length≤8) {ts:List Int} (hts:ts.length≤10000)
  (l:List (List Pt)) (hl:l.length≤1000) (hlr:∀ r,r ∈ l→r≠[]∧r.length≤10000∧∀ p,p ∈ r→(argsP p).length≤10000) {u:Nat→Option (List Pt)}
  (hu:∀ (i:Nat) (z:Cn),y.cons[i]? = some z→(∀ h,callW tab 82 [.d (eDs d),.d (eIs (z.flds++ts)),.d (eRs (spS (i:Int) z.flds.length l))] h=some (wiV (u i),h))∧∀ w,u i=some w→w.length=z.flds.length+ts.length) (o:List (Nat × Ob)) (H:Nat) (A B:List Int) :
  let cl:V:=.clo 134 [.fp (eDs d) 0,.fp (eIs (((n:Int)+1)::ts)) 0,.fp (eRs l) 0]
  let e0:List (Nat × V):=[(3,.fp (eDs d) 0),(4,.fp (eIs (((n:Int)+1)::ts)) 0),(6,.ptr (H+2) 1 0 0),(7,.ptr (H+3) 1 0 0),(52,cl)]
  ∃ q,callW tab 134 [.yld (H+9),.fp (eDs d) 0,.fp (eIs (((n:Int)+1)::ts)) 0,.fp (eRs l) 0] (WU o H A B e0 (.tl [] (some true)) false none (H+10))=some (.tup [],match (List.range y.cons.length).findSome? (fun i=>(u i).map (wfS i (match y.cons[i]? with | some z=>z.flds.length | none=>0))) with
   |none=>WU o H A B e0 (.tl [] (some true)) false none q
   |some w=>WU o H A B e0 (.d (ePs w)) true (some .ret) q):=by
 intro cl e0
 have hn:=(List.getElem?_eq_some_iff.1 hy).1
 have hw:=wrap_sub1 (n:=n) (by omega)
 have hia:ia 1 (.d (.lst (eI ((n:Int)+1)::ts.map eI))) (.d (.int .i64 0))=some (.fp (eI ((n:Int)+1)) 0):=iaI0 _ _
 obtain ⟨e,q',hq,hloop⟩:=loop_fs (a:=f134l0) (K:=y.cons.length) (p:=fun i=>(u i).map (wfS i (match y.cons[i]? with | some z=>z.flds.length | none=>0))) (f:=fun i=>[(0,.yld (H+9)),(3,.fp (eRs l) 0),(14,.d (.lst (y.cons.map eC))),(15,.d (.int .i64 (y.cons.length:Int))),(16,.d (.int .i64 (i:Int)))]) (O:=(WU o H A B e0 (.tl [] (some true)) false none 0).objs) (O2:=fun w=>(WU o H A B e0 (.d (ePs w)) true (some .ret) 0).objs) (x1:=.ret) (x2:=.exit 0) (e2:=[(0,.yld (H+9)),(3,.fp (eRs l) 0),(14,.d (.lst (y.cons.map eC))),(15,.d (.int .i64 (y.cons.length:Int))),(16,.d (.int .i64 (y.cons.length:Int))),(17,.d (.bool false))]) (q0:=H+10)
  (by
   intro q i hi hp
   obtain ⟨z,hz⟩:=get_of_lt (l:=y.cons) (n:=i) hi
   have hzf:=hf z (List.mem_of_getElem? hz)
   have hu0:u i=none:=by simpa using hp
   obtain ⟨q',hqq,hround⟩:∃ q',q+1≤q'∧cW tab (.yld (H+9)) [.d (eI (i:Int)),.d (eRs (spS (i:Int) z.flds.length l))] (WU o H A B e0 (.tl [] (some true)) false none (q+1))=some (.d (.bool (u i).isNone),wuN o H A B e0 i z.flds.length (wuS (u i)) (u i) q'):=wround_ok hy hz hd hzf hts (hu i z hz).1 (hu i z hz).2 o H A B cl (q+1)
   have hsp:=fun h=>special_ok (i:Int) z.flds.length (by omega) l hl hlr h
   rw[hu0] at hround
   simp only[Option.isNone_none,wuS,wuN] at hround
   simp only[hi,e134,iaC hz,hsp,hround,WU_mk,WU_next,wrap_succ (show i<2 ^ 62 by omega),wz,opX,intBin,↓reduceIte,simprocAttr]
   exact⟨_,rfl,by omega⟩)
  (by
   intro q i w hi hp
   obtain ⟨z,hz⟩:=get_of_lt (l:=y.cons) (n:=i) hi
   have hzf:=hf z (List.mem_of_getElem? hz)
   simp only[Option.map_eq_some_iff,hz] at hp
   obtain ⟨w',hu0,rfl⟩:=hp
   obtain ⟨q',hqq,hround⟩:∃ q',q+1≤q'∧cW tab (.yld (H+9)) [.d (eI (i:Int)),.d (eRs (spS (i:Int) z.flds.length l))] (WU o H A B e0 (.tl [] (some true)) false none (q+1))=some (.d (.bool (u i).isNone),wuN o H A B e0 i z.flds.length (wuS (u i)) (u i) q'):=wround_ok hy hz hd hzf hts (hu i z hz).1 (hu i z hz).2 o H A B cl (q+1)
   have hsp:=fun h=>special_ok (i:Int) z.flds.length (by omega) l hl hlr h
   rw[hu0] at hround
   simp only[Option.isNone_some,wuS,wuN] at hround
   simp only[hi,e134,iaC hz,hsp,hround,WU_mk,WU_next,wrap_succ (show i<2 ^ 62 by omega),wz,opX,intBin,↓reduceIte,simprocAttr]
   exact⟨_,_,⟨rfl,rfl⟩,by omega⟩)
  (by
   intro q
   simp only[e134,WU_mk,wz,opX,intBin,↓reduceIte,simprocAttr]
   exact⟨_,rfl,by omega⟩)
  (by simp) (by simp)
 refine ⟨q',call_wp (fn:=f134) rfl rfl ?_⟩
 simp only[WU_mk,Int.cast_ofNat_Int] at hloop
 cases hany:(List.range y.cons.length).findSome? (fun i=>(u i).map (wfS i (match y.cons[i]? with | some z=>z.flds.length | none=>0))) with
 |none=>
  rw[hany] at hloop
  simp only[e134,hw,iaI0,hia,iaD hy,WU_mk,wq_of hloop,wz,opX,intBin,↓reduceIte,simprocAttr]
 |some w=>
  rw[hany] at hloop
  simp only[e134,hw,iaI0,hia,iaD hy,WU_mk,wq_of hloop,wz,opX,intBin,↓reduceIte,simprocAttr]
end Zc28
end
section
set_option maxHeartbeats 4000000
namespace Zc28
open Go Zv Zs
section
variable (o:List (Nat × Ob)) (H:Nat) (A B:List Int)
def WH (p v:V) (b:Bool) (q:Nat):Hp:=⟨(H+6,.arr 4 [p])::(H+5,.mp (kvB B))::(H+4,.mp (kvB A))::(H+3,.arr 1 [.d (.bool b)])::(H+2,.arr 1 [v])::o,q⟩
theorem WH_of (p v b q q'):(⟨(H+6,.arr 4 [p])::(WV o H A B v b q).objs,q'⟩:Hp)=WH o H A B p v b q':=rfl
theorem WH_mk (p v b q q'):(⟨(WH o H A B p v b q).objs,q'⟩:Hp)=WH o H A B p v b q':=rfl
theorem WH_next (p v b q):(WH o H A B p v b q).next=q:=rfl
theorem WH_r2 (p v b q):(WH o H A B p v b q).row (H+2) 1=some (1,[v]):=by unfold WH Hp.row Hp.get;simp[Zv.look]
theorem WH_r3 (p v b q):(WH o H A B p v b q).row (H+3) 1=some (1,[.d (.bool b)]):=by unfold WH Hp.row Hp.get;simp[Zv.look]
theorem WH_r6 (p v b q):(WH o H A B p v b q).row (H+6) 1=some (4,[p]):=by unfold WH Hp.row Hp.get;simp[Zv.look]
theorem WH_s2 (p v b q) (x:V) (hs:stor x=true) (hc:x.cells.length=1):st 1 (WH o H A B p v b q) (.ptr (H+2) 1 0 0) x=some (WH o H A B p x b q):=by
 unfold st;simp only[WH_r2,Option.bind_some,hs,hc];simp[WH,Hp.set,upd]
theorem WH_s3 (p v b q) (c:Bool):st 1 (WH o H A B p v b q) (.ptr (H+3) 1 0 0) (.d (.bool c))=some (WH o H A B p v c q):=by
 unfold st;simp only[WH_r3,Option.bind_some];simp[WH,Hp.set,upd,V.cells,stor,D.cells]
theorem WH_s6 (p v b q) (x:V) (hs:stor x=true) (hc:x.cells.length=4):st 4 (WH o H A B p v b q) (.ptr (H+6) 1 0 0) x=some (WH o H A B x v b q):=by
 unfold st;simp only[WH_r6,Option.bind_some,hs,hc];simp[WH,Hp.set,upd]
theorem WH_l6 (l:List V) (v b q):ld true 4 (WH o H A B (.agg l) v b q) (.ptr (H+6) 1 0 0)=some (.agg l):=by unfold ld;simp[WH_r6]
theorem WH_kill (p v b q):(WH o H A B p v b q).kill (H+6)=WV o H A B v b q:=by unfold WH WV Hp.kill;simp[del]
theorem WH_lenA (p v b q):lenM (WH o H A B p v b q) (.map (H+4))=some (.d (.int .i64 (A.length:Int))):=by
 unfold lenM entries WH Hp.get;simp[Zv.look,kvB,int]
theorem WH_lenB (p v b q):lenM (WH o H A B p v b q) (.map (H+5))=some (.d (.int .i64 (B.length:Int))):=by
 unfold lenM entries WH Hp.get;simp[Zv.look,kvB,int]
theorem WH_lkA (p v b q) (c:Int):lk .i (.d (.bool false)) false (WH o H A B p v b q) (.map (H+4)) (.d (.int .i64 c))=some (.d (.bool (decide (c ∈ A)))):=by
 have hg:entries (WH o H A B p v b q) (.map (H+4))=some (kvB A):=by unfold entries WH Hp.get;simp[Zv.look]
 unfold lk
 simp only[hg,Option.bind_some]
 have:=findK_B c A
 simp only[this,Option.map_some]
 by_cases hc:c ∈ A<;>simp[hc]
theorem WH_lkB (p v b q) (c:Int):lk .i (.d (.bool false)) false (WH o H A B p v b q) (.map (H+5)) (.d (.int .i64 c))=some (.d (.bool (decide (c ∈ B)))):=by
 have hg:entries (WH o H A B p v b q) (.map (H+5))=some (kvB B):=by unfold entries WH Hp.get;simp[Zv.look]
 unfold lk
 simp only[hg,Option.bind_some]
 have:=findK_B c B
 simp only[this,Option.map_some]
 by_cases hc:c ∈ B<;>simp[hc]
theorem loopA_ok (a3 a4 a15 p v:V) (b:Bool) (q:Nat) (hA:A.length≤1000) :
  ex tab (.loop f82l0) [(3,a3),(4,a4),(6,.ptr (H+2) 1 0 0),(7,.ptr (H+3) 1 0 0),(8,.map (H+4)),(15,a15),(17,.ptr (H+6) 1 0 0),(18,.d (.int .i64 0))] (WH o H A B p v b q) =
   some (.exit 3,[(3,a3),(4,a4),(6,.ptr (H+2) 1 0 0),(7,.ptr (H+3) 1 0 0),(8,.map (H+4)),(15,a15),(17,.ptr (H+6) 1 0 0),(18,.d (.int .i64 (missN A:Nat))),(108,.d (.bool false))],WH o H A B p v b q):=by
 obtain ⟨m1,m2,m3⟩:=missN_spec A
 have:=loop_from tab f82l0 (fun n=>[(3,a3),(4,a4),(6,.ptr (H+2) 1 0 0),(7,.ptr (H+3) 1 0 0),(8,.map (H+4)),(15,a15),(17,.ptr (H+6) 1 0 0),(18,.d (.int .i64 (n:Int)))]) (fun _=>WH o H A B p v b q) (missN A) (.exit 3,[(3,a3),(4,a4),(6,.ptr (H+2) 1 0 0),(7,.ptr (H+3) 1 0 0),(8,.map (H+4)),(15,a15),(17,.ptr (H+6) 1 0 0),(18,.d (.int .i64 (missN A:Nat))),(108,.d (.bool false))],WH o H A B p v b q)
  (by
   intro n hn
   have:=m2 n hn
   apply wq_ex.1
   simp only[e82,WH_lkA,this,wrap_succ (show n<2 ^ 62 by omega),wz,opX,intBin,↓reduceIte,simprocAttr])
  (by
   apply wq_ex.1
   simp only[e82,WH_lkA,m1,wz,opX,intBin,↓reduceIte,simprocAttr])
  (by simp) (missN A) 0 (by omega)
 simpa using this
theorem loopB_ok (a15 p v:V) (b:Bool) (q:Nat) (hB:B.length≤1000) :
  ex tab (.loop f82l1) [(6,.ptr (H+2) 1 0 0),(7,.ptr (H+3) 1 0 0),(9,.map (H+5)),(15,a15),(17,.ptr (H+6) 1 0 0),(19,.d (.int .i64 0))] (WH o H A B p v b q) =
   some (.exit 5,[(6,.ptr (H+2) 1 0 0),(7,.ptr (H+3) 1 0 0),(9,.map (H+5)),(15,a15),(17,.ptr (H+6) 1 0 0),(19,.d (.int .i64 (missN B:Nat))),(133,.d (.bool false))],WH o H A B p v b q):=by
 obtain ⟨m1,m2,m3⟩:=missN_spec B
 have:=loop_from tab f82l1 (fun n=>[(6,.ptr (H+2) 1 0 0),(7,.ptr (H+3) 1 0 0),(9,.map (H+5)),(15,a15),(17,.ptr (H+6) 1 0 0),(19,.d (.int .i64 (n:Int)))]) (fun _=>WH o H A B p v b q) (missN B) (.exit 5,[(6,.ptr (H+2) 1 0 0),(7,.ptr (H+3) 1 0 0),(9,.map (H+5)),(15,a15),(17,.ptr (H+6) 1 0 0),(19,.d (.int .i64 (missN B:Nat))),(133,.d (.bool false))],WH o H A B p v b q)
  (by
   intro n hn
   have:=m2 n hn
   apply wq_ex.1
   simp only[e82,WH_lkB,this,wrap_succ (show n<2 ^ 62 by omega),wz,opX,intBin,↓reduceIte,simprocAttr])
  (by
   apply wq_ex.1
   simp only[e82,WH_lkB,m1,wz,opX,intBin,↓reduceIte,simprocAttr])
  (by simp) (missN B) 0 (by omega)
 simpa using this
end
theorem norm_pV (k c m:Int) (l:List Pt) (nl:Option Bool):norm (.agg [.d (.int .i64 k),.d (.int .i64 c),.d (.int .i64 m),.tl ((l.map ePt).map .d) nl])=.d (ePt (.mk k c m l)):=by
 unfold norm
 simp only[toD,toDs,toDs_map,Option.map_some]
 rw[ePt_mk]
theorem norm_pV0 (k c m:Int) (nl:Option Bool):norm (.agg [.d (.int .i64 k),.d (.int .i64 c),.d (.int .i64 m),.tl [] nl])=.d (ePt (.mk k c m [])):=norm_pV k c m [] nl
theorem consS_len0 {d:List Dt} {ts:List Int} {l:List (List Pt)} (h:fitM d (0::ts) l):(consS l).length=0:=by
 have:=consS_le h
 rw[consOf_lo (by omega)] at this
 simpa using this
theorem foldn_le:∀ (l:List (List Pt)) (B:List Int),(l.foldl nG B).length≤B.length+l.length
 | [],B=>by simp
 |r::l,B=>by
  rw[List.foldl_cons]
  have h1:=foldn_le l (nG B r)
  have h2:(nG B r).length≤B.length+1:=by
   cases r with
   |nil=>simp[nG]
   |cons p s=>
    unfold nG
    simp only
    split
    ·unfold addI;split<;>simp
    ·omega
  rw[List.length_cons];omega
theorem numsS_le (l:List (List Pt)):(numsS l).length≤l.length:=by
 have:=foldn_le l []
 simpa [numsS] using this
theorem foldcl_le:∀ (l:List (List Pt)) (A:List Int),(l.foldl cG A).length≤A.length+l.length
 | [],A=>by simp
 |r::l,A=>by
  rw[List.foldl_cons]
  have h1:=foldcl_le l (cG A r)
  have h2:(cG A r).length≤A.length+1:=by
   cases r with
   |nil=>simp[cG]
   |cons p s=>
    unfold cG
    simp only
    split
    ·unfold addI;split<;>simp
    ·omega
  rw[List.length_cons];omega
theorem consS_le' (l:List (List Pt)):(consS l).length≤l.length:=by
 have:=foldcl_le l []
 simpa [consS] using this
end Zc28
end
section
set_option maxHeartbeats 4000000
namespace Zc28
open Go Zv Zs
theorem mk_pat' (a b c:D) (l:List V) (nl:Option Bool):mkAgg [.d a,.d b,.d c,.tl l nl]=.agg [.d a,.d b,.d c,.tl l nl]:=rfl
theorem miss_lt {d:List Dt} {t:Int} {ts:List Int} {l:List (List Pt)} (h:fitM d (t::ts) l) (hlt:(consS l).length<(consOf d t).length):missN (consS l)<(consOf d t).length:=by
 have:=(missN_spec (consS l)).2.2
 omega
theorem witness_ok {d:List Dt} (S:Sml d) (T:typedS d=true):∀ (k:Nat) (ts:List Int) (rows:List (List Pt)),9*nwS rows+ts.length<k→9*nwS rows+ts.length≤8000→rows.length≤1000 →
  (∀ t,t ∈ ts→isT d t=true)→fitM d ts rows→∀ h,callW tab 82 [.d (eDs d),.d (eIs ts),.d (eRs rows)] h=some (wiV (wiS d k ts rows),h)
 |0,_,_,h,_,_,_,_,_=>by omega
 |k+1,[],rows,_,_,hl,_,_,h=>by
  refine call_wp (fn:=f82) rfl rfl ?_
  show wp tab (.seq f82r0 _) _ _ _
  rw[wq_seq,wq_of (wit_r0 (eDs d) (eIs []) (eRs rows) rfl rfl h)]
  have e0:((rows.length:Int) == 0)=decide (rows.length=0):=by simp[ibeq]
  simp only[wiS]
  have hs2:=fun b q=>W0_s2 h.objs h.next (.tl [] (some true)) b q (.tl [] (some true)) rfl rfl
  by_cases h0:rows.length=0
  ·simp only[e82,ibeq,e0,h0,hs2,W0_s3,W0_r2,W0_r3,W0_fin,wiV,wz,opX,intBin,↓reduceIte,simprocAttr]
   rfl
  ·simp only[e82,ibeq,e0,h0,hs2,W0_s3,W0_r2,W0_r3,W0_fin,wiV,wz,opX,intBin,↓reduceIte,simprocAttr]
 |k+1,t::ts,rows,hW,hB,hl,hT,hM,h=>by
  have hts:ts.length≤8000:=by rw[List.length_cons] at hB;omega
  have hrows:=fitM_rows S (by omega) hM
  have hTt:∀ f,f ∈ ts→isT d f=true:=fun f hf=>hT f (List.mem_cons_of_mem _ hf)
  rw[List.length_cons] at hW hB
  refine call_wp (fn:=f82) rfl rfl ?_
  show wp tab (.seq f82r0 _) _ _ _
  rw[wq_seq,wq_of (wit_r0 (eDs d) (eIs (t::ts)) (eRs rows) rfl rfl h)]
  have hne:(((ts.length+1:Nat):Int) == 0)=false:=by rw[ibeq];exact decide_eq_false (by omega)
  have hh:callW tab 110 [.d (eRs rows)] (W0 h.objs h.next (.tl [] (some true)) false (h.next+4))=some (.tup [.map (h.next+4),.map (h.next+5)],WV h.objs h.next (consS rows) (numsS rows) (.tl [] (some true)) false (h.next+6)):=heads_ok rows hl (fun r hr=>(hrows r hr).1) _
  by_cases hc:t=0∨(consS rows).length<(consOf d t).length
  ·have hrest:=fun h=>rests_ok (.clo 109 []) wildP rfl rows hl (fun r hr=>(hrows r hr).1) (fun p _ _ h=>by rw[cW_clo];exact wild_ok p h) h
   have hnw:=restS_nw wildP rows
   have hlen:=fm_len (restF wildP) rows
   have hIH:=witness_ok S T k ts (restS wildP rows) (by omega) (by omega) (Nat.le_trans hlen hl) hTt (restS_fit _ hM)
   have e:wiS d (k+1) (t::ts) rows=(wiS d k ts (restS wildP rows)).map (missS d t rows :: ·):=by
    simp only[wiS,if_pos hc]
   rw[e]
   have hwl:=wiS_len d k ts (restS wildP rows)
   generalize wiS d k ts (restS wildP rows)=u at hIH hwl
   have htest:∀ Q:Out→Prop,wp tab f82r4 [(2,.d (eRs rows)),(3,.fp (eDs d) 0),(4,.fp (eIs (t::ts)) 0),(6,.ptr (h.next+2) 1 0 0),(7,.ptr (h.next+3) 1 0 0),(8,.map (h.next+4)),(9,.map (h.next+5))] (WV h.objs h.next (consS rows) (numsS rows) (.tl [] (some true)) false (h.next+6)) Q =
     Q (.norm,[(2,.d (eRs rows)),(3,.fp (eDs d) 0),(4,.fp (eIs (t::ts)) 0),(6,.ptr (h.next+2) 1 0 0),(7,.ptr (h.next+3) 1 0 0),(8,.map (h.next+4)),(9,.map (h.next+5)),(48,.d (.bool false))],WV h.objs h.next (consS rows) (numsS rows) (.tl [] (some true)) false (h.next+6)):=by
    intro Q
    refine wq_of ?_ Q
    apply wq_ex.1
    by_cases ht:t=0
    ·simp only[e82,ht,iaI0,iaI0',ibne,wz,opX,intBin,↓reduceIte,simprocAttr]
    ·rcases tcase d t with h0 | h0 | ⟨n,y,rfl,hy⟩
     ·exfalso;have:=hT t List.mem_cons_self;simp only[isT,Bool.and_eq_true,decide_eq_true_eq] at this;omega
     ·exfalso;have:=hT t List.mem_cons_self;simp only[isT,Bool.and_eq_true,decide_eq_true_eq] at this;omega
     have hn:=(List.getElem?_eq_some_iff.1 hy).1
     have hsl:=S.len
     have hw:=wrap_sub1 (n:=n) (by omega)
     rw[consOf_at hy] at hc
     have hlt:=hc.resolve_left ht
     have hcl:(((consS rows).length:Int) == (y.cons.length:Int))=false:=by rw[ibeq];exact decide_eq_false (by omega)
     simp only[e82,ht,hw,iaI0,iaI0',iaD hy,ibne,WV_lenA,hcl,wz,opX,intBin,↓reduceIte,simprocAttr]
   cases u with
   |none=>
    have hs2:=fun b q=>WV_s2 h.objs h.next (consS rows) (numsS rows) (.tl [] (some true)) b q (.tl [] (some true)) rfl rfl
    simp only[e82,hne,hh,WV_of,WV_mk,WV_next,htest,slcT,slcT',hrest,hIH,wiV,hs2,WV_s3,WV_r2,WV_r3,WV_fin0,Option.map_none,wz,opX,intBin,↓reduceIte,simprocAttr]
   |some w=>
    have hwl':=hwl w rfl
    have hs2:=fun p b q=>WH_s2 h.objs h.next (consS rows) (numsS rows) p (.tl [] (some true)) b q
    have htail:∀ (kk c m:Int) (l:List Pt) (nl:Option Bool) (q:Nat),ex tab f82r27 [(6,.ptr (h.next+2) 1 0 0),(7,.ptr (h.next+3) 1 0 0),(15,.d (ePs w)),(17,.ptr (h.next+6) 1 0 0)] (WH h.objs h.next (consS rows) (numsS rows) (.agg [.d (.int .i64 kk),.d (.int .i64 c),.d (.int .i64 m),.tl ((l.map ePt).map .d) nl]) (.tl [] (some true)) false q) =
      some (.norm,[(6,.ptr (h.next+2) 1 0 0),(7,.ptr (h.next+3) 1 0 0)],WV h.objs h.next (consS rows) (numsS rows) (.d (.lst (ePt (.mk kk c m l)::w.map ePt))) true (if w=[] then q else q+1)):=by
     intro kk c m l nl q
     have happ:=fun h=>app_one (.mk kk c m l) w (some false) h (by omega)
     have hs2':=fun p b q=>hs2 p b q (.d (.lst (ePt (.mk kk c m l)::w.map ePt))) rfl rfl
     apply wq_ex.1
     simp only[e82,WH_l6,norm_pV,happ,WH_mk,WH_next,hs2',WH_s3,WH_kill,wz,opX,intBin,↓reduceIte,simprocAttr]
    have htail0:∀ (kk c m:Int) (nl:Option Bool) (q:Nat),ex tab f82r27 [(6,.ptr (h.next+2) 1 0 0),(7,.ptr (h.next+3) 1 0 0),(15,.d (ePs w)),(17,.ptr (h.next+6) 1 0 0)] (WH h.objs h.next (consS rows) (numsS rows) (.agg [.d (.int .i64 kk),.d (.int .i64 c),.d (.int .i64 m),.tl [] nl]) (.tl [] (some true)) false q) =
      some (.norm,[(6,.ptr (h.next+2) 1 0 0),(7,.ptr (h.next+3) 1 0 0)],WV h.objs h.next (consS rows) (numsS rows) (.d (.lst (ePt (.mk kk c m [])::w.map ePt))) true (if w=[] then q else q+1)):=fun kk c m nl q=>htail kk c m [] nl q
    rw[Option.map_some]
    by_cases hA:0<(consS rows).length
    ·have hA':((0:Int)<((consS rows).length:Int)):=by omega
     have ht:t≠0:=by
      rintro rfl
      have:=consS_len0 hM
      omega
     rcases tcase d t with h0 | h0 | ⟨n,y,rfl,hy⟩
     ·exfalso;have:=hT t List.mem_cons_self;simp only[isT,Bool.and_eq_true,decide_eq_true_eq] at this;omega
     ·exfalso;have:=hT t List.mem_cons_self;simp only[isT,Bool.and_eq_true,decide_eq_true_eq] at this;omega
     have hn:=(List.getElem?_eq_some_iff.1 hy).1
     have hsl:=S.len
     have hw:=wrap_sub1 (n:=n) (by omega)
     have hml:=miss_lt hM (hc.resolve_left ht)
     rw[consOf_at hy] at hml
     obtain ⟨z,hz⟩:=get_of_lt (l:=y.cons) hml
     have hz8:=(cons_sm S ((n:Int)+1)).2 z (by rw[consOf_at hy];exact List.mem_of_getElem? hz)
     have hmk:=mkslP (n:=z.flds.length) (by omega)
     have hms:missS d ((n:Int)+1) rows=.mk 1 ((missN (consS rows):Nat):Int) 0 (List.replicate z.flds.length wildT):=by
      unfold missS
      rw[if_pos hA,fldsOf_at hy hz]
     have hcl:=consS_le' rows
     have hlp:=fun a3 a4 a15 p v b q=>loopA_ok h.objs h.next (consS rows) (numsS rows) a3 a4 a15 p v b q (by omega)
     rw[hms]
     simp only[e82,hne,hh,WV_of,WV_mk,WV_next,htest,slcT,slcT',hrest,hIH,wiV,WH_of,WH_lenA,hA',wq_of (hlp _ _ _ _ _ _ _),hw,iaI0,iaI0',iaD hy,iaC hz,hmk,mk_pat',WH_s6,wq_of (htail _ _ _ _ _ _),WV_r2,WV_r3,WV_fin,wz,opX,intBin,↓reduceIte,simprocAttr]
     rfl
    ·have hA':¬ ((0:Int)<((consS rows).length:Int)):=by omega
     by_cases hN:0<(numsS rows).length
     ·have hN':((0:Int)<((numsS rows).length:Int)):=by omega
      have hms:missS d t rows=.mk 2 0 ((missN (numsS rows):Nat):Int) []:=by
       unfold missS
       rw[if_neg hA,if_pos hN]
      have hcl:=numsS_le rows
      have hlp:=fun a15 p v b q=>loopB_ok h.objs h.next (consS rows) (numsS rows) a15 p v b q (by omega)
      rw[hms]
      simp only[e82,hne,hh,WV_of,WV_mk,WV_next,htest,slcT,slcT',hrest,hIH,wiV,WH_of,WH_lenA,WH_lenB,hA',hN',wq_of (hlp _ _ _ _ _),mk_pat',WH_s6,wq_of (htail0 _ _ _ _ _),WV_r2,WV_r3,WV_fin,wz,opX,intBin,↓reduceIte,simprocAttr]
      rfl
     ·have hN':¬ ((0:Int)<((numsS rows).length:Int)):=by omega
      have hms:missS d t rows=.mk 0 0 0 []:=by
       unfold missS
       rw[if_neg hA,if_neg hN];rfl
      rw[hms]
      simp only[e82,hne,hh,WV_of,WV_mk,WV_next,htest,slcT,slcT',hrest,hIH,wiV,WH_of,WH_lenA,WH_lenB,hA',hN',mk_pat',WH_s6,WH_l6,norm_pV0,fun h=>app_one (.mk 0 0 0 []) w (some false) h (by omega),WH_mk,WH_next,fun p b q=>hs2 p b q (.d (.lst (ePt (.mk 0 0 0 [])::w.map ePt))) rfl rfl,WH_s3,WH_kill,WV_r2,WV_r3,WV_fin,wz,opX,intBin,↓reduceIte,simprocAttr]
      rfl
  ·have ht:t≠0:=fun e=>hc (.inl e)
   have hlt:¬ (consS rows).length<(consOf d t).length:=fun e=>hc (.inr e)
   rcases tcase d t with h0 | h0 | ⟨n,y,rfl,hy⟩
   ·exfalso;have:=hT t List.mem_cons_self;simp only[isT,Bool.and_eq_true,decide_eq_true_eq] at this;omega
   ·exfalso;have:=hT t List.mem_cons_self;simp only[isT,Bool.and_eq_true,decide_eq_true_eq] at this;omega
   have hn:=(List.getElem?_eq_some_iff.1 hy).1
   have hsl:=S.len
   have hw:=wrap_sub1 (n:=n) (by omega)
   have hcs:=cons_sm S ((n:Int)+1)
   have hle:=consS_le hM
   rw[consOf_at hy] at hcs hlt hle
   have hcl:(((consS rows).length:Int) == (y.cons.length:Int))=true:=by rw[ibeq];exact decide_eq_true (by omega)
   have hdown:=fun i (hi:i<y.cons.length) (n':Nat)=>spS_down hM (by rw[consOf_at hy];omega) (i:=i) (by rw[consOf_at hy];exact hi) n'
   have hu:∀ (i:Nat) (z:Cn),y.cons[i]? = some z→(∀ h,callW tab 82 [.d (eDs d),.d (eIs (z.flds++ts)),.d (eRs (spS (i:Int) z.flds.length rows))] h=some (wiV (wiS d k (fldsOf d ((n:Int)+1) i++ts) (spS (i:Int) (fldsOf d ((n:Int)+1) i).length rows)),h))∧∀ w,wiS d k (fldsOf d ((n:Int)+1) i++ts) (spS (i:Int) (fldsOf d ((n:Int)+1) i).length rows)=some w→w.length=z.flds.length+ts.length:=by
    intro i z hz
    have hi:=(List.getElem?_eq_some_iff.1 hz).1
    have hfz:=fldsOf_at hy hz
    have hzm:=List.mem_of_getElem? hz
    have hz8:=hcs.2 z hzm
    have hd:=hdown i hi z.flds.length
    have hM':=spS_fit i hM
    rw[hfz] at hM' ⊢
    refine ⟨witness_ok S T k (z.flds++ts) (spS (i:Int) z.flds.length rows) (by rw[List.length_append];omega) (by rw[List.length_append];omega) (Nat.le_trans (fm_len _ _) hl) (flds_isT T (by rw[consOf_at hy];exact hzm) hTt) hM',fun w hw=>?_⟩
    rw[wiS_len d k _ _ w hw,List.length_append]
   obtain ⟨q,hq⟩:=wrange_ok hy (by omega) hcs.1 hcs.2 (ts:=ts) (by omega) rows hl hrows hu h.objs h.next (consS rows) (numsS rows)
   have e:wiS d (k+1) (((n:Int)+1)::ts) rows=(List.range y.cons.length).findSome? (fun i=>(wiS d k (fldsOf d ((n:Int)+1) i++ts) (spS (i:Int) (fldsOf d ((n:Int)+1) i).length rows)).map (wfS i (match y.cons[i]? with | some z=>z.flds.length | none=>0))):=by
    simp only[wiS]
    rw[if_neg hc,consOf_at hy]
    refine congrArg (fun f=>List.findSome? f (List.range y.cons.length)) (funext fun i=>?_)
    have:(fldsOf d ((n:Int)+1) i).length=(match y.cons[i]? with | some z=>z.flds.length | none=>0):=by
     unfold fldsOf;rw[consOf_at hy]
     cases y.cons[i]? <;> rfl
    rw[this]
   rw[e]
   generalize (List.range y.cons.length).findSome? (fun i=>(wiS d k (fldsOf d ((n:Int)+1) i++ts) (spS (i:Int) (fldsOf d ((n:Int)+1) i).length rows)).map (wfS i (match y.cons[i]? with | some z=>z.flds.length | none=>0)))=u at hq
   have hmat:∀ h,callW tab 111 [.d (eDs d),.d (.lst (eI ((n:Int)+1)::ts.map eI)),.d (eRs rows)] h=some (.clo 134 [.fp (eDs d) 0,.fp (eIs (((n:Int)+1)::ts)) 0,.fp (eRs rows) 0],⟨h.objs,h.next+3⟩):=fun h=>matrices_ok _ _ _ rfl rfl rfl h
   have hrng:ex tab (.rng (.t 52) 1312) [(3,.fp (eDs d) 0),(4,.fp (eIs (((n:Int)+1)::ts)) 0),(6,.ptr (h.next+2) 1 0 0),(7,.ptr (h.next+3) 1 0 0),(52,.clo 134 [.fp (eDs d) 0,.fp (eIs (((n:Int)+1)::ts)) 0,.fp (eRs rows) 0])] (WV h.objs h.next (consS rows) (numsS rows) (.tl [] (some true)) false (h.next+9)) =
     some (wuX u,[(3,.fp (eDs d) 0),(4,.fp (eIs (((n:Int)+1)::ts)) 0),(6,.ptr (h.next+2) 1 0 0),(7,.ptr (h.next+3) 1 0 0),(52,.clo 134 [.fp (eDs d) 0,.fp (eIs (((n:Int)+1)::ts)) 0,.fp (eRs rows) 0])],match u with
      |none=>WV h.objs h.next (consS rows) (numsS rows) (.tl [] (some true)) false q
      |some w=>WV h.objs h.next (consS rows) (numsS rows) (.d (ePs w)) true q):=by
    refine ex_rng (f:=134) rfl hq ?_
    unfold rngEnd
    rw[WV_next]
    cases u<;>simp only[WU_get,WU_kill]<;>rfl
   cases u with
   |none=>
    have hs2:=fun b q=>WV_s2 h.objs h.next (consS rows) (numsS rows) (.tl [] (some true)) b q (.tl [] (some true)) rfl rfl
    simp only[wuX] at hrng
    simp only[e82,hne,hh,WV_of,WV_mk,WV_next,ibne,ht,hw,iaI0,iaI0',iaD hy,WV_lenA,hcl,hmat,wq_of hrng,hs2,WV_s3,WV_r2,WV_r3,WV_fin0,wiV,wz,opX,intBin,↓reduceIte,simprocAttr]
   |some w=>
    simp only[wuX] at hrng
    simp only[e82,hne,hh,WV_of,WV_mk,WV_next,ibne,ht,hw,iaI0,iaI0',iaD hy,WV_lenA,hcl,hmat,wq_of hrng,WV_r2,WV_r3,WV_fin,wiV,wz,opX,intBin,↓reduceIte,simprocAttr]
end Zc28
end
section
set_option maxHeartbeats 4000000
namespace Zc28
open Go Zv Zs
theorem fold_any (p:Pt) (hp:kdP p≠0):∀ (l:List (List Pt)) (H:List Pt),(l.foldl (accG hdG) H).any (fun q=>sameP q p)=(H.any (fun q=>sameP q p) || l.any fun r=>match r with
  | []=>false
  |q::_=>sameP q p)
 | [],H=>by simp
 |r::l,H=>by
  rw[List.foldl_cons,fold_any p hp l,List.any_cons,←Bool.or_assoc]
  congr 1
  cases r with
  |nil=>simp[accG,hdG]
  |cons q s=>
   simp only[accG,hdG]
   by_cases h0:kdP q=0
   ·have:sameP q p=false:=by
     unfold sameP;rw[h0,decide_eq_false (fun e=>hp e.symm)];rfl
    simp[h0,this]
   ·by_cases h1:H.any (fun x=>sameP x q)=true
    ·simp only[h1,Bool.or_true,if_true]
     cases h2:sameP q p with
     |false=>simp
     |true=>
      obtain ⟨x,hx,hxs⟩:=List.any_eq_true.1 h1
      have:H.any (fun q=>sameP q p)=true:=by
       refine List.any_eq_true.2 ⟨x,hx,?_⟩
       simp only[sameP,Bool.and_eq_true,decide_eq_true_eq] at hxs h2 ⊢
       omega
      rw[this];rfl
    ·simp only[h1,Bool.or_false,decide_eq_true_eq,h0,if_false]
     rw[List.any_append]
     simp
theorem heads_any (p:Pt) (hp:kdP p≠0) (l:List (List Pt)):(headsS l).any (fun q=>sameP q p)=l.any fun r=>match r with
  | []=>false
  |q::_=>sameP q p:=by
 unfold headsS accL
 rw[fold_any p hp]
 simp
theorem foldn_mem (c:Int):∀ (l:List (List Pt)) (A:List Int),c ∈ l.foldl nG A ↔ c ∈ A∨∃ p s,(p::s) ∈ l∧kdP p=2∧nmP p=c
 | [],A=>by simp
 |r::l,A=>by
  rw[List.foldl_cons,foldn_mem c l]
  cases r with
  |nil=>
   show (c ∈ A∨_) ↔ _
   simp
  |cons q s=>
   show (c ∈ (if kdP q=2 then addI A (nmP q) else A)∨_) ↔ _
   by_cases k1:kdP q=2
   ·rw[if_pos k1,addI_mem]
    constructor
    ·rintro ((h | h) | ⟨p,s',h1,h2,h3⟩)
     ·exact .inl h
     ·exact .inr ⟨q,s,List.mem_cons_self,k1,h.symm⟩
     ·exact .inr ⟨p,s',List.mem_cons_of_mem _ h1,h2,h3⟩
    ·rintro (h | ⟨p,s',h1,h2,h3⟩)
     ·exact .inl (.inl h)
     ·rcases List.mem_cons.1 h1 with e | h1
      ·cases e;exact .inl (.inr h3.symm)
      ·exact .inr ⟨p,s',h1,h2,h3⟩
   ·rw[if_neg k1]
    constructor
    ·rintro (h | ⟨p,s',h1,h2,h3⟩)
     ·exact .inl h
     ·exact .inr ⟨p,s',List.mem_cons_of_mem _ h1,h2,h3⟩
    ·rintro (h | ⟨p,s',h1,h2,h3⟩)
     ·exact .inl h
     ·rcases List.mem_cons.1 h1 with e | h1
      ·cases e;exact absurd h2 k1
      ·exact .inr ⟨p,s',h1,h2,h3⟩
theorem numsS_mem (c:Int) (l:List (List Pt)):c ∈ numsS l ↔ ∃ p s,(p::s) ∈ l∧kdP p=2∧nmP p=c:=by
 rw[numsS,foldn_mem];simp
theorem any_cons {d:List Dt} {t:Int} {ts:List Int} {l:List (List Pt)} (h:fitM d (t::ts) l) (c:Int) (qs:List Pt):(headsS l).any (fun q=>sameP q (.mk 1 c 0 qs))=decide (c ∈ consS l):=by
 rw[heads_any _ (by rw[kdP_mk];decide),Bool.eq_iff_iff,decide_eq_true_eq,consS_mem,List.any_eq_true]
 constructor
 ·rintro ⟨r,hr,hs⟩
  cases r with
  |nil=>cases hs
  |cons q s=>
   simp only[sameP_mk,Bool.and_eq_true,decide_eq_true_eq] at hs
   exact⟨q,s,hr,hs.1.1,hs.1.2⟩
 ·rintro ⟨p,s,hm,k1,hc⟩
  refine ⟨p::s,hm,?_⟩
  have:=h _ hm
  simp only[fitR,Bool.and_eq_true] at this
  obtain ⟨k,c',m,qs'⟩:=p
  simp only[kdP_mk,cnP_mk] at k1 hc
  subst k1;subst hc
  rcases fits_cases this.1 with h1 | h1 | ⟨_,_,m0,_⟩
  ·omega
  ·omega
  ·subst m0
   simp[sameP_mk,kdP_mk,cnP_mk,nmP_mk]
end Zc28
end
section
set_option maxHeartbeats 4000000
namespace Zc28
open Go Zv Zs
theorem deep_ds (h:Hp) (n0 k:Nat):∀ l:List D,(l.map V.d).mapM (deep h n0 (k+1))=some l
 | []=>rfl
 |x::l=>by rw[List.map_cons,List.mapM_cons,deep_ds h n0 k l];rfl
theorem finS2n (h:Hp) (nl:Option Bool) (b:Bool) (n:Nat):finS h ⟨h.objs,n⟩ [.tl [] nl,.d (.bool b)]=some (.tup [.d (.lst []),.d (.bool b)],h):=by
 unfold finS
 rw[if_pos (suf_refl _)]
 rfl
end Zc28
end
section
set_option maxHeartbeats 4000000
namespace Zc28
open Go Zv Zs
mutual
def vcnt:Vl→Nat
 | .mk _ _ qs=>vcntL qs+1
def vcntL:List Vl→Nat
 | []=>0
 |p::r=>vcnt p+vcntL r
end
mutual
def mtP:Pt→Vl→Bool
 | .mk k c m qs,.mk num con vs=>if k=0 then true else if k=2 then decide (num=m) else if k=1 then decide (con=c) && mtL qs vs else false
def mtL:List Pt→List Vl→Bool
 | [],[]=>true
 |p::ps,v::vs=>mtP p v && mtL ps vs
 |_,_=>false
end
end Zc28
end
section
set_option maxHeartbeats 4000000
namespace Zc28
open Go Zv Zs
theorem wi_us (d:List Dt):∀ (k:Nat) (ts:List Int) (l:List (List Pt)),(wiS d k ts l).isSome=usS d k ts l (List.replicate ts.length wildT)
 |0,_,_=>rfl
 |k+1,[],l=>by
  simp only[wiS,usS]
  by_cases h:l.length=0<;>simp[h]
 |k+1,t::ts,l=>by
  rw[List.length_cons,List.replicate_succ]
  show _=usS d (k+1) (t::ts) l (.mk 0 0 0 []::List.replicate ts.length wildT)
  rw[wiS,usS,if_neg (show ¬ ((0:Int)=1) by decide),if_neg (show ¬ ((0:Int)=2) by decide)]
  by_cases hc:t=0∨(consS l).length<(consOf d t).length
  ·rw[if_pos hc,if_pos hc,Option.isSome_map]
   exact wi_us d k ts _
  ·rw[if_neg hc,if_neg hc,Bool.eq_iff_iff,List.findSome?_isSome_iff,List.any_eq_true]
   have key:∀ i,((wiS d k (fldsOf d t i++ts) (spS (i:Int) (fldsOf d t i).length l)).map (wfS i (fldsOf d t i).length)).isSome=usS d k (fldsOf d t i++ts) (spS (i:Int) (fldsOf d t i).length l) (List.replicate (fldsOf d t i).length wildT++List.replicate ts.length wildT):=by
    intro i
    rw[Option.isSome_map,wi_us d k,List.length_append,←List.replicate_append_replicate]
   constructor
   ·rintro ⟨x,hx,h⟩
    exact⟨x,hx,by rw[←key];exact h⟩
   ·rintro ⟨x,hx,h⟩
    exact⟨x,hx,by rw[key];exact h⟩
theorem us_mono (d:List Dt):∀ (k:Nat) (ts:List Int) (l:List (List Pt)) (r:List Pt),usS d k ts l r=true→usS d (k+1) ts l r=true
 |0,_,_,_,h=>by cases h
 |k+1,[],l,r,h=>h
 |k+1,t::ts,l,[],h=>by cases h
 |k+1,t::ts,l,.mk kd c m qs::r,h=>by
  rw[usS] at h ⊢
  split at h
  ·rename_i h1;rw[if_pos h1];exact us_mono d k _ _ _ h
  ·rename_i h1
   rw[if_neg h1]
   split at h
   ·rename_i h2;rw[if_pos h2];exact us_mono d k _ _ _ h
   ·rename_i h2
    rw[if_neg h2]
    split at h
    ·rename_i h3;rw[if_pos h3];exact us_mono d k _ _ _ h
    ·rename_i h3
     rw[if_neg h3]
     rw[List.any_eq_true] at h ⊢
     obtain ⟨i,hi,hx⟩:=h
     exact⟨i,hi,us_mono d k _ _ _ hx⟩
theorem us_le {d:List Dt} {ts:List Int} {l:List (List Pt)} {r:List Pt} {k:Nat}:∀ (j:Nat),usS d k ts l r=true→usS d (k+j) ts l r=true
 |0,h=>h
 |j+1,h=>us_mono d _ _ _ _ (us_le j h)
theorem us_fuel {d:List Dt} (S:Sml d) (T:typedS d=true) {k k':Nat} {ts:List Int} {l:List (List Pt)} {r:List Pt} (h1:9*(nwS l+nwL r)+ts.length<k) (h2:9*(nwS l+nwL r)+ts.length<k') (hB:9*(nwS l+nwL r)+ts.length≤8000) (hl:l.length≤1000)
  (hT:∀ t,t ∈ ts→isT d t=true) (hM:fitM d ts l) (hR:fitR d ts r=true):usS d k ts l r=usS d k' ts l r:=by
 have a:=useful_ok S T k ts l r h1 hB hl hT hM hR ⟨[],0⟩
 have b:=useful_ok S T k' ts l r h2 hB hl hT hM hR ⟨[],0⟩
 rw[a] at b
 simpa using b
theorem flds_isT' {d:List Dt} (T:typedS d=true) (t:Int) (i:Nat):∀ f,f ∈ fldsOf d t i→isT d f=true:=by
 intro f hf
 unfold fldsOf at hf
 split at hf
 ·rename_i z hz
  exact fld_isT27 T (List.mem_of_getElem? hz) hf
 ·cases hf
end Zc28
end
section
set_option maxHeartbeats 4000000
namespace Zc28
open Go Zv Zs
mutual
def tyV (d:List Dt):Int→Vl→Prop
 |t,.mk _ c qs=>if t=0 then True else ∃ (i:Nat) (z:Cn),c=(i:Int)∧(consOf d t)[i]? = some z∧tyL d z.flds qs
def tyL (d:List Dt):List Int→List Vl→Prop
 | [],[]=>True
 |f::fs,q::qs=>tyV d f q∧tyL d fs qs
 |_,_=>False
end
theorem tyL_len {d:List Dt}:∀ {fs:List Int} {vs:List Vl},tyL d fs vs→vs.length=fs.length
 | [],[],_=>rfl
 |f::fs,v::vs,h=>by
  rw[tyL] at h
  rw[List.length_cons,List.length_cons,tyL_len h.2]
 | [],_::_,h=>by simp[tyL] at h
 |_::_,[],h=>by simp[tyL] at h
theorem tyL_app {d:List Dt}:∀ {fs ts:List Int} {av vs:List Vl},tyL d fs av→tyL d ts vs→tyL d (fs++ts) (av++vs)
 | [],ts,[],vs,_,h=>h
 |f::fs,ts,a::av,vs,h,h'=>by
  rw[tyL] at h
  rw[List.cons_append,List.cons_append,tyL]
  exact⟨h.1,tyL_app h.2 h'⟩
 | [],_,_::_,_,h,_=>by simp[tyL] at h
 |_::_,_,[],_,h,_=>by simp[tyL] at h
theorem mtL_app:∀ {av bs:List Pt} {xs ys:List Vl},av.length=xs.length→mtL (av++bs) (xs++ys)=(mtL av xs && mtL bs ys)
 | [],bs,[],ys,_=>by simp[mtL]
 |a::av,bs,x::xs,ys,h=>by
  rw[List.cons_append,List.cons_append,mtL,mtL,mtL_app (by simpa using h),Bool.and_assoc]
 | [],_,_::_,_,h=>by simp at h
 |_::_,_,[],_,h=>by simp at h
theorem mtL_len:∀ {av:List Pt} {xs:List Vl},mtL av xs=true→av.length=xs.length
 | [],[],_=>rfl
 |a::av,x::xs,h=>by
  rw[mtL,Bool.and_eq_true] at h
  rw[List.length_cons,List.length_cons,mtL_len h.2]
 | [],_::_,h=>by simp[mtL] at h
 |_::_,[],h=>by simp[mtL] at h
theorem mt_wild (v:Vl):mtP wildT v=true:=by obtain ⟨m,c,qs⟩:=v;unfold wildT;rw[mtP,if_pos rfl]
theorem mtL_wild:∀ vs:List Vl,mtL (List.replicate vs.length wildT) vs=true
 | []=>by rw[List.length_nil,List.replicate_zero,mtL]
 |v::vs=>by rw[List.length_cons,List.replicate_succ,mtL,mt_wild,mtL_wild vs];rfl
theorem vcntL_app:∀ (a b:List Vl),vcntL (a++b)=vcntL a+vcntL b
 | [],b=>by simp[vcntL]
 |p::a,b=>by rw[List.cons_append,vcntL,vcntL,vcntL_app a b];omega
theorem sp_back {i:Nat} {n:Nat} {l:List (List Pt)} {x':List Pt} (hx:x' ∈ spS (i:Int) n l) {m:Int} {av vs:List Vl} (hn:n=av.length) (hm:mtL x' (av++vs)=true) (hq:∀ k c m qs s,(Pt.mk k c m qs::s) ∈ l→k=1→c=(i:Int)→qs.length=n) :
  ∃ x,x ∈ l∧mtL x (.mk m (i:Int) av::vs)=true:=by
 obtain ⟨x,hxl,hs⟩:=List.mem_filterMap.1 hx
 refine ⟨x,hxl,?_⟩
 cases x with
 |nil=>cases hs
 |cons p s=>
  obtain ⟨k,c,m',qs⟩:=p
  simp only[spF] at hs
  split at hs
  ·rename_i k0
   cases hs
   rw[mtL_app (by simp[hn])] at hm
   rw[Bool.and_eq_true] at hm
   rw[mtL,mtP,if_pos k0,hm.2];rfl
  ·rename_i k0
   split at hs
   ·rename_i hk
    cases hs
    rw[mtL_app (by rw[hq _ _ _ _ _ hxl hk.1 hk.2,hn]),Bool.and_eq_true] at hm
    rw[mtL,mtP,if_neg k0,if_neg (by omega),if_pos hk.1,decide_eq_true hk.2.symm,hm.1,hm.2];rfl
   ·cases hs
theorem sp_len {d:List Dt} {t:Int} {ts:List Int} {l:List (List Pt)} (h:fitM d (t::ts) l) {i:Nat} {z:Cn} (hz:(consOf d t)[i]? = some z):∀ k c m qs s,(Pt.mk k c m qs::s) ∈ l→k=1→c=(i:Int)→qs.length=z.flds.length:=by
 intro k c m qs s hm k1 hc
 have:=h _ hm
 simp only[fitR,Bool.and_eq_true] at this
 rcases fits_cases this.1 with h1 | h1 | ⟨_,_,_,j,y,e,hy,hl,_⟩
 ·omega
 ·omega
 ·have:j=i:=by omega
  subst this
  rw[hz] at hy;cases hy
  exact hl.symm
theorem cover {d:List Dt}:∀ (n:Nat) (ts:List Int) (l:List (List Pt)) (r:List Pt) (vs:List Vl),vcntL vs≤n→tyL d ts vs→fitM d ts l→fitR d ts r=true→(∀ K,usS d K ts l r=false)→mtL r vs=true→∃ x,x ∈ l∧mtL x vs=true:=by
 intro n
 induction n with
 |zero=>
  intro ts l r vs hn hT hM hR hU hm
  cases vs with
  |cons v vs=>obtain ⟨m,c,qs⟩:=v;rw[vcntL,vcnt] at hn;omega
  |nil=>
   have hl:=tyL_len hT
   cases ts with
   |cons t ts=>simp at hl
   |nil=>
    have h1:=hU 1
    rw[usS,decide_eq_false_iff_not] at h1
    cases l with
    |nil=>exact absurd rfl h1
    |cons x l=>
     have hf:=hM x List.mem_cons_self
     have:x=[]:=List.eq_nil_of_length_eq_zero (fitR_len hf)
     subst this
     exact⟨[],List.mem_cons_self,by rw[mtL]⟩
 |succ n ih=>
  intro ts l r vs hn hT hM hR hU hm
  cases vs with
  |nil=>
   exact ih ts l r [] (by simp[vcntL]) hT hM hR hU hm
  |cons v vs=>
   have hl:=tyL_len hT
   cases ts with
   |nil=>simp at hl
   |cons t ts=>
    cases r with
    |nil=>cases hR
    |cons p r=>
     obtain ⟨num,con,av⟩:=v
     obtain ⟨k,c,m,qs⟩:=p
     rw[vcntL,vcnt] at hn
     rw[tyL,tyV] at hT
     obtain ⟨hv,hvs⟩:=hT
     simp only[fitR,Bool.and_eq_true] at hR
     rw[mtL,mtP,Bool.and_eq_true] at hm
     have hU':∀ K,usS d (K+1) (t::ts) l (.mk k c m qs::r)=false:=fun K=>hU (K+1)
     rcases fits_cases hR.1 with ⟨k0,c0,m0,q0⟩ | ⟨k2,t0,c0,q0⟩ | ⟨k1,t0,m0,i,z,rfl,hz,hzl,hzR⟩
     ·subst k0
      by_cases hc:t=0∨(consS l).length<(consOf d t).length
      ·obtain ⟨x,hx,hxm⟩:=ih ts (restS wildP l) r vs (by omega) hvs (restS_fit wildP hM) hR.2 (fun K=>by
        have:=hU' K
        rw[usS,if_neg (by decide),if_neg (by decide),if_pos hc] at this
        exact this) hm.2
       obtain ⟨y,hy,hs⟩:=List.mem_filterMap.1 hx
       refine ⟨y,hy,?_⟩
       cases y with
       |nil=>cases hs
       |cons q s=>
        simp only[restF] at hs
        split at hs
        ·rename_i hk
         cases hs
         obtain ⟨k',c',m',qs'⟩:=q
         have hk:k'=0:=of_decide_eq_true hk
         rw[mtL,mtP,if_pos hk,hxm];rfl
        ·cases hs
      ·have ht:t≠0:=fun e=>hc (.inl e)
       rw[if_neg ht] at hv
       obtain ⟨i,z,rfl,hz,hty⟩:=hv
       have hfz:fldsOf d t i=z.flds:=by unfold fldsOf;rw[hz]
       have hal:=tyL_len hty
       have hM':=spS_fit i hM
       rw[hfz] at hM'
       obtain ⟨x,hx,hxm⟩:=ih (z.flds++ts) (spS (i:Int) z.flds.length l) (List.replicate z.flds.length wildT++r) (av++vs) (by rw[vcntL_app];omega) (tyL_app hty hvs) hM' (fitR_app (fitR_wild d _) hR.2) (fun K=>by
        have:=hU' K
        rw[usS,if_neg (by decide),if_neg (by decide),if_neg hc,←Bool.not_eq_true,List.any_eq_true] at this
        cases hu:usS d K (z.flds++ts) (spS (i:Int) z.flds.length l) (List.replicate z.flds.length wildT++r) with
        |false=>rfl
        |true=>
         exact absurd ⟨i,List.mem_range.2 (List.getElem?_eq_some_iff.1 hz).1,by rw[hfz];exact hu⟩ this) (by
        rw[mtL_app (by simp[hal]),←hal,mtL_wild,hm.2];rfl)
       exact sp_back hx hal.symm hxm (sp_len hM hz)
     ·subst k2
      subst t0
      rw[if_neg (by decide),if_pos rfl,decide_eq_true_eq] at hm
      obtain ⟨x,hx,hxm⟩:=ih ts (restS (fun q=>wildP q || decide (nmP q=m)) l) r vs (by omega) hvs (restS_fit _ hM) hR.2 (fun K=>by
       have:=hU' K
       rw[usS,if_neg (by decide),if_pos rfl] at this
       exact this) hm.2
      obtain ⟨y,hy,hs⟩:=List.mem_filterMap.1 hx
      refine ⟨y,hy,?_⟩
      cases y with
      |nil=>cases hs
      |cons q s=>
       have hf:=hM _ hy
       simp only[fitR,Bool.and_eq_true] at hf
       simp only[restF] at hs
       split at hs
       ·rename_i hk
        cases hs
        obtain ⟨k',c',m',qs'⟩:=q
        have hk:k'=0∨m'=m:=((Bool.or_eq_true _ _).mp hk).imp of_decide_eq_true of_decide_eq_true
        rcases fits_cases hf.1 with ⟨h0,_⟩ | ⟨h2,_⟩ | ⟨_,h1,_⟩
        ·rw[mtL,mtP,if_pos h0,hxm];rfl
        ·subst h2
         have:m'=m:=by omega
         rw[mtL,mtP,if_neg (by decide),if_pos rfl,this,decide_eq_true hm.1,hxm];rfl
        ·exact absurd rfl h1
       ·cases hs
     ·subst k1
      rw[if_neg (by decide),if_neg (by decide),if_pos rfl,Bool.and_eq_true,decide_eq_true_eq] at hm
      obtain ⟨⟨hcon,hqa⟩,hrest⟩:=hm
      subst hcon
      rw[if_neg t0] at hv
      obtain ⟨j,z',e,hz',hty⟩:=hv
      have:j=i:=by omega
      subst this
      rw[hz] at hz';cases hz'
      have hfz:fldsOf d t j=z.flds:=by unfold fldsOf;rw[hz]
      have hal:=tyL_len hty
      have hM':=spS_fit j hM
      rw[hfz] at hM'
      obtain ⟨x,hx,hxm⟩:=ih (z.flds++ts) (spS (j:Int) z.flds.length l) (qs++r) (av++vs) (by rw[vcntL_app];omega) (tyL_app hty hvs) hM' (fitR_app hzR hR.2) (fun K=>by
       have:=hU' K
       rw[usS,if_pos rfl,Int.toNat_natCast,hfz,←hzl] at this
       exact this) (by rw[mtL_app (mtL_len hqa),hqa,hrest];rfl)
      exact sp_back hx hal.symm hxm (sp_len hM hz)
end Zc28
end
section
set_option maxHeartbeats 4000000
namespace Zc28
open Go Zv Zs
theorem check_fin {d:List Dt} (h:checkS d=0):finiteS d=true:=by
 have hT:=check_typed h
 unfold checkS at h
 by_cases h1:manyS d=true
 ·rw[if_pos h1] at h;exact absurd h (by decide)
 rw[if_neg h1] at h
 by_cases h2:formedS d=false
 ·rw[if_pos h2] at h;exact absurd h (by decide)
 rw[if_neg h2] at h
 by_cases h3:twiceS d=true
 ·rw[if_pos h3] at h;exact absurd h (by decide)
 rw[if_neg h3,if_neg (by rw[hT];simp)] at h
 by_cases h4:finiteS d=false
 ·rw[if_pos h4] at h;exact absurd h (by decide)
 simpa using h4
def Inh (d:List Dt) (M:List Bool):Prop:=∀ j:Nat,M[j]? = some true→∃ v,tyV d (j:Int) v
theorem inh_args {d:List Dt} {M:List Bool} (I:Inh d M):∀ (fs:List Int),(∀ f,f ∈ fs→0≤f)→fs.all (mk M)=true→∃ vs,tyL d fs vs
 | [],_,_=>⟨[],by rw[tyL];trivial⟩
 |f::fs,h0,h=>by
  simp only[List.all_cons,Bool.and_eq_true] at h
  obtain ⟨vs,hvs⟩:=inh_args I fs (fun g hg=>h0 g (.tail _ hg)) h.2
  have h1:=h.1
  unfold mk at h1
  rw[List.getD_eq_getElem?_getD] at h1
  have h2:M[f.toNat]? = some true:=by
   cases hm:M[f.toNat]? with
   |none=>rw[hm] at h1;cases h1
   |some b=>rw[hm] at h1;have:b=true:=h1;rw[this]
  obtain ⟨v,hv⟩:=I _ h2
  have:((f.toNat:Nat):Int)=f:=by have:=h0 f (.head _);omega
  rw[this] at hv
  exact⟨v::vs,by rw[tyL];exact⟨hv,hvs⟩⟩
theorem inh_stp {d:List Dt} (T:∀ y,y ∈ d→∀ c,c ∈ y.cons→∀ f,f ∈ c.flds→isT d f=true) {M:List Bool} (I:Inh d M) (i:Nat):Inh d (stp d M i):=by
 unfold stp
 cases hy:d[i]? with
 |none=>exact I
 |some y=>
  simp only
  split
  ·rename_i h
   obtain ⟨c,hc,ha⟩:=List.any_eq_true.1 h
   obtain ⟨vs,hvs⟩:=inh_args I c.flds (fun f hf=>by
    have:=T y (List.mem_of_getElem? hy) c hc f hf
    unfold isT at this
    simp only[Bool.and_eq_true,decide_eq_true_eq] at this
    exact this.1) ha
   obtain ⟨ci,hci⟩:=List.mem_iff_getElem?.1 hc
   intro j hj
   rw[List.getElem?_set] at hj
   split at hj
   ·rename_i e
    subst e
    refine ⟨.mk 0 (ci:Int) vs,?_⟩
    rw[tyV,if_neg (by omega)]
    exact⟨ci,c,rfl,by rw[show (((i+1:Nat):Int))=(i:Int)+1 by omega,consOf_at hy];exact hci,hvs⟩
   ·exact I j hj
  ·exact I
theorem inh_iter {d:List Dt} (T:∀ y,y ∈ d→∀ c,c ∈ y.cons→∀ f,f ∈ c.flds→isT d f=true):∀ n,Inh d (iter d (marks d) n)
 |0=>by
  intro j hj
  cases j with
  |zero=>exact⟨.mk 0 0 [],by rw[tyV];simp⟩
  |succ j=>
   have hj:(List.replicate d.length false)[j]? = some true:=hj
   rw[List.getElem?_replicate] at hj
   split at hj<;>cases hj
 |n+1=>by
  have ih:=inh_iter T n
  show Inh d (passN d _ d.length)
  generalize d.length=m
  induction m with
  |zero=>exact ih
  |succ m im=>exact inh_stp T im m
theorem inhab {d:List Dt} (h:checkS d=0) {t:Int} (ht:isT d t=true):∃ v,tyV d t v:=by
 have hf:=check_fin h
 have I:=inh_iter (typed_flds (check_typed h)) (d.length+1)
 unfold isT at ht
 simp only[Bool.and_eq_true,decide_eq_true_eq] at ht
 unfold finiteS at hf
 have hl:=iter_len d (marks d) (d.length+1)
 have hl2:(marks d).length=d.length+1:=by simp[marks]
 obtain ⟨b,hb⟩:=get_of_lt (l:=iter d (marks d) (d.length+1)) (n:=t.toNat) (by omega)
 have:=List.all_eq_true.1 hf b (List.mem_of_getElem? hb)
 have hbt:b=true:=this
 subst hbt
 obtain ⟨v,hv⟩:=I _ hb
 have:((t.toNat:Nat):Int)=t:=by omega
 rw[this] at hv
 exact⟨v,hv⟩
end Zc28
end
section
set_option maxHeartbeats 4000000
namespace Zc28
open Go Zv Zs
def nbV:Vl→Int
 | .mk m _ _=>m
def domV (d:List Dt) (t:Int) (ex:List Int) (v:Vl):Prop:=tyV d t v∧(t=0→nbV v ∉ ex)
def domL (d:List Dt):List Int→List (List Int)→List Vl→Prop
 | [],[],[]=>True
 |t::ts,e::es,v::vs=>domV d t e v∧domL d ts es vs
 |_,_,_=>False
theorem domL_len {d:List Dt}:∀ {ts:List Int} {es:List (List Int)} {vs:List Vl},domL d ts es vs→vs.length=ts.length∧es.length=ts.length
 | [],[],[],_=>⟨rfl,rfl⟩
 |_::_,_::_,_::_,h=>by
  rw[domL] at h
  have:=domL_len h.2
  exact⟨by simp[this.1],by simp[this.2]⟩
 | [],[],_::_,h=>h.elim
 | [],_::_,_,h=>h.elim
 |_::_,[],_,h=>h.elim
 |_::_,_::_,[],h=>h.elim
theorem domL_app {d:List Dt}:∀ {ts ts':List Int} {es es':List (List Int)} {vs vs':List Vl},domL d ts es vs→domL d ts' es' vs'→domL d (ts++ts') (es++es') (vs++vs')
 | [],_,[],_,[],_,_,h=>h
 |_::_,_,_::_,_,_::_,_,h,h'=>by
  rw[domL] at h
  exact⟨h.1,domL_app h.2 h'⟩
 | [],_,[],_,_::_,_,h,_=>h.elim
 | [],_,_::_,_,_,_,h,_=>h.elim
 |_::_,_,[],_,_,_,h,_=>h.elim
 |_::_,_,_::_,_,[],_,h,_=>h.elim
theorem domL_split {d:List Dt}:∀ {ts ts':List Int} {es es':List (List Int)} {ws:List Vl},ts.length=es.length→domL d (ts++ts') (es++es') ws→∃ vs vs',ws=vs++vs'∧domL d ts es vs∧domL d ts' es' vs'
 | [],_,[],_,ws,_,h=>⟨[],ws,rfl,trivial,h⟩
 |t::ts,ts',e::es,es',w::ws,hl,h=>by
  have h:domV d t e w∧domL d (ts++ts') (es++es') ws:=h
  obtain ⟨vs,vs',rfl,h1,h2⟩:=domL_split (by simpa using hl) h.2
  exact⟨w::vs,vs',rfl,⟨h.1,h1⟩,h2⟩
 |_::_,_,_::_,_,[],_,h=>h.elim
 | [],_,_::_,_,_,hl,_=>by cases hl
 |_::_,_,[],_,_,hl,_=>by cases hl
theorem domL_ty {d:List Dt}:∀ {ts:List Int} {n:Nat} {vs:List Vl},domL d ts (List.replicate n []) vs→tyL d ts vs
 | [],0,[],_=>by rw[tyL];trivial
 |t::ts,n+1,v::vs,h=>by
  have h:domV d t [] v∧domL d ts (List.replicate n []) vs:=h
  rw[tyL]
  exact⟨h.1.1,domL_ty h.2⟩
 | [],0,_::_,h=>h.elim
 | [],_+1,_,h=>h.elim
 |_::_,0,_,h=>h.elim
 |_::_,_+1,[],h=>h.elim
theorem ty_domL {d:List Dt}:∀ {ts:List Int} {vs:List Vl},tyL d ts vs→domL d ts (List.replicate ts.length []) vs
 | [],[],_=>trivial
 |t::ts,v::vs,h=>by
  rw[tyL] at h
  exact⟨⟨h.1,fun _=>by simp⟩,ty_domL h.2⟩
 | [],_::_,h=>h.elim
 |_::_,[],h=>h.elim
theorem dom_inh {d:List Dt} (h:checkS d=0):∀ {ts:List Int} {es:List (List Int)},es.length=ts.length→(∀ t,t ∈ ts→isT d t=true)→∃ vs,domL d ts es vs
 | [],[],_,_=>⟨[],trivial⟩
 |t::ts,e::es,hl,ht=>by
  obtain ⟨vs,hvs⟩:=dom_inh h (ts:=ts) (es:=es) (by simpa using hl) (fun x hx=>ht x (.tail _ hx))
  by_cases h0:t=0
  ·subst h0
   exact⟨.mk ((missN e:Nat):Int) 0 []::vs,⟨⟨by rw[tyV];simp,fun _=>(missN_spec e).1⟩,hvs⟩⟩
  ·obtain ⟨v,hv⟩:=inhab h (ht t (.head _))
   exact⟨v::vs,⟨⟨hv,fun e=>absurd e h0⟩,hvs⟩⟩
 | [],_::_,hl,_=>by cases hl
 |_::_,[],hl,_=>by cases hl
def freshL:List Int→List (List Int)→List Pt→Prop
 |t::ts,e::es,p::ps=>(t=0→kdP p≠0→nmP p ∉ e)∧freshL ts es ps
 |_,_,_=>True
theorem freshL_app:∀ {ts ts':List Int} {es es':List (List Int)} {ps ps':List Pt},ts.length=es.length→ts.length=ps.length→(freshL (ts++ts') (es++es') (ps++ps') ↔ freshL ts es ps∧freshL ts' es' ps')
 | [],_,[],_,[],_,_,_=>by simp[freshL]
 |t::ts,ts',e::es,es',p::ps,ps',h1,h2=>by
  simp only[List.cons_append,freshL]
  rw[freshL_app (by simpa using h1) (by simpa using h2),and_assoc]
 | [],_,_::_,_,_,_,h,_=>by cases h
 | [],_,[],_,_::_,_,_,h=>by cases h
 |_::_,_,[],_,_,_,h,_=>by cases h
 |_::_,_,_::_,_,[],_,_,h=>by cases h
theorem freshL_none:∀ (ts:List Int) (n:Nat) (ps:List Pt),freshL ts (List.replicate n []) ps
 | [],_,_=>by unfold freshL;trivial
 |_::_,0,_=>by unfold freshL;trivial
 |_::_,_+1,[]=>by unfold freshL;trivial
 |t::ts,n+1,p::ps=>by
  show freshL (t::ts) ([]::List.replicate n []) (p::ps)
  exact⟨fun _ _=>by simp,freshL_none ts n ps⟩
def CovL (d:List Dt) (ts:List Int) (ps:List (List Pt)):Prop:=
 ∃ es:List (List Int),es.length=ts.length∧(∀ vs,domL d ts es vs→∃ r,r ∈ ps∧mtL r vs=true)∧∀ r,r ∈ ps→freshL ts es r
theorem CovL.ne {d:List Dt} (h:checkS d=0) {ts:List Int} {ps:List (List Pt)} (ht:∀ t,t ∈ ts→isT d t=true) (C:CovL d ts ps):ps≠[]:=by
 obtain ⟨es,h1,h2,_⟩:=C
 obtain ⟨vs,hvs⟩:=dom_inh h h1 ht
 obtain ⟨r,hr,_⟩:=h2 vs hvs
 intro e;rw[e] at hr;cases hr
theorem covL0 {d:List Dt} {ts:List Int} {ps:List (List Pt)} (hM:fitM d ts ps) (hU:∀ K,usS d K ts ps (List.replicate ts.length wildT)=false):CovL d ts ps:=by
 refine ⟨List.replicate ts.length [],by simp,fun vs hv=>?_,fun r _=>freshL_none ..⟩
 have hty:=domL_ty hv
 have hl:=tyL_len hty
 exact cover (vcntL vs) ts ps (List.replicate ts.length wildT) vs (Nat.le_refl _) hty hM (fitR_wild d ts) hU (by rw[←hl];exact mtL_wild vs)
theorem fitR_split {d:List Dt}:∀ {ts ts':List Int} {ps ps':List Pt},ts.length=ps.length→fitR d (ts++ts') (ps++ps')=true→fitR d ts ps=true∧fitR d ts' ps'=true
 | [],_,[],_,_,h=>⟨rfl,h⟩
 |t::ts,ts',p::ps,ps',hl,h=>by
  simp only[List.cons_append,fitR,Bool.and_eq_true] at h ⊢
  have:=fitR_split (by simpa using hl) h.2
  exact⟨⟨h.1,this.1⟩,this.2⟩
 | [],_,_::_,_,hl,_=>by cases hl
 |_::_,_,[],_,hl,_=>by cases hl
end Zc28
end
section
set_option maxHeartbeats 4000000
namespace Zc28
open Go Zv Zs
def zT:Ts:=⟨[],false,0,[],0⟩
def leafAt (n:Int):Ts:=⟨[],false,0,[],n⟩
def patAt (r:Rw) (k:Nat):Pt:=r.pats.getD k wildT
def argsFor (p:Pt) (con:Int) (nf:Nat):Option (List Pt):=if kdP p=0 then some (List.replicate nf wildT) else if cnP p=con then some (argsP p) else none
def putP (r:Rw) (k:Nat) (a:List Pt):Rw:=⟨r.n,r.pats.take k++a++r.pats.drop (k+1)⟩
def conRow (k:Nat) (con:Int) (nf:Nat) (r:Rw):Option Rw:=(argsFor (patAt r k) con nf).map (putP r k)
def sameB (k:Nat) (num:Int) (r:Rw):Bool:=decide (kdP (patAt r k)=0) || decide (nmP (patAt r k)=num)
def othB (k:Nat) (num:Int) (r:Rw):Bool:=decide (kdP (patAt r k)=0) || decide (nmP (patAt r k)≠num)
def conRows (k:Nat) (con:Int) (nf:Nat) (rows:List Rw):List Rw:=rows.filterMap (conRow k con nf)
def sameRows (k:Nat) (num:Int) (rows:List Rw):List Rw:=rows.filterMap fun r=>if sameB k num r=true then some (putP r k []) else none
def othRows (k:Nat) (num:Int) (rows:List Rw):List Rw:=rows.filter (othB k num)
def fldC (path fs:List Int):List Co:=fs.zipIdx.map fun q=>⟨path++[(q.2:Int)],q.1⟩
def putC (cols:List Co) (k:Nat) (a:List Co):List Co:=cols.take k++a++cols.drop (k+1)
abbrev Bld:=List Ts→List Co→List Rw→List Ts × Int
def conL (f:Bld) (cols:List Co) (rows:List Rw) (k:Nat) (c:Co):Nat→List Cn→List Ts→List Int→List Ts × List Int
 |_,[],out,nx=>(out,nx)
 |i,z::zs,out,nx=>conL f cols rows k c (i+1) zs (f out (putC cols k (fldC c.path z.flds)) (conRows k (i:Int) z.flds.length rows)).1 (nx++[(f out (putC cols k (fldC c.path z.flds)) (conRows k (i:Int) z.flds.length rows)).2])
def bldC (d:List Dt) (f:Bld) (cols:List Co) (rows:List Rw) (k:Nat) (c:Co) (out:List Ts):List Ts × Int:=
 ((conL f cols rows k c 0 (consOf d c.ty) (out++[zT]) []).1.set out.length ⟨c.path,true,0,(conL f cols rows k c 0 (consOf d c.ty) (out++[zT]) []).2,0⟩,(out.length:Int))
def bldN (f:Bld) (cols:List Co) (rows:List Rw) (r0:Rw) (k:Nat) (c:Co) (out:List Ts):List Ts × Int:=
 let num:=nmP (patAt r0 k)
 let q1:=f (out++[zT]) (putC cols k []) (sameRows k num rows)
 let q2:=f q1.1 cols (othRows k num rows)
 (q2.1.set out.length ⟨c.path,false,num,[q1.2,q2.2],0⟩,(out.length:Int))
def bldK (d:List Dt) (f:Bld) (cols:List Co) (rows:List Rw) (r0:Rw) (z:Int) (out:List Ts):List Ts × Int:=
 match getI cols z with
 |none=>(out++[leafAt r0.n],(out.length:Int))
 |some c=>if c.ty=0 then bldN f cols rows r0 z.toNat c out else bldC d f cols rows z.toNat c out
def nwB (p:Pt):Bool := !wildP p
def bldB (d:List Dt) (f:Bld) (cols:List Co) (rows:List Rw) (out:List Ts):List Ts × Int:=
 match rows with
 | []=>(out++[zT],(out.length:Int))
 |r0::_=>bldK d f cols rows r0 (idxZ nwB r0.pats) out
def buildS (d:List Dt):Nat→Bld
 |0,out,_,_=>(out,(out.length:Int))
 |k+1,out,cols,rows=>if 4096<out.length then (out,(out.length:Int)) else bldB d (buildS d k) cols rows out
theorem same_snoc (k:Nat) (num:Int) {rows:List Rw} {i:Nat} {r:Rw} (h:rows[i]? = some r):sameRows k num (rows.take (i+1))=sameRows k num (rows.take i)++if sameB k num r=true then [putP r k []] else []:=by
 unfold sameRows
 rw[List.take_add_one,h,Option.toList_some,List.filterMap_append]
 congr 1
 by_cases hb:sameB k num r=true<;>simp[hb]
theorem oth_snoc (k:Nat) (num:Int) {rows:List Rw} {i:Nat} {r:Rw} (h:rows[i]? = some r):othRows k num (rows.take (i+1))=othRows k num (rows.take i)++if othB k num r=true then [r] else []:=by
 unfold othRows
 rw[List.take_add_one,h,Option.toList_some,List.filter_append]
 congr 1
 by_cases hb:othB k num r=true<;>simp[hb]
theorem con_snoc (k:Nat) (con:Int) (nf:Nat) {rows:List Rw} {i:Nat} {r:Rw} (h:rows[i]? = some r):conRows k con nf (rows.take (i+1))=conRows k con nf (rows.take i)++(conRow k con nf r).toList:=by
 unfold conRows
 rw[List.take_add_one,h,Option.toList_some,List.filterMap_append]
 cases hb:conRow k con nf r<;>simp[hb]
theorem fldC_snoc (path:List Int) {fs:List Int} {n:Nat} {f:Int} (h:fs[n]? = some f):fldC path (fs.take (n+1))=fldC path (fs.take n)++[⟨path++[(n:Int)],f⟩]:=by
 have hn:=(List.getElem?_eq_some_iff.1 h).1
 rw[List.take_add_one,h]
 unfold fldC
 rw[Option.toList_some,List.zipIdx_append,List.map_append]
 simp[show min n fs.length=n by omega]
def LenB (f:Bld):Prop:=∀ out cols rows,out.length≤(f out cols rows).1.length∧(out.length≤4097→(f out cols rows).1.length≤4097)
theorem conL_len {f:Bld} (h:LenB f) (cols:List Co) (rows:List Rw) (k:Nat) (c:Co):∀ (zs:List Cn) (i:Nat) (out:List Ts) (nx:List Int),out.length≤(conL f cols rows k c i zs out nx).1.length∧(out.length≤4097→(conL f cols rows k c i zs out nx).1.length≤4097)∧(conL f cols rows k c i zs out nx).2.length=nx.length+zs.length
 | [],i,out,nx=>⟨Nat.le_refl _,fun h=>h,rfl⟩
 |z::zs,i,out,nx=>by
  have h1:=h out (putC cols k (fldC c.path z.flds)) (conRows k (i:Int) z.flds.length rows)
  have h2:=conL_len h cols rows k c zs (i+1) (f out (putC cols k (fldC c.path z.flds)) (conRows k (i:Int) z.flds.length rows)).1 (nx++[(f out (putC cols k (fldC c.path z.flds)) (conRows k (i:Int) z.flds.length rows)).2])
  unfold conL
  refine ⟨by omega,fun h=>h2.2.1 (h1.2 h),?_⟩
  rw[h2.2.2,List.length_append,List.length_cons,List.length_cons,List.length_nil];omega
theorem buildS_len (d:List Dt):∀ k,LenB (buildS d k)
 |0=>fun out _ _=>⟨Nat.le_refl _,fun h=>h⟩
 |k+1=>by
  intro out cols rows
  have ih:=buildS_len d k
  have hl:∀ t:Ts,(out++[t]).length=out.length+1:=fun t=>by simp
  unfold buildS
  split
  ·exact⟨Nat.le_refl _,fun h=>h⟩
  rename_i h4
  unfold bldB
  split
  ·exact⟨by rw[hl];omega,fun h=>by rw[hl];omega⟩
  rename_i r0 rs
  unfold bldK
  split
  ·exact⟨by rw[hl];omega,fun h=>by rw[hl];omega⟩
  split
  ·unfold bldN
   simp only[List.length_set]
   rename_i c _ _
   have h1:=ih (out++[zT]) (putC cols (idxZ nwB r0.pats).toNat []) (sameRows (idxZ nwB r0.pats).toNat (nmP (patAt r0 (idxZ nwB r0.pats).toNat)) (r0::rs))
   have h2:=ih (buildS d k (out++[zT]) (putC cols (idxZ nwB r0.pats).toNat []) (sameRows (idxZ nwB r0.pats).toNat (nmP (patAt r0 (idxZ nwB r0.pats).toNat)) (r0::rs))).1 cols (othRows (idxZ nwB r0.pats).toNat (nmP (patAt r0 (idxZ nwB r0.pats).toNat)) (r0::rs))
   rw[hl] at h1
   exact⟨by omega,fun h=>h2.2 (h1.2 (by omega))⟩
  ·unfold bldC
   simp only[List.length_set]
   rename_i c _ _
   have h1:=conL_len ih cols (r0::rs) (idxZ nwB r0.pats).toNat c (consOf d c.ty) 0 (out++[zT]) []
   rw[hl] at h1
   exact⟨by omega,fun h=>h1.2.1 (by omega)⟩
def nwW (rows:List Rw):Nat:=(rows.map fun r=>nwL r.pats).sum
structure BI (d:List Dt) (k:Nat) (cols:List Co) (rows:List Rw):Prop where
 fit:∀ r,r ∈ rows→fitR d (cols.map Co.ty) r.pats=true
 typ:∀ c,c ∈ cols→isT d c.ty=true
 nw:nwW rows<k
 path:∀ c,c ∈ cols→c.path.length+k≤100
 len:cols.length+8*k≤1000
 rl:rows.length≤6
 chk:checkS d=0
 flds:∀ y,y ∈ d→∀ c,c ∈ y.cons→c.flds.length≤8
 cov:CovL d (cols.map Co.ty) (rows.map Rw.pats)
theorem BI.ne {d:List Dt} {k:Nat} {cols:List Co} {rows:List Rw} (I:BI d k cols rows):rows≠[]:=by
 have:=I.cov.ne I.chk (fun t ht=>by obtain ⟨c,hc,rfl⟩:=List.mem_map.1 ht;exact I.typ c hc)
 intro e;rw[e] at this;exact this rfl
end Zc28
end
section
set_option maxHeartbeats 4000000
namespace Zc28
open Go Zv Zs
structure RA (Y:List (Nat × Ob)) (q q0 es:Nat) (v:V) (S:List D) (m:Nat):Prop where
 v:v=rowN m es S
 row:S≠[]→Zv.look Y m=some (.arr es (S.map .d))
 lo:S≠[]→q0≤m
 hi:S≠[]→m<q
theorem RA.nil (Y:List (Nat × Ob)) (q q0 es m:Nat):RA Y q q0 es (.tl [] (some true)) [] m:=⟨rfl,fun h=>absurd rfl h,fun h=>absurd rfl h,fun h=>absurd rfl h⟩
theorem RA.mono {Y Y':List (Nat × Ob)} {q q' q0 es m:Nat} {v:V} {S:List D} (R:RA Y q q0 es v S m) (hq:q≤q') (h:S≠[]→Zv.look Y' m=Zv.look Y m):RA Y' q' q0 es v S m:=
 ⟨R.v,fun hs=>by rw[h hs];exact R.row hs,R.lo,fun hs=>by have:=R.hi hs;omega⟩
theorem app_row {es b m q:Nat} {Y:List (Nat × Ob)} {S:List D} {x:D} {nl:Option Bool} (hr:Zv.look Y m=some (.arr es (S.map .d))) (hx:x.cells.length=es) (hb:(S.length+1)*b≤roomB) :
  app es b ⟨Y,q⟩ (.own m es S.length 0 S.length) (.tl [.d x] nl)=some (.own m es (S.length+1) 0 (S.length+1),⟨Zv.upd Y m (.arr es ((S++[x]).map .d)),q⟩):=by
 have hrow:(⟨Y,q⟩:Hp).row m S.length=some (es,S.map .d):=row_of hr (by simp)
 have hxs:allV es [V.d x]=true:=by simp[allV,V.cells,hx]
 have h1:¬ S.length+1≤S.length:=by omega
 have h2:List.take S.length (S.map V.d)=S.map V.d:=List.take_of_length_le (by simp)
 unfold app
 simp only[elems,Option.bind_some,List.map_cons,List.map_nil,norm_d,hxs,if_true,hrow,List.length_map,Nat.zero_add,Nat.le_refl,and_self,List.isEmpty_cons,Bool.false_eq_true,if_false,List.length_cons,List.length_nil,h1,hb,h2,Hp.set,List.map_append]
theorem ra_app {Y:List (Nat × Ob)} {q q0 es b m:Nat} {v:V} {S:List D} {x:D} {nl:Option Bool} (R:RA Y q q0 es v S m) (hq:q0≤q) (hx:x.cells.length=es) (hb:(S.length+1)*b≤roomB) :
  ∃ v' Y' q' m',app es b ⟨Y,q⟩ v (.tl [.d x] nl)=some (v',⟨Y',q'⟩)∧RA Y' q' q0 es v' (S++[x]) m'∧q≤q'∧(S≠[]→m'=m)∧(S=[]→q≤m')∧∀ n,n<q→(S≠[]→n≠m)→Zv.look Y' n=Zv.look Y n:=by
 by_cases hs:S=[]
 ·subst hs
  refine ⟨.own q es 1 0 1,(q,.arr es [.d x])::Y,q+1,q,?_,⟨rfl,fun _=>look_hd ..,fun _=>hq,fun _=>by omega⟩,by omega,fun h=>absurd rfl h,fun _=>Nat.le_refl _,fun n hn _=>look_tl _ _ (by omega)⟩
  have hxs:allV es [V.d x]=true:=by simp[allV,V.cells,hx]
  have hb':b≤roomB:=by simpa using hb
  rw[R.v]
  simp[rowN,app,elems,hxs,norm_d,Hp.alloc,hb',allV,V.cells,hx]
 ·have hv:v=.own m es S.length 0 S.length:=by rw[R.v];exact if_neg hs
  refine ⟨.own m es (S.length+1) 0 (S.length+1),Zv.upd Y m (.arr es ((S++[x]).map .d)),q,m,?_,⟨?_,fun _=>?_,fun _=>R.lo hs,fun _=>R.hi hs⟩,Nat.le_refl _,fun _=>rfl,fun h=>absurd h hs,fun n _ hn=>?_⟩
  ·rw[hv];exact app_row (R.row hs) hx hb
  ·unfold rowN;rw[if_neg (by simp),List.length_append];rfl
  ·rw[Zs.look_upd,if_pos rfl,R.row hs];rfl
  ·rw[Zs.look_upd,if_neg (hn hs)]
theorem ra_frz {Y:List (Nat × Ob)} {q q0 es m:Nat} {v:V} {S:List D} (R:RA Y q q0 es v S m) :
  ∃ Y',(∀ nx,Zv.frz ⟨Y,nx⟩ v=some (.d (.lst S),⟨Y',nx⟩))∧∀ n,(S≠[]→n≠m)→Zv.look Y' n=Zv.look Y n:=by
 by_cases hs:S=[]
 ·subst hs
  exact⟨Y,fun nx=>by rw[R.v];rfl,fun n _=>rfl⟩
 ·have hv:v=.own m es S.length 0 S.length:=by rw[R.v];exact if_neg hs
  refine ⟨Zv.del Y m,fun nx=>?_,fun n hn=>look_del (hn hs) _⟩
  rw[hv,frz_row (row_of (R.row hs) (by simp))]
  rfl
theorem ra_app2 {Y:List (Nat × Ob)} {q q0 es es2 b m m2:Nat} {v v2:V} {S S2:List D} {x:D} {nl:Option Bool} (R:RA Y q q0 es v S m) (R2:RA Y q q0 es2 v2 S2 m2) (hd:S≠[]→S2≠[]→m≠m2) (hq:q0≤q) (hx:x.cells.length=es) (hb:(S.length+1)*b≤roomB) :
  ∃ v' Y' q' m',app es b ⟨Y,q⟩ v (.tl [.d x] nl)=some (v',⟨Y',q'⟩)∧RA Y' q' q0 es v' (S++[x]) m'∧RA Y' q' q0 es2 v2 S2 m2∧(S2≠[]→m'≠m2)∧q≤q'∧∀ n,n<q0→Zv.look Y' n=Zv.look Y n:=by
 obtain ⟨v',Y',q',m',h1,h2,h3,h4,h5,h6⟩:=ra_app (nl:=nl) R hq hx hb
 refine ⟨v',Y',q',m',h1,h2,R2.mono h3 fun hs=>h6 m2 (R2.hi hs) fun hs1 e=>hd hs1 hs e.symm,fun hs=>?_,h3,fun n hn=>h6 n (by omega) fun hs=>by have:=R.lo hs;omega⟩
 by_cases h0:S=[]
 ·have:=h5 h0;have:=R2.hi hs;omega
 ·rw[h4 h0];exact hd h0 hs
theorem RA.fr {Y Y':List (Nat × Ob)} {q q' q0 es m m2:Nat} {v:V} {S:List D} (R:RA Y q q0 es v S m) (hq:q≤q') (h:∀ n,n<q→n≠m2→Zv.look Y' n=Zv.look Y n) (hm:S≠[]→m≠m2):RA Y' q' q0 es v S m:=
 R.mono hq fun hs=>h m (R.hi hs) (hm hs)
theorem mk_z:norm (V.agg [.tl [] (some true),.d (.bool false),.d (.int .i64 0),.tl [] (some true),.d (.int .i64 0)])=.d (eT zT):=rfl
theorem mk_z1:mkAgg [.tl [] (some true),.d (.bool false),.d (.int .i64 0),.tl [] (some true),.d (.int .i64 0)]=V.agg [.tl [] (some true),.d (.bool false),.d (.int .i64 0),.tl [] (some true),.d (.int .i64 0)]:=rfl
section
variable (d:List Dt) (ov dv bv:Nat)
structure VB (X:List (Nat × Ob)) (out:List Ts) (m:Nat):Prop where
 iov:Zv.look X ov=some (.arr 1 [.own m 5 out.length 0 out.length])
 irow:Zv.look X m=some (.arr 5 ((out.map eT).map .d))
 idv:Zv.look X dv=some (.arr 1 [.d (eDs d)])
 ibv:Zv.look X bv=some (.arr 1 [.clo 37 [.ptr ov 1 0 0,.ptr dv 1 0 0,.ptr bv 1 0 0]])
def VS (X:List (Nat × Ob)) (out:List Ts) (m q:Nat):Prop:=
 (out≠[]∧VB d ov dv bv X out m∧m<q)∨(out=[]∧Zv.look X ov=some (.arr 1 [.agg [.tl [] (some true)]])∧Zv.look X dv=some (.arr 1 [.d (eDs d)])∧Zv.look X bv=some (.arr 1 [.clo 37 [.ptr ov 1 0 0,.ptr dv 1 0 0,.ptr bv 1 0 0]]))
def FrB (m q:Nat) (X X':List (Nat × Ob)):Prop:=∀ n,n<q→n≠ov→n≠m→Zv.look X' n=Zv.look X n
variable {d ov dv bv}
theorem VB.ne1 {X:List (Nat × Ob)} {out:List Ts} {m:Nat} (I:VB d ov dv bv X out m):m≠ov∧m≠dv∧m≠bv∧dv≠ov∧bv≠ov:=by
 refine ⟨?_,?_,?_,?_,?_⟩<;>intro e
 ·have h1:=I.irow;rw[e,I.iov] at h1;cases h1
 ·have h1:=I.irow;rw[e,I.idv] at h1;cases h1
 ·have h1:=I.irow;rw[e,I.ibv] at h1;cases h1
 ·have h1:=I.idv;rw[e,I.iov] at h1;cases h1
 ·have h1:=I.ibv;rw[e,I.iov] at h1;cases h1
theorem VB.same {X X':List (Nat × Ob)} {out:List Ts} {m:Nat} (I:VB d ov dv bv X out m) (h1:Zv.look X' ov=Zv.look X ov) (h2:Zv.look X' m=Zv.look X m) (h3:Zv.look X' dv=Zv.look X dv) (h4:Zv.look X' bv=Zv.look X bv):VB d ov dv bv X' out m:=
 ⟨by rw[h1];exact I.iov,by rw[h2];exact I.irow,by rw[h3];exact I.idv,by rw[h4];exact I.ibv⟩
theorem VB.put {X:List (Nat × Ob)} {out out':List Ts} {m:Nat} (I:VB d ov dv bv X out m) (hl:out'.length=out.length):VB d ov dv bv (Zv.upd X m (.arr 5 ((out'.map eT).map .d))) out' m:=by
 obtain ⟨n1,n2,n3,n4,n5⟩:=I.ne1
 refine ⟨?_,?_,?_,?_⟩<;>rw[Zs.look_upd]
 ·rw[if_neg (fun e=>n1 e.symm),hl];exact I.iov
 ·rw[if_pos rfl,I.irow];rfl
 ·rw[if_neg (fun e=>n2 e.symm)];exact I.idv
 ·rw[if_neg (fun e=>n3 e.symm)];exact I.ibv
theorem vs_add {X:List (Nat × Ob)} {out:List Ts} {m q:Nat} (I:VS d ov dv bv X out m q) (ho:ov<q) (hd:dv<q) (hb:bv<q) (hl:out.length≤4096) :
  ∃ w outL,(∀ nx,Hp.row ⟨X,nx⟩ ov 1=some (1,[w]))∧w.cells[0]? = some outL∧lenL outL=some (.d (.int .i64 (out.length:Int))) ∧
   ∃ m' X2 q2 H1,app 5 72 ⟨X,q⟩ outL (.tl [.d (eT zT)] (some false))=some (.own m' 5 (out.length+1) 0 (out.length+1),H1)∧st 1 H1 (.ptr ov 1 0 0) (.own m' 5 (out.length+1) 0 (out.length+1))=some ⟨X2,q2⟩ ∧
    VB d ov dv bv X2 (out++[zT]) m'∧m'<q2∧q≤q2∧(out≠[]→m'=m)∧(out=[]→q≤m')∧FrB ov m' q X X2:=by
 rcases I with ⟨h0,I,hm⟩ | ⟨rfl,i1,i2,i3⟩
 ·obtain ⟨n1,n2,n3,n4,n5⟩:=I.ne1
  refine ⟨_,_,fun nx=>row_of I.iov rfl,rfl,rfl,m,Zv.upd (Zv.upd X m (.arr 5 (((out++[zT]).map eT).map .d))) ov (.arr 1 [.own m 5 (out.length+1) 0 (out.length+1)]),q,⟨Zv.upd X m (.arr 5 (((out++[zT]).map eT).map .d)),q⟩,?_,?_,?_,hm,Nat.le_refl _,fun _=>rfl,fun h=>absurd h h0,?_⟩
  ·have:=app_row (es:=5) (b:=72) (m:=m) (q:=q) (Y:=X) (S:=out.map eT) (x:=eT zT) (nl:=some false) I.irow rfl (by rw[List.length_map];unfold roomB;omega)
   rw[List.length_map] at this
   rw[this]
   simp
  ·have hr:Hp.row ⟨Zv.upd X m (.arr 5 (((out++[zT]).map eT).map .d)),q⟩ ov 1=some (1,[.own m 5 out.length 0 out.length]):=row_of (by rw[Zs.look_upd,if_neg (fun e=>n1 e.symm)];exact I.iov) rfl
   rw[st_all (i:=0) hr rfl rfl rfl]
   rfl
  ·refine ⟨?_,?_,?_,?_⟩<;>rw[Zs.look_upd]
   ·rw[if_pos rfl,Zs.look_upd,if_neg (fun e=>n1 e.symm),I.iov,List.length_append];rfl
   ·rw[if_neg n1,Zs.look_upd,if_pos rfl,I.irow];rfl
   ·rw[if_neg n4,Zs.look_upd,if_neg (fun e=>n2 e.symm)];exact I.idv
   ·rw[if_neg n5,Zs.look_upd,if_neg (fun e=>n3 e.symm)];exact I.ibv
  ·intro n _ h1 h2
   rw[Zs.look_upd,if_neg h1,Zs.look_upd,if_neg h2]
 ·refine ⟨_,_,fun nx=>row_of i1 rfl,rfl,rfl,q,Zv.upd ((q,.arr 5 [.d (eT zT)])::X) ov (.arr 1 [.own q 5 1 0 1]),q+1,⟨(q,.arr 5 [.d (eT zT)])::X,q+1⟩,?_,?_,?_,by omega,by omega,fun h=>absurd rfl h,fun _=>Nat.le_refl _,?_⟩
  ·exact app_0 (eT zT) rfl _ _ _
  ·have hr:Hp.row ⟨(q,.arr 5 [.d (eT zT)])::X,q+1⟩ ov 1=some (1,[.agg [.tl [] (some true)]]):=row_of (by rw[look_tl _ _ (by omega)];exact i1) rfl
   rw[show ([]:List Ts).length+1=1 from rfl,st_all (i:=0) hr rfl rfl rfl]
   rfl
  ·refine ⟨?_,?_,?_,?_⟩<;>rw[Zs.look_upd]
   ·rw[if_pos rfl,look_tl _ _ (by omega),i1];rfl
   ·rw[if_neg (by omega),look_hd];rfl
   ·rw[if_neg (fun e=>by rw[e,i1] at i2;cases i2),look_tl _ _ (by omega)];exact i2
   ·rw[if_neg (fun e=>by rw[e,i1] at i3;cases i3),look_tl _ _ (by omega)];exact i3
  ·intro n hn h1 h2
   rw[Zs.look_upd,if_neg h1,look_tl _ _ h2]
end
end Zc28
end
section
set_option maxHeartbeats 4000000
namespace Zc28
open Go Zv Zs
theorem take_drop_at {α:Type} {l:List α} {n:Nat} {x:α} (h:l[n]? = some x):l=l.take n++x::l.drop (n+1):=by
 obtain ⟨h1,h2⟩:=List.getElem?_eq_some_iff.1 h
 rw[←h2,←List.drop_eq_getElem_cons h1,List.take_append_drop]
theorem row_at {d:List Dt} {ta tb:List Int} {t:Int} {ps:List Pt} (h:fitR d (ta++t::tb) ps=true):∃ pa p pb,ps=pa++p::pb∧pa.length=ta.length∧fitR d ta pa=true∧fitsP d t p=true∧fitR d tb pb=true:=by
 have hl:=fitR_len h
 rw[List.length_append,List.length_cons] at hl
 obtain ⟨p,hp⟩:=get_of_lt (l:=ps) (n:=ta.length) (by omega)
 have e:=take_drop_at hp
 have hta:(ps.take ta.length).length=ta.length:=by rw[List.length_take];omega
 rw[e] at h
 obtain ⟨h1,h2⟩:=fitR_split hta.symm h
 simp only[fitR,Bool.and_eq_true] at h2
 exact⟨_,p,_,e,hta,h1,h2.1,h2.2⟩
theorem patAt_mid {n:Int} {pa pb:List Pt} {p:Pt} {k:Nat} (h:pa.length=k):patAt ⟨n,pa++p::pb⟩ k=p:=by
 unfold patAt;subst h;simp
theorem putP_mid {n:Int} {pa pb a:List Pt} {p:Pt} {k:Nat} (h:pa.length=k):putP ⟨n,pa++p::pb⟩ k a=⟨n,pa++a++pb⟩:=by
 unfold putP;subst h;simp
theorem putC_mid {ca cb a:List Co} {c:Co} {k:Nat} (h:ca.length=k):putC (ca++c::cb) k a=ca++a++cb:=by
 unfold putC;subst h;simp
theorem es_at {ta tb:List Int} {t:Int} {es:List (List Int)} (h:es.length=(ta++t::tb).length):∃ ea e eb,es=ea++e::eb∧ea.length=ta.length∧eb.length=tb.length:=by
 rw[List.length_append,List.length_cons] at h
 obtain ⟨e,he⟩:=get_of_lt (l:=es) (n:=ta.length) (by omega)
 refine ⟨_,e,_,take_drop_at he,by rw[List.length_take];omega,by rw[List.length_drop];omega⟩
theorem nw_filterMap {f:Rw→Option Rw}:∀ rows:List Rw,(∀ r,r ∈ rows→∀ r',f r=some r'→nwL r'.pats≤nwL r.pats)→nwW (rows.filterMap f)≤nwW rows
 | [],_=>Nat.le_refl _
 |r::rs,hf=>by
  have ih:=nw_filterMap rs fun r hr=>hf r (.tail _ hr)
  unfold nwW at ih ⊢
  cases h:f r with
  |none=>rw[List.filterMap_cons_none h,List.map_cons,List.sum_cons];omega
  |some r'=>have:=hf r (.head _) r' h;rw[List.filterMap_cons_some h,List.map_cons,List.map_cons,List.sum_cons,List.sum_cons];omega
theorem nw_head {f:Rw→Option Rw} {rows:List Rw} {r0:Rw} (hf:∀ r,r ∈ rows→∀ r',f r=some r'→nwL r'.pats≤nwL r.pats) (h0:rows[0]? = some r0) (hp:1≤nwL r0.pats) (hs:∀ r',f r0=some r'→nwL r'.pats<nwL r0.pats):nwW (rows.filterMap f)<nwW rows:=by
 cases rows with
 |nil=>cases h0
 |cons r rs=>
  cases h0
  have ih:=nw_filterMap rs fun r hr=>hf r (.tail _ hr)
  unfold nwW at ih ⊢
  cases h:f r0 with
  |none=>rw[List.filterMap_cons_none h,List.map_cons,List.sum_cons];omega
  |some r'=>have:=hs r' h;rw[List.filterMap_cons_some h,List.map_cons,List.map_cons,List.sum_cons,List.sum_cons];omega
theorem nw_mid (pa pb:List Pt) (p:Pt):nwL (pa++p::pb)=nwL pa+nwP p+nwL pb:=by rw[nwL_app,nwL];omega
theorem nw_mid' (pa pb a:List Pt):nwL (pa++a++pb)=nwL pa+nwL a+nwL pb:=by rw[nwL_app,nwL_app]
theorem nwP_pos {p:Pt} (h:kdP p≠0):nwP p=1+nwL (argsP p):=by
 obtain ⟨k,c,m,qs⟩:=p
 have h:¬ k=0:=h
 rw[nwP,if_neg h];rfl
theorem nwP_lt {p:Pt} {con:Int} {nf:Nat} {a:List Pt} (h:argsFor p con nf=some a):nwL a≤nwP p∧(kdP p≠0→nwL a<nwP p):=by
 unfold argsFor at h
 split at h
 ·rename_i k0
  cases h
  rw[nwL_wild]
  exact⟨Nat.zero_le _,fun h=>absurd k0 h⟩
 ·rename_i k0
  have:=nwP_pos k0
  split at h
  ·cases h;exact⟨by omega,fun _=>by omega⟩
  ·cases h
structure At (d:List Dt) (k n:Nat) (cols:List Co) (rows:List Rw) (c:Co) (ca cb:List Co):Prop where
 e:cols=ca++c::cb
 l:ca.length=n
 fit:∀ r,r ∈ rows→∃ pa p pb,r.pats=pa++p::pb∧pa.length=n∧patAt r n=p∧(∀ a,putP r n a=⟨r.n,pa++a++pb⟩)∧fitR d (ca.map Co.ty) pa=true∧fitsP d c.ty p=true∧fitR d (cb.map Co.ty) pb=true
theorem BI.at {d:List Dt} {k n:Nat} {cols:List Co} {rows:List Rw} {c:Co} (I:BI d k cols rows) (hc:cols[n]? = some c):∃ ca cb,At d k n cols rows c ca cb:=by
 have e:=take_drop_at hc
 have hl:(cols.take n).length=n:=by have:=(List.getElem?_eq_some_iff.1 hc).1;rw[List.length_take];omega
 refine ⟨_,_,e,hl,fun r hr=>?_⟩
 have hf:=I.fit r hr
 rw[e,List.map_append,List.map_cons] at hf
 obtain ⟨pa,p,pb,hp,hpl,f1,f2,f3⟩:=row_at hf
 have hpl':pa.length=n:=by rw[hpl,List.length_map,hl]
 obtain ⟨rn,rp⟩:=r
 have hp:rp=_:=hp
 subst hp
 exact⟨pa,p,pb,rfl,hpl',patAt_mid hpl',fun a=>putP_mid hpl',f1,f2,f3⟩
theorem BI.nonwild {d:List Dt} {k n:Nat} {cols:List Co} {rows:List Rw} {r0:Rw} {c:Co} {ca cb:List Co} (A:At d k n cols rows c ca cb) (h0:rows[0]? = some r0) (hn:idxZ nwB r0.pats=(n:Int)):kdP (patAt r0 n)≠0∧1≤nwL r0.pats:=by
 obtain ⟨pa,p,pb,hp,hpl,hpa,_⟩:=A.fit r0 (List.mem_of_getElem? h0)
 have hk:kdP (patAt r0 n)≠0:=by
  rcases idxZ_cases nwB r0.pats with hz | ⟨m,x,hz,hx,hx2⟩
  ·omega
  ·have:m=n:=by omega
   subst this
   rw[hp,List.getElem?_append_right (by omega),hpl] at hx
   simp at hx
   rw[hpa,hx]
   unfold nwB wildP at hx2
   simpa using hx2
 refine ⟨hk,?_⟩
 rw[hpa] at hk
 have:=nwP_pos hk
 rw[hp,nw_mid];omega
theorem mem_putC {cols a:List Co} {k:Nat} {c:Co} (h:c ∈ putC cols k a):c ∈ cols∨c ∈ a:=by
 unfold putC at h
 rcases List.mem_append.1 h with h | h
 ·rcases List.mem_append.1 h with h | h
  ·exact .inl (List.mem_of_mem_take h)
  ·exact .inr h
 ·exact .inl (List.mem_of_mem_drop h)
theorem putC_len (cols a:List Co) {k:Nat} (h:k<cols.length):(putC cols k a).length=cols.length - 1+a.length:=by
 unfold putC;simp only[List.length_append,List.length_take,List.length_drop];omega
theorem fldC_mem {path fs:List Int} {c:Co} (h:c ∈ fldC path fs):c.path.length=path.length+1∧c.ty ∈ fs:=by
 unfold fldC at h
 obtain ⟨⟨f,i⟩,hq,rfl⟩:=List.mem_map.1 h
 obtain ⟨_,_,hq3⟩:=List.mem_zipIdx hq
 exact⟨by simp,by rw[show (⟨path++[((f,i).2:Int)],(f,i).1⟩:Co).ty=f from rfl,hq3];exact List.getElem_mem _⟩
theorem fldC_ty (path fs:List Int):(fldC path fs).map Co.ty=fs:=by
 unfold fldC
 rw[List.map_map]
 exact List.zipIdx_map_fst 0 fs
theorem args_fit {d:List Dt} {t:Int} {p:Pt} {i:Nat} {z:Cn} {a:List Pt} (hf:fitsP d t p=true) (ht:t≠0) (hz:(consOf d t)[i]? = some z) (h:argsFor p (i:Int) z.flds.length=some a):fitR d z.flds a=true:=by
 obtain ⟨k,c,m,qs⟩:=p
 unfold argsFor at h
 rcases fits_cases hf with ⟨rfl,_⟩ | ⟨_,h2,_⟩ | ⟨rfl,_,_,j,y,rfl,hy,_,hfr⟩
 ·rw[if_pos (show kdP (Pt.mk 0 c m qs)=0 from rfl)] at h;cases h;exact fitR_wild ..
 ·exact absurd h2 ht
 ·rw[if_neg (show ¬ kdP (Pt.mk 1 (j:Int) m qs)=0 from (by decide:¬ (1:Int)=0))] at h
  split at h
  ·rename_i hji
   have hji:(j:Int)=(i:Int):=hji
   have:j=i:=by omega
   subst this
   rw[hy] at hz;cases hz
   cases h
   exact hfr
  ·cases h
theorem args_mt {d:List Dt} {t:Int} {p:Pt} {i:Nat} {z:Cn} {m:Int} {av:List Vl} (hf:fitsP d t p=true) (ht:t≠0) (hl:av.length=z.flds.length) (hm:mtP p (.mk m (i:Int) av)=true):∃ a,argsFor p (i:Int) z.flds.length=some a∧mtL a av=true:=by
 obtain ⟨k,c,m',qs⟩:=p
 unfold argsFor
 rw[mtP] at hm
 rcases fits_cases hf with ⟨rfl,_⟩ | ⟨_,h2,_⟩ | ⟨rfl,_,_,j,y,rfl,hy,_,hfr⟩
 ·exact⟨_,if_pos rfl,by rw[←hl];exact mtL_wild av⟩
 ·exact absurd h2 ht
 ·rw[if_neg (by decide),if_neg (by decide),if_pos rfl,Bool.and_eq_true,decide_eq_true_eq] at hm
  exact⟨qs,by rw[if_neg (show ¬ kdP (Pt.mk 1 (j:Int) m' qs)=0 from (by decide:¬ (1:Int)=0))];exact if_pos hm.1.symm,hm.2⟩
theorem mt_mid {pa pb:List Pt} {p:Pt} {va vb:List Vl} {v:Vl} (hl:pa.length=va.length):mtL (pa++p::pb) (va++v::vb)=(mtL pa va && (mtP p v && mtL pb vb)):=by rw[mtL_app hl,mtL]
theorem mt_mid' {pa pb a:List Pt} {va vb av:List Vl} (hl:pa.length=va.length) (h2:a.length=av.length):mtL (pa++a++pb) (va++av++vb)=(mtL pa va && (mtL a av && mtL pb vb)):=by
 rw[List.append_assoc,List.append_assoc,mtL_app hl,mtL_app h2]
theorem dom_mid {d:List Dt} {ta tb:List Int} {t:Int} {ea eb:List (List Int)} {e:List Int} {va vb:List Vl} {v:Vl} (h1:domL d ta ea va) (h2:domV d t e v) (h3:domL d tb eb vb):domL d (ta++t::tb) (ea++e::eb) (va++v::vb):=
 domL_app h1 ⟨h2,h3⟩
theorem BI.con {d:List Dt} {k n i:Nat} {cols:List Co} {rows:List Rw} {r0:Rw} {c:Co} {z:Cn} (I:BI d (k+1) cols rows) (h0:rows[0]? = some r0) (hn:idxZ nwB r0.pats=(n:Int)) (hc:cols[n]? = some c) (ht:c.ty≠0) (hz:(consOf d c.ty)[i]? = some z) :
  BI d k (putC cols n (fldC c.path z.flds)) (conRows n (i:Int) z.flds.length rows):=by
 obtain ⟨ca,cb,A⟩:=I.at hc
 obtain ⟨hk0,hp0⟩:=BI.nonwild A h0 hn
 have hty:=typed_flds (check_typed I.chk)
 obtain ⟨y,hy,hzy⟩:∃ y,y ∈ d∧z ∈ y.cons:=by
  rcases tcase d c.ty with h | h | ⟨m,y,hm,hy⟩
  ·rw[consOf_lo h] at hz;cases hz
  ·rw[consOf_hi h] at hz;cases hz
  ·rw[hm,consOf_at hy] at hz
   exact⟨y,List.mem_of_getElem? hy,List.mem_of_getElem? hz⟩
 have hnl:=(List.getElem?_eq_some_iff.1 hc).1
 have hcm:=List.mem_of_getElem? hc
 have hflen:=I.flds y hy z hzy
 have hfl:(fldC c.path z.flds).length=z.flds.length:=by rw[←List.length_map (f:=Co.ty),fldC_ty]
 have hcols:putC cols n (fldC c.path z.flds)=ca++fldC c.path z.flds++cb:=by rw[A.e];exact putC_mid A.l
 have hmap:(putC cols n (fldC c.path z.flds)).map Co.ty=ca.map Co.ty++z.flds++cb.map Co.ty:=by rw[hcols,List.map_append,List.map_append,fldC_ty]
 have hrow:∀ r',r' ∈ conRows n (i:Int) z.flds.length rows→∃ r a,r ∈ rows∧argsFor (patAt r n) (i:Int) z.flds.length=some a∧r'=putP r n a:=by
  intro r' hr'
  obtain ⟨r,hr,hs⟩:=List.mem_filterMap.1 hr'
  unfold conRow at hs
  obtain ⟨a,ha,rfl⟩:=Option.map_eq_some_iff.1 hs
  exact⟨r,a,hr,ha,rfl⟩
 refine ⟨?_,?_,?_,?_,?_,?_,I.chk,I.flds,?_⟩
 ·intro r' hr'
  obtain ⟨r,a,hr,ha,rfl⟩:=hrow r' hr'
  obtain ⟨pa,p,pb,hp,hpl,hpa,hput,f1,f2,f3⟩:=A.fit r hr
  rw[hput,hmap]
  rw[hpa] at ha
  exact fitR_app (fitR_app f1 (args_fit f2 ht hz ha)) f3
 ·intro x hx
  rcases mem_putC hx with h | h
  ·exact I.typ x h
  ·exact hty y hy z hzy _ (fldC_mem h).2
 ·have:=nw_head (f:=conRow n (i:Int) z.flds.length) (rows:=rows) (r0:=r0) ?_ h0 hp0 ?_
  ·have h2:=I.nw
   unfold conRows;omega
  ·intro r hr r' h
   unfold conRow at h
   obtain ⟨a,ha,rfl⟩:=Option.map_eq_some_iff.1 h
   obtain ⟨pa,p,pb,hp,hpl,hpa,hput,_⟩:=A.fit r hr
   rw[hpa] at ha
   rw[hput,hp,nw_mid]
   show nwL (pa++a++pb)≤_
   rw[nw_mid']
   have:=(nwP_lt ha).1
   omega
  ·intro r' h
   unfold conRow at h
   obtain ⟨a,ha,rfl⟩:=Option.map_eq_some_iff.1 h
   obtain ⟨pa,p,pb,hp,hpl,hpa,hput,_⟩:=A.fit r0 (List.mem_of_getElem? h0)
   rw[hpa] at ha hk0
   rw[hput,hp,nw_mid]
   show nwL (pa++a++pb)<_
   rw[nw_mid']
   have:=(nwP_lt ha).2 hk0
   omega
 ·intro x hx
  have hpc:=I.path c hcm
  rcases mem_putC hx with h | h
  ·have:=I.path x h;omega
  ·have:=(fldC_mem h).1;omega
 ·have:=I.len
  rw[putC_len _ _ hnl,hfl];omega
 ·have:=List.length_filterMap_le (conRow n (i:Int) z.flds.length) rows
  have:=I.rl
  unfold conRows;omega
 ·obtain ⟨es,h1,h2,h3⟩:=I.cov
  rw[A.e,List.map_append,List.map_cons] at h1 h2 h3
  obtain ⟨ea,e,eb,rfl,hla,hlb⟩:=es_at h1
  refine ⟨ea++List.replicate z.flds.length []++eb,?_,?_,?_⟩
  ·rw[hmap];simp[hla,hlb]
  ·rw[hmap]
   intro vs hv
   obtain ⟨w,vb,rfl,d1,d3⟩:=domL_split (by simp[hla]) hv
   obtain ⟨va,av,rfl,d1,d2⟩:=domL_split hla.symm d1
   have hty2:=domL_ty d2
   have hm:=dom_mid (t:=c.ty) (e:=e) (v:=.mk 0 (i:Int) av) d1 ⟨by rw[tyV,if_neg ht];exact⟨i,z,rfl,hz,hty2⟩,fun h=>absurd h ht⟩ d3
   obtain ⟨ps,hps,hmt⟩:=h2 _ hm
   obtain ⟨r,hr,rfl⟩:=List.mem_map.1 hps
   obtain ⟨pa,p,pb,hp,hpl,hpa,hput,f1,f2,f3⟩:=A.fit r hr
   have hva:=(domL_len d1).1
   have hpv:pa.length=va.length:=by rw[hva,List.length_map,A.l,hpl]
   rw[hp,mt_mid hpv,Bool.and_eq_true,Bool.and_eq_true] at hmt
   obtain ⟨a,ha,hma⟩:=args_mt f2 ht (tyL_len hty2) hmt.2.1
   refine ⟨(putP r n a).pats,List.mem_map.2 ⟨putP r n a,List.mem_filterMap.2 ⟨r,hr,by unfold conRow;rw[hpa,ha];rfl⟩,rfl⟩,?_⟩
   rw[hput]
   show mtL (pa++a++pb) _=true
   rw[mt_mid' hpv (mtL_len hma),hmt.1,hma,hmt.2.2];rfl
  ·rw[hmap]
   intro ps hps
   obtain ⟨r',hr',rfl⟩:=List.mem_map.1 hps
   obtain ⟨r,a,hr,ha,rfl⟩:=hrow r' hr'
   obtain ⟨pa,p,pb,hp,hpl,hpa,hput,f1,f2,f3⟩:=A.fit r hr
   have hfr:=h3 r.pats (List.mem_map.2 ⟨r,hr,rfl⟩)
   have hla2:(ca.map Co.ty).length=pa.length:=by rw[List.length_map,A.l,hpl]
   rw[hp,freshL_app hla.symm hla2] at hfr
   rw[hput]
   rw[hpa] at ha
   have haf:=fitR_len (args_fit f2 ht hz ha)
   show freshL _ _ (pa++a++pb)
   rw[freshL_app (by simp[hla]) (by simp[A.l,hpl,haf]),freshL_app hla.symm hla2]
   exact⟨⟨hfr.1,freshL_none ..⟩,hfr.2.2⟩
theorem BI.same {d:List Dt} {k n:Nat} {cols:List Co} {rows:List Rw} {r0:Rw} {c:Co} (I:BI d (k+1) cols rows) (h0:rows[0]? = some r0) (hn:idxZ nwB r0.pats=(n:Int)) (hc:cols[n]? = some c) (ht:c.ty=0) :
  BI d k (putC cols n []) (sameRows n (nmP (patAt r0 n)) rows):=by
 obtain ⟨ca,cb,A⟩:=I.at hc
 obtain ⟨hk0,hp0⟩:=BI.nonwild A h0 hn
 have hnl:=(List.getElem?_eq_some_iff.1 hc).1
 have hcols:putC cols n []=ca++cb:=by rw[A.e,putC_mid A.l,List.append_nil]
 have hmap:(putC cols n []).map Co.ty=ca.map Co.ty++cb.map Co.ty:=by rw[hcols,List.map_append]
 have hrow:∀ r',r' ∈ sameRows n (nmP (patAt r0 n)) rows→∃ r,r ∈ rows∧r'=putP r n []:=by
  intro r' hr'
  obtain ⟨r,hr,hs⟩:=List.mem_filterMap.1 hr'
  split at hs
  ·cases hs;exact⟨r,hr,rfl⟩
  ·cases hs
 refine ⟨?_,?_,?_,?_,?_,?_,I.chk,I.flds,?_⟩
 ·intro r' hr'
  obtain ⟨r,hr,rfl⟩:=hrow r' hr'
  obtain ⟨pa,p,pb,hp,hpl,hpa,hput,f1,f2,f3⟩:=A.fit r hr
  rw[hput,hmap,List.append_nil]
  exact fitR_app f1 f3
 ·intro x hx
  rcases mem_putC hx with h | h
  ·exact I.typ x h
  ·cases h
 ·have:=nw_head (f:=fun r=>if sameB n (nmP (patAt r0 n)) r=true then some (putP r n []) else none) (rows:=rows) (r0:=r0) ?_ h0 hp0 ?_
  ·have h2:=I.nw
   unfold sameRows;omega
  ·intro r hr r' h
   split at h
   ·cases h
    obtain ⟨pa,p,pb,hp,hpl,hpa,hput,_⟩:=A.fit r hr
    rw[hput,hp,nw_mid,List.append_nil]
    show nwL (pa++pb)≤_
    rw[nwL_app];omega
   ·cases h
  ·intro r' h
   split at h
   ·cases h
    obtain ⟨pa,p,pb,hp,hpl,hpa,hput,_⟩:=A.fit r0 (List.mem_of_getElem? h0)
    rw[hpa] at hk0
    have:=nwP_pos hk0
    rw[hput,hp,nw_mid,List.append_nil]
    show nwL (pa++pb)<_
    rw[nwL_app];omega
   ·cases h
 ·intro x hx
  rcases mem_putC hx with h | h
  ·have:=I.path x h;omega
  ·cases h
 ·have:=I.len
  rw[putC_len _ _ hnl];simp only[List.length_nil];omega
 ·have:=List.length_filterMap_le (fun r=>if sameB n (nmP (patAt r0 n)) r=true then some (putP r n []) else none) rows
  have:=I.rl
  unfold sameRows;omega
 ·obtain ⟨es,h1,h2,h3⟩:=I.cov
  rw[A.e,List.map_append,List.map_cons] at h1 h2 h3
  obtain ⟨ea,e,eb,rfl,hla,hlb⟩:=es_at h1
  refine ⟨ea++eb,?_,?_,?_⟩
  ·rw[hmap];simp only[List.length_append,hla,hlb]
  ·rw[hmap]
   intro vs hv
   obtain ⟨va,vb,rfl,d1,d3⟩:=domL_split hla.symm hv
   have hfresh:nmP (patAt r0 n) ∉ e:=by
    have h0m:=List.mem_of_getElem? h0
    obtain ⟨pa,p,pb,hp,hpl,hpa,hput,f1,f2,f3⟩:=A.fit r0 h0m
    have hfr:=h3 r0.pats (List.mem_map.2 ⟨r0,h0m,rfl⟩)
    rw[hp,freshL_app hla.symm (by rw[List.length_map,A.l,hpl])] at hfr
    rw[hpa] at hk0 ⊢
    exact hfr.2.1 ht hk0
   have hm:=dom_mid (t:=c.ty) (e:=e) (v:=.mk (nmP (patAt r0 n)) 0 []) d1 ⟨by rw[tyV,if_pos ht];trivial,fun _=>hfresh⟩ d3
   obtain ⟨ps,hps,hmt⟩:=h2 _ hm
   obtain ⟨r,hr,rfl⟩:=List.mem_map.1 hps
   obtain ⟨pa,p,pb,hp,hpl,hpa,hput,f1,f2,f3⟩:=A.fit r hr
   have hva:=(domL_len d1).1
   have hpv:pa.length=va.length:=by rw[hva,List.length_map,A.l,hpl]
   rw[hp,mt_mid hpv,Bool.and_eq_true,Bool.and_eq_true] at hmt
   have hsb:sameB n (nmP (patAt r0 n)) r=true:=by
    unfold sameB
    rw[hpa]
    obtain ⟨pk,pc,pm,pq⟩:=p
    have hpm:=hmt.2.1
    rw[mtP] at hpm
    rcases fits_cases f2 with ⟨rfl,_⟩ | ⟨rfl,_,_,_⟩ | ⟨_,h2,_⟩
    ·rfl
    ·rw[if_neg (by decide),if_pos rfl,decide_eq_true_eq] at hpm
     rw[hpm];simp[nmP]
    ·exact absurd ht h2
   refine ⟨(putP r n []).pats,List.mem_map.2 ⟨putP r n [],List.mem_filterMap.2 ⟨r,hr,if_pos hsb⟩,rfl⟩,?_⟩
   rw[hput,List.append_nil]
   show mtL (pa++pb) _=true
   rw[mtL_app hpv,hmt.1,hmt.2.2];rfl
  ·rw[hmap]
   intro ps hps
   obtain ⟨r',hr',rfl⟩:=List.mem_map.1 hps
   obtain ⟨r,hr,rfl⟩:=hrow r' hr'
   obtain ⟨pa,p,pb,hp,hpl,hpa,hput,f1,f2,f3⟩:=A.fit r hr
   have hfr:=h3 r.pats (List.mem_map.2 ⟨r,hr,rfl⟩)
   have hla2:(ca.map Co.ty).length=pa.length:=by rw[List.length_map,A.l,hpl]
   rw[hp,freshL_app hla.symm hla2] at hfr
   rw[hput,List.append_nil]
   show freshL _ _ (pa++pb)
   rw[freshL_app hla.symm hla2]
   exact⟨hfr.1,hfr.2.2⟩
theorem filter_fm {α:Type} (p:α→Bool):∀ l:List α,l.filter p=l.filterMap fun r=>if p r=true then some r else none
 | []=>rfl
 |x::l=>by
  rw[List.filter_cons,filter_fm p l]
  by_cases h:p x=true<;>simp[h]
theorem BI.oth {d:List Dt} {k n:Nat} {cols:List Co} {rows:List Rw} {r0:Rw} {c:Co} (I:BI d (k+1) cols rows) (h0:rows[0]? = some r0) (hn:idxZ nwB r0.pats=(n:Int)) (hc:cols[n]? = some c) (ht:c.ty=0) :
  BI d k cols (othRows n (nmP (patAt r0 n)) rows):=by
 obtain ⟨ca,cb,A⟩:=I.at hc
 obtain ⟨hk0,hp0⟩:=BI.nonwild A h0 hn
 have hnl:=(List.getElem?_eq_some_iff.1 hc).1
 have hmap:cols.map Co.ty=ca.map Co.ty++c.ty::cb.map Co.ty:=by rw[A.e,List.map_append,List.map_cons]
 have hrow:∀ r',r' ∈ othRows n (nmP (patAt r0 n)) rows→r' ∈ rows∧othB n (nmP (patAt r0 n)) r'=true:=fun r' h=>List.mem_filter.1 h
 refine ⟨?_,I.typ,?_,?_,?_,?_,I.chk,I.flds,?_⟩
 ·exact fun r hr=>I.fit r (hrow r hr).1
 ·have:=nw_head (f:=fun r=>if othB n (nmP (patAt r0 n)) r=true then some r else none) (rows:=rows) (r0:=r0) ?_ h0 hp0 ?_
  ·have h2:=I.nw
   unfold othRows;rw[filter_fm];omega
  ·intro r hr r' h
   split at h<;>cases h
   exact Nat.le_refl _
  ·intro r' h
   have:othB n (nmP (patAt r0 n)) r0=false:=by unfold othB;simp[hk0]
   rw[if_neg (by rw[this];decide)] at h
   cases h
 ·intro x hx
  have:=I.path x hx;omega
 ·have:=I.len;omega
 ·have:=List.length_filter_le (othB n (nmP (patAt r0 n))) rows
  have:=I.rl
  unfold othRows;omega
 ·obtain ⟨es,h1,h2,h3⟩:=I.cov
  rw[hmap] at h1 h2 h3 ⊢
  obtain ⟨ea,e,eb,rfl,hla,hlb⟩:=es_at h1
  refine ⟨ea++(nmP (patAt r0 n)::e)::eb,by simpa using h1,?_,?_⟩
  ·intro vs hv
   obtain ⟨va,w,rfl,d1,d3⟩:=domL_split hla.symm hv
   obtain ⟨v,vb,rfl,dv,d3⟩:∃ v vb,w=v::vb∧domV d c.ty (nmP (patAt r0 n)::e) v∧domL d (cb.map Co.ty) eb vb:=by
    cases w with
    |nil=>exact d3.elim
    |cons v vb=>exact⟨v,vb,rfl,d3⟩
   have hne:=dv.2 ht
   rw[List.mem_cons,not_or] at hne
   have hm:=dom_mid (t:=c.ty) (e:=e) (v:=v) d1 ⟨dv.1,fun _=>hne.2⟩ d3
   obtain ⟨ps,hps,hmt⟩:=h2 _ hm
   obtain ⟨r,hr,rfl⟩:=List.mem_map.1 hps
   refine ⟨r.pats,List.mem_map.2 ⟨r,List.mem_filter.2 ⟨hr,?_⟩,rfl⟩,hmt⟩
   obtain ⟨pa,p,pb,hp,hpl,hpa,hput,f1,f2,f3⟩:=A.fit r hr
   have hva:=(domL_len d1).1
   have hpv:pa.length=va.length:=by rw[hva,List.length_map,A.l,hpl]
   rw[hp,mt_mid hpv,Bool.and_eq_true,Bool.and_eq_true] at hmt
   unfold othB
   rw[hpa]
   obtain ⟨pk,pc,pm,pq⟩:=p
   obtain ⟨vm,vc,vq⟩:=v
   have hpm:=hmt.2.1
   rw[mtP] at hpm
   rcases fits_cases f2 with ⟨rfl,_⟩ | ⟨rfl,_,_,_⟩ | ⟨_,h2,_⟩
   ·rfl
   ·rw[if_neg (by decide),if_pos rfl,decide_eq_true_eq] at hpm
    have h1:vm≠nmP (patAt r0 n):=hne.1
    rw[hpm] at h1
    rw[show decide (nmP (Pt.mk 2 pc pm pq)≠nmP (patAt r0 n))=true from decide_eq_true h1,Bool.or_true]
   ·exact absurd ht h2
  ·intro ps hps
   obtain ⟨r,hr',rfl⟩:=List.mem_map.1 hps
   obtain ⟨hr,hob⟩:=hrow r hr'
   obtain ⟨pa,p,pb,hp,hpl,hpa,hput,f1,f2,f3⟩:=A.fit r hr
   have hfr:=h3 r.pats (List.mem_map.2 ⟨r,hr,rfl⟩)
   have hla2:(ca.map Co.ty).length=pa.length:=by rw[List.length_map,A.l,hpl]
   rw[hp,freshL_app hla.symm hla2] at hfr ⊢
   refine ⟨hfr.1,fun h0 hk=>?_,hfr.2.2⟩
   rw[List.mem_cons,not_or]
   refine ⟨?_,hfr.2.1 h0 hk⟩
   unfold othB at hob
   rw[hpa] at hob
   simpa [hk] using hob
end Zc28
end
section
set_option maxHeartbeats 4000000
namespace Zc28
open Go Zv Zs
theorem nwB_ok (p:Pt) (h:Hp):callW tab 39 [.d (ePt p)] h=some (.d (.bool (nwB p)),h):=by
 refine call_wp (fn:=f39) rfl rfl ?_
 obtain ⟨k,c,m,qs⟩:=p
 have hc:=ePt_cells (.mk k c m qs)
 have hk:∀ b:Bool,(k == 0)=b→nwB (.mk k c m qs) = !b:=by
  intro b hb;unfold nwB wildP;rw[←hb];simp[kdP];rfl
 cases hb:(k == 0)<;>simp only[e39,hc,ePt_cs,hb,hk _ hb,bne,wz,opX,intBin,↓reduceIte,simprocAttr]
theorem st_cell4 {X:List (Nat × Ob)} {out:List Ts} {m L:Nat} (hr:Zv.look X m=some (.arr 5 (((out++[zT]).map eT).map .d))) (hL:L=out.length+1) (n:Int) (nx:Nat) :
  st 1 ⟨X,nx⟩ (.ptr m L out.length 4) (.d (eI n))=some ⟨Zv.upd X m (.arr 5 (((out++[leafAt n]).map eT).map .d)),nx⟩:=by
 subst hL
 have hrow:(⟨X,nx⟩:Hp).row m (out.length+1)=some (5,((out++[zT]).map eT).map .d):=row_of hr (by simp)
 have e:=st_in (sz:=1) (i:=out.length) (off:=4) (x:=.d (eI n)) hrow (e:=.d (eT zT)) (by simp) rfl rfl (by show 5≤5;omega) (by omega) (by omega)
 rw[e]
 have:(((out++[zT]).map eT).map V.d).set out.length (mkAgg (List.take 4 (V.d (eT zT)).cells++(V.d (eI n)).cells++List.drop (4+1) (V.d (eT zT)).cells))=((out++[leafAt n]).map eT).map .d:=by
  have e2:mkAgg (List.take 4 (V.d (eT zT)).cells++(V.d (eI n)).cells++List.drop (4+1) (V.d (eT zT)).cells)=.d (eT (leafAt n)):=rfl
  rw[e2]
  simp[List.set_append,leafAt]
 rw[this]
 rfl
abbrev gT (p:List Int) (c:Bool) (n:Int) (v:V):V:=V.agg [.d (eIs p),.d (.bool c),.d (eI n),v,.d (eI 0)]
theorem mk_t0 (x y z w:D):mkAgg [.d x,.d y,.d z,.tl [] (some true),.d w]=V.agg [.d x,.d y,.d z,.tl [] (some true),.d w]:=rfl
theorem rowN_agg (m:Nat) (s:List D) (x y z w:D):mkAgg [.d x,.d y,.d z,rowN m 1 s,.d w]=V.agg [.d x,.d y,.d z,rowN m 1 s,.d w]:=by unfold rowN;split<;>rfl
theorem rowN_stor (m:Nat) (s:List D):stor (rowN m 1 s)=true:=by unfold rowN;split<;>rfl
theorem rowN_cells (m:Nat) (s:List D):(rowN m 1 s).cells=[rowN m 1 s]:=by unfold rowN;split<;>rfl
theorem st_num (a nx:Nat) (p:List Int) (c:Bool) (n m:Int) (L:List (Nat × Ob)):st 1 ⟨(a,.arr 5 [gT p c n (.tl [] (some true))])::L,nx⟩ (.ptr a 1 0 2) (.d (eI m))=some ⟨(a,.arr 5 [gT p c m (.tl [] (some true))])::L,nx⟩:=by
 simp[st,row_hd,stor,V.cells,D.cells,set_hd]
 rfl
theorem st_next {X:List (Nat × Ob)} {a:Nat} {p:List Int} {c:Bool} {n:Int} {v:V} (hr:Zv.look X a=some (.arr 5 [gT p c n v])) (m:Nat) (s:List D) (nx:Nat) :
  st 1 ⟨X,nx⟩ (.ptr a 1 0 3) (rowN m 1 s)=some ⟨Zv.upd X a (.arr 5 [gT p c n (rowN m 1 s)]),nx⟩:=by
 have hrow:(⟨X,nx⟩:Hp).row a 1=some (5,[gT p c n v]):=row_of hr rfl
 have e:=st_in (sz:=1) (i:=0) (off:=3) (x:=rowN m 1 s) hrow (e:=gT p c n v) rfl (rowN_stor m s) (by rw[rowN_cells];rfl) (by show 4≤5;omega) (by omega) (by omega)
 rw[e,rowN_cells]
 have:mkAgg (List.take 3 (gT p c n v).cells++[rowN m 1 s]++List.drop (3+1) (gT p c n v).cells)=gT p c n (rowN m 1 s):=rowN_agg m s _ _ _ _
 rw[this]
 rfl
theorem fz_T {X:List (Nat × Ob)} {a m q q0:Nat} {p:List Int} {c:Bool} {n:Int} {v:V} {s:List Int} (hr:Zv.look X a=some (.arr 5 [gT p c n v])) (R:RA X q q0 1 v (s.map eI) m) (ha:a<q0) :
  ∃ Y,(∀ nx,Zv.fzd ⟨X,nx⟩ (.ptr a 1 0 0)=some (.fp (eT ⟨p,c,n,s,0⟩) 0,⟨Y,nx⟩))∧∀ x,x≠a→(s≠[]→x≠m)→Zv.look Y x=Zv.look X x:=by
 obtain ⟨Y,hY,hf⟩:=ra_frz R
 have hYa:Zv.look Y a=Zv.look X a:=hf a (fun h=>by have:=R.lo h;omega)
 refine ⟨Zv.del Y a,fun nx=>?_,fun x hx hm=>?_⟩
 ·have hrow:(⟨X,nx⟩:Hp).row a 1=some (5,[gT p c n v]):=row_of hr rfl
  unfold Zv.fzd
  simp only[hrow,Option.bind_some,List.getElem?_cons_zero]
  have d1:∀ (hh:Hp) (x:D),Zv.frz hh (.d x)=some (.d x,hh):=fun _ _=>rfl
  have hfr:frzs [V.d (eIs p),.d (.bool c),.d (eI n),v,.d (eI 0)] ⟨X,nx⟩=some ([eIs p,.bool c,eI n,.lst (s.map eI),eI 0],⟨Y,nx⟩):=by
   simp only[frzs,d1,Option.bind_some,hY,Option.map_some]
  rw[hfr,Option.bind_some]
  have hs:sameAt ⟨X,nx⟩ ⟨Y,nx⟩ (.ptr a 1 0 0)=true:=by
   simp only[sameAt,Hp.get,hYa,hr,Ob.beq_refl]
  rw[if_pos hs]
  rfl
 ·rw[look_del hx]
  exact hf x (fun h=>hm (by simpa using h))
theorem st_elem {X:List (Nat × Ob)} {out:List Ts} {m L at_:Nat} (hr:Zv.look X m=some (.arr 5 ((out.map eT).map .d))) (hL:L=out.length) (ha:at_<out.length) (t:Ts) (nx:Nat) :
  st 5 ⟨X,nx⟩ (.ptr m L at_ 0) (.d (eT t))=some ⟨Zv.upd X m (.arr 5 (((out.set at_ t).map eT).map .d)),nx⟩:=by
 subst hL
 have hrow:(⟨X,nx⟩:Hp).row m out.length=some (5,(out.map eT).map .d):=row_of hr (by simp)
 obtain ⟨x,hx⟩:=get_of_lt ha
 have e:=st_all (sz:=5) (i:=at_) (x:=.d (eT t)) hrow (e:=.d (eT x)) (by simp[hx]) rfl rfl
 rw[e]
 show some (⟨Zv.upd X m _,nx⟩:Hp)=_
 rw[List.map_set,List.map_set]
theorem deep_own {H:Hp} {n n0 es:Nat} {L:List D} (hr:H.row n L.length=some (es,L.map .d)) (hn:n0≤n):deep H n0 8 (.own n es L.length 0 L.length)=some (.lst L):=by
 unfold deep
 simp only[hn,if_true,hr,Option.bind_some,List.length_map,Nat.zero_add,Nat.le_refl,List.drop_zero]
 rw[List.take_of_length_le (by simp),Zc28.deep_ds]
 rfl
theorem mkslP1 {n:Nat} (hn:n≤1000) (h:Hp):mkslO (.d (.agg [.int .i64 0,.int .i64 0,.int .i64 0,.lst []])) 4 48 h (.d (.int .i64 (n:Int)))=some (.own h.next 4 n 0 n,⟨(h.next,.arr 4 (((List.replicate n wildT).map ePt).map V.d))::h.objs,h.next+1⟩):=mkslOP hn h
theorem args_ok (p:Pt) (con:Int) (nf:Nat) (hn:nf≤1000) (h:Hp):callW tab 42 [.d (ePt p),.d (eI con),.d (.int .i64 (nf:Int))] h=some (.tup [.d (ePs ((argsFor p con nf).getD [])),.d (.bool (argsFor p con nf).isSome)],h):=by
 refine call_wp (fn:=f42) rfl rfl ?_
 obtain ⟨k,c,m,qs⟩:=p
 have hc:=ePt_cells (.mk k c m qs)
 have hmk:=fun h=>mkslP1 hn h
 cases hk:(k == 0) with
 |true=>
  have hk1:k=0:=by simpa using hk
  have hA:argsFor (.mk k c m qs) con nf=some (List.replicate nf wildT):=by unfold argsFor;exact if_pos hk1
  rw[hA]
  have hfin:finS h ⟨(h.next+1,.arr 4 (((List.replicate nf wildT).map ePt).map V.d))::h.objs,h.next+1+1⟩ [.own (h.next+1) 4 nf 0 nf,.d (.bool true)]=some (.tup [.d (ePs (List.replicate nf wildT)),.d (.bool true)],h):=by
   have hr:Hp.row ⟨(h.next+1,.arr 4 (((List.replicate nf wildT).map ePt).map V.d))::h.objs,h.next+1+1⟩ (h.next+1) ((List.replicate nf wildT).map ePt).length=some (4,((List.replicate nf wildT).map ePt).map V.d):=by rw[row_hd,if_pos (by simp)]
   have hd:=deep_own (n0:=h.next) hr (by omega)
   rw[List.length_map,List.length_replicate] at hd
   rw[finS,if_pos (suf_one _ _)]
   simp only[List.mapM_cons,List.mapM_nil,back1,hd]
   rfl
  simp only[e42,hc,ePt_cs,hk,hmk,hfin,Option.getD_some,Option.isSome_some,wz,opX,intBin,↓reduceIte,simprocAttr]
 |false=>
  have hk1:¬ k=0:=by simpa using hk
  cases hcc:(c == con) with
  |true=>
   have hA:argsFor (.mk k c m qs) con nf=some qs:=by unfold argsFor;rw[if_neg (show ¬ kdP (.mk k c m qs)=0 from hk1)];exact if_pos (show c=con from by simpa using hcc)
   rw[hA]
   simp only[e42,hc,ePt_cs,hk,hcc,Option.getD_some,Option.isSome_some,wz,opX,intBin,↓reduceIte,simprocAttr]
  |false=>
   have hA:argsFor (.mk k c m qs) con nf=none:=by unfold argsFor;rw[if_neg (show ¬ kdP (.mk k c m qs)=0 from hk1)];exact if_neg (show ¬ c=con from by simpa using hcc)
   rw[hA]
   have hfin:∀ q,finS h ⟨h.objs,q⟩ [.tl [] (some true),.d (.bool false)]=some (.tup [.d (ePs []),.d (.bool false)],h):=fun q=>finS2n h (some true) false q
   simp only[e42,hc,ePt_cs,hk,hcc,hfin,Option.getD_none,Option.isSome_none,wz,opX,intBin,↓reduceIte,simprocAttr]
theorem build_ok {d:List Dt} (S:Sml d) {ov dv bv:Nat}:∀ (k:Nat) (out:List Ts) (cols:List Co) (rows:List Rw) (X:List (Nat × Ob)) (m q:Nat),BI d k cols rows→out.length≤4097→VS d ov dv bv X out m q→ov<q→dv<q→bv<q →
  ∃ r,callW tab 37 [.d (eOs cols),.d (eWs rows),.ptr ov 1 0 0,.ptr dv 1 0 0,.ptr bv 1 0 0] ⟨X,q⟩=some r ∧
   ∃ m' X' q',r=(.d (eI (buildS d k out cols rows).2),⟨X',q'⟩)∧VB d ov dv bv X' (buildS d k out cols rows).1 m'∧m'<q'∧q≤q'∧(out≠[]→m'=m)∧(out=[]→q≤m')∧FrB ov m' q X X':=by
 intro k
 induction k with
 |zero=>intro out cols rows X m q I;have:=I.nw;omega
 |succ k ih=>
  intro out cols rows X m q I hol VV ho hd hb
  refine call_wpE (fn:=f37) rfl rfl ?_
  by_cases h4:4096<out.length
  ·have hB:buildS d (k+1) out cols rows=(out,(out.length:Int)):=by unfold buildS;rw[if_pos h4]
   have h4':(4096:Int)<(out.length:Int):=by omega
   rcases VV with ⟨h0,VV,hm⟩ | ⟨rfl,_⟩
   ·have hrw:=fun nx=>row_of (q:=nx) VV.iov (tot:=1) rfl
    simp only[e37,hrw,h4',wz,opX,intBin,↓reduceIte,simprocAttr]
    exact⟨_,rfl,m,X,q,by rw[hB],by rw[hB];exact VV,hm,Nat.le_refl _,fun _=>rfl,fun h=>absurd h h0,fun _ _ _ _=>rfl⟩
   ·simp at h4
  ·have h4':¬ (4096:Int)<(out.length:Int):=by omega
   have hB0:buildS d (k+1) out cols rows=bldB d (buildS d k) cols rows out:=by rw[buildS,if_neg h4]
   obtain ⟨r0,hr0⟩:∃ r0,rows[0]? = some r0:=get_of_lt (List.length_pos_iff.2 I.ne)
   have hB1:bldB d (buildS d k) cols rows out=bldK d (buildS d k) cols rows r0 (idxZ nwB r0.pats) out:=by
    cases rows with
    |nil=>cases hr0
    |cons x rs=>cases hr0;rfl
   rw[hB0,hB1]
   have hr0m:=List.mem_of_getElem? hr0
   have hfit:=I.fit r0 hr0m
   have hpl:=fitR_len hfit
   rw[List.length_map] at hpl
   have hcl:=I.len
   obtain ⟨w,outL,hrw,hcell,hlen,m',X2,q2,H1,happ,hst,V2,hm2,hq2,hmm,hm0,F2⟩:=vs_add VV ho hd hb (by omega)
   have ia0:ia 2 (.d (.lst (rows.map eW))) (.d (.int .i64 0))=some (.fp (eW r0) 0):=iaW hr0
   have hidx:=fun h=>idxFP r0.pats (.clo 39 []) nwB h (by omega) rfl (fun c _=>by rw[cW_clo,if_neg (by decide)];exact nwB_ok c h)
   have hrw2:=fun nx=>row_of (q:=nx) V2.iov (tot:=1) rfl
   rw[List.length_append,List.length_cons,List.length_nil,Nat.zero_add] at hrw2
   have hio:=ia_own (es:=5) (n:=m') (tot:=out.length+1) .i64 (show out.length<out.length+1 by omega)
   rcases idxZ_cases nwB r0.pats with hz | ⟨n,p,hz,hp,hpn⟩
   ·have hB2:bldK d (buildS d k) cols rows r0 (idxZ nwB r0.pats) out=(out++[leafAt r0.n],(out.length:Int)):=by rw[hz];rfl
    rw[hB2]
    rw[hz] at hidx
    have hst4:=fun nx=>st_cell4 V2.irow (L:=out.length+1) rfl r0.n nx
    simp only[e37,hrw,hcell,hlen,h4',mk_z1,mk_z,happ,hst,ia0,hidx,hrw2,hio,hst4,wz,opX,intBin,↓reduceIte,simprocAttr]
    refine ⟨_,rfl,m',_,q2,rfl,V2.put (by simp),hm2,hq2,hmm,hm0,?_⟩
    intro x hx h1 h2
    rw[Zs.look_upd,if_neg h2];exact F2 x hx h1 h2
   ·have hnl:n<cols.length:=by have:=(List.getElem?_eq_some_iff.1 hp).1;omega
    obtain ⟨c,hc⟩:=get_of_lt hnl
    have hB2:bldK d (buildS d k) cols rows r0 (idxZ nwB r0.pats) out=if c.ty=0 then bldN (buildS d k) cols rows r0 n c out else bldC d (buildS d k) cols rows n c out:=by
     rw[hz];unfold bldK;rw[getI_nat,hc];rfl
    rw[hB2]
    have hcm:=List.mem_of_getElem? hc
    have hcp:=I.path c hcm
    have hct:=I.typ c hcm
    have hcl2:=fun h=>cloneI_ok c.path (by omega) h
    have hn0:¬ ((n:Nat):Int)<0:=by omega
    rw[hz] at hidx
    have hpat:patAt r0 n=p:=by unfold patAt;rw[List.getD_eq_getElem?_getD,hp];rfl
    cases hty:(c.ty == 0) with
    |true=>
     have hty2:c.ty=0:=by simpa using hty
     rw[if_pos hty2]
     have I1:=I.same hr0 hz hc hty2
     have I2:=I.oth hr0 hz hc hty2
     rw[hpat] at I1 I2
     obtain ⟨pk,pc,pm,pq⟩:=p
     have hB3:bldN (buildS d k) cols rows r0 n c out=((buildS d k (buildS d k (out++[zT]) (putC cols n []) (sameRows n pm rows)).1 cols (othRows n pm rows)).1.set out.length ⟨c.path,false,pm,[(buildS d k (out++[zT]) (putC cols n []) (sameRows n pm rows)).2,(buildS d k (buildS d k (out++[zT]) (putC cols n []) (sameRows n pm rows)).1 cols (othRows n pm rows)).2],0⟩,(out.length:Int)):=by
      unfold bldN;rw[hpat];rfl
     rw[hB3]
     have hiaP:=iaP hp
     rw[ePt_mk] at hiaP
     have hsn:=fun a nx L=>st_num a nx c.path false 0 pm L
     simp only[e37,hrw,hcell,hlen,h4',mk_z1,mk_z,happ,hst,ia0,hidx,hrw2,hn0,iaO hc,hcl2,hty,bne,mk_t0,hiaP,hsn,wz,opX,intBin,↓reduceIte,simprocAttr]
     have hm2':m'<q2:=hm2
     have k1:∀ x,x<q2→Zv.look ((q2,Ob.arr 5 [gT c.path false pm (.tl [] (some true))])::X2) x=Zv.look X2 x:=fun x hx=>look_tl _ _ (by omega)
     have k2:Zv.look ((q2,Ob.arr 5 [gT c.path false pm (.tl [] (some true))])::X2) q2=some (.arr 5 [gT c.path false pm (.tl [] (some true))]):=look_hd ..
     generalize ((q2,Ob.arr 5 [gT c.path false pm (.tl [] (some true))])::X2)=X3 at k1 k2 ⊢
     have V3:VB d ov dv bv X3 (out++[zT]) m':=V2.same (k1 _ (by omega)) (k1 _ (by omega)) (k1 _ (by omega)) (k1 _ (by omega))
     have hrl:=I.rl
     refine loop_wp rows.length (fun i e h'=>∃ Y qq m1 v1 m3 v3,h'=⟨Y,qq⟩∧RA Y qq (q2+1) 2 v1 ((sameRows n pm (rows.take i)).map eW) m1∧RA Y qq (q2+1) 2 v3 ((othRows n pm (rows.take i)).map eW) m3∧((sameRows n pm (rows.take i)).map eW≠[]→(othRows n pm (rows.take i)).map eW≠[]→m1≠m3)∧q2+1≤qq∧(∀ x,x<q2+1→Zv.look Y x=Zv.look X3 x) ∧
      e=[(0,.d (eOs cols)),(2,.ptr ov 1 0 0),(4,.ptr bv 1 0 0),(8,.d (.int .i64 (out.length:Int))),(9,.d (eI n)),(10,.ptr q2 1 0 0),(21,v1),(22,v3),(161,.d (eWs rows)),(162,.d (.int .i64 rows.length)),(163,.d (.int .i64 (i:Int)))]) _ ?_ ?_ rows.length 0 _ _ (by omega) ⟨X3,q2+1,0,_,0,_,rfl,RA.nil ..,RA.nil ..,fun h=>absurd rfl h,Nat.le_refl _,fun _ _=>rfl,rfl⟩
     ·rintro i e h' hi ⟨Y,qq,m1,v1,m3,v3,rfl,R1,R3,hdi,hqq,hfr,rfl⟩
      obtain ⟨r,hr⟩:=get_of_lt hi
      have hwr:IntKind.i64.wrap ((i:Int)+1)=((i+1:Nat):Int):=by rw[wrap_ok (by omega) (by omega)];rfl
      have hrf:=fitR_len (I.fit r (List.mem_of_getElem? hr))
      rw[List.length_map] at hrf
      obtain ⟨pr,hpr⟩:=get_of_lt (l:=r.pats) (n:=n) (by omega)
      have hpa:patAt r n=pr:=by unfold patAt;rw[List.getD_eq_getElem?_getD,hpr];rfl
      have hrep:=fun h=>replP_ok r.pats n [] (by omega) (by omega) (by simp) h
      have hrep:∀ h,callW tab 43 [.d (ePs r.pats),.d (.int .i64 (n:Int)),.d (.lst [])] h=some (.d (ePs (putP r n []).pats),h):=hrep
      have hcW:(eW r).cells.length=2:=rfl
      have hiaR:=iaP hpr
      have hss:=same_snoc n pm hr
      have hso:=oth_snoc n pm hr
      have hsl:(sameRows n pm (rows.take i)).length≤6:=by
       have:=List.length_filterMap_le (fun r=>if sameB n pm r=true then some (putP r n []) else none) (rows.take i)
       rw[List.length_take] at this;unfold sameRows;omega
      have hol3:(othRows n pm (rows.take i)).length≤6:=by
       have:=List.length_filter_le (othB n pm) (rows.take i)
       rw[List.length_take] at this;unfold othRows;omega
      obtain ⟨qk,qc,qm,qs⟩:=pr
      rw[ePt_mk] at hiaR
      have hcP:(D.agg [.int .i64 qk,.int .i64 qc,.int .i64 qm,.lst (qs.map ePt)]).cells.length=4:=rfl
      have r10:=fun nx=>row_of (q:=nx) (show Zv.look Y q2=some (.arr 5 [gT c.path false pm (.tl [] (some true))]) by rw[hfr q2 (by omega)];exact k2) (tot:=1) rfl
      have R1':=R1.mono (q':=qq+1+1) (by omega) (fun _=>rfl)
      have R3':=R3.mono (q':=qq+1+1) (by omega) (fun _=>rfl)
      have hb1:(((sameRows n pm (rows.take i)).map eW).length+1)*32≤roomB:=by rw[List.length_map];unfold roomB;omega
      have hb3:(((othRows n pm (rows.take i)).map eW).length+1)*32≤roomB:=by rw[List.length_map];unfold roomB;omega
      cases hk0:(qk == 0) with
      |true=>
       have hsb:sameB n pm r=true:=by unfold sameB;rw[hpa];show (decide (qk=0) || _)=true;rw[show decide (qk=0)=(qk == 0) from rfl,hk0];rfl
       have hob:othB n pm r=true:=by unfold othB;rw[hpa];show (decide (qk=0) || _)=true;rw[show decide (qk=0)=(qk == 0) from rfl,hk0];rfl
       rw[hsb,if_pos rfl] at hss
       rw[hob,if_pos rfl] at hso
       obtain ⟨v1',Y1,q1,m1',e1,R1a,R3a,hd1,hqa,hfa⟩:=ra_app2 (nl:=some false) (x:=eW (putP r n [])) R1' R3' hdi (by omega) rfl hb1
       obtain ⟨v3',Y3,q3,m3',e3,R3b,R1b,hd3,hqb,hfb⟩:=ra_app2 (nl:=some false) (x:=eW r) R3a R1a (fun h1 _=>fun e=>hd1 h1 e.symm) (by omega) rfl hb3
       have e1:app 2 32 ⟨Y,qq+1+1⟩ v1 (.tl [.d (D.agg [eI r.n,ePs (putP r n []).pats])] (some false))=_:=e1
       have e3:app 2 32 ⟨Y1,q1⟩ v3 (.tl [.d (D.agg [eI r.n,ePs r.pats])] (some false))=_:=e3
       simp only[e37,hi,iaW hr,hcW,hiaR,hcP,hk0,hrep,e1,e3,hwr,wz,opX,intBin,↓reduceIte,simprocAttr]
       refine ⟨Y3,q3,m1',v1',m3',v3',rfl,?_,?_,fun _ _=>fun e=>hd3 (by simp) e.symm,by omega,fun x hx=>by rw[hfb x hx,hfa x hx,hfr x hx],rfl⟩
       ·rw[hss,List.map_append];exact R1b
       ·rw[hso,List.map_append];exact R3b
      |false=>
       have hk1:decide (qk=0)=false:=by rw[←hk0];rfl
       cases hnm:(qm == pm) with
       |true=>
        have hnm1:qm=pm:=by simpa using hnm
        have hsb:sameB n pm r=true:=by unfold sameB;rw[hpa];show (decide (qk=0) || decide (qm=pm))=true;rw[hk1,decide_eq_true hnm1];rfl
        have hob:othB n pm r=false:=by unfold othB;rw[hpa];show (decide (qk=0) || decide (qm≠pm))=false;rw[hk1,decide_eq_false (by simp[hnm1])];rfl
        rw[hsb,if_pos rfl] at hss
        rw[hob,if_neg (by simp),List.append_nil] at hso
        obtain ⟨v1',Y1,q1,m1',e1,R1a,R3a,hd1,hqa,hfa⟩:=ra_app2 (nl:=some false) (x:=eW (putP r n [])) R1' R3' hdi (by omega) rfl hb1
        have e1:app 2 32 ⟨Y,qq+1+1⟩ v1 (.tl [.d (D.agg [eI r.n,ePs (putP r n []).pats])] (some false))=_:=e1
        have r10b:=fun nx=>row_of (q:=nx) (show Zv.look Y1 q2=some (.arr 5 [gT c.path false pm (.tl [] (some true))]) by rw[hfa q2 (by omega),hfr q2 (by omega)];exact k2) (tot:=1) rfl
        simp only[e37,hi,iaW hr,hcW,hiaR,hcP,hk0,r10,r10b,hnm,bne,hrep,e1,hwr,wz,opX,intBin,↓reduceIte,simprocAttr]
        refine ⟨Y1,q1,m1',v1',m3,v3,rfl,?_,?_,fun _ h=>hd1 (by rw[hso] at h;exact h),by omega,fun x hx=>by rw[hfa x hx,hfr x hx],rfl⟩
        ·rw[hss,List.map_append];exact R1a
        ·rw[hso];exact R3a
       |false=>
        have hnm1:qm≠pm:=by simpa using hnm
        have hsb:sameB n pm r=false:=by unfold sameB;rw[hpa];show (decide (qk=0) || decide (qm=pm))=false;rw[hk1,decide_eq_false hnm1];rfl
        have hob:othB n pm r=true:=by unfold othB;rw[hpa];show (decide (qk=0) || decide (qm≠pm))=true;rw[hk1,decide_eq_true hnm1];rfl
        rw[hsb,if_neg (by simp),List.append_nil] at hss
        rw[hob,if_pos rfl] at hso
        obtain ⟨v3',Y3,q3,m3',e3,R3b,R1b,hd3,hqb,hfb⟩:=ra_app2 (nl:=some false) (x:=eW r) R3' R1' (fun h1 h2=>fun e=>hdi h2 h1 e.symm) (by omega) rfl hb3
        have e3:app 2 32 ⟨Y,qq+1+1⟩ v3 (.tl [.d (D.agg [eI r.n,ePs r.pats])] (some false))=_:=e3
        simp only[e37,hi,iaW hr,hcW,hiaR,hcP,hk0,r10,hnm,bne,hrep,e3,hwr,wz,opX,intBin,↓reduceIte,simprocAttr]
        refine ⟨Y3,q3,m1,v1,m3',v3',rfl,?_,?_,fun h _=>fun e=>hd3 (by rw[hss] at h;exact h) e.symm,by omega,fun x hx=>by rw[hfb x hx,hfr x hx],rfl⟩
        ·rw[hss];exact R1b
        ·rw[hso,List.map_append];exact R3b
     ·rintro e h' ⟨Y,qq,m1,v1,m3,v3,rfl,R1,R3,hdi,hqq,hfr,rfl⟩
      rw[List.take_length] at R1 R3 hdi
      obtain ⟨Y1,hz1,hf1⟩:=ra_frz R1
      have hY1:∀ x,x<q2+1→Zv.look Y1 x=Zv.look X3 x:=fun x hx=>by rw[hf1 x (fun h=>by have:=R1.lo h;omega),hfr x hx]
      have R3a:RA Y1 qq (q2+1) 2 v3 ((othRows n pm rows).map eW) m3:=R3.mono (Nat.le_refl _) fun h3=>hf1 m3 fun h1 e=>hdi h1 h3 e.symm
      have V4:VB d ov dv bv Y1 (out++[zT]) m':=V3.same (hY1 _ (by omega)) (hY1 _ (by omega)) (hY1 _ (by omega)) (hY1 _ (by omega))
      obtain ⟨r1,hv1,ma,Xa,qa,rfl,V5,hma,hqa,hme,_,F5⟩:=ih (out++[zT]) (putC cols n []) (sameRows n pm rows) Y1 m' qq I1 (by simp;omega) (.inl ⟨by simp,V4,by omega⟩) (by omega) (by omega) (by omega)
      obtain rfl:ma=m':=hme (by simp)
      have L1:=(buildS_len d k (out++[zT]) (putC cols n []) (sameRows n pm rows))
      rw[List.length_append,List.length_cons,List.length_nil] at L1
      have hrpO:=fun h=>replO_ok cols n [] hnl (by omega) (by simp) h
      have hrpO:∀ h,callW tab 44 [.d (eOs cols),.d (.int .i64 (n:Int)),.d (.lst [])] h=some (.d (eOs (putC cols n [])),h):=hrpO
      have rb1:=fun nx=>row_of (q:=nx) V4.ibv (tot:=1) rfl
      generalize buildS d k (out++[zT]) (putC cols n []) (sameRows n pm rows)=Q1 at hv1 V5 L1 ⊢
      have hne1:Q1.1≠[]:=fun h=>by rw[h] at L1;simp at L1
      have hXa2:Zv.look Xa q2=some (.arr 5 [gT c.path false pm (.tl [] (some true))]):=by rw[F5 q2 (by omega) (by omega) (by omega),hY1 q2 (by omega)];exact k2
      have hst3:=st_next (X:=(qa,.arr 1 [.d (eI Q1.2),.d (.int .i64 0)])::Xa) (a:=q2) (by rw[look_tl _ _ (by omega)];exact hXa2) qa [eI Q1.2,eI 0] (qa+1)
      have hst3:st 1 ⟨(qa,.arr 1 [.d (eI Q1.2),.d (.int .i64 0)])::Xa,qa+1⟩ (.ptr q2 1 0 3) (.own qa 1 2 0 2)=some ⟨Zv.upd ((qa,.arr 1 [.d (eI Q1.2),.d (.int .i64 0)])::Xa) q2 (.arr 5 [gT c.path false pm (.own qa 1 2 0 2)]),qa+1⟩:=hst3
      have hb0:∀ x,x≠q2→x≠qa→Zv.look (Zv.upd ((qa,.arr 1 [.d (eI Q1.2),.d (.int .i64 0)])::Xa) q2 (.arr 5 [gT c.path false pm (.own qa 1 2 0 2)])) x=Zv.look Xa x:=fun x h1 h2=>by rw[Zs.look_upd,if_neg h1,look_tl _ _ h2]
      have hb1:Zv.look (Zv.upd ((qa,.arr 1 [.d (eI Q1.2),.d (.int .i64 0)])::Xa) q2 (.arr 5 [gT c.path false pm (.own qa 1 2 0 2)])) q2=some (.arr 5 [gT c.path false pm (.own qa 1 2 0 2)]):=by rw[Zs.look_upd,if_pos rfl,look_tl _ _ (by omega),hXa2];rfl
      have hb2:Zv.look (Zv.upd ((qa,.arr 1 [.d (eI Q1.2),.d (.int .i64 0)])::Xa) q2 (.arr 5 [gT c.path false pm (.own qa 1 2 0 2)])) qa=some (.arr 1 [.d (eI Q1.2),.d (.int .i64 0)]):=by rw[Zs.look_upd,if_neg (by omega),look_hd]
      generalize Zv.upd ((qa,.arr 1 [.d (eI Q1.2),.d (.int .i64 0)])::Xa) q2 (.arr 5 [gT c.path false pm (.own qa 1 2 0 2)])=Xb at hst3 hb0 hb1 hb2
      have R3b:RA Xb (qa+1) (q2+1) 2 v3 ((othRows n pm rows).map eW) m3:=R3a.mono (by omega) fun h3=>by
       have h5:=R3a.lo h3
       have h6:=R3a.hi h3
       rw[hb0 m3 (by omega) (by omega),F5 m3 h6 (by omega) (by omega)]
      obtain ⟨Y2,hz2,hf2⟩:=ra_frz R3b
      have hY2:∀ x,x<q2+1→Zv.look Y2 x=Zv.look Xb x:=fun x hx=>hf2 x (fun h=>by have:=R3b.lo h;omega)
      have hY2a:Zv.look Y2 qa=some (.arr 1 [.d (eI Q1.2),.d (.int .i64 0)]):=by rw[hf2 qa (fun h=>by have:=R3a.hi h;omega)];exact hb2
      have hY2t:Zv.look Y2 q2=some (.arr 5 [gT c.path false pm (.own qa 1 2 0 2)]):=by rw[hY2 q2 (by omega)];exact hb1
      have V6:VB d ov dv bv Y2 Q1.1 ma:=V5.same (by rw[hY2 _ (by omega),hb0 _ (by omega) (by omega)]) (by rw[hY2 _ (by omega),hb0 _ (by omega) (by omega)]) (by rw[hY2 _ (by omega),hb0 _ (by omega) (by omega)]) (by rw[hY2 _ (by omega),hb0 _ (by omega) (by omega)])
      obtain ⟨r2,hv2,mb,Xc,qc,rfl,V7,hmb,hqc,hme2,_,F7⟩:=ih Q1.1 cols (othRows n pm rows) Y2 ma (qa+1) I2 (L1.2 (by omega)) (.inl ⟨hne1,V6,by omega⟩) (by omega) (by omega) (by omega)
      obtain rfl:mb=ma:=hme2 hne1
      have L2:=(buildS_len d k Q1.1 cols (othRows n pm rows))
      generalize buildS d k Q1.1 cols (othRows n pm rows)=Q2 at hv2 V7 L2 ⊢
      have rb2:=fun nx=>row_of (q:=nx) V6.ibv (tot:=1) rfl
      have rt2:=fun nx=>row_of (q:=nx) hY2t (tot:=1) rfl
      have hldk:∀ nx,ldk false 1 ⟨Y2,nx⟩ (.ptr q2 1 0 0) (.ptr q2 1 0 3)=some (.own qa 1 2 0 2):=by
       intro nx;simp[ldk,ld,rt2,partV,V.cells]
      have hXct:Zv.look Xc q2=Zv.look Y2 q2:=F7 q2 (by omega) (by omega) (by omega)
      have hsm:∀ n1,sameAt ⟨Y2,n1⟩ ⟨Xc,qc⟩ (.ptr q2 1 0 0)=true:=by
       intro n1;simp only[sameAt,Hp.get,hXct,hY2t,Ob.beq_refl]
      have hXca:Zv.look Xc qa=some (.arr 1 [.d (eI Q1.2),.d (.int .i64 0)]):=by rw[F7 qa (by omega) (by omega) (by omega)];exact hY2a
      have hia1:ia 1 (.own qa 1 2 0 2) (.d (.int .i64 1))=some (.ptr qa 2 1 0):=ia_own (n:=qa) (tot:=2) .i64 (show 1<2 by omega)
      have hst5:st 1 ⟨Xc,qc⟩ (.ptr qa 2 1 0) (.d (eI Q2.2))=some ⟨Zv.upd Xc qa (.arr 1 [.d (eI Q1.2),.d (eI Q2.2)]),qc⟩:=by
       exact st_all (sz:=1) (i:=1) (x:=.d (eI Q2.2)) (row_of (tot:=2) hXca rfl) (e:=.d (.int .i64 0)) rfl rfl rfl
      have hd0:∀ x,x≠qa→Zv.look (Zv.upd Xc qa (.arr 1 [.d (eI Q1.2),.d (eI Q2.2)])) x=Zv.look Xc x:=fun x h=>by rw[Zs.look_upd,if_neg h]
      have hd1:Zv.look (Zv.upd Xc qa (.arr 1 [.d (eI Q1.2),.d (eI Q2.2)])) qa=some (.arr 1 [.d (eI Q1.2),.d (eI Q2.2)]):=by rw[Zs.look_upd,if_pos rfl,hXca];rfl
      generalize Zv.upd Xc qa (.arr 1 [.d (eI Q1.2),.d (eI Q2.2)])=Xd at hst5 hd0 hd1
      obtain ⟨Ye,hz3,hf3⟩:=fz_T (X:=Xd) (a:=q2) (m:=qa) (q:=qc) (q0:=q2+1) (s:=[Q1.2,Q2.2]) (by rw[hd0 q2 (by omega),hXct];exact hY2t) ⟨rfl,fun _=>hd1,fun _=>by omega,fun _=>by omega⟩ (by omega)
      have hYe:∀ x,x≠q2→x≠qa→Zv.look Ye x=Zv.look Xc x:=fun x h1 h2=>by rw[hf3 x h1 (fun _=>h2),hd0 x h2]
      have V8:VB d ov dv bv Ye Q2.1 mb:=V7.same (hYe _ (by omega) (by omega)) (hYe _ (by omega) (by omega)) (hYe _ (by omega) (by omega)) (hYe _ (by omega) (by omega))
      have rw8:=fun nx=>row_of (q:=nx) V8.iov (tot:=1) rfl
      have hio8:=ia_own (es:=5) (n:=mb) (tot:=Q2.1.length) .i64 (show out.length<Q2.1.length by omega)
      have hst8:=fun nx=>st_elem V8.irow (L:=Q2.1.length) rfl (show out.length<Q2.1.length by omega) ⟨c.path,false,pm,[Q1.2,Q2.2],0⟩ nx
      have hst8:∀ nx,st 5 ⟨Ye,nx⟩ (.ptr mb Q2.1.length out.length 0) (.d (D.agg [eIs c.path,.bool false,eI pm,eIs [Q1.2,Q2.2],eI 0]))=_:=hst8
      simp only[e37,hz1,rb1,hrpO,hv1,hst3,hz2,hldk,rb2,hv2,hsm,hia1,hst5,hz3,rw8,hio8,hst8,wz,opX,intBin,↓reduceIte,simprocAttr]
      refine ⟨_,rfl,mb,_,qc,rfl,V8.put (by rw[List.length_set]),hmb,by omega,hmm,hm0,?_⟩
      intro x hx h1 h2
      rw[Zs.look_upd,if_neg h2,hYe x (by omega) (by omega),F7 x (by omega) h1 h2,hY2 x (by omega),hb0 x (by omega) (by omega),F5 x (by omega) h1 h2,hY1 x (by omega),k1 x (by omega)]
      exact F2 x hx h1 h2
    |false=>
     have hty2:c.ty≠0:=by simpa using hty
     rw[if_neg hty2]
     obtain ⟨n',y,hct2,hy⟩:∃ (n':Nat) (y:Dt),c.ty=(n':Int)+1∧d[n']? = some y:=by
      rcases tcase d c.ty with h | h | h
      ·exfalso;unfold isT at hct;simp only[Bool.and_eq_true,decide_eq_true_eq] at hct;omega
      ·exfalso;unfold isT at hct;simp only[Bool.and_eq_true,decide_eq_true_eq] at hct;omega
      ·exact h
     have hym:=List.mem_of_getElem? hy
     have hyl:=(S.ds y hym).2.1
     have hdl:=S.len
     have hnd:=(List.getElem?_eq_some_iff.1 hy).1
     have hws:=wrap_sub1 (n:=n') (by omega)
     have hco:consOf d c.ty=y.cons:=by rw[hct2];exact consOf_at hy
     have hB3:bldC d (buildS d k) cols rows n c out=((conL (buildS d k) cols rows n c 0 y.cons (out++[zT]) []).1.set out.length ⟨c.path,true,0,(conL (buildS d k) cols rows n c 0 y.cons (out++[zT]) []).2,0⟩,(out.length:Int)):=by
      unfold bldC;rw[hco]
     rw[hB3]
     have rd:=fun o nx=>row_cn (n:=dv) (m:=q2) (o:=o) (nx:=nx) (by omega) (fun nx=>row_of (q:=nx) V2.idv (tot:=1) rfl)
     simp only[e37,hrw,hcell,hlen,h4',mk_z1,mk_z,happ,hst,ia0,hidx,hrw2,hn0,iaO hc,hcl2,hty,bne,mk_t0,hct2,rd,hws,iaD hy,wz,opX,intBin,↓reduceIte,simprocAttr]
     have hm2':m'<q2:=hm2
     have k1:∀ x,x<q2→Zv.look ((q2,Ob.arr 5 [gT c.path true 0 (.tl [] (some true))])::X2) x=Zv.look X2 x:=fun x hx=>look_tl _ _ (by omega)
     have k2:Zv.look ((q2,Ob.arr 5 [gT c.path true 0 (.tl [] (some true))])::X2) q2=some (.arr 5 [gT c.path true 0 (.tl [] (some true))]):=look_hd ..
     generalize ((q2,Ob.arr 5 [gT c.path true 0 (.tl [] (some true))])::X2)=X3 at k1 k2 ⊢
     have V3:VB d ov dv bv X3 (out++[zT]) m':=V2.same (k1 _ (by omega)) (k1 _ (by omega)) (k1 _ (by omega)) (k1 _ (by omega))
     have hrl:=I.rl
     refine loop_wp y.cons.length (fun i e h'=>∃ Xi qi o nxs m10 v10,h'=⟨Xi,qi⟩∧VB d ov dv bv Xi o m'∧Zv.look Xi q2=some (.arr 5 [gT c.path true 0 v10])∧RA Xi qi (q2+1) 1 v10 (nxs.map eI) m10∧q2+1≤qi∧(∀ x,x<q2→x≠ov→x≠m'→Zv.look Xi x=Zv.look X3 x)∧out.length+1≤o.length∧o.length≤4097∧nxs.length=i ∧
      conL (buildS d k) cols rows n c 0 y.cons (out++[zT]) []=conL (buildS d k) cols rows n c i (y.cons.drop i) o nxs ∧
      e=[(0,.d (eOs cols)),(1,.d (eWs rows)),(2,.ptr ov 1 0 0),(4,.ptr bv 1 0 0),(8,.d (.int .i64 (out.length:Int))),(9,.d (eI n)),(10,.ptr q2 1 0 0),(79,.d (.lst (y.cons.map eC))),(80,.d (.int .i64 y.cons.length)),(81,.d (.int .i64 (i:Int)))]) _ ?_ ?_ y.cons.length 0 _ _ (by omega) ⟨X3,q2+1,out++[zT],[],0,_,rfl,V3,k2,RA.nil ..,Nat.le_refl _,fun _ _ _ _=>rfl,by simp,by simp;omega,rfl,rfl,rfl⟩
     ·rintro i e h' hi ⟨Xi,qi,o,nxs,m10,v10,rfl,Vi,hti,R10,hqi,hfi,ho1,ho2,hnx,hch,rfl⟩
      obtain ⟨z,hz1⟩:=get_of_lt hi
      have hzm:=List.mem_of_getElem? hz1
      have hzf:=((S.ds y hym).2.2 z hzm).2
      have hwr:IntKind.i64.wrap ((i:Int)+1)=((i+1:Nat):Int):=by rw[wrap_ok (by omega) (by omega)];rfl
      rw[drop_at hz1] at hch
      have hIc:=I.con hr0 hz hc hty2 (by rw[hco];exact hz1)
      have hcC:(eC z).cells.length=2:=rfl
      simp only[e37,hi,iaC hz1,hcC,wz,opX,intBin,↓reduceIte,simprocAttr]
      refine loop_wp z.flds.length (fun j e h'=>∃ Y qq m13 v13,h'=⟨Y,qq⟩∧RA Y qq (qi+1) 2 v13 ((fldC c.path (z.flds.take j)).map eO) m13∧qi+1≤qq∧(∀ x,x<qi+1→Zv.look Y x=Zv.look Xi x) ∧
       e=[(0,.d (eOs cols)),(1,.d (eWs rows)),(2,.ptr ov 1 0 0),(4,.ptr bv 1 0 0),(8,.d (.int .i64 (out.length:Int))),(9,.d (eI n)),(10,.ptr q2 1 0 0),(11,.d (.int .i64 (i:Int))),(12,.fp (eC z) 0),(13,v13),(79,.d (.lst (y.cons.map eC))),(80,.d (.int .i64 y.cons.length)),(81,.d (.int .i64 (i:Int))),(87,.d (.lst (z.flds.map eI))),(88,.d (.int .i64 z.flds.length)),(89,.d (.int .i64 (j:Int)))]) _ ?_ ?_ z.flds.length 0 _ _ (by omega) ⟨Xi,qi+1,0,_,rfl,RA.nil ..,Nat.le_refl _,fun _ _=>rfl,rfl⟩
      ·rintro j e h' hj ⟨Y,qq,m13,v13,rfl,R13,hqq,hfr,rfl⟩
       obtain ⟨f,hf⟩:=get_of_lt hj
       have hwj:IntKind.i64.wrap ((j:Int)+1)=((j+1:Nat):Int):=by rw[wrap_ok (by omega) (by omega)];rfl
       have hlo:=fun h=>longer_ok c.path (j:Int) (by omega) h
       have hfs:=fldC_snoc c.path hf
       have hfl:(fldC c.path (z.flds.take j)).length≤8:=by unfold fldC;rw[List.length_map,List.length_zipIdx,List.length_take];omega
       obtain ⟨v',Y1,q1,m1',e1,R1a,hqa,_,_,hfa⟩:=ra_app (nl:=some false) (x:=eO ⟨c.path++[(j:Int)],f⟩) (b:=32) R13 hqq rfl (by rw[List.length_map];unfold roomB;omega)
       have e1:app 2 32 ⟨Y,qq⟩ v13 (.tl [.d (D.agg [eIs (c.path++[(j:Int)]),eI f])] (some false))=_:=e1
       simp only[e37,hj,iaI hf,iaO hc,hlo,hwj,e1,wz,opX,intBin,↓reduceIte,simprocAttr]
       refine ⟨Y1,q1,m1',v',rfl,?_,by omega,fun x hx=>by rw[hfa x (by omega) (fun h=>by have:=R13.lo h;omega),hfr x hx],rfl⟩
       rw[hfs,List.map_append];exact R1a
      ·rintro e h' ⟨Y,qq,m13,v13,rfl,R13,hqq,hfr,rfl⟩
       rw[List.take_length] at R13
       simp only[e37,wz,opX,intBin,↓reduceIte,simprocAttr]
       refine loop_wp rows.length (fun ii e h'=>∃ Y qq m16 v16,h'=⟨Y,qq⟩∧RA Y qq (qi+1) 2 v13 ((fldC c.path z.flds).map eO) m13∧RA Y qq (qi+1) 2 v16 ((conRows n (i:Int) z.flds.length (rows.take ii)).map eW) m16∧((conRows n (i:Int) z.flds.length (rows.take ii)).map eW≠[]→(fldC c.path z.flds).map eO≠[]→m16≠m13)∧qi+1≤qq∧(∀ x,x<qi+1→Zv.look Y x=Zv.look Xi x) ∧
        e=[(0,.d (eOs cols)),(1,.d (eWs rows)),(2,.ptr ov 1 0 0),(4,.ptr bv 1 0 0),(8,.d (.int .i64 (out.length:Int))),(9,.d (eI n)),(10,.ptr q2 1 0 0),(11,.d (.int .i64 (i:Int))),(12,.fp (eC z) 0),(13,v13),(16,v16),(79,.d (.lst (y.cons.map eC))),(80,.d (.int .i64 y.cons.length)),(81,.d (.int .i64 (i:Int))),(107,.d (eWs rows)),(108,.d (.int .i64 rows.length)),(109,.d (.int .i64 (ii:Int)))]) _ ?_ ?_ rows.length 0 _ _ (by omega) ⟨Y,qq,0,_,rfl,R13,RA.nil ..,fun h=>absurd rfl h,hqq,hfr,rfl⟩
       ·rintro ii e h' hii ⟨Y,qq,m16,v16,rfl,R13,R16,hdi,hqq,hfr,rfl⟩
        obtain ⟨r,hr⟩:=get_of_lt hii
        have hwi:IntKind.i64.wrap ((ii:Int)+1)=((ii+1:Nat):Int):=by rw[wrap_ok (by omega) (by omega)];rfl
        have hrfit:=I.fit r (List.mem_of_getElem? hr)
        have hrf:=fitR_len hrfit
        rw[List.length_map] at hrf
        obtain ⟨pr,hpr⟩:=get_of_lt (l:=r.pats) (n:=n) (by omega)
        have hpa:patAt r n=pr:=by unfold patAt;rw[List.getD_eq_getElem?_getD,hpr];rfl
        have hcW:(eW r).cells.length=2:=rfl
        have hcs:=con_snoc n (i:Int) z.flds.length hr
        have hal:=fitR_args S hrfit pr (List.mem_of_getElem? hpr)
        have hag:=fun h=>args_ok pr (i:Int) z.flds.length (by omega) h
        cases ha:argsFor pr (i:Int) z.flds.length with
        |none=>
         rw[ha] at hag
         have hcr:conRow n (i:Int) z.flds.length r=none:=by unfold conRow;rw[hpa,ha];rfl
         rw[hcr,Option.toList_none,List.append_nil] at hcs
         simp only[e37,hii,iaW hr,hcW,iaP hpr,pts,hag,Option.getD_none,Option.isSome_none,hwi,wz,opX,intBin,↓reduceIte,simprocAttr]
         refine ⟨Y,qq+1,m16,v16,rfl,R13.mono (by omega) (fun _=>rfl),?_,by rw[hcs];exact hdi,by omega,hfr,rfl⟩
         rw[hcs];exact R16.mono (by omega) (fun _=>rfl)
        |some a=>
         rw[ha] at hag
         have hcr:conRow n (i:Int) z.flds.length r=some (putP r n a):=by unfold conRow;rw[hpa,ha];rfl
         rw[hcr,Option.toList_some] at hcs
         have hale:a.length≤10000:=by
          unfold argsFor at ha
          split at ha
          ·cases ha;rw[List.length_replicate];omega
          ·split at ha
           ·cases ha;exact hal
           ·cases ha
         have hrep:=fun h=>replP_ok r.pats n a (by omega) (by omega) (by omega) h
         have hrep:∀ h,callW tab 43 [.d (ePs r.pats),.d (.int .i64 (n:Int)),.d (ePs a)] h=some (.d (ePs (putP r n a).pats),h):=hrep
         have hsl:(conRows n (i:Int) z.flds.length (rows.take ii)).length≤6:=by
          have:=List.length_filterMap_le (conRow n (i:Int) z.flds.length) (rows.take ii)
          rw[List.length_take] at this;unfold conRows;omega
         obtain ⟨v',Y1,q1,m1',e1,R1a,R13a,hd1,hqa,hfa⟩:=ra_app2 (nl:=some false) (x:=eW (putP r n a)) (b:=32) (R16.mono (q':=qq+1) (by omega) (fun _=>rfl)) (R13.mono (q':=qq+1) (by omega) (fun _=>rfl)) hdi (by omega) rfl (by rw[List.length_map];unfold roomB;omega)
         have e1:app 2 32 ⟨Y,qq+1⟩ v16 (.tl [.d (D.agg [eI r.n,ePs (putP r n a).pats])] (some false))=_:=e1
         simp only[e37,hii,iaW hr,hcW,iaP hpr,pts,hag,Option.getD_some,Option.isSome_some,hrep,e1,hwi,wz,opX,intBin,↓reduceIte,simprocAttr]
         refine ⟨Y1,q1,m1',v',rfl,R13a,?_,fun _ h=>hd1 h,by omega,fun x hx=>by rw[hfa x hx,hfr x hx],rfl⟩
         rw[hcs,List.map_append];exact R1a
       ·rintro e h' ⟨Y,qq,m16,v16,rfl,R13,R16,hdi,hqq,hfr,rfl⟩
        rw[List.take_length] at R16 hdi
        obtain ⟨Y1,hz16,hf16⟩:=ra_frz R16
        have R13a:RA Y1 qq (qi+1) 2 v13 ((fldC c.path z.flds).map eO) m13:=R13.mono (Nat.le_refl _) fun h3=>hf16 m13 fun h1 e=>hdi h1 h3 e.symm
        obtain ⟨Y2,hz13,hf13⟩:=ra_frz R13a
        have hY2:∀ x,x<qi+1→Zv.look Y2 x=Zv.look Xi x:=fun x hx=>by rw[hf13 x (fun h=>by have:=R13a.lo h;omega),hf16 x (fun h=>by have:=R16.lo h;omega),hfr x hx]
        have V4:VB d ov dv bv Y2 o m':=Vi.same (hY2 _ (by omega)) (hY2 _ (by omega)) (hY2 _ (by omega)) (hY2 _ (by omega))
        have hone:o≠[]:=fun h=>by rw[h] at ho1;simp at ho1
        obtain ⟨r1,hv1,ma,Xa,qa,rfl,V5,hma,hqa,hme,_,F5⟩:=ih o (putC cols n (fldC c.path z.flds)) (conRows n (i:Int) z.flds.length rows) Y2 m' qq hIc ho2 (.inl ⟨hone,V4,by omega⟩) (by omega) (by omega) (by omega)
        obtain rfl:ma=m':=hme hone
        have L1:=(buildS_len d k o (putC cols n (fldC c.path z.flds)) (conRows n (i:Int) z.flds.length rows))
        have hconL:conL (buildS d k) cols rows n c i (z::y.cons.drop (i+1)) o nxs=conL (buildS d k) cols rows n c (i+1) (y.cons.drop (i+1)) (buildS d k o (putC cols n (fldC c.path z.flds)) (conRows n (i:Int) z.flds.length rows)).1 (nxs++[(buildS d k o (putC cols n (fldC c.path z.flds)) (conRows n (i:Int) z.flds.length rows)).2]):=rfl
        rw[hconL] at hch
        generalize buildS d k o (putC cols n (fldC c.path z.flds)) (conRows n (i:Int) z.flds.length rows)=Q1 at hv1 V5 L1 hch
        have hfll:(fldC c.path z.flds).length≤8:=by unfold fldC;rw[List.length_map,List.length_zipIdx];omega
        have hrpO:=fun h=>replO_ok cols n (fldC c.path z.flds) hnl (by omega) (by omega) h
        have hrpO:∀ h,callW tab 44 [.d (eOs cols),.d (.int .i64 (n:Int)),.d (eOs (fldC c.path z.flds))] h=some (.d (eOs (putC cols n (fldC c.path z.flds))),h):=hrpO
        have rb1:=fun nx=>row_of (q:=nx) V4.ibv (tot:=1) rfl
        have hYt:Zv.look Y2 q2=some (.arr 5 [gT c.path true 0 v10]):=by rw[hY2 q2 (by omega)];exact hti
        have rt2:=fun nx=>row_of (q:=nx) hYt (tot:=1) rfl
        have hldk:∀ nx,ldk false 1 ⟨Y2,nx⟩ (.ptr q2 1 0 0) (.ptr q2 1 0 3)=some v10:=by
         intro nx;simp[ldk,ld,rt2,partV,V.cells]
        have hXat:Zv.look Xa q2=Zv.look Y2 q2:=F5 q2 (by omega) (by omega) (by omega)
        have hsm:∀ n1,sameAt ⟨Y2,n1⟩ ⟨Xa,qa⟩ (.ptr q2 1 0 0)=true:=by
         intro n1;simp only[sameAt,Hp.get,hXat,hYt,Ob.beq_refl]
        have R10a:RA Xa qa (q2+1) 1 v10 (nxs.map eI) m10:=R10.mono (by omega) fun h=>by
         have h5:=R10.lo h
         have h6:=R10.hi h
         rw[F5 m10 (by omega) (by omega) (by omega),hY2 m10 (by omega)]
        obtain ⟨v',Xb,qb,m1',e1,R1a,hqb,hmA,hmB,hfb⟩:=ra_app (nl:=some false) (x:=eI Q1.2) (b:=8) R10a (by omega) rfl (by rw[List.length_map];unfold roomB;omega)
        have hXbt:Zv.look Xb q2=some (.arr 5 [gT c.path true 0 v10]):=by rw[hfb q2 (by omega) (fun h=>by have:=R10.lo h;omega),hXat];exact hYt
        have hst3:st 1 ⟨Xb,qb⟩ (.ptr q2 1 0 3) v'=some ⟨Zv.upd Xb q2 (.arr 5 [gT c.path true 0 v']),qb⟩:=by
         rw[R1a.v];exact st_next hXbt m1' _ qb
        have hlo1:=R1a.lo (by simp)
        have hXc:∀ x,x≠q2→Zv.look (Zv.upd Xb q2 (.arr 5 [gT c.path true 0 v'])) x=Zv.look Xb x:=fun x h=>by rw[Zs.look_upd,if_neg h]
        have hXb0:∀ x,x<q2→Zv.look Xb x=Zv.look Xa x:=fun x hx=>hfb x (by omega) (fun h=>by have:=R10.lo h;omega)
        simp only[e37,hz16,hz13,hldk,rb1,hrpO,hv1,hsm,e1,hst3,hwr,wz,opX,intBin,↓reduceIte,simprocAttr]
        refine ⟨Zv.upd Xb q2 (.arr 5 [gT c.path true 0 v']),qb,Q1.1,nxs++[Q1.2],m1',v',rfl,?_,?_,?_,by omega,?_,by omega,L1.2 ho2,by simp[hnx],hch⟩
        ·exact V5.same (by rw[hXc _ (by omega),hXb0 _ (by omega)]) (by rw[hXc _ (by omega),hXb0 _ (by omega)]) (by rw[hXc _ (by omega),hXb0 _ (by omega)]) (by rw[hXc _ (by omega),hXb0 _ (by omega)])
        ·rw[Zs.look_upd,if_pos rfl,hXbt];rfl
        ·rw[List.map_append];exact R1a.mono (Nat.le_refl _) (fun _=>hXc m1' (by omega))
        ·intro x hx h1 h2
         rw[hXc x (by omega),hXb0 x hx,F5 x (by omega) h1 h2,hY2 x (by omega),hfi x hx h1 h2]
     ·rintro e h' ⟨Xi,qi,o,nxs,m10,v10,rfl,Vi,hti,R10,hqi,hfi,ho1,ho2,hnx,hch,rfl⟩
      rw[show y.cons.drop y.cons.length=[] from List.drop_of_length_le (Nat.le_refl _)] at hch
      rw[hch]
      have hce:conL (buildS d k) cols rows n c y.cons.length [] o nxs=(o,nxs):=rfl
      rw[hce]
      obtain ⟨Ye,hz3,hf3⟩:=fz_T (X:=Xi) (a:=q2) hti R10 (by omega)
      have hYe:∀ x,x<q2→Zv.look Ye x=Zv.look Xi x:=fun x h1=>hf3 x (by omega) (fun h=>by have:=R10.lo (by simpa using h);omega)
      have V8:VB d ov dv bv Ye o m':=Vi.same (hYe _ (by omega)) (hYe _ (by omega)) (hYe _ (by omega)) (hYe _ (by omega))
      have rw8:=fun nx=>row_of (q:=nx) V8.iov (tot:=1) rfl
      have hio8:=ia_own (es:=5) (n:=m') (tot:=o.length) .i64 (show out.length<o.length by omega)
      have hst8:=fun nx=>st_elem V8.irow (L:=o.length) rfl (show out.length<o.length by omega) ⟨c.path,true,0,nxs,0⟩ nx
      have hst8:∀ nx,st 5 ⟨Ye,nx⟩ (.ptr m' o.length out.length 0) (.d (D.agg [eIs c.path,.bool true,eI 0,eIs nxs,eI 0]))=_:=hst8
      simp only[e37,hz3,rw8,hio8,hst8,wz,opX,intBin,↓reduceIte,simprocAttr]
      refine ⟨_,rfl,m',_,qi,rfl,V8.put (by rw[List.length_set]),by omega,by omega,hmm,hm0,?_⟩
      intro x hx h1 h2
      rw[Zs.look_upd,if_neg h2,hYe x (by omega),hfi x (by omega) h1 h2,k1 x (by omega)]
      exact F2 x hx h1 h2
end Zc28
end
section
set_option maxHeartbeats 4000000
namespace Zc28
open Go Zv Zs
theorem app_rowL {es b m q:Nat} {Y:List (Nat × Ob)} {S r:List D} (hr:Zv.look Y m=some (.arr es (S.map .d))) (hx:∀ y,y ∈ r→y.cells.length=es) (hne:r≠[]) (hb:(S.length+r.length)*b≤roomB) :
  app es b ⟨Y,q⟩ (.own m es S.length 0 S.length) (.d (.lst r))=some (.own m es (S++r).length 0 (S++r).length,⟨Zv.upd Y m (.arr es ((S++r).map .d)),q⟩):=by
 have hrow:(⟨Y,q⟩:Hp).row m S.length=some (es,S.map .d):=row_of hr (by simp)
 have hp:0<r.length:=List.length_pos_iff.2 hne
 have he:(r.map V.d).isEmpty=false:=by cases r with | nil=>exact absurd rfl hne | cons=>rfl
 have h1:¬ S.length+r.length≤S.length:=by omega
 have h2:List.take S.length (S.map V.d)=S.map V.d:=List.take_of_length_le (by simp)
 unfold app
 simp only[elems,Option.bind_some,norm_map_d,allV_d hx,if_true,hrow,List.length_map,Nat.zero_add,Nat.le_refl,and_self,he,Bool.false_eq_true,if_false,h1,hb,h2,Hp.set,List.map_append,List.length_append]
theorem raL {Y:List (Nat × Ob)} {q q0 es b m:Nat} {v:V} {S r:List D} (R:RA Y q q0 es v S m) (hq:q0≤q) (hx:∀ y,y ∈ r→y.cells.length=es) (hb:(S.length+r.length)*b≤roomB) :
  ∃ v' Y' q' m',app es b ⟨Y,q⟩ v (.d (.lst r))=some (v',⟨Y',q'⟩)∧RA Y' q' q0 es v' (S++r) m'∧q≤q'∧∀ n,n<q0→Zv.look Y' n=Zv.look Y n:=by
 by_cases hr:r=[]
 ·subst hr
  refine ⟨v,Y,q,m,?_,by rw[List.append_nil];exact R,Nat.le_refl _,fun _ _=>rfl⟩
  rw[R.v]
  unfold rowN
  split
  ·rfl
  ·rename_i hs
   have hrow:(⟨Y,q⟩:Hp).row m S.length=some (es,S.map .d):=row_of (R.row hs) (by simp)
   simp[app,elems,hrow,allV]
 ·by_cases hs:S=[]
  ·subst hs
   have h:=tl_app (nl:=some true) (es:=es) (b:=b) (h:=⟨Y,q⟩) (r:=r) hx (by simpa using hb)
   unfold cloV cloO at h
   simp only[hr,if_false] at h
   refine ⟨.own q es r.length 0 r.length,(q,.arr es (r.map .d))::Y,q+1,q,by rw[R.v];exact h,⟨by rw[List.nil_append];unfold rowN;rw[if_neg hr],fun _=>by rw[List.nil_append];exact look_hd ..,fun _=>hq,fun _=>by omega⟩,by omega,fun n hn=>look_tl _ _ (by omega)⟩
  ·have hv:v=.own m es S.length 0 S.length:=by rw[R.v];exact if_neg hs
   have hn:S++r≠[]:=by simp[hs]
   refine ⟨_,_,_,m,by rw[hv];exact app_rowL (R.row hs) hx hr hb,⟨by unfold rowN;rw[if_neg hn],fun _=>by rw[Zs.look_upd,if_pos rfl,R.row hs];rfl,fun _=>R.lo hs,fun _=>R.hi hs⟩,Nat.le_refl _,fun n hn'=>?_⟩
   rw[Zs.look_upd,if_neg (by have:=R.lo hs;omega)]
theorem raX {Y:List (Nat × Ob)} {q q0 es b m:Nat} {v:V} {S:List D} {x:D} {nl:Option Bool} (R:RA Y q q0 es v S m) (hq:q0≤q) (hx:x.cells.length=es) (hb:(S.length+1)*b≤roomB) :
  ∃ v' Y' q' m',app es b ⟨Y,q⟩ v (.tl [.d x] nl)=some (v',⟨Y',q'⟩)∧RA Y' q' q0 es v' (S++[x]) m'∧q≤q'∧∀ n,n<q0→Zv.look Y' n=Zv.look Y n:=by
 rw[show app es b ⟨Y,q⟩ v (.tl [.d x] nl)=app es b ⟨Y,q⟩ v (.d (.lst [x])) from app_tl1 ..]
 exact raL R hq (by intro y hy;rw[List.mem_singleton] at hy;subst hy;exact hx) hb
theorem rz {Y:List (Nat × Ob)} {q q0 es m:Nat} {v:V} {S:List D} (R:RA Y q q0 es v S m) :
  ∃ Y',(∀ nx,Zv.frz ⟨Y,nx⟩ v=some (.d (.lst S),⟨Y',nx⟩))∧∀ n,n<q0→Zv.look Y' n=Zv.look Y n:=by
 obtain ⟨Y',h1,h2⟩:=ra_frz R
 exact⟨Y',h1,fun n hn=>h2 n fun hs=>by have:=R.lo hs;omega⟩
theorem RA.keep {Y Y':List (Nat × Ob)} {q q' q0 es m L:Nat} {v:V} {S:List D} (R:RA Y q q0 es v S m) (hq:q≤q') (hL:q≤L) (h:∀ n,n<L→Zv.look Y' n=Zv.look Y n):RA Y' q' q0 es v S m:=
 R.mono hq fun hs=>h m (by have:=R.hi hs;omega)
theorem RA.up {Y:List (Nat × Ob)} {q q' q0 es m:Nat} {v:V} {S:List D} (R:RA Y q q0 es v S m) (hq:q≤q'):RA Y q' q0 es v S m:=R.mono hq fun _=>rfl
theorem idxZ_first {α:Type} (p:α→Bool) (l:List α):(idxZ p l = -1∧∀ x,x ∈ l→p x=false)∨∃ (n:Nat) (x:α),idxZ p l=n∧l[n]? = some x∧p x=true∧∀ (j:Nat) y,j<n→l[j]? = some y→p y=false:=by
 have hnn:(0≤idxZ p l)=(l.any p=true):=idxZ_nn p l
 unfold idxZ at hnn ⊢
 cases h:fst? p 0 l with
 |none=>
  left
  refine ⟨rfl,fun x hx=>?_⟩
  rw[h] at hnn
  cases hp:p x with
  |false=>rfl
  |true=>
   have:l.any p=true:=List.any_eq_true.2 ⟨x,hx,hp⟩
   rw[this] at hnn
   simp at hnn
 |some q=>
  obtain ⟨n,x⟩:=q
  obtain ⟨h0,h1,h2,h3⟩:=fst_some h
  exact .inr ⟨n,x,rfl,by simpa using h1,h2,fun j y hj hy=>h3 j y (by omega) hj (by simpa using hy)⟩
end Zc28
end
section
set_option maxHeartbeats 4000000
namespace Zc28
open Go Zv Zs
end Zc28
end
section
set_option maxHeartbeats 4000000
namespace Zc28
open Go Zv Zs
def wi3:Option (List Pt)→V
 |none=>.tup [.d (.lst []),.d (.bool false),.d (.int .i64 0)]
 |some w=>.tup [.d (ePs w),.d (.bool true),.d (.int .i64 0)]
theorem Witness_ok {d:List Dt} {ts:List Int} {l:List (List Pt)} (G:Gd d ts l) (F:Rng d ts l) (hc:chk27 d ts l=0) (h:Hp) :
  callW tab 36 [.d (eDs d),.d (eIs ts),.d (eRs l)] h=some (wi3 (wiS d 8001 ts l),h):=by
 refine call_wp (fn:=f36) rfl rfl ?_
 have hck:=fun h=>chk_ok F h
 rw[hc] at hck
 have hw:=fun h=>witness_ok G.sml G.typ 8001 ts l (by have:=G.w;omega) G.w G.len G.tys G.fit h
 cases hu:wiS d 8001 ts l with
 |none=>rw[hu] at hw;simp only[e36,hck,ibne,hw,wiV,wi3,wz,opX,intBin,↓reduceIte,simprocAttr]
 |some w=>rw[hu] at hw;simp only[e36,hck,ibne,hw,wiV,wi3,wz,opX,intBin,↓reduceIte,simprocAttr]
theorem gd28 {d:List Dt} {ts:List Int} {l:List (List Pt)} (S:Sml d) (ht:ts.length≤10) (hl:l.length≤9) (hs:nwS l≤100) (hc:chk27 d ts l=0):Gd d ts l∧checkS d=0:=by
 unfold chk27 at hc
 by_cases h1:checkS d≠0
 ·rw[if_pos h1] at hc;cases hc
 rw[if_neg h1] at hc
 by_cases h2:8<ts.length∨64<l.length
 ·rw[if_pos h2] at hc;cases hc
 rw[if_neg h2] at hc
 by_cases h3:ts.any (badT d)=true
 ·rw[if_pos h3] at hc;cases hc
 rw[if_neg h3] at hc
 by_cases h4:l.any deepR=true
 ·rw[if_pos h4] at hc;cases hc
 rw[if_neg h4] at hc
 by_cases h5:l.any (badR d ts)=true
 ·rw[if_pos h5] at hc;cases hc
 refine ⟨⟨S,check_typed (Decidable.not_not.1 h1),fun t hm=>?_,fun r hr=>?_,by omega,by omega⟩,Decidable.not_not.1 h1⟩
 ·cases hb:isT d t with
  |true=>rfl
  |false=>exact absurd (List.any_eq_true.2 ⟨t,hm,by rw[badT,hb];rfl⟩) h3
 ·cases hb:badR d ts r with
  |true=>exact absurd (List.any_eq_true.2 ⟨r,hr,hb⟩) h5
  |false=>
   unfold badR at hb
   rw[←fitsL_any] at hb
   simp only[Bool.not_eq_false',Bool.and_eq_true,decide_eq_true_eq] at hb
   exact fitR_of_L hb.1.symm hb.2
theorem Few8.nw {d:List Dt} {ts:List Int} {l:List (List Pt)} (F:Few8 d ts l):nwS l≤72:=by
 have h1:∀ (l:List (List Pt)),(∀ r,r ∈ l→cntL r≤12)→nwS l≤12*l.length:=by
  intro l
  induction l with
  |nil=>intro _;exact Nat.le_refl _
  |cons r l ih=>
   intro h
   have a:=ih fun r hr=>h r (.tail _ hr)
   have b:=h r (.head _)
   have c:=nw_cntL r
   rw[nwS,List.length_cons];omega
 have:=h1 l fun r hr=>(F.row r hr).2
 have:=F.rows
 omega
theorem Few8.rng {d:List Dt} {ts:List Int} {l:List (List Pt)} (F:Few8 d ts l):Rng d ts l:=
 ⟨F.sml.bd,F.sml.nm,by have:=F.ts;omega,by have:=F.rows;omega,fun r hr=>by have:=(F.row r hr).2;omega⟩
def col0 (ts:List Int):List Co:=ts.zipIdx.map fun q=>⟨[(q.2:Int)],q.1⟩
def row0 (l:List (List Pt)):List Rw:=l.zipIdx.map fun q=>⟨(q.2:Int),q.1⟩
theorem col0_ty (ts:List Int):(col0 ts).map Co.ty=ts:=by
 unfold col0;rw[List.map_map];exact List.zipIdx_map_fst 0 ts
theorem row0_pats (l:List (List Pt)):(row0 l).map Rw.pats=l:=by
 unfold row0;rw[List.map_map];exact List.zipIdx_map_fst 0 l
theorem col0_snoc {ts:List Int} {n:Nat} {t:Int} (h:ts[n]? = some t):col0 (ts.take (n+1))=col0 (ts.take n)++[⟨[(n:Int)],t⟩]:=by
 have hn:=(List.getElem?_eq_some_iff.1 h).1
 rw[List.take_add_one,h]
 unfold col0
 rw[Option.toList_some,List.zipIdx_append,List.map_append]
 simp[show min n ts.length=n by omega]
theorem row0_snoc {l:List (List Pt)} {n:Nat} {r:List Pt} (h:l[n]? = some r):row0 (l.take (n+1))=row0 (l.take n)++[⟨(n:Int),r⟩]:=by
 have hn:=(List.getElem?_eq_some_iff.1 h).1
 rw[List.take_add_one,h]
 unfold row0
 rw[Option.toList_some,List.zipIdx_append,List.map_append]
 simp[show min n l.length=n by omega]
theorem col0_len (ts:List Int):(col0 ts).length=ts.length:=by unfold col0;simp
theorem row0_len (l:List (List Pt)):(row0 l).length=l.length:=by unfold row0;simp
theorem nwW_eq:∀ rows:List Rw,nwW rows=nwS (rows.map Rw.pats)
 | []=>rfl
 |r::rs=>by
  have:=nwW_eq rs
  unfold nwW at this ⊢
  rw[List.map_cons,List.sum_cons,this,List.map_cons,nwS]
theorem us_none {d:List Dt} {ts:List Int} {l:List (List Pt)} (G:Gd d ts l) (h:wiS d 8001 ts l=none) (K:Nat):usS d K ts l (List.replicate ts.length wildT)=false:=by
 have h1:=wi_us d 8001 ts l
 rw[h] at h1
 have h1:false=usS d 8001 ts l (List.replicate ts.length wildT):=h1
 cases hu:usS d K ts l (List.replicate ts.length wildT) with
 |false=>rfl
 |true=>
  have h2:=us_le 8001 hu
  have hw:nwL (List.replicate ts.length wildT)=0:=nwL_wild _
  have h3:=us_fuel G.sml G.typ (k:=8001) (k':=K+8001) (ts:=ts) (l:=l) (r:=List.replicate ts.length wildT) (by have:=G.w;omega) (by have:=G.w;omega) (by have:=G.w;omega) G.len G.tys G.fit (fitR_wild d ts)
  rw[←h1,h2] at h3
  cases h3
theorem bi0 {d:List Dt} {ts:List Int} {l:List (List Pt)} (F:Few8 d ts l) (hc:chk27 d ts l=0) (h:wiS d 8001 ts l=none):BI d 80 (col0 ts) (row0 l):=by
 obtain ⟨G,hC⟩:=gd28 F.sml (by have:=F.ts;omega) (by have:=F.rows;omega) (by have:=F.nw;omega) hc
 refine ⟨fun r hr=>?_,fun c hcm=>?_,?_,fun c hcm=>?_,?_,?_,hC,fun y hy c hcm=>((F.sml.ds y hy).2.2 c hcm).2,?_⟩
 ·rw[col0_ty]
  have:r.pats ∈ (row0 l).map Rw.pats:=List.mem_map.2 ⟨r,hr,rfl⟩
  rw[row0_pats] at this
  exact G.fit _ this
 ·have:c.ty ∈ (col0 ts).map Co.ty:=List.mem_map.2 ⟨c,hcm,rfl⟩
  rw[col0_ty] at this
  exact G.tys _ this
 ·rw[nwW_eq,row0_pats];have:=F.nw;omega
 ·unfold col0 at hcm
  obtain ⟨q,_,rfl⟩:=List.mem_map.1 hcm
  simp
 ·rw[col0_len];have:=F.ts;omega
 ·rw[row0_len];exact F.rows
 ·rw[col0_ty,row0_pats]
  exact covL0 G.fit (us_none G h)
def TOk (t:Ts):Prop:=t.path.length≤100∧t.next.length≤30
def TsOk (l:List Ts):Prop:=∀ t,t ∈ l→TOk t
theorem conL_ind {f:Bld} {cols:List Co} {rows:List Rw} {k:Nat} {c:Co} (P:List Ts→Prop):∀ (zs:List Cn) (i:Nat) (out:List Ts) (nx:List Int),
  (∀ j z,zs[j]? = some z→∀ out,P out→P (f out (putC cols k (fldC c.path z.flds)) (conRows k ((i+j:Nat):Int) z.flds.length rows)).1)→P out→P (conL f cols rows k c i zs out nx).1
 | [],i,out,nx,_,h=>h
 |z::zs,i,out,nx,H,h=>by
  unfold conL
  refine conL_ind P zs (i+1) _ _ (fun j z' hj=>?_) (H 0 z rfl out h)
  have:=H (j+1) z' (by simpa using hj)
  rw[show i+(j+1)=i+1+j by omega] at this
  exact this
theorem TsOk.snoc {l:List Ts} {t:Ts} (h:TsOk l) (ht:TOk t):TsOk (l++[t]):=fun x hx=>by
 rcases List.mem_append.1 hx with h' | h'
 ·exact h x h'
 ·rw[List.mem_singleton] at h';subst h';exact ht
theorem TsOk.set {l:List Ts} {t:Ts} {n:Nat} (h:TsOk l) (ht:TOk t):TsOk (l.set n t):=fun x hx=>by
 rcases List.mem_or_eq_of_mem_set hx with h' | h'
 ·exact h x h'
 ·subst h';exact ht
theorem zT_ok:TOk zT:=⟨by simp[zT],by simp[zT]⟩
theorem leaf_ok28 (n:Int):TOk (leafAt n):=⟨by simp[leafAt],by simp[leafAt]⟩
theorem consOf_8 {d:List Dt} (S:Sml d) (t:Int):(consOf d t).length≤8:=(cons_sm S t).1
theorem build_ts {d:List Dt} (S:Sml d):∀ (k:Nat) (out:List Ts) (cols:List Co) (rows:List Rw),BI d k cols rows→TsOk out→TsOk (buildS d k out cols rows).1
 |0,out,cols,rows,I,_=>by have:=I.nw;omega
 |k+1,out,cols,rows,I,h=>by
  unfold buildS
  split
  ·exact h
  obtain ⟨r0,hr0⟩:∃ r0,rows[0]? = some r0:=get_of_lt (List.length_pos_iff.2 I.ne)
  have hB1:bldB d (buildS d k) cols rows out=bldK d (buildS d k) cols rows r0 (idxZ nwB r0.pats) out:=by
   cases rows with
   |nil=>cases hr0
   |cons x rs=>cases hr0;rfl
  rw[hB1]
  rcases idxZ_cases nwB r0.pats with hz | ⟨n,p,hz,hp,hpn⟩
  ·rw[hz]
   exact h.snoc (leaf_ok28 _)
  ·have hpl:=fitR_len (I.fit r0 (List.mem_of_getElem? hr0))
   rw[List.length_map] at hpl
   obtain ⟨c,hc⟩:=get_of_lt (l:=cols) (n:=n) (by have:=(List.getElem?_eq_some_iff.1 hp).1;omega)
   have hcp:=I.path c (List.mem_of_getElem? hc)
   have hB2:bldK d (buildS d k) cols rows r0 (idxZ nwB r0.pats) out=if c.ty=0 then bldN (buildS d k) cols rows r0 n c out else bldC d (buildS d k) cols rows n c out:=by
    rw[hz];unfold bldK;rw[getI_nat,hc];rfl
   rw[hB2]
   split
   ·rename_i ht
    unfold bldN
    exact (build_ts S k _ _ _ (I.oth hr0 hz hc ht) (build_ts S k _ _ _ (I.same hr0 hz hc ht) (h.snoc zT_ok))).set ⟨by show c.path.length≤100;omega,by simp⟩
   ·rename_i ht
    unfold bldC
    refine TsOk.set (conL_ind TsOk (consOf d c.ty) 0 (out++[zT]) [] (fun j z hj out ho=>?_) (h.snoc zT_ok)) ⟨by show c.path.length≤100;omega,?_⟩
    ·rw[Nat.zero_add]
     exact build_ts S k _ _ _ (I.con hr0 hz hc ht hj) ho
    ·show (conL (buildS d k) cols rows n c 0 (consOf d c.ty) (out++[zT]) []).2.length≤30
     rw[(conL_len (buildS_len d k) ..).2.2]
     have:=consOf_8 S c.ty
     simp only[List.length_nil];omega
end Zc28
end
section
set_option maxHeartbeats 4000000
namespace Zc28
open Go Zv Zs
def compE (d:List Dt) (ts:List Int) (l:List (List Pt)):Int:=
 if chk27 d ts l≠0 then chk27 d ts l else if (wiS d 8001 ts l).isSome=true then 13 else if 4096<(buildS d 80 [] (col0 ts) (row0 l)).1.length then 6 else 0
def compT (d:List Dt) (ts:List Int) (l:List (List Pt)):List Ts:=if compE d ts l=0 then (buildS d 80 [] (col0 ts) (row0 l)).1 else []
theorem suf_nil (l:List (Nat × Ob)):sufOk [] l=true:=by
 unfold sufOk
 rw[List.length_nil,Nat.sub_zero,List.drop_length]
 exact objsBeq_refl _
theorem finS_d2 {n:Nat} {h:Hp} {v:V} {x y:D} (hv:deep h n 8 v=some x):finS ⟨[],n⟩ h [v,.d y]=some (.tup [.d x,.d y],⟨[],n⟩):=by
 unfold finS
 rw[if_pos (suf_nil _)]
 have hy:deep h n 8 (.d y)=some y:=rfl
 simp[back1,hv,hy,resV]
theorem deep_row {n m q k es:Nat} {X:List (Nat × Ob)} {s:List D} (hm:n≤m) (hr:Zv.look X m=some (.arr es (s.map .d))):deep ⟨X,q⟩ n (k+2) (.own m es s.length 0 s.length)=some (.lst s):=by
 have hrow:Hp.row ⟨X,q⟩ m s.length=some (es,s.map .d):=row_of hr (by simp)
 have hm2:∀ (l:List D),(l.map V.d).mapM (deep ⟨X,q⟩ n (k+1))=some l:=by
  intro l
  induction l with
  |nil=>rfl
  |cons x l ih=>rw[List.map_cons,List.mapM_cons,ih];rfl
 have ht:List.take s.length (s.map V.d)=s.map V.d:=List.take_of_length_le (by simp)
 show (if n≤m then _ else _)=_
 rw[if_pos hm,hrow,Option.bind_some,if_pos (by simp),List.drop_zero,ht,hm2];rfl
theorem deep_c {n m q es:Nat} {X:List (Nat × Ob)} {s:List D} (hm:n≤m) (hr:Zv.look X m=some (.arr es (s.map .d))):deep ⟨X,q⟩ n 8 (.agg [.own m es s.length 0 s.length])=some (.agg [.lst s]):=by
 have h1:=deep_row (q:=q) (k:=5) hm hr
 show Option.map D.agg (List.mapM (deep _ n 7) [_])=_
 rw[List.mapM_cons,h1];rfl
theorem ld_agg {h:Hp} {n:Nat} {vs:List V} (hr:h.row n 1=some (1,[.agg vs])):ld true 1 h (.ptr n 1 0 0)=some (.agg vs):=by simp[ld,hr]
theorem ld_own {h:Hp} {n m es L:Nat} (hr:h.row n 1=some (1,[.own m es L 0 L])):ld true 1 h (.ptr n 1 0 0)=some (.agg [.own m es L 0 L]):=by simp[ld,hr,partV,V.cells,mkAgg_own]
theorem mk_o2 (a b:D):norm (V.agg [.tl [.d a] (some false),.d b])=.d (.agg [.lst [a],b]):=rfl
theorem compile_ok {d:List Dt} {ts:List Int} {l:List (List Pt)} (F:Few8 d ts l) (n:Nat):callW tab 11 [.d (eDs d),.d (eIs ts),.d (eRs l)] ⟨[],n⟩=some (.tup [.d (.agg [eTs (compT d ts l)]),.d (eI (compE d ts l))],⟨[],n⟩):=by
 refine call_wp (fn:=f11) rfl rfl ?_
 have hck:=fun h=>chk_ok F.rng h
 have hzc:∀ h,deep h n 8 zC=some (.agg [.lst []]):=fun h=>rfl
 have hfz:=fun h y=>finS_d2 (y:=y) (hzc h)
 have c2:(eDs d).cells.length=1:=rfl
 have rd:∀ nx,Hp.row ⟨[(n+1,.arr 1 [.agg [.tl [] (some true)]]),(n,.arr 1 [.d (eDs d)])],nx⟩ n 1=some (1,[.d (eDs d)]):=fun nx=>row_cn (by omega) (fun nx=>by rw[row_hd];rfl)
 have hlz:=fun r q=>ld_z (n+1) r q
 by_cases hc:chk27 d ts l=0
 ·obtain ⟨G,hC⟩:=gd28 F.sml (by have:=F.ts;omega) (by have:=F.rows;omega) (by have:=F.nw;omega) hc
  have w1:=fun h=>Witness_ok G F.rng hc h
  rw[hc] at hck
  cases hw:wiS d 8001 ts l with
  |some w=>
   rw[hw] at w1
   have hE:compE d ts l=13:=by unfold compE;rw[if_neg (by simp[hc]),hw];rfl
   have hT:compT d ts l=[]:=by unfold compT;rw[hE];rfl
   rw[hE,hT]
   simp only[e11,c2,rd,hck,ibne,w1,wi3,hlz,hfz,wz,opX,intBin,↓reduceIte,simprocAttr]
   rfl
  |none=>
   rw[hw] at w1
   simp only[e11,c2,rd,hck,ibne,w1,wi3,wz,opX,intBin,↓reduceIte,simprocAttr]
   have hts:=F.ts
   have hrl:=F.rows
   let L4:List (Nat × Ob):=[(n+1+1+1,.arr 1 [.clo 37 [.ptr (n+1+1) 1 0 0,.ptr n 1 0 0,.ptr (n+1+1+1) 1 0 0]]),(n+1+1,.arr 1 [.agg [.tl [] (some true)]]),(n+1,.arr 1 [.agg [.tl [] (some true)]]),(n,.arr 1 [.d (eDs d)])]
   have k0:Zv.look L4 n=some (.arr 1 [.d (eDs d)]):=by show Zv.look L4 n=_;rw[look_tl _ _ (by omega),look_tl _ _ (by omega),look_tl _ _ (by omega),look_hd]
   have k1:Zv.look L4 (n+1)=some (.arr 1 [.agg [.tl [] (some true)]]):=by show Zv.look L4 (n+1)=_;rw[look_tl _ _ (by omega),look_tl _ _ (by omega),look_hd]
   have k2:Zv.look L4 (n+1+1)=some (.arr 1 [.agg [.tl [] (some true)]]):=by show Zv.look L4 (n+1+1)=_;rw[look_tl _ _ (by omega),look_hd]
   have k3:Zv.look L4 (n+1+1+1)=some (.arr 1 [.clo 37 [.ptr (n+1+1) 1 0 0,.ptr n 1 0 0,.ptr (n+1+1+1) 1 0 0]]):=look_hd ..
   have hL4:L4=[(n+1+1+1,.arr 1 [.clo 37 [.ptr (n+1+1) 1 0 0,.ptr n 1 0 0,.ptr (n+1+1+1) 1 0 0]]),(n+1+1,.arr 1 [.agg [.tl [] (some true)]]),(n+1,.arr 1 [.agg [.tl [] (some true)]]),(n,.arr 1 [.d (eDs d)])]:=rfl
   rw[←hL4]
   clear_value L4
   refine loop_wp ts.length (fun i e h'=>∃ Y q m v,h'=⟨Y,q⟩∧RA Y q (n+1+1+1+1) 2 v ((col0 (ts.take i)).map eO) m∧n+1+1+1+1≤q∧(∀ x,x<n+1+1+1+1→Zv.look Y x=Zv.look L4 x) ∧
    e=[(2,.d (eRs l)),(6,.ptr (n+1) 1 0 0),(12,.ptr (n+1+1) 1 0 0),(13,.ptr (n+1+1+1) 1 0 0),(14,v),(43,.d (eIs ts)),(44,.d (.int .i64 ts.length)),(45,.d (.int .i64 (i:Int)))]) _ ?_ ?_ ts.length 0 _ _ (by omega) ⟨L4,_,0,_,rfl,RA.nil ..,Nat.le_refl _,fun _ _=>rfl,rfl⟩
   ·rintro i e h' hi ⟨Y,q,m,v,rfl,R,hq,hfr,rfl⟩
    obtain ⟨t,ht⟩:=get_of_lt hi
    have hwr:IntKind.i64.wrap ((i:Int)+1)=((i+1:Nat):Int):=by rw[wrap_ok (by omega) (by omega)];rfl
    have hsn:=col0_snoc ht
    obtain ⟨v',Y',q',m',happ,R',hq',hfa⟩:=raX (b:=32) (nl:=some false) (x:=eO ⟨[(i:Int)],t⟩) R hq rfl (by rw[List.length_map,col0_len,List.length_take];unfold roomB;omega)
    have happ:app 2 32 ⟨Y,q⟩ v (.tl [.d (D.agg [.lst [.int .i64 (i:Int)],.int .i64 t])] (some false))=_:=happ
    simp only[e11,hi,iaI ht,mk_o2,happ,hwr,wz,opX,intBin,↓reduceIte,simprocAttr]
    exact⟨Y',q',m',v',rfl,by rw[hsn,List.map_append];exact R',by omega,fun x hx=>by rw[hfa x hx,hfr x hx],rfl⟩
   ·rintro e h' ⟨Y,q,m,v,rfl,R,hq,hfr,rfl⟩
    rw[List.take_length] at R
    simp only[e11,wz,opX,intBin,↓reduceIte,simprocAttr]
    refine loop_wp l.length (fun i e h'=>∃ Y2 q2 m2 v2,h'=⟨Y2,q2⟩∧RA Y2 q2 q 2 v2 ((row0 (l.take i)).map eW) m2∧q≤q2∧(∀ x,x<q→Zv.look Y2 x=Zv.look Y x) ∧
     e=[(6,.ptr (n+1) 1 0 0),(12,.ptr (n+1+1) 1 0 0),(13,.ptr (n+1+1+1) 1 0 0),(14,v),(17,v2),(58,.d (eRs l)),(59,.d (.int .i64 l.length)),(60,.d (.int .i64 (i:Int)))]) _ ?_ ?_ l.length 0 _ _ (by omega) ⟨Y,q,0,_,rfl,RA.nil ..,Nat.le_refl _,fun _ _=>rfl,rfl⟩
    ·rintro i e h' hi ⟨Y2,q2,m2,v2,rfl,R2,hq2,hfr2,rfl⟩
     obtain ⟨t,ht⟩:=get_of_lt hi
     have hwr:IntKind.i64.wrap ((i:Int)+1)=((i+1:Nat):Int):=by rw[wrap_ok (by omega) (by omega)];rfl
     have hsn:=row0_snoc ht
     obtain ⟨v',Y',q',m',happ,R',hq',hfa⟩:=raX (b:=32) (nl:=some false) (x:=eW ⟨(i:Int),t⟩) R2 hq2 rfl (by rw[List.length_map,row0_len,List.length_take];unfold roomB;omega)
     have happ:app 2 32 ⟨Y2,q2⟩ v2 (.tl [.d (D.agg [.int .i64 (i:Int),ePs t])] (some false))=_:=happ
     simp only[e11,hi,iaR ht,happ,hwr,wz,opX,intBin,↓reduceIte,simprocAttr]
     exact⟨Y',q',m',v',rfl,by rw[hsn,List.map_append];exact R',by omega,fun x hx=>by rw[hfa x hx,hfr2 x hx],rfl⟩
    ·rintro e h' ⟨Y2,q2,m2,v2,rfl,R2,hq2,hfr2,rfl⟩
     rw[List.take_length] at R2
     obtain ⟨Y3,z2,f3⟩:=rz R2
     have R1:RA Y3 q2 (n+1+1+1+1) 2 v ((col0 ts).map eO) m:=R.keep hq2 (Nat.le_refl _) fun x hx=>by rw[f3 x hx,hfr2 x hx]
     obtain ⟨Y4,z1,f4⟩:=rz R1
     have fr:∀ x,x<n+1+1+1+1→Zv.look Y4 x=Zv.look L4 x:=fun x hx=>by rw[f4 x hx,f3 x (by omega),hfr2 x (by omega),hfr x hx]
     have I:=bi0 F hc hw
     obtain ⟨r,hv,m',X',q',rfl,VV,hm',hq',_,hm0,F4⟩:=build_ok F.sml 80 [] (col0 ts) (row0 l) Y4 0 q2 (ov:=n+1+1) (dv:=n) (bv:=n+1+1+1) I (by simp) (.inr ⟨rfl,by rw[fr _ (by omega)];exact k2,by rw[fr _ (by omega)];exact k0,by rw[fr _ (by omega)];exact k3⟩) (by omega) (by omega) (by omega)
     have hm0:=hm0 rfl
     have r3:=fun nx=>row_of (q:=nx) (show Zv.look Y4 (n+1+1+1)=_ by rw[fr _ (by omega)];exact k3) (tot:=1) rfl
     have r4:=fun nx=>row_of (q:=nx) VV.iov (tot:=1) rfl
     have e1:Zv.look X' (n+1)=some (.arr 1 [.agg [.tl [] (some true)]]):=by rw[F4 _ (by omega) (by omega) (by omega),fr _ (by omega)];exact k1
     have r5:=fun nx=>row_of (q:=nx) e1 (tot:=1) rfl
     have hs6:st 1 ⟨X',q'⟩ (.ptr (n+1) 1 0 0) zC=some ⟨Zv.upd X' (n+1) (.arr 1 [zC]),q'⟩:=st_all (i:=0) (x:=zC) (r5 q') rfl rfl rfl
     have r6:=row_of (q:=q') (show Zv.look (Zv.upd X' (n+1) (.arr 1 [zC])) (n+1)=some (.arr 1 [zC]) by rw[Zs.look_upd,if_pos rfl,e1];rfl) (tot:=1) rfl
     have hl6:=ld_agg r6
     have hs7:st 1 ⟨X',q'⟩ (.ptr (n+1) 1 0 0) (.agg [.own m' 5 (buildS d 80 [] (col0 ts) (row0 l)).1.length 0 (buildS d 80 [] (col0 ts) (row0 l)).1.length])=some ⟨Zv.upd X' (n+1) (.arr 1 [.agg [.own m' 5 (buildS d 80 [] (col0 ts) (row0 l)).1.length 0 (buildS d 80 [] (col0 ts) (row0 l)).1.length]]),q'⟩:=st_all (i:=0) (r5 q') rfl rfl rfl
     have r7:=row_of (q:=q') (show Zv.look (Zv.upd X' (n+1) (.arr 1 [.agg [.own m' 5 (buildS d 80 [] (col0 ts) (row0 l)).1.length 0 (buildS d 80 [] (col0 ts) (row0 l)).1.length]])) (n+1)=_ by rw[Zs.look_upd,if_pos rfl,e1];rfl) (tot:=1) rfl
     have hl7:=ld_agg r7
     have hl8:=ld_own (r4 q')
     have hd:=deep_c (n:=n) (q:=q') (X:=Zv.upd X' (n+1) (.arr 1 [.agg [.own m' 5 (buildS d 80 [] (col0 ts) (row0 l)).1.length 0 (buildS d 80 [] (col0 ts) (row0 l)).1.length]])) (m:=m') (s:=(buildS d 80 [] (col0 ts) (row0 l)).1.map eT) (by omega) (by rw[Zs.look_upd,if_neg (by omega)];exact VV.irow)
     rw[List.length_map] at hd
     have hf7:=fun y=>finS_d2 (y:=y) hd
     by_cases h4:4096<(buildS d 80 [] (col0 ts) (row0 l)).1.length
     ·have hE:compE d ts l=6:=by unfold compE;rw[if_neg (by simp[hc]),hw,if_neg (by simp),if_pos h4]
      have hT:compT d ts l=[]:=by unfold compT;rw[hE];rfl
      rw[hE,hT]
      have h4':(4096:Int)<((buildS d 80 [] (col0 ts) (row0 l)).1.length:Int):=by omega
      simp only[e11,z1,z2,r3,hv,r4,h4',hs6,hl6,hfz,wz,opX,intBin,↓reduceIte,simprocAttr]
      rfl
     ·have hE:compE d ts l=0:=by unfold compE;rw[if_neg (by simp[hc]),hw,if_neg (by simp),if_neg h4]
      have hT:compT d ts l=(buildS d 80 [] (col0 ts) (row0 l)).1:=by unfold compT;rw[hE];rfl
      rw[hE,hT]
      have h4':¬ (4096:Int)<((buildS d 80 [] (col0 ts) (row0 l)).1.length:Int):=by omega
      simp only[e11,z1,z2,r3,hv,r4,h4',hl8,hs7,hl7,hf7,wz,opX,intBin,↓reduceIte,simprocAttr]
 ·have hE:compE d ts l=chk27 d ts l:=by unfold compE;rw[if_pos hc]
  have hT:compT d ts l=[]:=by unfold compT;rw[hE,if_neg hc]
  rw[hE,hT]
  simp only[e11,c2,rd,hck,ibne,hc,hlz,hfz,wz,opX,intBin,↓reduceIte,simprocAttr]
  rfl
end Zc28
end
section
set_option maxHeartbeats 4000000
namespace Zc28
open Go Zv Zs
end Zc28
end
section
set_option maxHeartbeats 4000000
namespace Zc28
open Go Zv Zs
theorem compT_z {d:List Dt} {ts:List Int} {l:List (List Pt)} (h:compE d ts l=0):chk27 d ts l=0∧wiS d 8001 ts l=none∧(buildS d 80 [] (col0 ts) (row0 l)).1.length≤4096∧compT d ts l=(buildS d 80 [] (col0 ts) (row0 l)).1:=by
 have h':=h
 unfold compE at h
 by_cases hc:chk27 d ts l=0
 ·rw[if_neg (by simp[hc])] at h
  cases hw:wiS d 8001 ts l with
  |some w=>rw[hw] at h;cases h
  |none=>
   rw[hw,if_neg (by simp)] at h
   by_cases h4:4096<(buildS d 80 [] (col0 ts) (row0 l)).1.length
   ·rw[if_pos h4] at h;cases h
   ·exact⟨hc,rfl,by omega,if_pos h'⟩
 ·rw[if_pos hc] at h;exact absurd h hc
theorem compT_ok {d:List Dt} {ts:List Int} {l:List (List Pt)} (F:Few8 d ts l):TsOk (compT d ts l)∧(compT d ts l).length≤4097:=by
 by_cases h:compE d ts l=0
 ·obtain ⟨hc,hw,h4,hT⟩:=compT_z h
  rw[hT]
  exact⟨build_ts F.sml 80 _ _ _ (bi0 F hc hw) (fun t h=>by cases h),by omega⟩
 ·have hT:compT d ts l=[]:=if_neg h
  rw[hT]
  exact⟨fun t h=>(by cases h),by simp⟩
end Zc28
end
