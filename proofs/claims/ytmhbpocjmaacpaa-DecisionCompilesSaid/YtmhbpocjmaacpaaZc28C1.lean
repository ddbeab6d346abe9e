/-
  Parts of the proof.
-/
import Derived.Test.YtmhbpocjmaacpaaZc28W5
set_option linter.unusedSimpArgs false
set_option linter.unusedVariables false
section
set_option maxHeartbeats 4000000
namespace Zc28
open Go Zv Zs
theorem deep_ds (h:Hp) (n0 k:Nat):∀ l:List D,(l.map V.d).mapM (deep h n0 (k+1))=some l
 | []=>rfl
 |x::l=>by rw[List.map_cons,List.mapM_cons,deep_ds h n0 k l];rfl
theorem deep_pV (h:Hp) (n0:Nat) (a b c:D) (l:List D) (nl:Option Bool):deep h n0 8 (.agg [.d a,.d b,.d c,.tl (l.map .d) nl])=some (.agg [a,b,c,.lst l]):=by
 have e:deep h n0 7 (.tl (l.map .d) nl)=some (.lst l):=by
  show ((l.map V.d).mapM (deep h n0 6)).map D.lst=_
  rw[deep_ds];rfl
 show ([V.d a,.d b,.d c,.tl (l.map .d) nl].mapM (deep h n0 7)).map D.agg=_
 rw[List.mapM_cons,List.mapM_cons,List.mapM_cons,List.mapM_cons,e]
 rfl
theorem fin_pV (h:Hp) (o:Nat × Ob) (m:Nat) (kk c i:Int) (l:List Pt) (nl:Option Bool):finS h ⟨o::h.objs,m⟩ [.agg [.d (.int .i64 kk),.d (.int .i64 c),.d (.int .i64 i),.tl ((l.map ePt).map .d) nl]]=some (.d (ePt (.mk kk c i l)),h):=by
 unfold finS
 rw[if_pos (suf_one _ _)]
 simp only[List.mapM_cons,List.mapM_nil,back1,deep_pV]
 rw[ePt_mk]
 rfl
theorem fin_pV0 (h:Hp) (o:Nat × Ob) (m:Nat) (kk c i:Int) (nl:Option Bool):finS h ⟨o::h.objs,m⟩ [.agg [.d (.int .i64 kk),.d (.int .i64 c),.d (.int .i64 i),.tl [] nl]]=some (.d (ePt (.mk kk c i [])),h):=fin_pV h o m kk c i [] nl
theorem ld_pat (n:Nat) (l:List V) (r:List (Nat × Ob)) (nx:Nat):ld true 4 ⟨(n,.arr 4 [.agg l])::r,nx⟩ (.ptr n 1 0 0)=some (.agg l):=by
 simp[ld,row_hd]
theorem rmiss_ok {d:List Dt} (S:Sml d) {t:Int} (hT:isT d t=true) {ts:List Int} {rows:List (List Pt)} (hM:fitM d (t::ts) rows) (hl:rows.length≤1000) (hhl:(headsS rows).length≤1000) (hc:t=0∨(consS rows).length<(consOf d t).length) (h:Hp) :
  callW tab 92 [.d (eDs d),.d (eI t),.d (ePs (headsS rows))] h=some (.d (ePt (missS d t rows)),h):=by
 refine call_wp (fn:=f92) rfl rfl ?_
 have hhas:=fun p h=>has_ok (headsS rows) p hhl h
 have hnil:=heads_nil hM
 by_cases h0:(headsS rows).length=0
 ·have e0:(((headsS rows).length:Int) == 0)=true:=by rw[ibeq];exact decide_eq_true (by omega)
  have hms:missS d t rows=.mk 0 0 0 []:=by
   unfold missS
   rw[if_neg (by omega),if_neg (by omega)];rfl
  rw[hms]
  (simp only[e92,e0,mk_pat',ld_pat,fin_pV0,wz,opX,intBin,↓reduceIte,simprocAttr]<;>repeat' (first | refine wpG_s ?_ ?_ | refine wpC_s ?_ ?_)<;>intro hgo<;>(try simp only[dq] at hgo)<;>simp only[hgo,e92,e0,mk_pat',ld_pat,fin_pV0,wz,opX,intBin,↓reduceIte,simprocAttr])
 ·have e0:(((headsS rows).length:Int) == 0)=false:=by rw[ibeq];exact decide_eq_false (by omega)
  by_cases ht:t=0
  ·subst ht
   have hA:=consS_len0 hM
   have hN:0<(numsS rows).length:=by omega
   have hms:missS d 0 rows=.mk 2 0 ((missN (numsS rows):Nat):Int) []:=by
    unfold missS
    rw[if_neg (by omega),if_pos hN]
   obtain ⟨m1,m2,m3⟩:=missN_spec (numsS rows)
   have hcl:=numsS_le rows
   have hloop:=fun (v:V)=>loop_from tab f92l0 (fun n=>[(2,.d (ePs (headsS rows))),(6,.ptr h.next 1 0 0),(7,.d (.int .i64 (n:Int)))]) (fun _=>⟨(h.next,.arr 4 [v])::h.objs,h.next+1⟩) (missN (numsS rows)) (.exit 0,[(2,.d (ePs (headsS rows))),(6,.ptr h.next 1 0 0),(7,.d (.int .i64 (missN (numsS rows):Nat))),(18,.d (.bool false))],⟨(h.next,.arr 4 [v])::h.objs,h.next+1⟩)
    (by
     intro n hn
     have:=m2 n hn
     have ha:=any_nums hM (n:Int) []
     rw[decide_eq_true this] at ha
     apply wq_ex.1
     (simp only[e92,mk_pat',norm_pV0,hhas,ha,wrap_succ (show n<2 ^ 62 by omega),wz,opX,intBin,↓reduceIte,simprocAttr]<;>repeat' (first | refine wpG_s ?_ ?_ | refine wpC_s ?_ ?_)<;>intro hgo<;>(try simp only[dq] at hgo)<;>simp only[hgo,e92,mk_pat',norm_pV0,hhas,ha,wrap_succ (show n<2 ^ 62 by omega),wz,opX,intBin,↓reduceIte,simprocAttr]))
    (by
     have ha:=any_nums hM ((missN (numsS rows):Nat):Int) []
     rw[decide_eq_false m1] at ha
     apply wq_ex.1
     (simp only[e92,mk_pat',norm_pV0,hhas,ha,wz,opX,intBin,↓reduceIte,simprocAttr]<;>repeat' (first | refine wpG_s ?_ ?_ | refine wpC_s ?_ ?_)<;>intro hgo<;>(try simp only[dq] at hgo)<;>simp only[hgo,e92,mk_pat',norm_pV0,hhas,ha,wz,opX,intBin,↓reduceIte,simprocAttr]))
    (by simp) (missN (numsS rows)) 0 (by omega)
   simp only[Int.cast_ofNat_Int] at hloop
   rw[hms]
   (simp only[e92,e0,ibeq,mk_pat',wq_of (hloop _),ld_pat,fin_pV0,wz,opX,intBin,↓reduceIte,simprocAttr]<;>repeat' (first | refine wpG_s ?_ ?_ | refine wpC_s ?_ ?_)<;>intro hgo<;>(try simp only[dq] at hgo)<;>simp only[hgo,e92,e0,ibeq,mk_pat',wq_of (hloop _),ld_pat,fin_pV0,wz,opX,intBin,↓reduceIte,simprocAttr])
  ·have hN:=numsS_len0 ht hM
   have hA:0<(consS rows).length:=by omega
   rcases tcase d t with h0 | h0 | ⟨n,y,rfl,hy⟩
   ·exfalso;simp only[isT,Bool.and_eq_true,decide_eq_true_eq] at hT;omega
   ·exfalso;simp only[isT,Bool.and_eq_true,decide_eq_true_eq] at hT;omega
   have hn:=(List.getElem?_eq_some_iff.1 hy).1
   have hsl:=S.len
   have hw:=wrap_sub1 (n:=n) (by omega)
   have hml:=miss_lt hM (hc.resolve_left ht)
   rw[consOf_at hy] at hml
   obtain ⟨z,hz⟩:=get_of_lt (l:=y.cons) hml
   have hz8:=(cons_sm S ((n:Int)+1)).2 z (by rw[consOf_at hy];exact List.mem_of_getElem? hz)
   have hmk:=mkslP (n:=z.flds.length) (by omega)
   have hms:missS d ((n:Int)+1) rows=.mk 1 ((missN (consS rows):Nat):Int) 0 (List.replicate z.flds.length wildT):=by
    unfold missS
    rw[if_pos hA,fldsOf_at hy hz]
   obtain ⟨m1,m2,m3⟩:=missN_spec (consS rows)
   have hcl:=consS_le' rows
   have hloop:=fun (v:V)=>loop_from tab f92l1 (fun i=>[(0,.d (eDs d)),(1,.d (.int .i64 ((n:Int)+1))),(2,.d (ePs (headsS rows))),(6,.ptr h.next 1 0 0),(8,.d (.int .i64 (i:Int)))]) (fun _=>⟨(h.next,.arr 4 [v])::h.objs,h.next+1⟩) (missN (consS rows)) (.exit 2,[(0,.d (eDs d)),(1,.d (.int .i64 ((n:Int)+1))),(2,.d (ePs (headsS rows))),(6,.ptr h.next 1 0 0),(8,.d (.int .i64 (missN (consS rows):Nat))),(26,.d (.bool false))],⟨(h.next,.arr 4 [v])::h.objs,h.next+1⟩)
    (by
     intro n hn
     have:=m2 n hn
     have ha:=any_cons hM (n:Int) []
     rw[decide_eq_true this] at ha
     apply wq_ex.1
     (simp only[e92,mk_pat',norm_pV0,hhas,ha,wrap_succ (show n<2 ^ 62 by omega),wz,opX,intBin,↓reduceIte,simprocAttr]<;>repeat' (first | refine wpG_s ?_ ?_ | refine wpC_s ?_ ?_)<;>intro hgo<;>(try simp only[dq] at hgo)<;>simp only[hgo,e92,mk_pat',norm_pV0,hhas,ha,wrap_succ (show n<2 ^ 62 by omega),wz,opX,intBin,↓reduceIte,simprocAttr]))
    (by
     have ha:=any_cons hM ((missN (consS rows):Nat):Int) []
     rw[decide_eq_false m1] at ha
     apply wq_ex.1
     (simp only[e92,mk_pat',norm_pV0,hhas,ha,wz,opX,intBin,↓reduceIte,simprocAttr]<;>repeat' (first | refine wpG_s ?_ ?_ | refine wpC_s ?_ ?_)<;>intro hgo<;>(try simp only[dq] at hgo)<;>simp only[hgo,e92,mk_pat',norm_pV0,hhas,ha,wz,opX,intBin,↓reduceIte,simprocAttr]))
    (by simp) (missN (consS rows)) 0 (by omega)
   simp only[Int.cast_ofNat_Int] at hloop
   rw[hms]
   (simp only[e92,e0,ibeq,ht,mk_pat',wq_of (hloop _),hw,iaD hy,iaC hz,hmk,ld_pat,fin_pV,wz,opX,intBin,↓reduceIte,simprocAttr]<;>repeat' (first | refine wpG_s ?_ ?_ | refine wpC_s ?_ ?_)<;>intro hgo<;>(try simp only[dq] at hgo)<;>simp only[hgo,e92,e0,ibeq,ht,mk_pat',wq_of (hloop _),hw,iaD hy,iaC hz,hmk,ld_pat,fin_pV,wz,opX,intBin,↓reduceIte,simprocAttr])
theorem loop_fs2 {β:Type} {a:AC} {K:Nat} {p:Nat→Option β} {f:Nat→Env} {O:List (Nat × Ob)} {e1:β→Env} {x1 x2:Ex} {e2:Env} {q0:Nat}
  (hs:∀ q n,n<K→p n=none→wp tab a (f n) ⟨O,q⟩ (fun o=>∃ q',o=(.norm,f (n+1),⟨O,q'⟩)∧q≤q'))
  (hx:∀ q n b,n<K→p n=some b→wp tab a (f n) ⟨O,q⟩ (fun o=>∃ q',o=(x1,e1 b,⟨O,q'⟩)∧q≤q'))
  (hN:∀ q,wp tab a (f K) ⟨O,q⟩ (fun o=>∃ q',o=(x2,e2,⟨O,q'⟩)∧q≤q')) (ho:x1≠.norm) (hoN:x2≠.norm) :
  ∃ q',q0≤q'∧ex tab (.loop a) (f 0) ⟨O,q0⟩=some (match (List.range K).findSome? p with
   |some b=>(x1,e1 b,⟨O,q'⟩)
   |none=>(x2,e2,⟨O,q'⟩)):=by
 obtain ⟨o,h1,q,hqq,h2⟩:wp tab (.loop a) (f 0) ⟨O,q0⟩ (fun o=>∃ q',q0≤q'∧o=match (List.range K).findSome? p with
   |some b=>(x1,e1 b,⟨O,q'⟩)
   |none=>(x2,e2,⟨O,q'⟩)):=by
  refine loop_wp K (fun n e h'=>(∃ q,q0≤q∧h'=⟨O,q⟩)∧e=f n∧∀ i,i<n→p i=none) _ ?_ ?_ K 0 _ _ (by omega) ⟨⟨q0,Nat.le_refl _,rfl⟩,rfl,fun i hi=>by omega⟩
  ·rintro n e h' hn ⟨⟨q,hqn,rfl⟩,rfl,hk⟩
   cases hp:p n with
   |some b=>
    obtain ⟨o,hq,q',rfl,hle⟩:=hx q n b hn hp
    rw[fs_at hn hk hp]
    exact⟨_,hq,.inr ⟨ho,q',Nat.le_trans hqn hle,rfl⟩⟩
   |none=>
    obtain ⟨o,hq,q',rfl,hle⟩:=hs q n hn hp
    refine ⟨_,hq,.inl ⟨rfl,⟨q',Nat.le_trans hqn hle,rfl⟩,rfl,fun i hi=>?_⟩⟩
    by_cases hij:i=n
    ·subst hij;exact hp
    ·exact hk i (by omega)
  ·rintro e h' ⟨⟨q,hqn,rfl⟩,rfl,hk⟩
   rw[fs_none hk]
   obtain ⟨o,hq,q',rfl,hle⟩:=hN q
   exact⟨_,hq,hoN,q',Nat.le_trans hqn hle,rfl⟩
 exact⟨q,hqq,by rw[h1,h2]⟩
theorem finS2n (h:Hp) (nl:Option Bool) (b:Bool) (n:Nat):finS h ⟨h.objs,n⟩ [.tl [] nl,.d (.bool b)]=some (.tup [.d (.lst []),.d (.bool b)],h):=by
 unfold finS
 rw[if_pos (suf_refl _)]
 rfl
theorem finS2n' (h:Hp) (nl:Option Bool) (b:Bool):finS h h [.tl [] nl,.d (.bool b)]=some (.tup [.d (.lst []),.d (.bool b)],h):=finS2n h nl b h.next
theorem rwitness_ok {d:List Dt} (S:Sml d) (T:typedS d=true):∀ (k:Nat) (ts:List Int) (rows:List (List Pt)),9*nwS rows+ts.length<k→9*nwS rows+ts.length≤8000→rows.length≤1000 →
  (∀ t,t ∈ ts→isT d t=true)→fitM d ts rows→∀ h,callW tab 47 [.d (eDs d),.d (eIs ts),.d (eRs rows)] h=some (wiV (wiS d k ts rows),h)
 |0,_,_,h,_,_,_,_,_=>by omega
 |k+1,[],rows,_,_,hl,_,_,h=>by
  refine call_wp (fn:=f47) rfl rfl ?_
  have e0:((rows.length:Int) == 0)=decide (rows.length=0):=by simp[ibeq]
  simp only[wiS]
  by_cases h0:rows.length=0
  ·(simp only[e47,ibeq,e0,h0,finS2n',wiV,wz,opX,intBin,↓reduceIte,simprocAttr]<;>repeat' (first | refine wpG_s ?_ ?_ | refine wpC_s ?_ ?_)<;>intro hgo<;>(try simp only[dq] at hgo)<;>simp only[hgo,e47,ibeq,e0,h0,finS2n',wiV,wz,opX,intBin,↓reduceIte,simprocAttr])
   rfl
  ·(simp only[e47,ibeq,e0,h0,finS2n',wiV,wz,opX,intBin,↓reduceIte,simprocAttr]<;>repeat' (first | refine wpG_s ?_ ?_ | refine wpC_s ?_ ?_)<;>intro hgo<;>(try simp only[dq] at hgo)<;>simp only[hgo,e47,ibeq,e0,h0,finS2n',wiV,wz,opX,intBin,↓reduceIte,simprocAttr])
 |k+1,t::ts,rows,hW,hB,hl,hT,hM,h=>by
  have hts:ts.length≤8000:=by rw[List.length_cons] at hB;omega
  have hrows:=fitM_rows S (by omega) hM
  have hTt:∀ f,f ∈ ts→isT d f=true:=fun f hf=>hT f (List.mem_cons_of_mem _ hf)
  have hTt0:=hT t List.mem_cons_self
  rw[List.length_cons] at hW hB
  refine call_wp (fn:=f47) rfl rfl ?_
  have hne:(((ts.length+1:Nat):Int) == 0)=false:=by rw[ibeq];exact decide_eq_false (by omega)
  have hh:=fun h=>rheads_ok rows hl (fun r hr=>(hrows r hr).1) h
  have hsl:=S.len
  have hall:=fun h=>rall_ok (d:=d) (by omega) hTt0 (headsS rows) h
  rw[not_all hM] at hall
  have hhl:(headsS rows).length≤1000:=by
   have:(headsS rows).length≤rows.length:=by
    have key:∀ (l:List (List Pt)) (H:List Pt),(l.foldl (accG hdG) H).length≤H.length+l.length:=by
     intro l
     induction l with
     |nil=>intro H;simp
     |cons r l ih=>
      intro H
      rw[List.foldl_cons]
      have h1:=ih (accG hdG H r)
      have h2:(accG hdG H r).length≤H.length+1:=by
       unfold accG
       split<;>simp
      rw[List.length_cons];omega
    simpa [headsS,accL] using key rows []
   omega
  by_cases hc:t=0∨(consS rows).length<(consOf d t).length
  ·have hrest:=fun h=>rrest_ok rows hl (fun r hr=>(hrows r hr).1) h
   have hnw:=restS_nw wildP rows
   have hlen:=fm_len (restF wildP) rows
   have hIH:=rwitness_ok S T k ts (restS wildP rows) (by omega) (by omega) (Nat.le_trans hlen hl) hTt (restS_fit _ hM)
   have e:wiS d (k+1) (t::ts) rows=(wiS d k ts (restS wildP rows)).map (missS d t rows :: ·):=by
    simp only[wiS,if_pos hc]
   rw[e]
   have hwl:=wiS_len d k ts (restS wildP rows)
   generalize wiS d k ts (restS wildP rows)=u at hIH hwl
   have hmiss:=fun h=>rmiss_ok S hTt0 hM hl hhl hc h
   rw[decide_eq_true hc] at hall
   cases u with
   |none=>(simp only[e47,hne,hh,hall,iaI0,iaI0',slcT,slcT',hrest,hIH,wiV,finS2n',Option.map_none,wz,opX,intBin,↓reduceIte,simprocAttr]<;>repeat' (first | refine wpG_s ?_ ?_ | refine wpC_s ?_ ?_)<;>intro hgo<;>(try simp only[dq] at hgo)<;>simp only[hgo,e47,hne,hh,hall,iaI0,iaI0',slcT,slcT',hrest,hIH,wiV,finS2n',Option.map_none,wz,opX,intBin,↓reduceIte,simprocAttr])
   |some w=>
    have hwl':=hwl w rfl
    have happ:=fun h=>app_one (missS d t rows) w (some false) h (by omega)
    (simp only[e47,hne,hh,hall,iaI0,iaI0',slcT,slcT',hrest,hIH,wiV,hmiss,ePt_cells,happ,Option.map_some,finS2',wz,opX,intBin,↓reduceIte,simprocAttr]<;>repeat' (first | refine wpG_s ?_ ?_ | refine wpC_s ?_ ?_)<;>intro hgo<;>(try simp only[dq] at hgo)<;>simp only[hgo,e47,hne,hh,hall,iaI0,iaI0',slcT,slcT',hrest,hIH,wiV,hmiss,ePt_cells,happ,Option.map_some,finS2',wz,opX,intBin,↓reduceIte,simprocAttr])
    rfl
  ·have ht:t≠0:=fun e=>hc (.inl e)
   have hlt:¬ (consS rows).length<(consOf d t).length:=fun e=>hc (.inr e)
   rw[decide_eq_false hc] at hall
   rcases tcase d t with h0 | h0 | ⟨n,y,rfl,hy⟩
   ·exfalso;simp only[isT,Bool.and_eq_true,decide_eq_true_eq] at hTt0;omega
   ·exfalso;simp only[isT,Bool.and_eq_true,decide_eq_true_eq] at hTt0;omega
   have hn:=(List.getElem?_eq_some_iff.1 hy).1
   have hw:=wrap_sub1 (n:=n) (by omega)
   have hcs:=cons_sm S ((n:Int)+1)
   have hle:=consS_le hM
   rw[consOf_at hy] at hcs hlt hle
   have hdown:=fun i (hi:i<y.cons.length) (n':Nat)=>spS_down hM (by rw[consOf_at hy];omega) (i:=i) (by rw[consOf_at hy];exact hi) n'
   have hu:∀ (i:Nat) (z:Cn),y.cons[i]? = some z→(∀ h,callW tab 47 [.d (eDs d),.d (eIs (z.flds++ts)),.d (eRs (rspS (.mk 1 (i:Int) 0 []) z.flds.length rows))] h=some (wiV (wiS d k (fldsOf d ((n:Int)+1) i++ts) (spS (i:Int) (fldsOf d ((n:Int)+1) i).length rows)),h))∧∀ w,wiS d k (fldsOf d ((n:Int)+1) i++ts) (spS (i:Int) (fldsOf d ((n:Int)+1) i).length rows)=some w→w.length=z.flds.length+ts.length:=by
    intro i z hz
    have hi:=(List.getElem?_eq_some_iff.1 hz).1
    have hfz:=fldsOf_at hy hz
    have hzm:=List.mem_of_getElem? hz
    have hz8:=hcs.2 z hzm
    have hd:=hdown i hi z.flds.length
    have hM':=spS_fit i hM
    rw[rsp_made hM]
    rw[hfz] at hM' ⊢
    refine ⟨rwitness_ok S T k (z.flds++ts) (spS (i:Int) z.flds.length rows) (by rw[List.length_append];omega) (by rw[List.length_append];omega) (Nat.le_trans (fm_len _ _) hl) (flds_isT T (by rw[consOf_at hy];exact hzm) hTt) hM',fun w hw=>?_⟩
    rw[wiS_len d k _ _ w hw,List.length_append]
   have e:wiS d (k+1) (((n:Int)+1)::ts) rows=(List.range y.cons.length).findSome? (fun i=>(wiS d k (fldsOf d ((n:Int)+1) i++ts) (spS (i:Int) (fldsOf d ((n:Int)+1) i).length rows)).map (wfS i (fldsOf d ((n:Int)+1) i).length)):=by
    simp only[wiS]
    rw[if_neg hc,consOf_at hy]
   rw[e]
   obtain ⟨q',hq,hloop⟩:=loop_fs2 (a:=f47l0) (K:=y.cons.length) (p:=fun i=>(wiS d k (fldsOf d ((n:Int)+1) i++ts) (spS (i:Int) (fldsOf d ((n:Int)+1) i).length rows)).map (wfS i (fldsOf d ((n:Int)+1) i).length)) (f:=fun i=>[(0,.d (eDs d)),(1,.d (eIs (((n:Int)+1)::ts))),(2,.d (eRs rows)),(8,.d (.int .i64 ((n:Int)+1))),(10,.d (.int .i64 (i:Int)))]) (O:=h.objs) (e1:=fun w=>[(6,.d (ePs w)),(7,.d (.bool true))]) (x1:=.ret) (x2:=.exit 0) (e2:=[(0,.d (eDs d)),(1,.d (eIs (((n:Int)+1)::ts))),(2,.d (eRs rows)),(8,.d (.int .i64 ((n:Int)+1))),(10,.d (.int .i64 (y.cons.length:Int))),(40,.d (.bool false))]) (q0:=h.next)
    (by
     intro q i hi hp
     obtain ⟨z,hz⟩:=get_of_lt (l:=y.cons) (n:=i) hi
     have hz8:=hcs.2 z (List.mem_of_getElem? hz)
     have hun:∀ h,callW tab 89 [.d (eDs d),.d (eIs (((n:Int)+1)::ts)),.d (eI (i:Int))] h=some (.d (eIs (z.flds++ts)),h):=fun h=>runder_ok hy hz (by omega) ts hz8 (by omega) h
     have hsp:=fun h=>rspecial_ok (.mk 1 (i:Int) 0 []) z.flds.length (by omega) rows hl hrows h
     have hui:=(hu i z hz).1
     simp only[Option.map_eq_none_iff] at hp
     rw[hp] at hui
     (simp only[hi,e47,hw,iaD hy,iaC hz,hun,mk_pat',norm_pV0,hsp,hui,wiV,wrap_succ (show i<2 ^ 62 by omega),wz,opX,intBin,↓reduceIte,simprocAttr]<;>repeat' (first | refine wpG_s ?_ ?_ | refine wpC_s ?_ ?_)<;>intro hgo<;>(try simp only[dq] at hgo)<;>simp only[hgo,hi,e47,hw,iaD hy,iaC hz,hun,mk_pat',norm_pV0,hsp,hui,wiV,wrap_succ (show i<2 ^ 62 by omega),wz,opX,intBin,↓reduceIte,simprocAttr])
     exact⟨_,rfl,by omega⟩)
    (by
     intro q i w hi hp
     obtain ⟨z,hz⟩:=get_of_lt (l:=y.cons) (n:=i) hi
     have hz8:=hcs.2 z (List.mem_of_getElem? hz)
     have hun:∀ h,callW tab 89 [.d (eDs d),.d (eIs (((n:Int)+1)::ts)),.d (eI (i:Int))] h=some (.d (eIs (z.flds++ts)),h):=fun h=>runder_ok hy hz (by omega) ts hz8 (by omega) h
     have hsp:=fun h=>rspecial_ok (.mk 1 (i:Int) 0 []) z.flds.length (by omega) rows hl hrows h
     obtain ⟨hui,hul⟩:=hu i z hz
     have hfz:=fldsOf_at hy hz
     simp only[Option.map_eq_some_iff] at hp
     obtain ⟨w',hp,rfl⟩:=hp
     rw[hp] at hui
     have hwl:=hul w' hp
     rw[hfz]
     have hE:D.agg [.int .i64 1,.int .i64 (i:Int),.int .i64 0,.lst ((w'.take z.flds.length).map ePt)]=ePt (.mk 1 (i:Int) 0 (w'.take z.flds.length)):=(ePt_mk ..).symm
     have hsl:=slcPt (w:=w') (n:=z.flds.length) (by omega)
     have hsd:=slcPd (w:=w') (n:=z.flds.length) (by omega)
     have ht0:=fun (h:Hp)=>tl_app (nl:=some false) (es:=4) (b:=48) (h:=h) (r:=(w'.take z.flds.length).map ePt) ptcells (by simp only[List.length_map,List.length_take,roomB];omega)
     have happ:=fun h=>app_one (.mk 1 (i:Int) 0 (w'.take z.flds.length)) (w'.drop z.flds.length) (some false) h (by rw[List.length_drop];omega)
     (simp only[hi,e47,hw,iaD hy,iaC hz,hun,mk_pat',norm_pV0,hsp,hui,wiV,hsl,hsd,ht0,clo_frz,hE,ePt_cells,happ,wz,opX,intBin,↓reduceIte,simprocAttr]<;>repeat' (first | refine wpG_s ?_ ?_ | refine wpC_s ?_ ?_)<;>intro hgo<;>(try simp only[dq] at hgo)<;>simp only[hgo,hi,e47,hw,iaD hy,iaC hz,hun,mk_pat',norm_pV0,hsp,hui,wiV,hsl,hsd,ht0,clo_frz,hE,ePt_cells,happ,wz,opX,intBin,↓reduceIte,simprocAttr])
     refine ⟨_,⟨rfl,rfl⟩,?_⟩
     split<;>split<;>omega)
    (by
     intro q
     (simp only[e47,hw,iaD hy,wz,opX,intBin,↓reduceIte,simprocAttr]<;>repeat' (first | refine wpG_s ?_ ?_ | refine wpC_s ?_ ?_)<;>intro hgo<;>(try simp only[dq] at hgo)<;>simp only[hgo,e47,hw,iaD hy,wz,opX,intBin,↓reduceIte,simprocAttr])
     exact⟨_,rfl,by omega⟩)
    (by simp) (by simp)
   simp only[Int.cast_ofNat_Int] at hloop
   cases hany:(List.range y.cons.length).findSome? (fun i=>(wiS d k (fldsOf d ((n:Int)+1) i++ts) (spS (i:Int) (fldsOf d ((n:Int)+1) i).length rows)).map (wfS i (fldsOf d ((n:Int)+1) i).length)) with
   |none=>
    rw[hany] at hloop
    (simp only[e47,hne,hh,hall,iaI0,iaI0',wq_of hloop,finS2n,wiV,wz,opX,intBin,↓reduceIte,simprocAttr]<;>repeat' (first | refine wpG_s ?_ ?_ | refine wpC_s ?_ ?_)<;>intro hgo<;>(try simp only[dq] at hgo)<;>simp only[hgo,e47,hne,hh,hall,iaI0,iaI0',wq_of hloop,finS2n,wiV,wz,opX,intBin,↓reduceIte,simprocAttr])
   |some w=>
    rw[hany] at hloop
    (simp only[e47,hne,hh,hall,iaI0,iaI0',wq_of hloop,finS2',wiV,wz,opX,intBin,↓reduceIte,simprocAttr]<;>repeat' (first | refine wpG_s ?_ ?_ | refine wpC_s ?_ ?_)<;>intro hgo<;>(try simp only[dq] at hgo)<;>simp only[hgo,e47,hne,hh,hall,iaI0,iaI0',wq_of hloop,finS2',wiV,wz,opX,intBin,↓reduceIte,simprocAttr])
end Zc28
end
section
set_option maxHeartbeats 4000000
namespace Zc28
open Go Zv Zs
mutual
def vcnt:Vl→Nat
 | .mk _ _ qs=>vcntL qs+1
def vcntL:List Vl→Nat
 | []=>0
 |p::r=>vcnt p+vcntL r
end
mutual
def mtP:Pt→Vl→Bool
 | .mk k c m qs,.mk num con vs=>if k=0 then true else if k=2 then decide (num=m) else if k=1 then decide (con=c) && mtL qs vs else false
def mtL:List Pt→List Vl→Bool
 | [],[]=>true
 |p::ps,v::vs=>mtP p v && mtL ps vs
 |_,_=>false
end
end Zc28
end
section
set_option maxHeartbeats 4000000
namespace Zc28
open Go Zv Zs
theorem wi_us (d:List Dt):∀ (k:Nat) (ts:List Int) (l:List (List Pt)),(wiS d k ts l).isSome=usS d k ts l (List.replicate ts.length wildT)
 |0,_,_=>rfl
 |k+1,[],l=>by
  simp only[wiS,usS]
  by_cases h:l.length=0<;>simp[h]
 |k+1,t::ts,l=>by
  rw[List.length_cons,List.replicate_succ]
  show _=usS d (k+1) (t::ts) l (.mk 0 0 0 []::List.replicate ts.length wildT)
  rw[wiS,usS,if_neg (show ¬ ((0:Int)=1) by decide),if_neg (show ¬ ((0:Int)=2) by decide)]
  by_cases hc:t=0∨(consS l).length<(consOf d t).length
  ·rw[if_pos hc,if_pos hc,Option.isSome_map]
   exact wi_us d k ts _
  ·rw[if_neg hc,if_neg hc,Bool.eq_iff_iff,List.findSome?_isSome_iff,List.any_eq_true]
   have key:∀ i,((wiS d k (fldsOf d t i++ts) (spS (i:Int) (fldsOf d t i).length l)).map (wfS i (fldsOf d t i).length)).isSome=usS d k (fldsOf d t i++ts) (spS (i:Int) (fldsOf d t i).length l) (List.replicate (fldsOf d t i).length wildT++List.replicate ts.length wildT):=by
    intro i
    rw[Option.isSome_map,wi_us d k,List.length_append,←List.replicate_append_replicate]
   constructor
   ·rintro ⟨x,hx,h⟩
    exact⟨x,hx,by rw[←key];exact h⟩
   ·rintro ⟨x,hx,h⟩
    exact⟨x,hx,by rw[key];exact h⟩
theorem us_mono (d:List Dt):∀ (k:Nat) (ts:List Int) (l:List (List Pt)) (r:List Pt),usS d k ts l r=true→usS d (k+1) ts l r=true
 |0,_,_,_,h=>by cases h
 |k+1,[],l,r,h=>h
 |k+1,t::ts,l,[],h=>by cases h
 |k+1,t::ts,l,.mk kd c m qs::r,h=>by
  rw[usS] at h ⊢
  split at h
  ·rename_i h1;rw[if_pos h1];exact us_mono d k _ _ _ h
  ·rename_i h1
   rw[if_neg h1]
   split at h
   ·rename_i h2;rw[if_pos h2];exact us_mono d k _ _ _ h
   ·rename_i h2
    rw[if_neg h2]
    split at h
    ·rename_i h3;rw[if_pos h3];exact us_mono d k _ _ _ h
    ·rename_i h3
     rw[if_neg h3]
     rw[List.any_eq_true] at h ⊢
     obtain ⟨i,hi,hx⟩:=h
     exact⟨i,hi,us_mono d k _ _ _ hx⟩
theorem us_le {d:List Dt} {ts:List Int} {l:List (List Pt)} {r:List Pt} {k:Nat}:∀ (j:Nat),usS d k ts l r=true→usS d (k+j) ts l r=true
 |0,h=>h
 |j+1,h=>us_mono d _ _ _ _ (us_le j h)
theorem us_fuel {d:List Dt} (S:Sml d) (T:typedS d=true) {k k':Nat} {ts:List Int} {l:List (List Pt)} {r:List Pt} (h1:9*(nwS l+nwL r)+ts.length<k) (h2:9*(nwS l+nwL r)+ts.length<k') (hB:9*(nwS l+nwL r)+ts.length≤8000) (hl:l.length≤1000)
  (hT:∀ t,t ∈ ts→isT d t=true) (hM:fitM d ts l) (hR:fitR d ts r=true):usS d k ts l r=usS d k' ts l r:=by
 have a:=useful_ok S T k ts l r h1 hB hl hT hM hR ⟨[],0⟩
 have b:=useful_ok S T k' ts l r h2 hB hl hT hM hR ⟨[],0⟩
 rw[a] at b
 simpa using b
end Zc28
end
section
set_option maxHeartbeats 4000000
namespace Zc28
open Go Zv Zs
mutual
def tyV (d:List Dt):Int→Vl→Prop
 |t,.mk _ c qs=>if t=0 then True else ∃ (i:Nat) (z:Cn),c=(i:Int)∧(consOf d t)[i]? = some z∧tyL d z.flds qs
def tyL (d:List Dt):List Int→List Vl→Prop
 | [],[]=>True
 |f::fs,q::qs=>tyV d f q∧tyL d fs qs
 |_,_=>False
end
theorem tyL_len {d:List Dt}:∀ {fs:List Int} {vs:List Vl},tyL d fs vs→vs.length=fs.length
 | [],[],_=>rfl
 |f::fs,v::vs,h=>by
  rw[tyL] at h
  rw[List.length_cons,List.length_cons,tyL_len h.2]
 | [],_::_,h=>by simp[tyL] at h
 |_::_,[],h=>by simp[tyL] at h
theorem tyL_app {d:List Dt}:∀ {fs ts:List Int} {av vs:List Vl},tyL d fs av→tyL d ts vs→tyL d (fs++ts) (av++vs)
 | [],ts,[],vs,_,h=>h
 |f::fs,ts,a::av,vs,h,h'=>by
  rw[tyL] at h
  rw[List.cons_append,List.cons_append,tyL]
  exact⟨h.1,tyL_app h.2 h'⟩
 | [],_,_::_,_,h,_=>by simp[tyL] at h
 |_::_,_,[],_,h,_=>by simp[tyL] at h
theorem mtL_app:∀ {av bs:List Pt} {xs ys:List Vl},av.length=xs.length→mtL (av++bs) (xs++ys)=(mtL av xs && mtL bs ys)
 | [],bs,[],ys,_=>by simp[mtL]
 |a::av,bs,x::xs,ys,h=>by
  rw[List.cons_append,List.cons_append,mtL,mtL,mtL_app (by simpa using h),Bool.and_assoc]
 | [],_,_::_,_,h=>by simp at h
 |_::_,_,[],_,h=>by simp at h
theorem mtL_len:∀ {av:List Pt} {xs:List Vl},mtL av xs=true→av.length=xs.length
 | [],[],_=>rfl
 |a::av,x::xs,h=>by
  rw[mtL,Bool.and_eq_true] at h
  rw[List.length_cons,List.length_cons,mtL_len h.2]
 | [],_::_,h=>by simp[mtL] at h
 |_::_,[],h=>by simp[mtL] at h
theorem mt_wild (v:Vl):mtP wildT v=true:=by obtain ⟨m,c,qs⟩:=v;unfold wildT;rw[mtP,if_pos rfl]
theorem mtL_wild:∀ vs:List Vl,mtL (List.replicate vs.length wildT) vs=true
 | []=>by rw[List.length_nil,List.replicate_zero,mtL]
 |v::vs=>by rw[List.length_cons,List.replicate_succ,mtL,mt_wild,mtL_wild vs];rfl
theorem vcntL_app:∀ (a b:List Vl),vcntL (a++b)=vcntL a+vcntL b
 | [],b=>by simp[vcntL]
 |p::a,b=>by rw[List.cons_append,vcntL,vcntL,vcntL_app a b];omega
theorem sp_back {i:Nat} {n:Nat} {l:List (List Pt)} {x':List Pt} (hx:x' ∈ spS (i:Int) n l) {m:Int} {av vs:List Vl} (hn:n=av.length) (hm:mtL x' (av++vs)=true) (hq:∀ k c m qs s,(Pt.mk k c m qs::s) ∈ l→k=1→c=(i:Int)→qs.length=n) :
  ∃ x,x ∈ l∧mtL x (.mk m (i:Int) av::vs)=true:=by
 obtain ⟨x,hxl,hs⟩:=List.mem_filterMap.1 hx
 refine ⟨x,hxl,?_⟩
 cases x with
 |nil=>cases hs
 |cons p s=>
  obtain ⟨k,c,m',qs⟩:=p
  simp only[spF] at hs
  split at hs
  ·rename_i k0
   cases hs
   rw[mtL_app (by simp[hn])] at hm
   rw[Bool.and_eq_true] at hm
   rw[mtL,mtP,if_pos k0,hm.2];rfl
  ·rename_i k0
   split at hs
   ·rename_i hk
    cases hs
    rw[mtL_app (by rw[hq _ _ _ _ _ hxl hk.1 hk.2,hn]),Bool.and_eq_true] at hm
    rw[mtL,mtP,if_neg k0,if_neg (by omega),if_pos hk.1,decide_eq_true hk.2.symm,hm.1,hm.2];rfl
   ·cases hs
theorem sp_len {d:List Dt} {t:Int} {ts:List Int} {l:List (List Pt)} (h:fitM d (t::ts) l) {i:Nat} {z:Cn} (hz:(consOf d t)[i]? = some z):∀ k c m qs s,(Pt.mk k c m qs::s) ∈ l→k=1→c=(i:Int)→qs.length=z.flds.length:=by
 intro k c m qs s hm k1 hc
 have:=h _ hm
 simp only[fitR,Bool.and_eq_true] at this
 rcases fits_cases this.1 with h1 | h1 | ⟨_,_,_,j,y,e,hy,hl,_⟩
 ·omega
 ·omega
 ·have:j=i:=by omega
  subst this
  rw[hz] at hy;cases hy
  exact hl.symm
theorem cover {d:List Dt}:∀ (n:Nat) (ts:List Int) (l:List (List Pt)) (r:List Pt) (vs:List Vl),vcntL vs≤n→tyL d ts vs→fitM d ts l→fitR d ts r=true→(∀ K,usS d K ts l r=false)→mtL r vs=true→∃ x,x ∈ l∧mtL x vs=true:=by
 intro n
 induction n with
 |zero=>
  intro ts l r vs hn hT hM hR hU hm
  cases vs with
  |cons v vs=>obtain ⟨m,c,qs⟩:=v;rw[vcntL,vcnt] at hn;omega
  |nil=>
   have hl:=tyL_len hT
   cases ts with
   |cons t ts=>simp at hl
   |nil=>
    have h1:=hU 1
    rw[usS,decide_eq_false_iff_not] at h1
    cases l with
    |nil=>exact absurd rfl h1
    |cons x l=>
     have hf:=hM x List.mem_cons_self
     have:x=[]:=List.eq_nil_of_length_eq_zero (fitR_len hf)
     subst this
     exact⟨[],List.mem_cons_self,by rw[mtL]⟩
 |succ n ih=>
  intro ts l r vs hn hT hM hR hU hm
  cases vs with
  |nil=>
   exact ih ts l r [] (by simp[vcntL]) hT hM hR hU hm
  |cons v vs=>
   have hl:=tyL_len hT
   cases ts with
   |nil=>simp at hl
   |cons t ts=>
    cases r with
    |nil=>cases hR
    |cons p r=>
     obtain ⟨num,con,av⟩:=v
     obtain ⟨k,c,m,qs⟩:=p
     rw[vcntL,vcnt] at hn
     rw[tyL,tyV] at hT
     obtain ⟨hv,hvs⟩:=hT
     simp only[fitR,Bool.and_eq_true] at hR
     rw[mtL,mtP,Bool.and_eq_true] at hm
     have hU':∀ K,usS d (K+1) (t::ts) l (.mk k c m qs::r)=false:=fun K=>hU (K+1)
     rcases fits_cases hR.1 with ⟨k0,c0,m0,q0⟩ | ⟨k2,t0,c0,q0⟩ | ⟨k1,t0,m0,i,z,rfl,hz,hzl,hzR⟩
     ·subst k0
      by_cases hc:t=0∨(consS l).length<(consOf d t).length
      ·obtain ⟨x,hx,hxm⟩:=ih ts (restS wildP l) r vs (by omega) hvs (restS_fit wildP hM) hR.2 (fun K=>by
        have:=hU' K
        rw[usS,if_neg (by decide),if_neg (by decide),if_pos hc] at this
        exact this) hm.2
       obtain ⟨y,hy,hs⟩:=List.mem_filterMap.1 hx
       refine ⟨y,hy,?_⟩
       cases y with
       |nil=>cases hs
       |cons q s=>
        simp only[restF] at hs
        split at hs
        ·rename_i hk
         cases hs
         obtain ⟨k',c',m',qs'⟩:=q
         have hk:k'=0:=of_decide_eq_true hk
         rw[mtL,mtP,if_pos hk,hxm];rfl
        ·cases hs
      ·have ht:t≠0:=fun e=>hc (.inl e)
       rw[if_neg ht] at hv
       obtain ⟨i,z,rfl,hz,hty⟩:=hv
       have hfz:fldsOf d t i=z.flds:=by unfold fldsOf;rw[hz]
       have hal:=tyL_len hty
       have hM':=spS_fit i hM
       rw[hfz] at hM'
       obtain ⟨x,hx,hxm⟩:=ih (z.flds++ts) (spS (i:Int) z.flds.length l) (List.replicate z.flds.length wildT++r) (av++vs) (by rw[vcntL_app];omega) (tyL_app hty hvs) hM' (fitR_app (fitR_wild d _) hR.2) (fun K=>by
        have:=hU' K
        rw[usS,if_neg (by decide),if_neg (by decide),if_neg hc,←Bool.not_eq_true,List.any_eq_true] at this
        cases hu:usS d K (z.flds++ts) (spS (i:Int) z.flds.length l) (List.replicate z.flds.length wildT++r) with
        |false=>rfl
        |true=>
         exact absurd ⟨i,List.mem_range.2 (List.getElem?_eq_some_iff.1 hz).1,by rw[hfz];exact hu⟩ this) (by
        rw[mtL_app (by simp[hal]),←hal,mtL_wild,hm.2];rfl)
       exact sp_back hx hal.symm hxm (sp_len hM hz)
     ·subst k2
      subst t0
      rw[if_neg (by decide),if_pos rfl,decide_eq_true_eq] at hm
      obtain ⟨x,hx,hxm⟩:=ih ts (restS (fun q=>wildP q || decide (nmP q=m)) l) r vs (by omega) hvs (restS_fit _ hM) hR.2 (fun K=>by
       have:=hU' K
       rw[usS,if_neg (by decide),if_pos rfl] at this
       exact this) hm.2
      obtain ⟨y,hy,hs⟩:=List.mem_filterMap.1 hx
      refine ⟨y,hy,?_⟩
      cases y with
      |nil=>cases hs
      |cons q s=>
       have hf:=hM _ hy
       simp only[fitR,Bool.and_eq_true] at hf
       simp only[restF] at hs
       split at hs
       ·rename_i hk
        cases hs
        obtain ⟨k',c',m',qs'⟩:=q
        have hk:k'=0∨m'=m:=((Bool.or_eq_true _ _).mp hk).imp of_decide_eq_true of_decide_eq_true
        rcases fits_cases hf.1 with ⟨h0,_⟩ | ⟨h2,_⟩ | ⟨_,h1,_⟩
        ·rw[mtL,mtP,if_pos h0,hxm];rfl
        ·subst h2
         have:m'=m:=by omega
         rw[mtL,mtP,if_neg (by decide),if_pos rfl,this,decide_eq_true hm.1,hxm];rfl
        ·exact absurd rfl h1
       ·cases hs
     ·subst k1
      rw[if_neg (by decide),if_neg (by decide),if_pos rfl,Bool.and_eq_true,decide_eq_true_eq] at hm
      obtain ⟨⟨hcon,hqa⟩,hrest⟩:=hm
      subst hcon
      rw[if_neg t0] at hv
      obtain ⟨j,z',e,hz',hty⟩:=hv
      have:j=i:=by omega
      subst this
      rw[hz] at hz';cases hz'
      have hfz:fldsOf d t j=z.flds:=by unfold fldsOf;rw[hz]
      have hal:=tyL_len hty
      have hM':=spS_fit j hM
      rw[hfz] at hM'
      obtain ⟨x,hx,hxm⟩:=ih (z.flds++ts) (spS (j:Int) z.flds.length l) (qs++r) (av++vs) (by rw[vcntL_app];omega) (tyL_app hty hvs) hM' (fitR_app hzR hR.2) (fun K=>by
       have:=hU' K
       rw[usS,if_pos rfl,Int.toNat_natCast,hfz,←hzl] at this
       exact this) (by rw[mtL_app (mtL_len hqa),hqa,hrest];rfl)
      exact sp_back hx hal.symm hxm (sp_len hM hz)
end Zc28
end
section
set_option maxHeartbeats 4000000
namespace Zc28
open Go Zv Zs
theorem check_fin {d:List Dt} (h:checkS d=0):finiteS d=true:=by
 have hT:=check_typed h
 unfold checkS at h
 by_cases h1:manyS d=true
 ·rw[if_pos h1] at h;exact absurd h (by decide)
 rw[if_neg h1] at h
 by_cases h2:formedS d=false
 ·rw[if_pos h2] at h;exact absurd h (by decide)
 rw[if_neg h2] at h
 by_cases h3:twiceS d=true
 ·rw[if_pos h3] at h;exact absurd h (by decide)
 rw[if_neg h3,if_neg (by rw[hT];simp)] at h
 by_cases h4:finiteS d=false
 ·rw[if_pos h4] at h;exact absurd h (by decide)
 simpa using h4
def Inh (d:List Dt) (M:List Bool):Prop:=∀ j:Nat,M[j]? = some true→∃ v,tyV d (j:Int) v
theorem inh_args {d:List Dt} {M:List Bool} (I:Inh d M):∀ (fs:List Int),(∀ f,f ∈ fs→0≤f)→fs.all (mk M)=true→∃ vs,tyL d fs vs
 | [],_,_=>⟨[],by rw[tyL];trivial⟩
 |f::fs,h0,h=>by
  simp only[List.all_cons,Bool.and_eq_true] at h
  obtain ⟨vs,hvs⟩:=inh_args I fs (fun g hg=>h0 g (.tail _ hg)) h.2
  have h1:=h.1
  unfold mk at h1
  rw[List.getD_eq_getElem?_getD] at h1
  have h2:M[f.toNat]? = some true:=by
   cases hm:M[f.toNat]? with
   |none=>rw[hm] at h1;cases h1
   |some b=>rw[hm] at h1;have:b=true:=h1;rw[this]
  obtain ⟨v,hv⟩:=I _ h2
  have:((f.toNat:Nat):Int)=f:=by have:=h0 f (.head _);omega
  rw[this] at hv
  exact⟨v::vs,by rw[tyL];exact⟨hv,hvs⟩⟩
theorem inh_stp {d:List Dt} (T:∀ y,y ∈ d→∀ c,c ∈ y.cons→∀ f,f ∈ c.flds→isT d f=true) {M:List Bool} (I:Inh d M) (i:Nat):Inh d (stp d M i):=by
 unfold stp
 cases hy:d[i]? with
 |none=>exact I
 |some y=>
  simp only
  split
  ·rename_i h
   obtain ⟨c,hc,ha⟩:=List.any_eq_true.1 h
   obtain ⟨vs,hvs⟩:=inh_args I c.flds (fun f hf=>by
    have:=T y (List.mem_of_getElem? hy) c hc f hf
    unfold isT at this
    simp only[Bool.and_eq_true,decide_eq_true_eq] at this
    exact this.1) ha
   obtain ⟨ci,hci⟩:=List.mem_iff_getElem?.1 hc
   intro j hj
   rw[List.getElem?_set] at hj
   split at hj
   ·rename_i e
    subst e
    refine ⟨.mk 0 (ci:Int) vs,?_⟩
    rw[tyV,if_neg (by omega)]
    exact⟨ci,c,rfl,by rw[show (((i+1:Nat):Int))=(i:Int)+1 by omega,consOf_at hy];exact hci,hvs⟩
   ·exact I j hj
  ·exact I
theorem inh_iter {d:List Dt} (T:∀ y,y ∈ d→∀ c,c ∈ y.cons→∀ f,f ∈ c.flds→isT d f=true):∀ n,Inh d (iter d (marks d) n)
 |0=>by
  intro j hj
  cases j with
  |zero=>exact⟨.mk 0 0 [],by rw[tyV];simp⟩
  |succ j=>
   have hj:(List.replicate d.length false)[j]? = some true:=hj
   rw[List.getElem?_replicate] at hj
   split at hj<;>cases hj
 |n+1=>by
  have ih:=inh_iter T n
  show Inh d (passN d _ d.length)
  generalize d.length=m
  induction m with
  |zero=>exact ih
  |succ m im=>exact inh_stp T im m
theorem inhab {d:List Dt} (h:checkS d=0) {t:Int} (ht:isT d t=true):∃ v,tyV d t v:=by
 have hf:=check_fin h
 have I:=inh_iter (typed_flds (check_typed h)) (d.length+1)
 unfold isT at ht
 simp only[Bool.and_eq_true,decide_eq_true_eq] at ht
 unfold finiteS at hf
 have hl:=iter_len d (marks d) (d.length+1)
 have hl2:(marks d).length=d.length+1:=by simp[marks]
 obtain ⟨b,hb⟩:=get_of_lt (l:=iter d (marks d) (d.length+1)) (n:=t.toNat) (by omega)
 have:=List.all_eq_true.1 hf b (List.mem_of_getElem? hb)
 have hbt:b=true:=this
 subst hbt
 obtain ⟨v,hv⟩:=I _ hb
 have:((t.toNat:Nat):Int)=t:=by omega
 rw[this] at hv
 exact⟨v,hv⟩
end Zc28
end
section
set_option maxHeartbeats 4000000
namespace Zc28
open Go Zv Zs
def nbV:Vl→Int
 | .mk m _ _=>m
def domV (d:List Dt) (t:Int) (ex:List Int) (v:Vl):Prop:=tyV d t v∧(t=0→nbV v ∉ ex)
def domL (d:List Dt):List Int→List (List Int)→List Vl→Prop
 | [],[],[]=>True
 |t::ts,e::es,v::vs=>domV d t e v∧domL d ts es vs
 |_,_,_=>False
theorem domL_len {d:List Dt}:∀ {ts:List Int} {es:List (List Int)} {vs:List Vl},domL d ts es vs→vs.length=ts.length∧es.length=ts.length
 | [],[],[],_=>⟨rfl,rfl⟩
 |_::_,_::_,_::_,h=>by
  rw[domL] at h
  have:=domL_len h.2
  exact⟨by simp[this.1],by simp[this.2]⟩
 | [],[],_::_,h=>h.elim
 | [],_::_,_,h=>h.elim
 |_::_,[],_,h=>h.elim
 |_::_,_::_,[],h=>h.elim
theorem domL_app {d:List Dt}:∀ {ts ts':List Int} {es es':List (List Int)} {vs vs':List Vl},domL d ts es vs→domL d ts' es' vs'→domL d (ts++ts') (es++es') (vs++vs')
 | [],_,[],_,[],_,_,h=>h
 |_::_,_,_::_,_,_::_,_,h,h'=>by
  rw[domL] at h
  exact⟨h.1,domL_app h.2 h'⟩
 | [],_,[],_,_::_,_,h,_=>h.elim
 | [],_,_::_,_,_,_,h,_=>h.elim
 |_::_,_,[],_,_,_,h,_=>h.elim
 |_::_,_,_::_,_,[],_,h,_=>h.elim
theorem domL_split {d:List Dt}:∀ {ts ts':List Int} {es es':List (List Int)} {ws:List Vl},ts.length=es.length→domL d (ts++ts') (es++es') ws→∃ vs vs',ws=vs++vs'∧domL d ts es vs∧domL d ts' es' vs'
 | [],_,[],_,ws,_,h=>⟨[],ws,rfl,trivial,h⟩
 |t::ts,ts',e::es,es',w::ws,hl,h=>by
  have h:domV d t e w∧domL d (ts++ts') (es++es') ws:=h
  obtain ⟨vs,vs',rfl,h1,h2⟩:=domL_split (by simpa using hl) h.2
  exact⟨w::vs,vs',rfl,⟨h.1,h1⟩,h2⟩
 |_::_,_,_::_,_,[],_,h=>h.elim
 | [],_,_::_,_,_,hl,_=>by cases hl
 |_::_,_,[],_,_,hl,_=>by cases hl
theorem domL_ty {d:List Dt}:∀ {ts:List Int} {n:Nat} {vs:List Vl},domL d ts (List.replicate n []) vs→tyL d ts vs
 | [],0,[],_=>by rw[tyL];trivial
 |t::ts,n+1,v::vs,h=>by
  have h:domV d t [] v∧domL d ts (List.replicate n []) vs:=h
  rw[tyL]
  exact⟨h.1.1,domL_ty h.2⟩
 | [],0,_::_,h=>h.elim
 | [],_+1,_,h=>h.elim
 |_::_,0,_,h=>h.elim
 |_::_,_+1,[],h=>h.elim
theorem dom_inh {d:List Dt} (h:checkS d=0):∀ {ts:List Int} {es:List (List Int)},es.length=ts.length→(∀ t,t ∈ ts→isT d t=true)→∃ vs,domL d ts es vs
 | [],[],_,_=>⟨[],trivial⟩
 |t::ts,e::es,hl,ht=>by
  obtain ⟨vs,hvs⟩:=dom_inh h (ts:=ts) (es:=es) (by simpa using hl) (fun x hx=>ht x (.tail _ hx))
  by_cases h0:t=0
  ·subst h0
   exact⟨.mk ((missN e:Nat):Int) 0 []::vs,⟨⟨by rw[tyV];simp,fun _=>(missN_spec e).1⟩,hvs⟩⟩
  ·obtain ⟨v,hv⟩:=inhab h (ht t (.head _))
   exact⟨v::vs,⟨⟨hv,fun e=>absurd e h0⟩,hvs⟩⟩
 | [],_::_,hl,_=>by cases hl
 |_::_,[],hl,_=>by cases hl
def freshL:List Int→List (List Int)→List Pt→Prop
 |t::ts,e::es,p::ps=>(t=0→kdP p≠0→nmP p ∉ e)∧freshL ts es ps
 |_,_,_=>True
theorem freshL_app:∀ {ts ts':List Int} {es es':List (List Int)} {ps ps':List Pt},ts.length=es.length→ts.length=ps.length→(freshL (ts++ts') (es++es') (ps++ps') ↔ freshL ts es ps∧freshL ts' es' ps')
 | [],_,[],_,[],_,_,_=>by simp[freshL]
 |t::ts,ts',e::es,es',p::ps,ps',h1,h2=>by
  simp only[List.cons_append,freshL]
  rw[freshL_app (by simpa using h1) (by simpa using h2),and_assoc]
 | [],_,_::_,_,_,_,h,_=>by cases h
 | [],_,[],_,_::_,_,_,h=>by cases h
 |_::_,_,[],_,_,_,h,_=>by cases h
 |_::_,_,_::_,_,[],_,_,h=>by cases h
theorem freshL_none:∀ (ts:List Int) (n:Nat) (ps:List Pt),freshL ts (List.replicate n []) ps
 | [],_,_=>by unfold freshL;trivial
 |_::_,0,_=>by unfold freshL;trivial
 |_::_,_+1,[]=>by unfold freshL;trivial
 |t::ts,n+1,p::ps=>by
  show freshL (t::ts) ([]::List.replicate n []) (p::ps)
  exact⟨fun _ _=>by simp,freshL_none ts n ps⟩
def CovL (d:List Dt) (ts:List Int) (ps:List (List Pt)):Prop:=
 ∃ es:List (List Int),es.length=ts.length∧(∀ vs,domL d ts es vs→∃ r,r ∈ ps∧mtL r vs=true)∧∀ r,r ∈ ps→freshL ts es r
theorem CovL.ne {d:List Dt} (h:checkS d=0) {ts:List Int} {ps:List (List Pt)} (ht:∀ t,t ∈ ts→isT d t=true) (C:CovL d ts ps):ps≠[]:=by
 obtain ⟨es,h1,h2,_⟩:=C
 obtain ⟨vs,hvs⟩:=dom_inh h h1 ht
 obtain ⟨r,hr,_⟩:=h2 vs hvs
 intro e;rw[e] at hr;cases hr
theorem covL0 {d:List Dt} {ts:List Int} {ps:List (List Pt)} (hM:fitM d ts ps) (hU:∀ K,usS d K ts ps (List.replicate ts.length wildT)=false):CovL d ts ps:=by
 refine ⟨List.replicate ts.length [],by simp,fun vs hv=>?_,fun r _=>freshL_none ..⟩
 have hty:=domL_ty hv
 have hl:=tyL_len hty
 exact cover (vcntL vs) ts ps (List.replicate ts.length wildT) vs (Nat.le_refl _) hty hM (fitR_wild d ts) hU (by rw[←hl];exact mtL_wild vs)
theorem fitR_split {d:List Dt}:∀ {ts ts':List Int} {ps ps':List Pt},ts.length=ps.length→fitR d (ts++ts') (ps++ps')=true→fitR d ts ps=true∧fitR d ts' ps'=true
 | [],_,[],_,_,h=>⟨rfl,h⟩
 |t::ts,ts',p::ps,ps',hl,h=>by
  simp only[List.cons_append,fitR,Bool.and_eq_true] at h ⊢
  have:=fitR_split (by simpa using hl) h.2
  exact⟨⟨h.1,this.1⟩,this.2⟩
 | [],_,_::_,_,hl,_=>by cases hl
 |_::_,_,[],_,hl,_=>by cases hl
end Zc28
end
section
set_option maxHeartbeats 4000000
namespace Zc28
open Go Zv Zs
def zT:Ts:=⟨[],false,0,[],0⟩
def leafAt (n:Int):Ts:=⟨[],false,0,[],n⟩
def patAt (r:Rw) (k:Nat):Pt:=r.pats.getD k wildT
def argsFor (p:Pt) (con:Int) (nf:Nat):Option (List Pt):=if kdP p=0 then some (List.replicate nf wildT) else if cnP p=con then some (argsP p) else none
def putP (r:Rw) (k:Nat) (a:List Pt):Rw:=⟨r.n,r.pats.take k++a++r.pats.drop (k+1)⟩
def conRow (k:Nat) (con:Int) (nf:Nat) (r:Rw):Option Rw:=(argsFor (patAt r k) con nf).map (putP r k)
def sameB (k:Nat) (num:Int) (r:Rw):Bool:=decide (kdP (patAt r k)=0) || decide (nmP (patAt r k)=num)
def othB (k:Nat) (num:Int) (r:Rw):Bool:=decide (kdP (patAt r k)=0) || decide (nmP (patAt r k)≠num)
def conRows (k:Nat) (con:Int) (nf:Nat) (rows:List Rw):List Rw:=rows.filterMap (conRow k con nf)
def sameRows (k:Nat) (num:Int) (rows:List Rw):List Rw:=rows.filterMap fun r=>if sameB k num r=true then some (putP r k []) else none
def othRows (k:Nat) (num:Int) (rows:List Rw):List Rw:=rows.filter (othB k num)
def fldC (path fs:List Int):List Co:=fs.zipIdx.map fun q=>⟨path++[(q.2:Int)],q.1⟩
def putC (cols:List Co) (k:Nat) (a:List Co):List Co:=cols.take k++a++cols.drop (k+1)
abbrev Bld:=List Ts→List Co→List Rw→List Ts × Int
def conL (f:Bld) (cols:List Co) (rows:List Rw) (k:Nat) (c:Co):Nat→List Cn→List Ts→List Int→List Ts × List Int
 |_,[],out,nx=>(out,nx)
 |i,z::zs,out,nx=>conL f cols rows k c (i+1) zs (f out (putC cols k (fldC c.path z.flds)) (conRows k (i:Int) z.flds.length rows)).1 (nx++[(f out (putC cols k (fldC c.path z.flds)) (conRows k (i:Int) z.flds.length rows)).2])
def bldC (d:List Dt) (f:Bld) (cols:List Co) (rows:List Rw) (k:Nat) (c:Co) (out:List Ts):List Ts × Int:=
 ((conL f cols rows k c 0 (consOf d c.ty) (out++[zT]) []).1.set out.length ⟨c.path,true,0,(conL f cols rows k c 0 (consOf d c.ty) (out++[zT]) []).2,0⟩,(out.length:Int))
def bldN (f:Bld) (cols:List Co) (rows:List Rw) (r0:Rw) (k:Nat) (c:Co) (out:List Ts):List Ts × Int:=
 let num:=nmP (patAt r0 k)
 let q1:=f (out++[zT]) (putC cols k []) (sameRows k num rows)
 let q2:=f q1.1 cols (othRows k num rows)
 (q2.1.set out.length ⟨c.path,false,num,[q1.2,q2.2],0⟩,(out.length:Int))
def bldK (d:List Dt) (f:Bld) (cols:List Co) (rows:List Rw) (r0:Rw) (z:Int) (out:List Ts):List Ts × Int:=
 match getI cols z with
 |none=>(out++[leafAt r0.n],(out.length:Int))
 |some c=>if c.ty=0 then bldN f cols rows r0 z.toNat c out else bldC d f cols rows z.toNat c out
def nwB (p:Pt):Bool := !wildP p
def bldB (d:List Dt) (f:Bld) (cols:List Co) (rows:List Rw) (out:List Ts):List Ts × Int:=
 match rows with
 | []=>(out++[zT],(out.length:Int))
 |r0::_=>bldK d f cols rows r0 (idxZ nwB r0.pats) out
def buildS (d:List Dt):Nat→Bld
 |0,out,_,_=>(out,(out.length:Int))
 |k+1,out,cols,rows=>if 4096<out.length then (out,(out.length:Int)) else bldB d (buildS d k) cols rows out
theorem same_snoc (k:Nat) (num:Int) {rows:List Rw} {i:Nat} {r:Rw} (h:rows[i]? = some r):sameRows k num (rows.take (i+1))=sameRows k num (rows.take i)++if sameB k num r=true then [putP r k []] else []:=by
 unfold sameRows
 rw[List.take_add_one,h,Option.toList_some,List.filterMap_append]
 congr 1
 by_cases hb:sameB k num r=true<;>simp[hb]
theorem oth_snoc (k:Nat) (num:Int) {rows:List Rw} {i:Nat} {r:Rw} (h:rows[i]? = some r):othRows k num (rows.take (i+1))=othRows k num (rows.take i)++if othB k num r=true then [r] else []:=by
 unfold othRows
 rw[List.take_add_one,h,Option.toList_some,List.filter_append]
 congr 1
 by_cases hb:othB k num r=true<;>simp[hb]
theorem con_snoc (k:Nat) (con:Int) (nf:Nat) {rows:List Rw} {i:Nat} {r:Rw} (h:rows[i]? = some r):conRows k con nf (rows.take (i+1))=conRows k con nf (rows.take i)++(conRow k con nf r).toList:=by
 unfold conRows
 rw[List.take_add_one,h,Option.toList_some,List.filterMap_append]
 cases hb:conRow k con nf r<;>simp[hb]
theorem fldC_snoc (path:List Int) {fs:List Int} {n:Nat} {f:Int} (h:fs[n]? = some f):fldC path (fs.take (n+1))=fldC path (fs.take n)++[⟨path++[(n:Int)],f⟩]:=by
 have hn:=(List.getElem?_eq_some_iff.1 h).1
 rw[List.take_add_one,h]
 unfold fldC
 rw[Option.toList_some,List.zipIdx_append,List.map_append]
 simp[show min n fs.length=n by omega]
def LenB (f:Bld):Prop:=∀ out cols rows,out.length≤(f out cols rows).1.length∧(out.length≤4097→(f out cols rows).1.length≤4097)
theorem conL_len {f:Bld} (h:LenB f) (cols:List Co) (rows:List Rw) (k:Nat) (c:Co):∀ (zs:List Cn) (i:Nat) (out:List Ts) (nx:List Int),out.length≤(conL f cols rows k c i zs out nx).1.length∧(out.length≤4097→(conL f cols rows k c i zs out nx).1.length≤4097)∧(conL f cols rows k c i zs out nx).2.length=nx.length+zs.length
 | [],i,out,nx=>⟨Nat.le_refl _,fun h=>h,rfl⟩
 |z::zs,i,out,nx=>by
  have h1:=h out (putC cols k (fldC c.path z.flds)) (conRows k (i:Int) z.flds.length rows)
  have h2:=conL_len h cols rows k c zs (i+1) (f out (putC cols k (fldC c.path z.flds)) (conRows k (i:Int) z.flds.length rows)).1 (nx++[(f out (putC cols k (fldC c.path z.flds)) (conRows k (i:Int) z.flds.length rows)).2])
  unfold conL
  refine ⟨by omega,fun h=>h2.2.1 (h1.2 h),?_⟩
  rw[h2.2.2,List.length_append,List.length_cons,List.length_cons,List.length_nil];omega
theorem buildS_len (d:List Dt):∀ k,LenB (buildS d k)
 |0=>fun out _ _=>⟨Nat.le_refl _,fun h=>h⟩
 |k+1=>by
  intro out cols rows
  have ih:=buildS_len d k
  have hl:∀ t:Ts,(out++[t]).length=out.length+1:=fun t=>by simp
  unfold buildS
  split
  ·exact⟨Nat.le_refl _,fun h=>h⟩
  rename_i h4
  unfold bldB
  split
  ·exact⟨by rw[hl];omega,fun h=>by rw[hl];omega⟩
  rename_i r0 rs
  unfold bldK
  split
  ·exact⟨by rw[hl];omega,fun h=>by rw[hl];omega⟩
  split
  ·unfold bldN
   simp only[List.length_set]
   rename_i c _ _
   have h1:=ih (out++[zT]) (putC cols (idxZ nwB r0.pats).toNat []) (sameRows (idxZ nwB r0.pats).toNat (nmP (patAt r0 (idxZ nwB r0.pats).toNat)) (r0::rs))
   have h2:=ih (buildS d k (out++[zT]) (putC cols (idxZ nwB r0.pats).toNat []) (sameRows (idxZ nwB r0.pats).toNat (nmP (patAt r0 (idxZ nwB r0.pats).toNat)) (r0::rs))).1 cols (othRows (idxZ nwB r0.pats).toNat (nmP (patAt r0 (idxZ nwB r0.pats).toNat)) (r0::rs))
   rw[hl] at h1
   exact⟨by omega,fun h=>h2.2 (h1.2 (by omega))⟩
  ·unfold bldC
   simp only[List.length_set]
   rename_i c _ _
   have h1:=conL_len ih cols (r0::rs) (idxZ nwB r0.pats).toNat c (consOf d c.ty) 0 (out++[zT]) []
   rw[hl] at h1
   exact⟨by omega,fun h=>h1.2.1 (by omega)⟩
def nwW (rows:List Rw):Nat:=(rows.map fun r=>nwL r.pats).sum
structure BI (d:List Dt) (k:Nat) (cols:List Co) (rows:List Rw):Prop where
 fit:∀ r,r ∈ rows→fitR d (cols.map Co.ty) r.pats=true
 typ:∀ c,c ∈ cols→isT d c.ty=true
 nw:nwW rows<k
 path:∀ c,c ∈ cols→c.path.length+k≤100
 len:cols.length+8*k≤1000
 rl:rows.length≤6
 chk:checkS d=0
 flds:∀ y,y ∈ d→∀ c,c ∈ y.cons→c.flds.length≤8
 cov:CovL d (cols.map Co.ty) (rows.map Rw.pats)
theorem BI.ne {d:List Dt} {k:Nat} {cols:List Co} {rows:List Rw} (I:BI d k cols rows):rows≠[]:=by
 have:=I.cov.ne I.chk (fun t ht=>by obtain ⟨c,hc,rfl⟩:=List.mem_map.1 ht;exact I.typ c hc)
 intro e;rw[e] at this;exact this rfl
end Zc28
end
section
set_option maxHeartbeats 4000000
namespace Zc28
open Go Zv Zs
structure RA (Y:List (Nat × Ob)) (q q0 es:Nat) (v:V) (S:List D) (m:Nat):Prop where
 v:v=rowN m es S
 row:S≠[]→Zv.look Y m=some (.arr es (S.map .d))
 lo:S≠[]→q0≤m
 hi:S≠[]→m<q
theorem RA.nil (Y:List (Nat × Ob)) (q q0 es m:Nat):RA Y q q0 es (.tl [] (some true)) [] m:=⟨rfl,fun h=>absurd rfl h,fun h=>absurd rfl h,fun h=>absurd rfl h⟩
theorem RA.mono {Y Y':List (Nat × Ob)} {q q' q0 es m:Nat} {v:V} {S:List D} (R:RA Y q q0 es v S m) (hq:q≤q') (h:S≠[]→Zv.look Y' m=Zv.look Y m):RA Y' q' q0 es v S m:=
 ⟨R.v,fun hs=>by rw[h hs];exact R.row hs,R.lo,fun hs=>by have:=R.hi hs;omega⟩
theorem app_row {es b m q:Nat} {Y:List (Nat × Ob)} {S:List D} {x:D} {nl:Option Bool} (hr:Zv.look Y m=some (.arr es (S.map .d))) (hx:x.cells.length=es) (hb:(S.length+1)*b≤roomB) :
  app es b ⟨Y,q⟩ (.own m es S.length 0 S.length) (.tl [.d x] nl)=some (.own m es (S.length+1) 0 (S.length+1),⟨Zv.upd Y m (.arr es ((S++[x]).map .d)),q⟩):=by
 have hrow:(⟨Y,q⟩:Hp).row m S.length=some (es,S.map .d):=row_of hr (by simp)
 have hxs:allV es [V.d x]=true:=by simp[allV,V.cells,hx]
 have h1:¬ S.length+1≤S.length:=by omega
 have h2:List.take S.length (S.map V.d)=S.map V.d:=List.take_of_length_le (by simp)
 unfold app
 simp only[elems,Option.bind_some,List.map_cons,List.map_nil,norm_d,hxs,if_true,hrow,List.length_map,Nat.zero_add,Nat.le_refl,and_self,List.isEmpty_cons,Bool.false_eq_true,if_false,List.length_cons,List.length_nil,h1,hb,h2,Hp.set,List.map_append]
theorem ra_app {Y:List (Nat × Ob)} {q q0 es b m:Nat} {v:V} {S:List D} {x:D} {nl:Option Bool} (R:RA Y q q0 es v S m) (hq:q0≤q) (hx:x.cells.length=es) (hb:(S.length+1)*b≤roomB) :
  ∃ v' Y' q' m',app es b ⟨Y,q⟩ v (.tl [.d x] nl)=some (v',⟨Y',q'⟩)∧RA Y' q' q0 es v' (S++[x]) m'∧q≤q'∧(S≠[]→m'=m)∧(S=[]→q≤m')∧∀ n,n<q→(S≠[]→n≠m)→Zv.look Y' n=Zv.look Y n:=by
 by_cases hs:S=[]
 ·subst hs
  refine ⟨.own q es 1 0 1,(q,.arr es [.d x])::Y,q+1,q,?_,⟨rfl,fun _=>look_hd ..,fun _=>hq,fun _=>by omega⟩,by omega,fun h=>absurd rfl h,fun _=>Nat.le_refl _,fun n hn _=>look_tl _ _ (by omega)⟩
  have hxs:allV es [V.d x]=true:=by simp[allV,V.cells,hx]
  have hb':b≤roomB:=by simpa using hb
  rw[R.v]
  simp[rowN,app,elems,hxs,norm_d,Hp.alloc,hb',allV,V.cells,hx]
 ·have hv:v=.own m es S.length 0 S.length:=by rw[R.v];exact if_neg hs
  refine ⟨.own m es (S.length+1) 0 (S.length+1),Zv.upd Y m (.arr es ((S++[x]).map .d)),q,m,?_,⟨?_,fun _=>?_,fun _=>R.lo hs,fun _=>R.hi hs⟩,Nat.le_refl _,fun _=>rfl,fun h=>absurd h hs,fun n _ hn=>?_⟩
  ·rw[hv];exact app_row (R.row hs) hx hb
  ·unfold rowN;rw[if_neg (by simp),List.length_append];rfl
  ·rw[Zs.look_upd,if_pos rfl,R.row hs];rfl
  ·rw[Zs.look_upd,if_neg (hn hs)]
theorem ra_frz {Y:List (Nat × Ob)} {q q0 es m:Nat} {v:V} {S:List D} (R:RA Y q q0 es v S m) :
  ∃ Y',(∀ nx,Zv.frz ⟨Y,nx⟩ v=some (.d (.lst S),⟨Y',nx⟩))∧∀ n,(S≠[]→n≠m)→Zv.look Y' n=Zv.look Y n:=by
 by_cases hs:S=[]
 ·subst hs
  exact⟨Y,fun nx=>by rw[R.v];rfl,fun n _=>rfl⟩
 ·have hv:v=.own m es S.length 0 S.length:=by rw[R.v];exact if_neg hs
  refine ⟨Zv.del Y m,fun nx=>?_,fun n hn=>look_del (hn hs) _⟩
  rw[hv,frz_row (row_of (R.row hs) (by simp))]
  rfl
theorem ra_app2 {Y:List (Nat × Ob)} {q q0 es es2 b m m2:Nat} {v v2:V} {S S2:List D} {x:D} {nl:Option Bool} (R:RA Y q q0 es v S m) (R2:RA Y q q0 es2 v2 S2 m2) (hd:S≠[]→S2≠[]→m≠m2) (hq:q0≤q) (hx:x.cells.length=es) (hb:(S.length+1)*b≤roomB) :
  ∃ v' Y' q' m',app es b ⟨Y,q⟩ v (.tl [.d x] nl)=some (v',⟨Y',q'⟩)∧RA Y' q' q0 es v' (S++[x]) m'∧RA Y' q' q0 es2 v2 S2 m2∧(S2≠[]→m'≠m2)∧q≤q'∧∀ n,n<q0→Zv.look Y' n=Zv.look Y n:=by
 obtain ⟨v',Y',q',m',h1,h2,h3,h4,h5,h6⟩:=ra_app (nl:=nl) R hq hx hb
 refine ⟨v',Y',q',m',h1,h2,R2.mono h3 fun hs=>h6 m2 (R2.hi hs) fun hs1 e=>hd hs1 hs e.symm,fun hs=>?_,h3,fun n hn=>h6 n (by omega) fun hs=>by have:=R.lo hs;omega⟩
 by_cases h0:S=[]
 ·have:=h5 h0;have:=R2.hi hs;omega
 ·rw[h4 h0];exact hd h0 hs
theorem RA.fr {Y Y':List (Nat × Ob)} {q q' q0 es m m2:Nat} {v:V} {S:List D} (R:RA Y q q0 es v S m) (hq:q≤q') (h:∀ n,n<q→n≠m2→Zv.look Y' n=Zv.look Y n) (hm:S≠[]→m≠m2):RA Y' q' q0 es v S m:=
 R.mono hq fun hs=>h m (R.hi hs) (hm hs)
theorem mk_z:norm (V.agg [.tl [] (some true),.d (.bool false),.d (.int .i64 0),.tl [] (some true),.d (.int .i64 0)])=.d (eT zT):=rfl
theorem mk_z1:mkAgg [.tl [] (some true),.d (.bool false),.d (.int .i64 0),.tl [] (some true),.d (.int .i64 0)]=V.agg [.tl [] (some true),.d (.bool false),.d (.int .i64 0),.tl [] (some true),.d (.int .i64 0)]:=rfl
section
variable (d:List Dt) (ov dv bv:Nat)
structure VB (X:List (Nat × Ob)) (out:List Ts) (m:Nat):Prop where
 iov:Zv.look X ov=some (.arr 1 [.own m 5 out.length 0 out.length])
 irow:Zv.look X m=some (.arr 5 ((out.map eT).map .d))
 idv:Zv.look X dv=some (.arr 1 [.d (eDs d)])
 ibv:Zv.look X bv=some (.arr 1 [.clo 37 [.ptr ov 1 0 0,.ptr dv 1 0 0,.ptr bv 1 0 0]])
def VS (X:List (Nat × Ob)) (out:List Ts) (m q:Nat):Prop:=
 (out≠[]∧VB d ov dv bv X out m∧m<q)∨(out=[]∧Zv.look X ov=some (.arr 1 [.agg [.tl [] (some true)]])∧Zv.look X dv=some (.arr 1 [.d (eDs d)])∧Zv.look X bv=some (.arr 1 [.clo 37 [.ptr ov 1 0 0,.ptr dv 1 0 0,.ptr bv 1 0 0]]))
def FrB (m q:Nat) (X X':List (Nat × Ob)):Prop:=∀ n,n<q→n≠ov→n≠m→Zv.look X' n=Zv.look X n
variable {d ov dv bv}
theorem VB.ne1 {X:List (Nat × Ob)} {out:List Ts} {m:Nat} (I:VB d ov dv bv X out m):m≠ov∧m≠dv∧m≠bv∧dv≠ov∧bv≠ov:=by
 refine ⟨?_,?_,?_,?_,?_⟩<;>intro e
 ·have h1:=I.irow;rw[e,I.iov] at h1;cases h1
 ·have h1:=I.irow;rw[e,I.idv] at h1;cases h1
 ·have h1:=I.irow;rw[e,I.ibv] at h1;cases h1
 ·have h1:=I.idv;rw[e,I.iov] at h1;cases h1
 ·have h1:=I.ibv;rw[e,I.iov] at h1;cases h1
theorem VB.same {X X':List (Nat × Ob)} {out:List Ts} {m:Nat} (I:VB d ov dv bv X out m) (h1:Zv.look X' ov=Zv.look X ov) (h2:Zv.look X' m=Zv.look X m) (h3:Zv.look X' dv=Zv.look X dv) (h4:Zv.look X' bv=Zv.look X bv):VB d ov dv bv X' out m:=
 ⟨by rw[h1];exact I.iov,by rw[h2];exact I.irow,by rw[h3];exact I.idv,by rw[h4];exact I.ibv⟩
theorem VB.put {X:List (Nat × Ob)} {out out':List Ts} {m:Nat} (I:VB d ov dv bv X out m) (hl:out'.length=out.length):VB d ov dv bv (Zv.upd X m (.arr 5 ((out'.map eT).map .d))) out' m:=by
 obtain ⟨n1,n2,n3,n4,n5⟩:=I.ne1
 refine ⟨?_,?_,?_,?_⟩<;>rw[Zs.look_upd]
 ·rw[if_neg (fun e=>n1 e.symm),hl];exact I.iov
 ·rw[if_pos rfl,I.irow];rfl
 ·rw[if_neg (fun e=>n2 e.symm)];exact I.idv
 ·rw[if_neg (fun e=>n3 e.symm)];exact I.ibv
theorem vs_add {X:List (Nat × Ob)} {out:List Ts} {m q:Nat} (I:VS d ov dv bv X out m q) (ho:ov<q) (hd:dv<q) (hb:bv<q) (hl:out.length≤4096) :
  ∃ w outL,(∀ nx,Hp.row ⟨X,nx⟩ ov 1=some (1,[w]))∧w.cells[0]? = some outL∧lenL outL=some (.d (.int .i64 (out.length:Int))) ∧
   ∃ m' X2 q2 H1,app 5 72 ⟨X,q⟩ outL (.tl [.d (eT zT)] (some false))=some (.own m' 5 (out.length+1) 0 (out.length+1),H1)∧st 1 H1 (.ptr ov 1 0 0) (.own m' 5 (out.length+1) 0 (out.length+1))=some ⟨X2,q2⟩ ∧
    VB d ov dv bv X2 (out++[zT]) m'∧m'<q2∧q≤q2∧(out≠[]→m'=m)∧(out=[]→q≤m')∧FrB ov m' q X X2:=by
 rcases I with ⟨h0,I,hm⟩ | ⟨rfl,i1,i2,i3⟩
 ·obtain ⟨n1,n2,n3,n4,n5⟩:=I.ne1
  refine ⟨_,_,fun nx=>row_of I.iov rfl,rfl,rfl,m,Zv.upd (Zv.upd X m (.arr 5 (((out++[zT]).map eT).map .d))) ov (.arr 1 [.own m 5 (out.length+1) 0 (out.length+1)]),q,⟨Zv.upd X m (.arr 5 (((out++[zT]).map eT).map .d)),q⟩,?_,?_,?_,hm,Nat.le_refl _,fun _=>rfl,fun h=>absurd h h0,?_⟩
  ·have:=app_row (es:=5) (b:=72) (m:=m) (q:=q) (Y:=X) (S:=out.map eT) (x:=eT zT) (nl:=some false) I.irow rfl (by rw[List.length_map];unfold roomB;omega)
   rw[List.length_map] at this
   rw[this]
   simp
  ·have hr:Hp.row ⟨Zv.upd X m (.arr 5 (((out++[zT]).map eT).map .d)),q⟩ ov 1=some (1,[.own m 5 out.length 0 out.length]):=row_of (by rw[Zs.look_upd,if_neg (fun e=>n1 e.symm)];exact I.iov) rfl
   rw[st_all (i:=0) hr rfl rfl rfl]
   rfl
  ·refine ⟨?_,?_,?_,?_⟩<;>rw[Zs.look_upd]
   ·rw[if_pos rfl,Zs.look_upd,if_neg (fun e=>n1 e.symm),I.iov,List.length_append];rfl
   ·rw[if_neg n1,Zs.look_upd,if_pos rfl,I.irow];rfl
   ·rw[if_neg n4,Zs.look_upd,if_neg (fun e=>n2 e.symm)];exact I.idv
   ·rw[if_neg n5,Zs.look_upd,if_neg (fun e=>n3 e.symm)];exact I.ibv
  ·intro n _ h1 h2
   rw[Zs.look_upd,if_neg h1,Zs.look_upd,if_neg h2]
 ·refine ⟨_,_,fun nx=>row_of i1 rfl,rfl,rfl,q,Zv.upd ((q,.arr 5 [.d (eT zT)])::X) ov (.arr 1 [.own q 5 1 0 1]),q+1,⟨(q,.arr 5 [.d (eT zT)])::X,q+1⟩,?_,?_,?_,by omega,by omega,fun h=>absurd rfl h,fun _=>Nat.le_refl _,?_⟩
  ·exact app_0 (eT zT) rfl _ _ _
  ·have hr:Hp.row ⟨(q,.arr 5 [.d (eT zT)])::X,q+1⟩ ov 1=some (1,[.agg [.tl [] (some true)]]):=row_of (by rw[look_tl _ _ (by omega)];exact i1) rfl
   rw[show ([]:List Ts).length+1=1 from rfl,st_all (i:=0) hr rfl rfl rfl]
   rfl
  ·refine ⟨?_,?_,?_,?_⟩<;>rw[Zs.look_upd]
   ·rw[if_pos rfl,look_tl _ _ (by omega),i1];rfl
   ·rw[if_neg (by omega),look_hd];rfl
   ·rw[if_neg (fun e=>by rw[e,i1] at i2;cases i2),look_tl _ _ (by omega)];exact i2
   ·rw[if_neg (fun e=>by rw[e,i1] at i3;cases i3),look_tl _ _ (by omega)];exact i3
  ·intro n hn h1 h2
   rw[Zs.look_upd,if_neg h1,look_tl _ _ h2]
end
end Zc28
end
section
set_option maxHeartbeats 4000000
namespace Zc28
open Go Zv Zs
theorem take_drop_at {α:Type} {l:List α} {n:Nat} {x:α} (h:l[n]? = some x):l=l.take n++x::l.drop (n+1):=by
 obtain ⟨h1,h2⟩:=List.getElem?_eq_some_iff.1 h
 rw[←h2,←List.drop_eq_getElem_cons h1,List.take_append_drop]
theorem row_at {d:List Dt} {ta tb:List Int} {t:Int} {ps:List Pt} (h:fitR d (ta++t::tb) ps=true):∃ pa p pb,ps=pa++p::pb∧pa.length=ta.length∧fitR d ta pa=true∧fitsP d t p=true∧fitR d tb pb=true:=by
 have hl:=fitR_len h
 rw[List.length_append,List.length_cons] at hl
 obtain ⟨p,hp⟩:=get_of_lt (l:=ps) (n:=ta.length) (by omega)
 have e:=take_drop_at hp
 have hta:(ps.take ta.length).length=ta.length:=by rw[List.length_take];omega
 rw[e] at h
 obtain ⟨h1,h2⟩:=fitR_split hta.symm h
 simp only[fitR,Bool.and_eq_true] at h2
 exact⟨_,p,_,e,hta,h1,h2.1,h2.2⟩
theorem patAt_mid {n:Int} {pa pb:List Pt} {p:Pt} {k:Nat} (h:pa.length=k):patAt ⟨n,pa++p::pb⟩ k=p:=by
 unfold patAt;subst h;simp
theorem putP_mid {n:Int} {pa pb a:List Pt} {p:Pt} {k:Nat} (h:pa.length=k):putP ⟨n,pa++p::pb⟩ k a=⟨n,pa++a++pb⟩:=by
 unfold putP;subst h;simp
theorem putC_mid {ca cb a:List Co} {c:Co} {k:Nat} (h:ca.length=k):putC (ca++c::cb) k a=ca++a++cb:=by
 unfold putC;subst h;simp
theorem es_at {ta tb:List Int} {t:Int} {es:List (List Int)} (h:es.length=(ta++t::tb).length):∃ ea e eb,es=ea++e::eb∧ea.length=ta.length∧eb.length=tb.length:=by
 rw[List.length_append,List.length_cons] at h
 obtain ⟨e,he⟩:=get_of_lt (l:=es) (n:=ta.length) (by omega)
 refine ⟨_,e,_,take_drop_at he,by rw[List.length_take];omega,by rw[List.length_drop];omega⟩
theorem nw_filterMap {f:Rw→Option Rw}:∀ rows:List Rw,(∀ r,r ∈ rows→∀ r',f r=some r'→nwL r'.pats≤nwL r.pats)→nwW (rows.filterMap f)≤nwW rows
 | [],_=>Nat.le_refl _
 |r::rs,hf=>by
  have ih:=nw_filterMap rs fun r hr=>hf r (.tail _ hr)
  unfold nwW at ih ⊢
  cases h:f r with
  |none=>rw[List.filterMap_cons_none h,List.map_cons,List.sum_cons];omega
  |some r'=>have:=hf r (.head _) r' h;rw[List.filterMap_cons_some h,List.map_cons,List.map_cons,List.sum_cons,List.sum_cons];omega
theorem nw_head {f:Rw→Option Rw} {rows:List Rw} {r0:Rw} (hf:∀ r,r ∈ rows→∀ r',f r=some r'→nwL r'.pats≤nwL r.pats) (h0:rows[0]? = some r0) (hp:1≤nwL r0.pats) (hs:∀ r',f r0=some r'→nwL r'.pats<nwL r0.pats):nwW (rows.filterMap f)<nwW rows:=by
 cases rows with
 |nil=>cases h0
 |cons r rs=>
  cases h0
  have ih:=nw_filterMap rs fun r hr=>hf r (.tail _ hr)
  unfold nwW at ih ⊢
  cases h:f r0 with
  |none=>rw[List.filterMap_cons_none h,List.map_cons,List.sum_cons];omega
  |some r'=>have:=hs r' h;rw[List.filterMap_cons_some h,List.map_cons,List.map_cons,List.sum_cons,List.sum_cons];omega
theorem nw_mid (pa pb:List Pt) (p:Pt):nwL (pa++p::pb)=nwL pa+nwP p+nwL pb:=by rw[nwL_app,nwL];omega
theorem nw_mid' (pa pb a:List Pt):nwL (pa++a++pb)=nwL pa+nwL a+nwL pb:=by rw[nwL_app,nwL_app]
theorem nwP_pos {p:Pt} (h:kdP p≠0):nwP p=1+nwL (argsP p):=by
 obtain ⟨k,c,m,qs⟩:=p
 have h:¬ k=0:=h
 rw[nwP,if_neg h];rfl
theorem nwP_lt {p:Pt} {con:Int} {nf:Nat} {a:List Pt} (h:argsFor p con nf=some a):nwL a≤nwP p∧(kdP p≠0→nwL a<nwP p):=by
 unfold argsFor at h
 split at h
 ·rename_i k0
  cases h
  rw[nwL_wild]
  exact⟨Nat.zero_le _,fun h=>absurd k0 h⟩
 ·rename_i k0
  have:=nwP_pos k0
  split at h
  ·cases h;exact⟨by omega,fun _=>by omega⟩
  ·cases h
structure At (d:List Dt) (k n:Nat) (cols:List Co) (rows:List Rw) (c:Co) (ca cb:List Co):Prop where
 e:cols=ca++c::cb
 l:ca.length=n
 fit:∀ r,r ∈ rows→∃ pa p pb,r.pats=pa++p::pb∧pa.length=n∧patAt r n=p∧(∀ a,putP r n a=⟨r.n,pa++a++pb⟩)∧fitR d (ca.map Co.ty) pa=true∧fitsP d c.ty p=true∧fitR d (cb.map Co.ty) pb=true
theorem BI.at {d:List Dt} {k n:Nat} {cols:List Co} {rows:List Rw} {c:Co} (I:BI d k cols rows) (hc:cols[n]? = some c):∃ ca cb,At d k n cols rows c ca cb:=by
 have e:=take_drop_at hc
 have hl:(cols.take n).length=n:=by have:=(List.getElem?_eq_some_iff.1 hc).1;rw[List.length_take];omega
 refine ⟨_,_,e,hl,fun r hr=>?_⟩
 have hf:=I.fit r hr
 rw[e,List.map_append,List.map_cons] at hf
 obtain ⟨pa,p,pb,hp,hpl,f1,f2,f3⟩:=row_at hf
 have hpl':pa.length=n:=by rw[hpl,List.length_map,hl]
 obtain ⟨rn,rp⟩:=r
 have hp:rp=_:=hp
 subst hp
 exact⟨pa,p,pb,rfl,hpl',patAt_mid hpl',fun a=>putP_mid hpl',f1,f2,f3⟩
theorem BI.nonwild {d:List Dt} {k n:Nat} {cols:List Co} {rows:List Rw} {r0:Rw} {c:Co} {ca cb:List Co} (A:At d k n cols rows c ca cb) (h0:rows[0]? = some r0) (hn:idxZ nwB r0.pats=(n:Int)):kdP (patAt r0 n)≠0∧1≤nwL r0.pats:=by
 obtain ⟨pa,p,pb,hp,hpl,hpa,_⟩:=A.fit r0 (List.mem_of_getElem? h0)
 have hk:kdP (patAt r0 n)≠0:=by
  rcases idxZ_cases nwB r0.pats with hz | ⟨m,x,hz,hx,hx2⟩
  ·omega
  ·have:m=n:=by omega
   subst this
   rw[hp,List.getElem?_append_right (by omega),hpl] at hx
   simp at hx
   rw[hpa,hx]
   unfold nwB wildP at hx2
   simpa using hx2
 refine ⟨hk,?_⟩
 rw[hpa] at hk
 have:=nwP_pos hk
 rw[hp,nw_mid];omega
theorem mem_putC {cols a:List Co} {k:Nat} {c:Co} (h:c ∈ putC cols k a):c ∈ cols∨c ∈ a:=by
 unfold putC at h
 rcases List.mem_append.1 h with h | h
 ·rcases List.mem_append.1 h with h | h
  ·exact .inl (List.mem_of_mem_take h)
  ·exact .inr h
 ·exact .inl (List.mem_of_mem_drop h)
theorem putC_len (cols a:List Co) {k:Nat} (h:k<cols.length):(putC cols k a).length=cols.length - 1+a.length:=by
 unfold putC;simp only[List.length_append,List.length_take,List.length_drop];omega
theorem fldC_mem {path fs:List Int} {c:Co} (h:c ∈ fldC path fs):c.path.length=path.length+1∧c.ty ∈ fs:=by
 unfold fldC at h
 obtain ⟨⟨f,i⟩,hq,rfl⟩:=List.mem_map.1 h
 obtain ⟨_,_,hq3⟩:=List.mem_zipIdx hq
 exact⟨by simp,by rw[show (⟨path++[((f,i).2:Int)],(f,i).1⟩:Co).ty=f from rfl,hq3];exact List.getElem_mem _⟩
theorem fldC_ty (path fs:List Int):(fldC path fs).map Co.ty=fs:=by
 unfold fldC
 rw[List.map_map]
 exact List.zipIdx_map_fst 0 fs
theorem args_fit {d:List Dt} {t:Int} {p:Pt} {i:Nat} {z:Cn} {a:List Pt} (hf:fitsP d t p=true) (ht:t≠0) (hz:(consOf d t)[i]? = some z) (h:argsFor p (i:Int) z.flds.length=some a):fitR d z.flds a=true:=by
 obtain ⟨k,c,m,qs⟩:=p
 unfold argsFor at h
 rcases fits_cases hf with ⟨rfl,_⟩ | ⟨_,h2,_⟩ | ⟨rfl,_,_,j,y,rfl,hy,_,hfr⟩
 ·rw[if_pos (show kdP (Pt.mk 0 c m qs)=0 from rfl)] at h;cases h;exact fitR_wild ..
 ·exact absurd h2 ht
 ·rw[if_neg (show ¬ kdP (Pt.mk 1 (j:Int) m qs)=0 from (by decide:¬ (1:Int)=0))] at h
  split at h
  ·rename_i hji
   have hji:(j:Int)=(i:Int):=hji
   have:j=i:=by omega
   subst this
   rw[hy] at hz;cases hz
   cases h
   exact hfr
  ·cases h
theorem args_mt {d:List Dt} {t:Int} {p:Pt} {i:Nat} {z:Cn} {m:Int} {av:List Vl} (hf:fitsP d t p=true) (ht:t≠0) (hl:av.length=z.flds.length) (hm:mtP p (.mk m (i:Int) av)=true):∃ a,argsFor p (i:Int) z.flds.length=some a∧mtL a av=true:=by
 obtain ⟨k,c,m',qs⟩:=p
 unfold argsFor
 rw[mtP] at hm
 rcases fits_cases hf with ⟨rfl,_⟩ | ⟨_,h2,_⟩ | ⟨rfl,_,_,j,y,rfl,hy,_,hfr⟩
 ·exact⟨_,if_pos rfl,by rw[←hl];exact mtL_wild av⟩
 ·exact absurd h2 ht
 ·rw[if_neg (by decide),if_neg (by decide),if_pos rfl,Bool.and_eq_true,decide_eq_true_eq] at hm
  exact⟨qs,by rw[if_neg (show ¬ kdP (Pt.mk 1 (j:Int) m' qs)=0 from (by decide:¬ (1:Int)=0))];exact if_pos hm.1.symm,hm.2⟩
theorem mt_mid {pa pb:List Pt} {p:Pt} {va vb:List Vl} {v:Vl} (hl:pa.length=va.length):mtL (pa++p::pb) (va++v::vb)=(mtL pa va && (mtP p v && mtL pb vb)):=by rw[mtL_app hl,mtL]
theorem mt_mid' {pa pb a:List Pt} {va vb av:List Vl} (hl:pa.length=va.length) (h2:a.length=av.length):mtL (pa++a++pb) (va++av++vb)=(mtL pa va && (mtL a av && mtL pb vb)):=by
 rw[List.append_assoc,List.append_assoc,mtL_app hl,mtL_app h2]
theorem dom_mid {d:List Dt} {ta tb:List Int} {t:Int} {ea eb:List (List Int)} {e:List Int} {va vb:List Vl} {v:Vl} (h1:domL d ta ea va) (h2:domV d t e v) (h3:domL d tb eb vb):domL d (ta++t::tb) (ea++e::eb) (va++v::vb):=
 domL_app h1 ⟨h2,h3⟩
theorem BI.con {d:List Dt} {k n i:Nat} {cols:List Co} {rows:List Rw} {r0:Rw} {c:Co} {z:Cn} (I:BI d (k+1) cols rows) (h0:rows[0]? = some r0) (hn:idxZ nwB r0.pats=(n:Int)) (hc:cols[n]? = some c) (ht:c.ty≠0) (hz:(consOf d c.ty)[i]? = some z) :
  BI d k (putC cols n (fldC c.path z.flds)) (conRows n (i:Int) z.flds.length rows):=by
 obtain ⟨ca,cb,A⟩:=I.at hc
 obtain ⟨hk0,hp0⟩:=BI.nonwild A h0 hn
 have hty:=typed_flds (check_typed I.chk)
 obtain ⟨y,hy,hzy⟩:∃ y,y ∈ d∧z ∈ y.cons:=by
  rcases tcase d c.ty with h | h | ⟨m,y,hm,hy⟩
  ·rw[consOf_lo h] at hz;cases hz
  ·rw[consOf_hi h] at hz;cases hz
  ·rw[hm,consOf_at hy] at hz
   exact⟨y,List.mem_of_getElem? hy,List.mem_of_getElem? hz⟩
 have hnl:=(List.getElem?_eq_some_iff.1 hc).1
 have hcm:=List.mem_of_getElem? hc
 have hflen:=I.flds y hy z hzy
 have hfl:(fldC c.path z.flds).length=z.flds.length:=by rw[←List.length_map (f:=Co.ty),fldC_ty]
 have hcols:putC cols n (fldC c.path z.flds)=ca++fldC c.path z.flds++cb:=by rw[A.e];exact putC_mid A.l
 have hmap:(putC cols n (fldC c.path z.flds)).map Co.ty=ca.map Co.ty++z.flds++cb.map Co.ty:=by rw[hcols,List.map_append,List.map_append,fldC_ty]
 have hrow:∀ r',r' ∈ conRows n (i:Int) z.flds.length rows→∃ r a,r ∈ rows∧argsFor (patAt r n) (i:Int) z.flds.length=some a∧r'=putP r n a:=by
  intro r' hr'
  obtain ⟨r,hr,hs⟩:=List.mem_filterMap.1 hr'
  unfold conRow at hs
  obtain ⟨a,ha,rfl⟩:=Option.map_eq_some_iff.1 hs
  exact⟨r,a,hr,ha,rfl⟩
 refine ⟨?_,?_,?_,?_,?_,?_,I.chk,I.flds,?_⟩
 ·intro r' hr'
  obtain ⟨r,a,hr,ha,rfl⟩:=hrow r' hr'
  obtain ⟨pa,p,pb,hp,hpl,hpa,hput,f1,f2,f3⟩:=A.fit r hr
  rw[hput,hmap]
  rw[hpa] at ha
  exact fitR_app (fitR_app f1 (args_fit f2 ht hz ha)) f3
 ·intro x hx
  rcases mem_putC hx with h | h
  ·exact I.typ x h
  ·exact hty y hy z hzy _ (fldC_mem h).2
 ·have:=nw_head (f:=conRow n (i:Int) z.flds.length) (rows:=rows) (r0:=r0) ?_ h0 hp0 ?_
  ·have h2:=I.nw
   unfold conRows;omega
  ·intro r hr r' h
   unfold conRow at h
   obtain ⟨a,ha,rfl⟩:=Option.map_eq_some_iff.1 h
   obtain ⟨pa,p,pb,hp,hpl,hpa,hput,_⟩:=A.fit r hr
   rw[hpa] at ha
   rw[hput,hp,nw_mid]
   show nwL (pa++a++pb)≤_
   rw[nw_mid']
   have:=(nwP_lt ha).1
   omega
  ·intro r' h
   unfold conRow at h
   obtain ⟨a,ha,rfl⟩:=Option.map_eq_some_iff.1 h
   obtain ⟨pa,p,pb,hp,hpl,hpa,hput,_⟩:=A.fit r0 (List.mem_of_getElem? h0)
   rw[hpa] at ha hk0
   rw[hput,hp,nw_mid]
   show nwL (pa++a++pb)<_
   rw[nw_mid']
   have:=(nwP_lt ha).2 hk0
   omega
 ·intro x hx
  have hpc:=I.path c hcm
  rcases mem_putC hx with h | h
  ·have:=I.path x h;omega
  ·have:=(fldC_mem h).1;omega
 ·have:=I.len
  rw[putC_len _ _ hnl,hfl];omega
 ·have:=List.length_filterMap_le (conRow n (i:Int) z.flds.length) rows
  have:=I.rl
  unfold conRows;omega
 ·obtain ⟨es,h1,h2,h3⟩:=I.cov
  rw[A.e,List.map_append,List.map_cons] at h1 h2 h3
  obtain ⟨ea,e,eb,rfl,hla,hlb⟩:=es_at h1
  refine ⟨ea++List.replicate z.flds.length []++eb,?_,?_,?_⟩
  ·rw[hmap];simp[hla,hlb]
  ·rw[hmap]
   intro vs hv
   obtain ⟨w,vb,rfl,d1,d3⟩:=domL_split (by simp[hla]) hv
   obtain ⟨va,av,rfl,d1,d2⟩:=domL_split hla.symm d1
   have hty2:=domL_ty d2
   have hm:=dom_mid (t:=c.ty) (e:=e) (v:=.mk 0 (i:Int) av) d1 ⟨by rw[tyV,if_neg ht];exact⟨i,z,rfl,hz,hty2⟩,fun h=>absurd h ht⟩ d3
   obtain ⟨ps,hps,hmt⟩:=h2 _ hm
   obtain ⟨r,hr,rfl⟩:=List.mem_map.1 hps
   obtain ⟨pa,p,pb,hp,hpl,hpa,hput,f1,f2,f3⟩:=A.fit r hr
   have hva:=(domL_len d1).1
   have hpv:pa.length=va.length:=by rw[hva,List.length_map,A.l,hpl]
   rw[hp,mt_mid hpv,Bool.and_eq_true,Bool.and_eq_true] at hmt
   obtain ⟨a,ha,hma⟩:=args_mt f2 ht (tyL_len hty2) hmt.2.1
   refine ⟨(putP r n a).pats,List.mem_map.2 ⟨putP r n a,List.mem_filterMap.2 ⟨r,hr,by unfold conRow;rw[hpa,ha];rfl⟩,rfl⟩,?_⟩
   rw[hput]
   show mtL (pa++a++pb) _=true
   rw[mt_mid' hpv (mtL_len hma),hmt.1,hma,hmt.2.2];rfl
  ·rw[hmap]
   intro ps hps
   obtain ⟨r',hr',rfl⟩:=List.mem_map.1 hps
   obtain ⟨r,a,hr,ha,rfl⟩:=hrow r' hr'
   obtain ⟨pa,p,pb,hp,hpl,hpa,hput,f1,f2,f3⟩:=A.fit r hr
   have hfr:=h3 r.pats (List.mem_map.2 ⟨r,hr,rfl⟩)
   have hla2:(ca.map Co.ty).length=pa.length:=by rw[List.length_map,A.l,hpl]
   rw[hp,freshL_app hla.symm hla2] at hfr
   rw[hput]
   rw[hpa] at ha
   have haf:=fitR_len (args_fit f2 ht hz ha)
   show freshL _ _ (pa++a++pb)
   rw[freshL_app (by simp[hla]) (by simp[A.l,hpl,haf]),freshL_app hla.symm hla2]
   exact⟨⟨hfr.1,freshL_none ..⟩,hfr.2.2⟩
theorem BI.same {d:List Dt} {k n:Nat} {cols:List Co} {rows:List Rw} {r0:Rw} {c:Co} (I:BI d (k+1) cols rows) (h0:rows[0]? = some r0) (hn:idxZ nwB r0.pats=(n:Int)) (hc:cols[n]? = some c) (ht:c.ty=0) :
  BI d k (putC cols n []) (sameRows n (nmP (patAt r0 n)) rows):=by
 obtain ⟨ca,cb,A⟩:=I.at hc
 obtain ⟨hk0,hp0⟩:=BI.nonwild A h0 hn
 have hnl:=(List.getElem?_eq_some_iff.1 hc).1
 have hcols:putC cols n []=ca++cb:=by rw[A.e,putC_mid A.l,List.append_nil]
 have hmap:(putC cols n []).map Co.ty=ca.map Co.ty++cb.map Co.ty:=by rw[hcols,List.map_append]
 have hrow:∀ r',r' ∈ sameRows n (nmP (patAt r0 n)) rows→∃ r,r ∈ rows∧r'=putP r n []:=by
  intro r' hr'
  obtain ⟨r,hr,hs⟩:=List.mem_filterMap.1 hr'
  split at hs
  ·cases hs;exact⟨r,hr,rfl⟩
  ·cases hs
 refine ⟨?_,?_,?_,?_,?_,?_,I.chk,I.flds,?_⟩
 ·intro r' hr'
  obtain ⟨r,hr,rfl⟩:=hrow r' hr'
  obtain ⟨pa,p,pb,hp,hpl,hpa,hput,f1,f2,f3⟩:=A.fit r hr
  rw[hput,hmap,List.append_nil]
  exact fitR_app f1 f3
 ·intro x hx
  rcases mem_putC hx with h | h
  ·exact I.typ x h
  ·cases h
 ·have:=nw_head (f:=fun r=>if sameB n (nmP (patAt r0 n)) r=true then some (putP r n []) else none) (rows:=rows) (r0:=r0) ?_ h0 hp0 ?_
  ·have h2:=I.nw
   unfold sameRows;omega
  ·intro r hr r' h
   split at h
   ·cases h
    obtain ⟨pa,p,pb,hp,hpl,hpa,hput,_⟩:=A.fit r hr
    rw[hput,hp,nw_mid,List.append_nil]
    show nwL (pa++pb)≤_
    rw[nwL_app];omega
   ·cases h
  ·intro r' h
   split at h
   ·cases h
    obtain ⟨pa,p,pb,hp,hpl,hpa,hput,_⟩:=A.fit r0 (List.mem_of_getElem? h0)
    rw[hpa] at hk0
    have:=nwP_pos hk0
    rw[hput,hp,nw_mid,List.append_nil]
    show nwL (pa++pb)<_
    rw[nwL_app];omega
   ·cases h
 ·intro x hx
  rcases mem_putC hx with h | h
  ·have:=I.path x h;omega
  ·cases h
 ·have:=I.len
  rw[putC_len _ _ hnl];simp only[List.length_nil];omega
 ·have:=List.length_filterMap_le (fun r=>if sameB n (nmP (patAt r0 n)) r=true then some (putP r n []) else none) rows
  have:=I.rl
  unfold sameRows;omega
 ·obtain ⟨es,h1,h2,h3⟩:=I.cov
  rw[A.e,List.map_append,List.map_cons] at h1 h2 h3
  obtain ⟨ea,e,eb,rfl,hla,hlb⟩:=es_at h1
  refine ⟨ea++eb,?_,?_,?_⟩
  ·rw[hmap];simp only[List.length_append,hla,hlb]
  ·rw[hmap]
   intro vs hv
   obtain ⟨va,vb,rfl,d1,d3⟩:=domL_split hla.symm hv
   have hfresh:nmP (patAt r0 n) ∉ e:=by
    have h0m:=List.mem_of_getElem? h0
    obtain ⟨pa,p,pb,hp,hpl,hpa,hput,f1,f2,f3⟩:=A.fit r0 h0m
    have hfr:=h3 r0.pats (List.mem_map.2 ⟨r0,h0m,rfl⟩)
    rw[hp,freshL_app hla.symm (by rw[List.length_map,A.l,hpl])] at hfr
    rw[hpa] at hk0 ⊢
    exact hfr.2.1 ht hk0
   have hm:=dom_mid (t:=c.ty) (e:=e) (v:=.mk (nmP (patAt r0 n)) 0 []) d1 ⟨by rw[tyV,if_pos ht];trivial,fun _=>hfresh⟩ d3
   obtain ⟨ps,hps,hmt⟩:=h2 _ hm
   obtain ⟨r,hr,rfl⟩:=List.mem_map.1 hps
   obtain ⟨pa,p,pb,hp,hpl,hpa,hput,f1,f2,f3⟩:=A.fit r hr
   have hva:=(domL_len d1).1
   have hpv:pa.length=va.length:=by rw[hva,List.length_map,A.l,hpl]
   rw[hp,mt_mid hpv,Bool.and_eq_true,Bool.and_eq_true] at hmt
   have hsb:sameB n (nmP (patAt r0 n)) r=true:=by
    unfold sameB
    rw[hpa]
    obtain ⟨pk,pc,pm,pq⟩:=p
    have hpm:=hmt.2.1
    rw[mtP] at hpm
    rcases fits_cases f2 with ⟨rfl,_⟩ | ⟨rfl,_,_,_⟩ | ⟨_,h2,_⟩
    ·rfl
    ·rw[if_neg (by decide),if_pos rfl,decide_eq_true_eq] at hpm
     rw[hpm];simp[nmP]
    ·exact absurd ht h2
   refine ⟨(putP r n []).pats,List.mem_map.2 ⟨putP r n [],List.mem_filterMap.2 ⟨r,hr,if_pos hsb⟩,rfl⟩,?_⟩
   rw[hput,List.append_nil]
   show mtL (pa++pb) _=true
   rw[mtL_app hpv,hmt.1,hmt.2.2];rfl
  ·rw[hmap]
   intro ps hps
   obtain ⟨r',hr',rfl⟩:=List.mem_map.1 hps
   obtain ⟨r,hr,rfl⟩:=hrow r' hr'
   obtain ⟨pa,p,pb,hp,hpl,hpa,hput,f1,f2,f3⟩:=A.fit r hr
   have hfr:=h3 r.pats (List.mem_map.2 ⟨r,hr,rfl⟩)
   have hla2:(ca.map Co.ty).length=pa.length:=by rw[List.length_map,A.l,hpl]
   rw[hp,freshL_app hla.symm hla2] at hfr
   rw[hput,List.append_nil]
   show freshL _ _ (pa++pb)
   rw[freshL_app hla.symm hla2]
   exact⟨hfr.1,hfr.2.2⟩
theorem filter_fm {α:Type} (p:α→Bool):∀ l:List α,l.filter p=l.filterMap fun r=>if p r=true then some r else none
 | []=>rfl
 |x::l=>by
  rw[List.filter_cons,filter_fm p l]
  by_cases h:p x=true<;>simp[h]
theorem BI.oth {d:List Dt} {k n:Nat} {cols:List Co} {rows:List Rw} {r0:Rw} {c:Co} (I:BI d (k+1) cols rows) (h0:rows[0]? = some r0) (hn:idxZ nwB r0.pats=(n:Int)) (hc:cols[n]? = some c) (ht:c.ty=0) :
  BI d k cols (othRows n (nmP (patAt r0 n)) rows):=by
 obtain ⟨ca,cb,A⟩:=I.at hc
 obtain ⟨hk0,hp0⟩:=BI.nonwild A h0 hn
 have hnl:=(List.getElem?_eq_some_iff.1 hc).1
 have hmap:cols.map Co.ty=ca.map Co.ty++c.ty::cb.map Co.ty:=by rw[A.e,List.map_append,List.map_cons]
 have hrow:∀ r',r' ∈ othRows n (nmP (patAt r0 n)) rows→r' ∈ rows∧othB n (nmP (patAt r0 n)) r'=true:=fun r' h=>List.mem_filter.1 h
 refine ⟨?_,I.typ,?_,?_,?_,?_,I.chk,I.flds,?_⟩
 ·exact fun r hr=>I.fit r (hrow r hr).1
 ·have:=nw_head (f:=fun r=>if othB n (nmP (patAt r0 n)) r=true then some r else none) (rows:=rows) (r0:=r0) ?_ h0 hp0 ?_
  ·have h2:=I.nw
   unfold othRows;rw[filter_fm];omega
  ·intro r hr r' h
   split at h<;>cases h
   exact Nat.le_refl _
  ·intro r' h
   have:othB n (nmP (patAt r0 n)) r0=false:=by unfold othB;simp[hk0]
   rw[if_neg (by rw[this];decide)] at h
   cases h
 ·intro x hx
  have:=I.path x hx;omega
 ·have:=I.len;omega
 ·have:=List.length_filter_le (othB n (nmP (patAt r0 n))) rows
  have:=I.rl
  unfold othRows;omega
 ·obtain ⟨es,h1,h2,h3⟩:=I.cov
  rw[hmap] at h1 h2 h3 ⊢
  obtain ⟨ea,e,eb,rfl,hla,hlb⟩:=es_at h1
  refine ⟨ea++(nmP (patAt r0 n)::e)::eb,by simpa using h1,?_,?_⟩
  ·intro vs hv
   obtain ⟨va,w,rfl,d1,d3⟩:=domL_split hla.symm hv
   obtain ⟨v,vb,rfl,dv,d3⟩:∃ v vb,w=v::vb∧domV d c.ty (nmP (patAt r0 n)::e) v∧domL d (cb.map Co.ty) eb vb:=by
    cases w with
    |nil=>exact d3.elim
    |cons v vb=>exact⟨v,vb,rfl,d3⟩
   have hne:=dv.2 ht
   rw[List.mem_cons,not_or] at hne
   have hm:=dom_mid (t:=c.ty) (e:=e) (v:=v) d1 ⟨dv.1,fun _=>hne.2⟩ d3
   obtain ⟨ps,hps,hmt⟩:=h2 _ hm
   obtain ⟨r,hr,rfl⟩:=List.mem_map.1 hps
   refine ⟨r.pats,List.mem_map.2 ⟨r,List.mem_filter.2 ⟨hr,?_⟩,rfl⟩,hmt⟩
   obtain ⟨pa,p,pb,hp,hpl,hpa,hput,f1,f2,f3⟩:=A.fit r hr
   have hva:=(domL_len d1).1
   have hpv:pa.length=va.length:=by rw[hva,List.length_map,A.l,hpl]
   rw[hp,mt_mid hpv,Bool.and_eq_true,Bool.and_eq_true] at hmt
   unfold othB
   rw[hpa]
   obtain ⟨pk,pc,pm,pq⟩:=p
   obtain ⟨vm,vc,vq⟩:=v
   have hpm:=hmt.2.1
   rw[mtP] at hpm
   rcases fits_cases f2 with ⟨rfl,_⟩ | ⟨rfl,_,_,_⟩ | ⟨_,h2,_⟩
   ·rfl
   ·rw[if_neg (by decide),if_pos rfl,decide_eq_true_eq] at hpm
    have h1:vm≠nmP (patAt r0 n):=hne.1
    rw[hpm] at h1
    rw[show decide (nmP (Pt.mk 2 pc pm pq)≠nmP (patAt r0 n))=true from decide_eq_true h1,Bool.or_true]
   ·exact absurd ht h2
  ·intro ps hps
   obtain ⟨r,hr',rfl⟩:=List.mem_map.1 hps
   obtain ⟨hr,hob⟩:=hrow r hr'
   obtain ⟨pa,p,pb,hp,hpl,hpa,hput,f1,f2,f3⟩:=A.fit r hr
   have hfr:=h3 r.pats (List.mem_map.2 ⟨r,hr,rfl⟩)
   have hla2:(ca.map Co.ty).length=pa.length:=by rw[List.length_map,A.l,hpl]
   rw[hp,freshL_app hla.symm hla2] at hfr ⊢
   refine ⟨hfr.1,fun h0 hk=>?_,hfr.2.2⟩
   rw[List.mem_cons,not_or]
   refine ⟨?_,hfr.2.1 h0 hk⟩
   unfold othB at hob
   rw[hpa] at hob
   simpa [hk] using hob
end Zc28
end
section
set_option maxHeartbeats 4000000
namespace Zc28
open Go Zv Zs
theorem nwB_ok (p:Pt) (h:Hp):callW tab 39 [.d (ePt p)] h=some (.d (.bool (nwB p)),h):=by
 refine call_wp (fn:=f39) rfl rfl ?_
 obtain ⟨k,c,m,qs⟩:=p
 have hc:=ePt_cells (.mk k c m qs)
 have hk:∀ b:Bool,(k == 0)=b→nwB (.mk k c m qs) = !b:=by
  intro b hb;unfold nwB wildP;rw[←hb];simp[kdP];rfl
 cases hb:(k == 0)<;>(simp only[e39,hc,ePt_cs,hb,hk _ hb,bne,wz,opX,intBin,↓reduceIte,simprocAttr]<;>repeat' (first | refine wpG_s ?_ ?_ | refine wpC_s ?_ ?_)<;>intro hgo<;>(try simp only[dq] at hgo)<;>simp only[hgo,e39,hc,ePt_cs,hb,hk _ hb,bne,wz,opX,intBin,↓reduceIte,simprocAttr])
theorem st_cell4 {X:List (Nat × Ob)} {out:List Ts} {m L:Nat} (hr:Zv.look X m=some (.arr 5 (((out++[zT]).map eT).map .d))) (hL:L=out.length+1) (n:Int) (nx:Nat) :
  st 1 ⟨X,nx⟩ (.ptr m L out.length 4) (.d (eI n))=some ⟨Zv.upd X m (.arr 5 (((out++[leafAt n]).map eT).map .d)),nx⟩:=by
 subst hL
 have hrow:(⟨X,nx⟩:Hp).row m (out.length+1)=some (5,((out++[zT]).map eT).map .d):=row_of hr (by simp)
 have e:=st_in (sz:=1) (i:=out.length) (off:=4) (x:=.d (eI n)) hrow (e:=.d (eT zT)) (by simp) rfl rfl (by show 5≤5;omega) (by omega) (by omega)
 rw[e]
 have:(((out++[zT]).map eT).map V.d).set out.length (mkAgg (List.take 4 (V.d (eT zT)).cells++(V.d (eI n)).cells++List.drop (4+1) (V.d (eT zT)).cells))=((out++[leafAt n]).map eT).map .d:=by
  have e2:mkAgg (List.take 4 (V.d (eT zT)).cells++(V.d (eI n)).cells++List.drop (4+1) (V.d (eT zT)).cells)=.d (eT (leafAt n)):=rfl
  rw[e2]
  simp[List.set_append,leafAt]
 rw[this]
 rfl
abbrev gT (p:List Int) (c:Bool) (n:Int) (v:V):V:=V.agg [.d (eIs p),.d (.bool c),.d (eI n),v,.d (eI 0)]
theorem mk_t0 (x y z w:D):mkAgg [.d x,.d y,.d z,.tl [] (some true),.d w]=V.agg [.d x,.d y,.d z,.tl [] (some true),.d w]:=rfl
theorem rowN_agg (m:Nat) (s:List D) (x y z w:D):mkAgg [.d x,.d y,.d z,rowN m 1 s,.d w]=V.agg [.d x,.d y,.d z,rowN m 1 s,.d w]:=by unfold rowN;split<;>rfl
theorem rowN_stor (m:Nat) (s:List D):stor (rowN m 1 s)=true:=by unfold rowN;split<;>rfl
theorem rowN_cells (m:Nat) (s:List D):(rowN m 1 s).cells=[rowN m 1 s]:=by unfold rowN;split<;>rfl
theorem st_num (a nx:Nat) (p:List Int) (c:Bool) (n m:Int) (L:List (Nat × Ob)):st 1 ⟨(a,.arr 5 [gT p c n (.tl [] (some true))])::L,nx⟩ (.ptr a 1 0 2) (.d (eI m))=some ⟨(a,.arr 5 [gT p c m (.tl [] (some true))])::L,nx⟩:=by
 simp[st,row_hd,stor,V.cells,D.cells,set_hd]
 rfl
theorem st_next {X:List (Nat × Ob)} {a:Nat} {p:List Int} {c:Bool} {n:Int} {v:V} (hr:Zv.look X a=some (.arr 5 [gT p c n v])) (m:Nat) (s:List D) (nx:Nat) :
  st 1 ⟨X,nx⟩ (.ptr a 1 0 3) (rowN m 1 s)=some ⟨Zv.upd X a (.arr 5 [gT p c n (rowN m 1 s)]),nx⟩:=by
 have hrow:(⟨X,nx⟩:Hp).row a 1=some (5,[gT p c n v]):=row_of hr rfl
 have e:=st_in (sz:=1) (i:=0) (off:=3) (x:=rowN m 1 s) hrow (e:=gT p c n v) rfl (rowN_stor m s) (by rw[rowN_cells];rfl) (by show 4≤5;omega) (by omega) (by omega)
 rw[e,rowN_cells]
 have:mkAgg (List.take 3 (gT p c n v).cells++[rowN m 1 s]++List.drop (3+1) (gT p c n v).cells)=gT p c n (rowN m 1 s):=rowN_agg m s _ _ _ _
 rw[this]
 rfl
theorem fz_T {X:List (Nat × Ob)} {a m q q0:Nat} {p:List Int} {c:Bool} {n:Int} {v:V} {s:List Int} (hr:Zv.look X a=some (.arr 5 [gT p c n v])) (R:RA X q q0 1 v (s.map eI) m) (ha:a<q0) :
  ∃ Y,(∀ nx,Zv.fzd ⟨X,nx⟩ (.ptr a 1 0 0)=some (.fp (eT ⟨p,c,n,s,0⟩) 0,⟨Y,nx⟩))∧∀ x,x≠a→(s≠[]→x≠m)→Zv.look Y x=Zv.look X x:=by
 obtain ⟨Y,hY,hf⟩:=ra_frz R
 have hYa:Zv.look Y a=Zv.look X a:=hf a (fun h=>by have:=R.lo h;omega)
 refine ⟨Zv.del Y a,fun nx=>?_,fun x hx hm=>?_⟩
 ·have hrow:(⟨X,nx⟩:Hp).row a 1=some (5,[gT p c n v]):=row_of hr rfl
  unfold Zv.fzd
  simp only[hrow,Option.bind_some,List.getElem?_cons_zero]
  have d1:∀ (hh:Hp) (x:D),Zv.frz hh (.d x)=some (.d x,hh):=fun _ _=>rfl
  have hfr:frzs [V.d (eIs p),.d (.bool c),.d (eI n),v,.d (eI 0)] ⟨X,nx⟩=some ([eIs p,.bool c,eI n,.lst (s.map eI),eI 0],⟨Y,nx⟩):=by
   simp only[frzs,d1,Option.bind_some,hY,Option.map_some]
  rw[hfr,Option.bind_some]
  have hs:sameAt ⟨X,nx⟩ ⟨Y,nx⟩ (.ptr a 1 0 0)=true:=by
   simp only[sameAt,Hp.get,hYa,hr,Ob.beq_refl]
  rw[if_pos hs]
  rfl
 ·rw[look_del hx]
  exact hf x (fun h=>hm (by simpa using h))
theorem st_elem {X:List (Nat × Ob)} {out:List Ts} {m L at_:Nat} (hr:Zv.look X m=some (.arr 5 ((out.map eT).map .d))) (hL:L=out.length) (ha:at_<out.length) (t:Ts) (nx:Nat) :
  st 5 ⟨X,nx⟩ (.ptr m L at_ 0) (.d (eT t))=some ⟨Zv.upd X m (.arr 5 (((out.set at_ t).map eT).map .d)),nx⟩:=by
 subst hL
 have hrow:(⟨X,nx⟩:Hp).row m out.length=some (5,(out.map eT).map .d):=row_of hr (by simp)
 obtain ⟨x,hx⟩:=get_of_lt ha
 have e:=st_all (sz:=5) (i:=at_) (x:=.d (eT t)) hrow (e:=.d (eT x)) (by simp[hx]) rfl rfl
 rw[e]
 show some (⟨Zv.upd X m _,nx⟩:Hp)=_
 rw[List.map_set,List.map_set]
theorem deep_own {H:Hp} {n n0 es:Nat} {L:List D} (hr:H.row n L.length=some (es,L.map .d)) (hn:n0≤n):deep H n0 8 (.own n es L.length 0 L.length)=some (.lst L):=by
 unfold deep
 simp only[hn,if_true,hr,Option.bind_some,List.length_map,Nat.zero_add,Nat.le_refl,List.drop_zero]
 rw[List.take_of_length_le (by simp),Zc28.deep_ds]
 rfl
theorem mkslP1 {n:Nat} (hn:n≤1000) (h:Hp):mkslO (.d (.agg [.int .i64 0,.int .i64 0,.int .i64 0,.lst []])) 4 48 h (.d (.int .i64 (n:Int)))=some (.own h.next 4 n 0 n,⟨(h.next,.arr 4 (((List.replicate n wildT).map ePt).map V.d))::h.objs,h.next+1⟩):=mkslOP hn h
theorem args_ok (p:Pt) (con:Int) (nf:Nat) (hn:nf≤1000) (h:Hp):callW tab 42 [.d (ePt p),.d (eI con),.d (.int .i64 (nf:Int))] h=some (.tup [.d (ePs ((argsFor p con nf).getD [])),.d (.bool (argsFor p con nf).isSome)],h):=by
 refine call_wp (fn:=f42) rfl rfl ?_
 obtain ⟨k,c,m,qs⟩:=p
 have hc:=ePt_cells (.mk k c m qs)
 have hmk:=fun h=>mkslP1 hn h
 cases hk:(k == 0) with
 |true=>
  have hk1:k=0:=by simpa using hk
  have hA:argsFor (.mk k c m qs) con nf=some (List.replicate nf wildT):=by unfold argsFor;exact if_pos hk1
  rw[hA]
  have hfin:finS h ⟨(h.next+1,.arr 4 (((List.replicate nf wildT).map ePt).map V.d))::h.objs,h.next+1+1⟩ [.own (h.next+1) 4 nf 0 nf,.d (.bool true)]=some (.tup [.d (ePs (List.replicate nf wildT)),.d (.bool true)],h):=by
   have hr:Hp.row ⟨(h.next+1,.arr 4 (((List.replicate nf wildT).map ePt).map V.d))::h.objs,h.next+1+1⟩ (h.next+1) ((List.replicate nf wildT).map ePt).length=some (4,((List.replicate nf wildT).map ePt).map V.d):=by rw[row_hd,if_pos (by simp)]
   have hd:=deep_own (n0:=h.next) hr (by omega)
   rw[List.length_map,List.length_replicate] at hd
   rw[finS,if_pos (suf_one _ _)]
   simp only[List.mapM_cons,List.mapM_nil,back1,hd]
   rfl
  (simp only[e42,hc,ePt_cs,hk,hmk,hfin,Option.getD_some,Option.isSome_some,wz,opX,intBin,↓reduceIte,simprocAttr]<;>repeat' (first | refine wpG_s ?_ ?_ | refine wpC_s ?_ ?_)<;>intro hgo<;>(try simp only[dq] at hgo)<;>simp only[hgo,e42,hc,ePt_cs,hk,hmk,hfin,Option.getD_some,Option.isSome_some,wz,opX,intBin,↓reduceIte,simprocAttr])
 |false=>
  have hk1:¬ k=0:=by simpa using hk
  cases hcc:(c == con) with
  |true=>
   have hA:argsFor (.mk k c m qs) con nf=some qs:=by unfold argsFor;rw[if_neg (show ¬ kdP (.mk k c m qs)=0 from hk1)];exact if_pos (show c=con from by simpa using hcc)
   rw[hA]
   (simp only[e42,hc,ePt_cs,hk,hcc,Option.getD_some,Option.isSome_some,wz,opX,intBin,↓reduceIte,simprocAttr]<;>repeat' (first | refine wpG_s ?_ ?_ | refine wpC_s ?_ ?_)<;>intro hgo<;>(try simp only[dq] at hgo)<;>simp only[hgo,e42,hc,ePt_cs,hk,hcc,Option.getD_some,Option.isSome_some,wz,opX,intBin,↓reduceIte,simprocAttr])
  |false=>
   have hA:argsFor (.mk k c m qs) con nf=none:=by unfold argsFor;rw[if_neg (show ¬ kdP (.mk k c m qs)=0 from hk1)];exact if_neg (show ¬ c=con from by simpa using hcc)
   rw[hA]
   have hfin:∀ q,finS h ⟨h.objs,q⟩ [.tl [] (some true),.d (.bool false)]=some (.tup [.d (ePs []),.d (.bool false)],h):=fun q=>finS2n h (some true) false q
   (simp only[e42,hc,ePt_cs,hk,hcc,hfin,Option.getD_none,Option.isSome_none,wz,opX,intBin,↓reduceIte,simprocAttr]<;>repeat' (first | refine wpG_s ?_ ?_ | refine wpC_s ?_ ?_)<;>intro hgo<;>(try simp only[dq] at hgo)<;>simp only[hgo,e42,hc,ePt_cs,hk,hcc,hfin,Option.getD_none,Option.isSome_none,wz,opX,intBin,↓reduceIte,simprocAttr])
theorem build_ok {d:List Dt} (S:Sml d) {ov dv bv:Nat}:∀ (k:Nat) (out:List Ts) (cols:List Co) (rows:List Rw) (X:List (Nat × Ob)) (m q:Nat),BI d k cols rows→out.length≤4097→VS d ov dv bv X out m q→ov<q→dv<q→bv<q →
  ∃ r,callW tab 37 [.d (eOs cols),.d (eWs rows),.ptr ov 1 0 0,.ptr dv 1 0 0,.ptr bv 1 0 0] ⟨X,q⟩=some r ∧
   ∃ m' X' q',r=(.d (eI (buildS d k out cols rows).2),⟨X',q'⟩)∧VB d ov dv bv X' (buildS d k out cols rows).1 m'∧m'<q'∧q≤q'∧(out≠[]→m'=m)∧(out=[]→q≤m')∧FrB ov m' q X X':=by
 intro k
 induction k with
 |zero=>intro out cols rows X m q I;have:=I.nw;omega
 |succ k ih=>
  intro out cols rows X m q I hol VV ho hd hb
  refine call_wpE (fn:=f37) rfl rfl ?_
  by_cases h4:4096<out.length
  ·have hB:buildS d (k+1) out cols rows=(out,(out.length:Int)):=by unfold buildS;rw[if_pos h4]
   have h4':(4096:Int)<(out.length:Int):=by omega
   rcases VV with ⟨h0,VV,hm⟩ | ⟨rfl,_⟩
   ·have hrw:=fun nx=>row_of (q:=nx) VV.iov (tot:=1) rfl
    (simp only[e37,hrw,h4',wz,opX,intBin,↓reduceIte,simprocAttr]<;>repeat' (first | refine wpG_s ?_ ?_ | refine wpC_s ?_ ?_)<;>intro hgo<;>(try simp only[dq] at hgo)<;>simp only[hgo,e37,hrw,h4',wz,opX,intBin,↓reduceIte,simprocAttr])
    exact⟨_,rfl,m,X,q,by rw[hB],by rw[hB];exact VV,hm,Nat.le_refl _,fun _=>rfl,fun h=>absurd h h0,fun _ _ _ _=>rfl⟩
   ·simp at h4
  ·have h4':¬ (4096:Int)<(out.length:Int):=by omega
   have hB0:buildS d (k+1) out cols rows=bldB d (buildS d k) cols rows out:=by rw[buildS,if_neg h4]
   obtain ⟨r0,hr0⟩:∃ r0,rows[0]? = some r0:=get_of_lt (List.length_pos_iff.2 I.ne)
   have hB1:bldB d (buildS d k) cols rows out=bldK d (buildS d k) cols rows r0 (idxZ nwB r0.pats) out:=by
    cases rows with
    |nil=>cases hr0
    |cons x rs=>cases hr0;rfl
   rw[hB0,hB1]
   have hr0m:=List.mem_of_getElem? hr0
   have hfit:=I.fit r0 hr0m
   have hpl:=fitR_len hfit
   rw[List.length_map] at hpl
   have hcl:=I.len
   obtain ⟨w,outL,hrw,hcell,hlen,m',X2,q2,H1,happ,hst,V2,hm2,hq2,hmm,hm0,F2⟩:=vs_add VV ho hd hb (by omega)
   have ia0:ia 2 (.d (.lst (rows.map eW))) (.d (.int .i64 0))=some (.fp (eW r0) 0):=iaW hr0
   have hidx:=fun h=>idxFP r0.pats (.clo 39 []) nwB h (by omega) rfl (fun c _=>by rw[cW_clo,if_neg (by decide)];exact nwB_ok c h)
   have hrw2:=fun nx=>row_of (q:=nx) V2.iov (tot:=1) rfl
   rw[List.length_append,List.length_cons,List.length_nil,Nat.zero_add] at hrw2
   have hio:=ia_own (es:=5) (n:=m') (tot:=out.length+1) .i64 (show out.length<out.length+1 by omega)
   rcases idxZ_cases nwB r0.pats with hz | ⟨n,p,hz,hp,hpn⟩
   ·have hB2:bldK d (buildS d k) cols rows r0 (idxZ nwB r0.pats) out=(out++[leafAt r0.n],(out.length:Int)):=by rw[hz];rfl
    rw[hB2]
    rw[hz] at hidx
    have hst4:=fun nx=>st_cell4 V2.irow (L:=out.length+1) rfl r0.n nx
    (simp only[e37,hrw,hcell,hlen,h4',mk_z1,mk_z,happ,hst,ia0,hidx,hrw2,hio,hst4,wz,opX,intBin,↓reduceIte,simprocAttr]<;>repeat' (first | refine wpG_s ?_ ?_ | refine wpC_s ?_ ?_)<;>intro hgo<;>(try simp only[dq] at hgo)<;>simp only[hgo,e37,hrw,hcell,hlen,h4',mk_z1,mk_z,happ,hst,ia0,hidx,hrw2,hio,hst4,wz,opX,intBin,↓reduceIte,simprocAttr])
    refine ⟨_,rfl,m',_,q2,rfl,V2.put (by simp),hm2,hq2,hmm,hm0,?_⟩
    intro x hx h1 h2
    rw[Zs.look_upd,if_neg h2];exact F2 x hx h1 h2
   ·have hnl:n<cols.length:=by have:=(List.getElem?_eq_some_iff.1 hp).1;omega
    obtain ⟨c,hc⟩:=get_of_lt hnl
    have hB2:bldK d (buildS d k) cols rows r0 (idxZ nwB r0.pats) out=if c.ty=0 then bldN (buildS d k) cols rows r0 n c out else bldC d (buildS d k) cols rows n c out:=by
     rw[hz];unfold bldK;rw[getI_nat,hc];rfl
    rw[hB2]
    have hcm:=List.mem_of_getElem? hc
    have hcp:=I.path c hcm
    have hct:=I.typ c hcm
    have hcl2:=fun h=>cloneI_ok c.path (by omega) h
    have hn0:¬ ((n:Nat):Int)<0:=by omega
    rw[hz] at hidx
    have hpat:patAt r0 n=p:=by unfold patAt;rw[List.getD_eq_getElem?_getD,hp];rfl
    cases hty:(c.ty == 0) with
    |true=>
     have hty2:c.ty=0:=by simpa using hty
     rw[if_pos hty2]
     have I1:=I.same hr0 hz hc hty2
     have I2:=I.oth hr0 hz hc hty2
     rw[hpat] at I1 I2
     obtain ⟨pk,pc,pm,pq⟩:=p
     have hB3:bldN (buildS d k) cols rows r0 n c out=((buildS d k (buildS d k (out++[zT]) (putC cols n []) (sameRows n pm rows)).1 cols (othRows n pm rows)).1.set out.length ⟨c.path,false,pm,[(buildS d k (out++[zT]) (putC cols n []) (sameRows n pm rows)).2,(buildS d k (buildS d k (out++[zT]) (putC cols n []) (sameRows n pm rows)).1 cols (othRows n pm rows)).2],0⟩,(out.length:Int)):=by
      unfold bldN;rw[hpat];rfl
     rw[hB3]
     have hiaP:=iaP hp
     rw[ePt_mk] at hiaP
     have hsn:=fun a nx L=>st_num a nx c.path false 0 pm L
     (simp only[e37,hrw,hcell,hlen,h4',mk_z1,mk_z,happ,hst,ia0,hidx,hrw2,hn0,iaO hc,hcl2,hty,bne,mk_t0,hiaP,hsn,wz,opX,intBin,↓reduceIte,simprocAttr]<;>repeat' (first | refine wpG_s ?_ ?_ | refine wpC_s ?_ ?_)<;>intro hgo<;>(try simp only[dq] at hgo)<;>simp only[hgo,e37,hrw,hcell,hlen,h4',mk_z1,mk_z,happ,hst,ia0,hidx,hrw2,hn0,iaO hc,hcl2,hty,bne,mk_t0,hiaP,hsn,wz,opX,intBin,↓reduceIte,simprocAttr])
     have hm2':m'<q2:=hm2
     have k1:∀ x,x<q2→Zv.look ((q2,Ob.arr 5 [gT c.path false pm (.tl [] (some true))])::X2) x=Zv.look X2 x:=fun x hx=>look_tl _ _ (by omega)
     have k2:Zv.look ((q2,Ob.arr 5 [gT c.path false pm (.tl [] (some true))])::X2) q2=some (.arr 5 [gT c.path false pm (.tl [] (some true))]):=look_hd ..
     generalize ((q2,Ob.arr 5 [gT c.path false pm (.tl [] (some true))])::X2)=X3 at k1 k2 ⊢
     have V3:VB d ov dv bv X3 (out++[zT]) m':=V2.same (k1 _ (by omega)) (k1 _ (by omega)) (k1 _ (by omega)) (k1 _ (by omega))
     have hrl:=I.rl
     refine loop_wp rows.length (fun i e h'=>∃ Y qq m1 v1 m3 v3,h'=⟨Y,qq⟩∧RA Y qq (q2+1) 2 v1 ((sameRows n pm (rows.take i)).map eW) m1∧RA Y qq (q2+1) 2 v3 ((othRows n pm (rows.take i)).map eW) m3∧((sameRows n pm (rows.take i)).map eW≠[]→(othRows n pm (rows.take i)).map eW≠[]→m1≠m3)∧q2+1≤qq∧(∀ x,x<q2+1→Zv.look Y x=Zv.look X3 x) ∧
      e=[(0,.d (eOs cols)),(2,.ptr ov 1 0 0),(4,.ptr bv 1 0 0),(8,.d (.int .i64 (out.length:Int))),(9,.d (eI n)),(10,.ptr q2 1 0 0),(21,v1),(22,v3),(161,.d (eWs rows)),(162,.d (.int .i64 rows.length)),(163,.d (.int .i64 (i:Int)))]) _ ?_ ?_ rows.length 0 _ _ (by omega) ⟨X3,q2+1,0,_,0,_,rfl,RA.nil ..,RA.nil ..,fun h=>absurd rfl h,Nat.le_refl _,fun _ _=>rfl,rfl⟩
     ·rintro i e h' hi ⟨Y,qq,m1,v1,m3,v3,rfl,R1,R3,hdi,hqq,hfr,rfl⟩
      obtain ⟨r,hr⟩:=get_of_lt hi
      have hwr:IntKind.i64.wrap ((i:Int)+1)=((i+1:Nat):Int):=by rw[wrap_ok (by omega) (by omega)];rfl
      have hrf:=fitR_len (I.fit r (List.mem_of_getElem? hr))
      rw[List.length_map] at hrf
      obtain ⟨pr,hpr⟩:=get_of_lt (l:=r.pats) (n:=n) (by omega)
      have hpa:patAt r n=pr:=by unfold patAt;rw[List.getD_eq_getElem?_getD,hpr];rfl
      have hrep:=fun h=>replP_ok r.pats n [] (by omega) (by omega) (by simp) h
      have hrep:∀ h,callW tab 43 [.d (ePs r.pats),.d (.int .i64 (n:Int)),.d (.lst [])] h=some (.d (ePs (putP r n []).pats),h):=hrep
      have hcW:(eW r).cells.length=2:=rfl
      have hiaR:=iaP hpr
      have hss:=same_snoc n pm hr
      have hso:=oth_snoc n pm hr
      have hsl:(sameRows n pm (rows.take i)).length≤6:=by
       have:=List.length_filterMap_le (fun r=>if sameB n pm r=true then some (putP r n []) else none) (rows.take i)
       rw[List.length_take] at this;unfold sameRows;omega
      have hol3:(othRows n pm (rows.take i)).length≤6:=by
       have:=List.length_filter_le (othB n pm) (rows.take i)
       rw[List.length_take] at this;unfold othRows;omega
      obtain ⟨qk,qc,qm,qs⟩:=pr
      rw[ePt_mk] at hiaR
      have hcP:(D.agg [.int .i64 qk,.int .i64 qc,.int .i64 qm,.lst (qs.map ePt)]).cells.length=4:=rfl
      have r10:=fun nx=>row_of (q:=nx) (show Zv.look Y q2=some (.arr 5 [gT c.path false pm (.tl [] (some true))]) by rw[hfr q2 (by omega)];exact k2) (tot:=1) rfl
      have R1':=R1.mono (q':=qq+1+1) (by omega) (fun _=>rfl)
      have R3':=R3.mono (q':=qq+1+1) (by omega) (fun _=>rfl)
      have hb1:(((sameRows n pm (rows.take i)).map eW).length+1)*32≤roomB:=by rw[List.length_map];unfold roomB;omega
      have hb3:(((othRows n pm (rows.take i)).map eW).length+1)*32≤roomB:=by rw[List.length_map];unfold roomB;omega
      cases hk0:(qk == 0) with
      |true=>
       have hsb:sameB n pm r=true:=by unfold sameB;rw[hpa];show (decide (qk=0) || _)=true;rw[show decide (qk=0)=(qk == 0) from rfl,hk0];rfl
       have hob:othB n pm r=true:=by unfold othB;rw[hpa];show (decide (qk=0) || _)=true;rw[show decide (qk=0)=(qk == 0) from rfl,hk0];rfl
       rw[hsb,if_pos rfl] at hss
       rw[hob,if_pos rfl] at hso
       obtain ⟨v1',Y1,q1,m1',e1,R1a,R3a,hd1,hqa,hfa⟩:=ra_app2 (nl:=some false) (x:=eW (putP r n [])) R1' R3' hdi (by omega) rfl hb1
       obtain ⟨v3',Y3,q3,m3',e3,R3b,R1b,hd3,hqb,hfb⟩:=ra_app2 (nl:=some false) (x:=eW r) R3a R1a (fun h1 _=>fun e=>hd1 h1 e.symm) (by omega) rfl hb3
       have e1:app 2 32 ⟨Y,qq+1+1⟩ v1 (.tl [.d (D.agg [eI r.n,ePs (putP r n []).pats])] (some false))=_:=e1
       have e3:app 2 32 ⟨Y1,q1⟩ v3 (.tl [.d (D.agg [eI r.n,ePs r.pats])] (some false))=_:=e3
       (simp only[e37,hi,iaW hr,hcW,hiaR,hcP,hk0,hrep,e1,e3,hwr,wz,opX,intBin,↓reduceIte,simprocAttr]<;>repeat' (first | refine wpG_s ?_ ?_ | refine wpC_s ?_ ?_)<;>intro hgo<;>(try simp only[dq] at hgo)<;>simp only[hgo,e37,hi,iaW hr,hcW,hiaR,hcP,hk0,hrep,e1,e3,hwr,wz,opX,intBin,↓reduceIte,simprocAttr])
       refine ⟨Y3,q3,m1',v1',m3',v3',rfl,?_,?_,fun _ _=>fun e=>hd3 (by simp) e.symm,by omega,fun x hx=>by rw[hfb x hx,hfa x hx,hfr x hx],rfl⟩
       ·rw[hss,List.map_append];exact R1b
       ·rw[hso,List.map_append];exact R3b
      |false=>
       have hk1:decide (qk=0)=false:=by rw[←hk0];rfl
       cases hnm:(qm == pm) with
       |true=>
        have hnm1:qm=pm:=by simpa using hnm
        have hsb:sameB n pm r=true:=by unfold sameB;rw[hpa];show (decide (qk=0) || decide (qm=pm))=true;rw[hk1,decide_eq_true hnm1];rfl
        have hob:othB n pm r=false:=by unfold othB;rw[hpa];show (decide (qk=0) || decide (qm≠pm))=false;rw[hk1,decide_eq_false (by simp[hnm1])];rfl
        rw[hsb,if_pos rfl] at hss
        rw[hob,if_neg (by simp),List.append_nil] at hso
        obtain ⟨v1',Y1,q1,m1',e1,R1a,R3a,hd1,hqa,hfa⟩:=ra_app2 (nl:=some false) (x:=eW (putP r n [])) R1' R3' hdi (by omega) rfl hb1
        have e1:app 2 32 ⟨Y,qq+1+1⟩ v1 (.tl [.d (D.agg [eI r.n,ePs (putP r n []).pats])] (some false))=_:=e1
        have r10b:=fun nx=>row_of (q:=nx) (show Zv.look Y1 q2=some (.arr 5 [gT c.path false pm (.tl [] (some true))]) by rw[hfa q2 (by omega),hfr q2 (by omega)];exact k2) (tot:=1) rfl
        (simp only[e37,hi,iaW hr,hcW,hiaR,hcP,hk0,r10,r10b,hnm,bne,hrep,e1,hwr,wz,opX,intBin,↓reduceIte,simprocAttr]<;>repeat' (first | refine wpG_s ?_ ?_ | refine wpC_s ?_ ?_)<;>intro hgo<;>(try simp only[dq] at hgo)<;>simp only[hgo,e37,hi,iaW hr,hcW,hiaR,hcP,hk0,r10,r10b,hnm,bne,hrep,e1,hwr,wz,opX,intBin,↓reduceIte,simprocAttr])
        refine ⟨Y1,q1,m1',v1',m3,v3,rfl,?_,?_,fun _ h=>hd1 (by rw[hso] at h;exact h),by omega,fun x hx=>by rw[hfa x hx,hfr x hx],rfl⟩
        ·rw[hss,List.map_append];exact R1a
        ·rw[hso];exact R3a
       |false=>
        have hnm1:qm≠pm:=by simpa using hnm
        have hsb:sameB n pm r=false:=by unfold sameB;rw[hpa];show (decide (qk=0) || decide (qm=pm))=false;rw[hk1,decide_eq_false hnm1];rfl
        have hob:othB n pm r=true:=by unfold othB;rw[hpa];show (decide (qk=0) || decide (qm≠pm))=true;rw[hk1,decide_eq_true hnm1];rfl
        rw[hsb,if_neg (by simp),List.append_nil] at hss
        rw[hob,if_pos rfl] at hso
        obtain ⟨v3',Y3,q3,m3',e3,R3b,R1b,hd3,hqb,hfb⟩:=ra_app2 (nl:=some false) (x:=eW r) R3' R1' (fun h1 h2=>fun e=>hdi h2 h1 e.symm) (by omega) rfl hb3
        have e3:app 2 32 ⟨Y,qq+1+1⟩ v3 (.tl [.d (D.agg [eI r.n,ePs r.pats])] (some false))=_:=e3
        (simp only[e37,hi,iaW hr,hcW,hiaR,hcP,hk0,r10,hnm,bne,hrep,e3,hwr,wz,opX,intBin,↓reduceIte,simprocAttr]<;>repeat' (first | refine wpG_s ?_ ?_ | refine wpC_s ?_ ?_)<;>intro hgo<;>(try simp only[dq] at hgo)<;>simp only[hgo,e37,hi,iaW hr,hcW,hiaR,hcP,hk0,r10,hnm,bne,hrep,e3,hwr,wz,opX,intBin,↓reduceIte,simprocAttr])
        refine ⟨Y3,q3,m1,v1,m3',v3',rfl,?_,?_,fun h _=>fun e=>hd3 (by rw[hss] at h;exact h) e.symm,by omega,fun x hx=>by rw[hfb x hx,hfr x hx],rfl⟩
        ·rw[hss];exact R1b
        ·rw[hso,List.map_append];exact R3b
     ·rintro e h' ⟨Y,qq,m1,v1,m3,v3,rfl,R1,R3,hdi,hqq,hfr,rfl⟩
      rw[List.take_length] at R1 R3 hdi
      obtain ⟨Y1,hz1,hf1⟩:=ra_frz R1
      have hY1:∀ x,x<q2+1→Zv.look Y1 x=Zv.look X3 x:=fun x hx=>by rw[hf1 x (fun h=>by have:=R1.lo h;omega),hfr x hx]
      have R3a:RA Y1 qq (q2+1) 2 v3 ((othRows n pm rows).map eW) m3:=R3.mono (Nat.le_refl _) fun h3=>hf1 m3 fun h1 e=>hdi h1 h3 e.symm
      have V4:VB d ov dv bv Y1 (out++[zT]) m':=V3.same (hY1 _ (by omega)) (hY1 _ (by omega)) (hY1 _ (by omega)) (hY1 _ (by omega))
      obtain ⟨r1,hv1,ma,Xa,qa,rfl,V5,hma,hqa,hme,_,F5⟩:=ih (out++[zT]) (putC cols n []) (sameRows n pm rows) Y1 m' qq I1 (by simp;omega) (.inl ⟨by simp,V4,by omega⟩) (by omega) (by omega) (by omega)
      obtain rfl:ma=m':=hme (by simp)
      have L1:=(buildS_len d k (out++[zT]) (putC cols n []) (sameRows n pm rows))
      rw[List.length_append,List.length_cons,List.length_nil] at L1
      have hrpO:=fun h=>replO_ok cols n [] hnl (by omega) (by simp) h
      have hrpO:∀ h,callW tab 44 [.d (eOs cols),.d (.int .i64 (n:Int)),.d (.lst [])] h=some (.d (eOs (putC cols n [])),h):=hrpO
      have rb1:=fun nx=>row_of (q:=nx) V4.ibv (tot:=1) rfl
      generalize buildS d k (out++[zT]) (putC cols n []) (sameRows n pm rows)=Q1 at hv1 V5 L1 ⊢
      have hne1:Q1.1≠[]:=fun h=>by rw[h] at L1;simp at L1
      have hXa2:Zv.look Xa q2=some (.arr 5 [gT c.path false pm (.tl [] (some true))]):=by rw[F5 q2 (by omega) (by omega) (by omega),hY1 q2 (by omega)];exact k2
      have hst3:=st_next (X:=(qa,.arr 1 [.d (eI Q1.2),.d (.int .i64 0)])::Xa) (a:=q2) (by rw[look_tl _ _ (by omega)];exact hXa2) qa [eI Q1.2,eI 0] (qa+1)
      have hst3:st 1 ⟨(qa,.arr 1 [.d (eI Q1.2),.d (.int .i64 0)])::Xa,qa+1⟩ (.ptr q2 1 0 3) (.own qa 1 2 0 2)=some ⟨Zv.upd ((qa,.arr 1 [.d (eI Q1.2),.d (.int .i64 0)])::Xa) q2 (.arr 5 [gT c.path false pm (.own qa 1 2 0 2)]),qa+1⟩:=hst3
      have hb0:∀ x,x≠q2→x≠qa→Zv.look (Zv.upd ((qa,.arr 1 [.d (eI Q1.2),.d (.int .i64 0)])::Xa) q2 (.arr 5 [gT c.path false pm (.own qa 1 2 0 2)])) x=Zv.look Xa x:=fun x h1 h2=>by rw[Zs.look_upd,if_neg h1,look_tl _ _ h2]
      have hb1:Zv.look (Zv.upd ((qa,.arr 1 [.d (eI Q1.2),.d (.int .i64 0)])::Xa) q2 (.arr 5 [gT c.path false pm (.own qa 1 2 0 2)])) q2=some (.arr 5 [gT c.path false pm (.own qa 1 2 0 2)]):=by rw[Zs.look_upd,if_pos rfl,look_tl _ _ (by omega),hXa2];rfl
      have hb2:Zv.look (Zv.upd ((qa,.arr 1 [.d (eI Q1.2),.d (.int .i64 0)])::Xa) q2 (.arr 5 [gT c.path false pm (.own qa 1 2 0 2)])) qa=some (.arr 1 [.d (eI Q1.2),.d (.int .i64 0)]):=by rw[Zs.look_upd,if_neg (by omega),look_hd]
      generalize Zv.upd ((qa,.arr 1 [.d (eI Q1.2),.d (.int .i64 0)])::Xa) q2 (.arr 5 [gT c.path false pm (.own qa 1 2 0 2)])=Xb at hst3 hb0 hb1 hb2
      have R3b:RA Xb (qa+1) (q2+1) 2 v3 ((othRows n pm rows).map eW) m3:=R3a.mono (by omega) fun h3=>by
       have h5:=R3a.lo h3
       have h6:=R3a.hi h3
       rw[hb0 m3 (by omega) (by omega),F5 m3 h6 (by omega) (by omega)]
      obtain ⟨Y2,hz2,hf2⟩:=ra_frz R3b
      have hY2:∀ x,x<q2+1→Zv.look Y2 x=Zv.look Xb x:=fun x hx=>hf2 x (fun h=>by have:=R3b.lo h;omega)
      have hY2a:Zv.look Y2 qa=some (.arr 1 [.d (eI Q1.2),.d (.int .i64 0)]):=by rw[hf2 qa (fun h=>by have:=R3a.hi h;omega)];exact hb2
      have hY2t:Zv.look Y2 q2=some (.arr 5 [gT c.path false pm (.own qa 1 2 0 2)]):=by rw[hY2 q2 (by omega)];exact hb1
      have V6:VB d ov dv bv Y2 Q1.1 ma:=V5.same (by rw[hY2 _ (by omega),hb0 _ (by omega) (by omega)]) (by rw[hY2 _ (by omega),hb0 _ (by omega) (by omega)]) (by rw[hY2 _ (by omega),hb0 _ (by omega) (by omega)]) (by rw[hY2 _ (by omega),hb0 _ (by omega) (by omega)])
      obtain ⟨r2,hv2,mb,Xc,qc,rfl,V7,hmb,hqc,hme2,_,F7⟩:=ih Q1.1 cols (othRows n pm rows) Y2 ma (qa+1) I2 (L1.2 (by omega)) (.inl ⟨hne1,V6,by omega⟩) (by omega) (by omega) (by omega)
      obtain rfl:mb=ma:=hme2 hne1
      have L2:=(buildS_len d k Q1.1 cols (othRows n pm rows))
      generalize buildS d k Q1.1 cols (othRows n pm rows)=Q2 at hv2 V7 L2 ⊢
      have rb2:=fun nx=>row_of (q:=nx) V6.ibv (tot:=1) rfl
      have rt2:=fun nx=>row_of (q:=nx) hY2t (tot:=1) rfl
      have hldk:∀ nx,ldk false 1 ⟨Y2,nx⟩ (.ptr q2 1 0 0) (.ptr q2 1 0 3)=some (.own qa 1 2 0 2):=by
       intro nx;simp[ldk,ld,rt2,partV,V.cells]
      have hXct:Zv.look Xc q2=Zv.look Y2 q2:=F7 q2 (by omega) (by omega) (by omega)
      have hsm:∀ n1,sameAt ⟨Y2,n1⟩ ⟨Xc,qc⟩ (.ptr q2 1 0 0)=true:=by
       intro n1;simp only[sameAt,Hp.get,hXct,hY2t,Ob.beq_refl]
      have hXca:Zv.look Xc qa=some (.arr 1 [.d (eI Q1.2),.d (.int .i64 0)]):=by rw[F7 qa (by omega) (by omega) (by omega)];exact hY2a
      have hia1:ia 1 (.own qa 1 2 0 2) (.d (.int .i64 1))=some (.ptr qa 2 1 0):=ia_own (n:=qa) (tot:=2) .i64 (show 1<2 by omega)
      have hst5:st 1 ⟨Xc,qc⟩ (.ptr qa 2 1 0) (.d (eI Q2.2))=some ⟨Zv.upd Xc qa (.arr 1 [.d (eI Q1.2),.d (eI Q2.2)]),qc⟩:=by
       exact st_all (sz:=1) (i:=1) (x:=.d (eI Q2.2)) (row_of (tot:=2) hXca rfl) (e:=.d (.int .i64 0)) rfl rfl rfl
      have hd0:∀ x,x≠qa→Zv.look (Zv.upd Xc qa (.arr 1 [.d (eI Q1.2),.d (eI Q2.2)])) x=Zv.look Xc x:=fun x h=>by rw[Zs.look_upd,if_neg h]
      have hd1:Zv.look (Zv.upd Xc qa (.arr 1 [.d (eI Q1.2),.d (eI Q2.2)])) qa=some (.arr 1 [.d (eI Q1.2),.d (eI Q2.2)]):=by rw[Zs.look_upd,if_pos rfl,hXca];rfl
      generalize Zv.upd Xc qa (.arr 1 [.d (eI Q1.2),.d (eI Q2.2)])=Xd at hst5 hd0 hd1
      obtain ⟨Ye,hz3,hf3⟩:=fz_T (X:=Xd) (a:=q2) (m:=qa) (q:=qc) (q0:=q2+1) (s:=[Q1.2,Q2.2]) (by rw[hd0 q2 (by omega),hXct];exact hY2t) ⟨rfl,fun _=>hd1,fun _=>by omega,fun _=>by omega⟩ (by omega)
      have hYe:∀ x,x≠q2→x≠qa→Zv.look Ye x=Zv.look Xc x:=fun x h1 h2=>by rw[hf3 x h1 (fun _=>h2),hd0 x h2]
      have V8:VB d ov dv bv Ye Q2.1 mb:=V7.same (hYe _ (by omega) (by omega)) (hYe _ (by omega) (by omega)) (hYe _ (by omega) (by omega)) (hYe _ (by omega) (by omega))
      have rw8:=fun nx=>row_of (q:=nx) V8.iov (tot:=1) rfl
      have hio8:=ia_own (es:=5) (n:=mb) (tot:=Q2.1.length) .i64 (show out.length<Q2.1.length by omega)
      have hst8:=fun nx=>st_elem V8.irow (L:=Q2.1.length) rfl (show out.length<Q2.1.length by omega) ⟨c.path,false,pm,[Q1.2,Q2.2],0⟩ nx
      have hst8:∀ nx,st 5 ⟨Ye,nx⟩ (.ptr mb Q2.1.length out.length 0) (.d (D.agg [eIs c.path,.bool false,eI pm,eIs [Q1.2,Q2.2],eI 0]))=_:=hst8
      (simp only[e37,hz1,rb1,hrpO,hv1,hst3,hz2,hldk,rb2,hv2,hsm,hia1,hst5,hz3,rw8,hio8,hst8,wz,opX,intBin,↓reduceIte,simprocAttr]<;>repeat' (first | refine wpG_s ?_ ?_ | refine wpC_s ?_ ?_)<;>intro hgo<;>(try simp only[dq] at hgo)<;>simp only[hgo,e37,hz1,rb1,hrpO,hv1,hst3,hz2,hldk,rb2,hv2,hsm,hia1,hst5,hz3,rw8,hio8,hst8,wz,opX,intBin,↓reduceIte,simprocAttr])
      refine ⟨_,rfl,mb,_,qc,rfl,V8.put (by rw[List.length_set]),hmb,by omega,hmm,hm0,?_⟩
      intro x hx h1 h2
      rw[Zs.look_upd,if_neg h2,hYe x (by omega) (by omega),F7 x (by omega) h1 h2,hY2 x (by omega),hb0 x (by omega) (by omega),F5 x (by omega) h1 h2,hY1 x (by omega),k1 x (by omega)]
      exact F2 x hx h1 h2
    |false=>
     have hty2:c.ty≠0:=by simpa using hty
     rw[if_neg hty2]
     obtain ⟨n',y,hct2,hy⟩:∃ (n':Nat) (y:Dt),c.ty=(n':Int)+1∧d[n']? = some y:=by
      rcases tcase d c.ty with h | h | h
      ·exfalso;unfold isT at hct;simp only[Bool.and_eq_true,decide_eq_true_eq] at hct;omega
      ·exfalso;unfold isT at hct;simp only[Bool.and_eq_true,decide_eq_true_eq] at hct;omega
      ·exact h
     have hym:=List.mem_of_getElem? hy
     have hyl:=(S.ds y hym).2.1
     have hdl:=S.len
     have hnd:=(List.getElem?_eq_some_iff.1 hy).1
     have hws:=wrap_sub1 (n:=n') (by omega)
     have hco:consOf d c.ty=y.cons:=by rw[hct2];exact consOf_at hy
     have hB3:bldC d (buildS d k) cols rows n c out=((conL (buildS d k) cols rows n c 0 y.cons (out++[zT]) []).1.set out.length ⟨c.path,true,0,(conL (buildS d k) cols rows n c 0 y.cons (out++[zT]) []).2,0⟩,(out.length:Int)):=by
      unfold bldC;rw[hco]
     rw[hB3]
     have rd:=fun o nx=>row_cn (n:=dv) (m:=q2) (o:=o) (nx:=nx) (by omega) (fun nx=>row_of (q:=nx) V2.idv (tot:=1) rfl)
     (simp only[e37,hrw,hcell,hlen,h4',mk_z1,mk_z,happ,hst,ia0,hidx,hrw2,hn0,iaO hc,hcl2,hty,bne,mk_t0,hct2,rd,hws,iaD hy,wz,opX,intBin,↓reduceIte,simprocAttr]<;>repeat' (first | refine wpG_s ?_ ?_ | refine wpC_s ?_ ?_)<;>intro hgo<;>(try simp only[dq] at hgo)<;>simp only[hgo,e37,hrw,hcell,hlen,h4',mk_z1,mk_z,happ,hst,ia0,hidx,hrw2,hn0,iaO hc,hcl2,hty,bne,mk_t0,hct2,rd,hws,iaD hy,wz,opX,intBin,↓reduceIte,simprocAttr])
     have hm2':m'<q2:=hm2
     have k1:∀ x,x<q2→Zv.look ((q2,Ob.arr 5 [gT c.path true 0 (.tl [] (some true))])::X2) x=Zv.look X2 x:=fun x hx=>look_tl _ _ (by omega)
     have k2:Zv.look ((q2,Ob.arr 5 [gT c.path true 0 (.tl [] (some true))])::X2) q2=some (.arr 5 [gT c.path true 0 (.tl [] (some true))]):=look_hd ..
     generalize ((q2,Ob.arr 5 [gT c.path true 0 (.tl [] (some true))])::X2)=X3 at k1 k2 ⊢
     have V3:VB d ov dv bv X3 (out++[zT]) m':=V2.same (k1 _ (by omega)) (k1 _ (by omega)) (k1 _ (by omega)) (k1 _ (by omega))
     have hrl:=I.rl
     refine loop_wp y.cons.length (fun i e h'=>∃ Xi qi o nxs m10 v10,h'=⟨Xi,qi⟩∧VB d ov dv bv Xi o m'∧Zv.look Xi q2=some (.arr 5 [gT c.path true 0 v10])∧RA Xi qi (q2+1) 1 v10 (nxs.map eI) m10∧q2+1≤qi∧(∀ x,x<q2→x≠ov→x≠m'→Zv.look Xi x=Zv.look X3 x)∧out.length+1≤o.length∧o.length≤4097∧nxs.length=i ∧
      conL (buildS d k) cols rows n c 0 y.cons (out++[zT]) []=conL (buildS d k) cols rows n c i (y.cons.drop i) o nxs ∧
      e=[(0,.d (eOs cols)),(1,.d (eWs rows)),(2,.ptr ov 1 0 0),(4,.ptr bv 1 0 0),(8,.d (.int .i64 (out.length:Int))),(9,.d (eI n)),(10,.ptr q2 1 0 0),(79,.d (.lst (y.cons.map eC))),(80,.d (.int .i64 y.cons.length)),(81,.d (.int .i64 (i:Int)))]) _ ?_ ?_ y.cons.length 0 _ _ (by omega) ⟨X3,q2+1,out++[zT],[],0,_,rfl,V3,k2,RA.nil ..,Nat.le_refl _,fun _ _ _ _=>rfl,by simp,by simp;omega,rfl,rfl,rfl⟩
     ·rintro i e h' hi ⟨Xi,qi,o,nxs,m10,v10,rfl,Vi,hti,R10,hqi,hfi,ho1,ho2,hnx,hch,rfl⟩
      obtain ⟨z,hz1⟩:=get_of_lt hi
      have hzm:=List.mem_of_getElem? hz1
      have hzf:=((S.ds y hym).2.2 z hzm).2
      have hwr:IntKind.i64.wrap ((i:Int)+1)=((i+1:Nat):Int):=by rw[wrap_ok (by omega) (by omega)];rfl
      rw[drop_at hz1] at hch
      have hIc:=I.con hr0 hz hc hty2 (by rw[hco];exact hz1)
      have hcC:(eC z).cells.length=2:=rfl
      (simp only[e37,hi,iaC hz1,hcC,wz,opX,intBin,↓reduceIte,simprocAttr]<;>repeat' (first | refine wpG_s ?_ ?_ | refine wpC_s ?_ ?_)<;>intro hgo<;>(try simp only[dq] at hgo)<;>simp only[hgo,e37,hi,iaC hz1,hcC,wz,opX,intBin,↓reduceIte,simprocAttr])
      refine loop_wp z.flds.length (fun j e h'=>∃ Y qq m13 v13,h'=⟨Y,qq⟩∧RA Y qq (qi+1) 2 v13 ((fldC c.path (z.flds.take j)).map eO) m13∧qi+1≤qq∧(∀ x,x<qi+1→Zv.look Y x=Zv.look Xi x) ∧
       e=[(0,.d (eOs cols)),(1,.d (eWs rows)),(2,.ptr ov 1 0 0),(4,.ptr bv 1 0 0),(8,.d (.int .i64 (out.length:Int))),(9,.d (eI n)),(10,.ptr q2 1 0 0),(11,.d (.int .i64 (i:Int))),(12,.fp (eC z) 0),(13,v13),(79,.d (.lst (y.cons.map eC))),(80,.d (.int .i64 y.cons.length)),(81,.d (.int .i64 (i:Int))),(87,.d (.lst (z.flds.map eI))),(88,.d (.int .i64 z.flds.length)),(89,.d (.int .i64 (j:Int)))]) _ ?_ ?_ z.flds.length 0 _ _ (by omega) ⟨Xi,qi+1,0,_,rfl,RA.nil ..,Nat.le_refl _,fun _ _=>rfl,rfl⟩
      ·rintro j e h' hj ⟨Y,qq,m13,v13,rfl,R13,hqq,hfr,rfl⟩
       obtain ⟨f,hf⟩:=get_of_lt hj
       have hwj:IntKind.i64.wrap ((j:Int)+1)=((j+1:Nat):Int):=by rw[wrap_ok (by omega) (by omega)];rfl
       have hlo:=fun h=>longer_ok c.path (j:Int) (by omega) h
       have hfs:=fldC_snoc c.path hf
       have hfl:(fldC c.path (z.flds.take j)).length≤8:=by unfold fldC;rw[List.length_map,List.length_zipIdx,List.length_take];omega
       obtain ⟨v',Y1,q1,m1',e1,R1a,hqa,_,_,hfa⟩:=ra_app (nl:=some false) (x:=eO ⟨c.path++[(j:Int)],f⟩) (b:=32) R13 hqq rfl (by rw[List.length_map];unfold roomB;omega)
       have e1:app 2 32 ⟨Y,qq⟩ v13 (.tl [.d (D.agg [eIs (c.path++[(j:Int)]),eI f])] (some false))=_:=e1
       (simp only[e37,hj,iaI hf,iaO hc,hlo,hwj,e1,wz,opX,intBin,↓reduceIte,simprocAttr]<;>repeat' (first | refine wpG_s ?_ ?_ | refine wpC_s ?_ ?_)<;>intro hgo<;>(try simp only[dq] at hgo)<;>simp only[hgo,e37,hj,iaI hf,iaO hc,hlo,hwj,e1,wz,opX,intBin,↓reduceIte,simprocAttr])
       refine ⟨Y1,q1,m1',v',rfl,?_,by omega,fun x hx=>by rw[hfa x (by omega) (fun h=>by have:=R13.lo h;omega),hfr x hx],rfl⟩
       rw[hfs,List.map_append];exact R1a
      ·rintro e h' ⟨Y,qq,m13,v13,rfl,R13,hqq,hfr,rfl⟩
       rw[List.take_length] at R13
       (simp only[e37,wz,opX,intBin,↓reduceIte,simprocAttr]<;>repeat' (first | refine wpG_s ?_ ?_ | refine wpC_s ?_ ?_)<;>intro hgo<;>(try simp only[dq] at hgo)<;>simp only[hgo,e37,wz,opX,intBin,↓reduceIte,simprocAttr])
       refine loop_wp rows.length (fun ii e h'=>∃ Y qq m16 v16,h'=⟨Y,qq⟩∧RA Y qq (qi+1) 2 v13 ((fldC c.path z.flds).map eO) m13∧RA Y qq (qi+1) 2 v16 ((conRows n (i:Int) z.flds.length (rows.take ii)).map eW) m16∧((conRows n (i:Int) z.flds.length (rows.take ii)).map eW≠[]→(fldC c.path z.flds).map eO≠[]→m16≠m13)∧qi+1≤qq∧(∀ x,x<qi+1→Zv.look Y x=Zv.look Xi x) ∧
        e=[(0,.d (eOs cols)),(1,.d (eWs rows)),(2,.ptr ov 1 0 0),(4,.ptr bv 1 0 0),(8,.d (.int .i64 (out.length:Int))),(9,.d (eI n)),(10,.ptr q2 1 0 0),(11,.d (.int .i64 (i:Int))),(12,.fp (eC z) 0),(13,v13),(16,v16),(79,.d (.lst (y.cons.map eC))),(80,.d (.int .i64 y.cons.length)),(81,.d (.int .i64 (i:Int))),(107,.d (eWs rows)),(108,.d (.int .i64 rows.length)),(109,.d (.int .i64 (ii:Int)))]) _ ?_ ?_ rows.length 0 _ _ (by omega) ⟨Y,qq,0,_,rfl,R13,RA.nil ..,fun h=>absurd rfl h,hqq,hfr,rfl⟩
       ·rintro ii e h' hii ⟨Y,qq,m16,v16,rfl,R13,R16,hdi,hqq,hfr,rfl⟩
        obtain ⟨r,hr⟩:=get_of_lt hii
        have hwi:IntKind.i64.wrap ((ii:Int)+1)=((ii+1:Nat):Int):=by rw[wrap_ok (by omega) (by omega)];rfl
        have hrfit:=I.fit r (List.mem_of_getElem? hr)
        have hrf:=fitR_len hrfit
        rw[List.length_map] at hrf
        obtain ⟨pr,hpr⟩:=get_of_lt (l:=r.pats) (n:=n) (by omega)
        have hpa:patAt r n=pr:=by unfold patAt;rw[List.getD_eq_getElem?_getD,hpr];rfl
        have hcW:(eW r).cells.length=2:=rfl
        have hcs:=con_snoc n (i:Int) z.flds.length hr
        have hal:=fitR_args S hrfit pr (List.mem_of_getElem? hpr)
        have hag:=fun h=>args_ok pr (i:Int) z.flds.length (by omega) h
        cases ha:argsFor pr (i:Int) z.flds.length with
        |none=>
         rw[ha] at hag
         have hcr:conRow n (i:Int) z.flds.length r=none:=by unfold conRow;rw[hpa,ha];rfl
         rw[hcr,Option.toList_none,List.append_nil] at hcs
         (simp only[e37,hii,iaW hr,hcW,iaP hpr,pts,hag,Option.getD_none,Option.isSome_none,hwi,wz,opX,intBin,↓reduceIte,simprocAttr]<;>repeat' (first | refine wpG_s ?_ ?_ | refine wpC_s ?_ ?_)<;>intro hgo<;>(try simp only[dq] at hgo)<;>simp only[hgo,e37,hii,iaW hr,hcW,iaP hpr,pts,hag,Option.getD_none,Option.isSome_none,hwi,wz,opX,intBin,↓reduceIte,simprocAttr])
         refine ⟨Y,qq+1,m16,v16,rfl,R13.mono (by omega) (fun _=>rfl),?_,by rw[hcs];exact hdi,by omega,hfr,rfl⟩
         rw[hcs];exact R16.mono (by omega) (fun _=>rfl)
        |some a=>
         rw[ha] at hag
         have hcr:conRow n (i:Int) z.flds.length r=some (putP r n a):=by unfold conRow;rw[hpa,ha];rfl
         rw[hcr,Option.toList_some] at hcs
         have hale:a.length≤10000:=by
          unfold argsFor at ha
          split at ha
          ·cases ha;rw[List.length_replicate];omega
          ·split at ha
           ·cases ha;exact hal
           ·cases ha
         have hrep:=fun h=>replP_ok r.pats n a (by omega) (by omega) (by omega) h
         have hrep:∀ h,callW tab 43 [.d (ePs r.pats),.d (.int .i64 (n:Int)),.d (ePs a)] h=some (.d (ePs (putP r n a).pats),h):=hrep
         have hsl:(conRows n (i:Int) z.flds.length (rows.take ii)).length≤6:=by
          have:=List.length_filterMap_le (conRow n (i:Int) z.flds.length) (rows.take ii)
          rw[List.length_take] at this;unfold conRows;omega
         obtain ⟨v',Y1,q1,m1',e1,R1a,R13a,hd1,hqa,hfa⟩:=ra_app2 (nl:=some false) (x:=eW (putP r n a)) (b:=32) (R16.mono (q':=qq+1) (by omega) (fun _=>rfl)) (R13.mono (q':=qq+1) (by omega) (fun _=>rfl)) hdi (by omega) rfl (by rw[List.length_map];unfold roomB;omega)
         have e1:app 2 32 ⟨Y,qq+1⟩ v16 (.tl [.d (D.agg [eI r.n,ePs (putP r n a).pats])] (some false))=_:=e1
         (simp only[e37,hii,iaW hr,hcW,iaP hpr,pts,hag,Option.getD_some,Option.isSome_some,hrep,e1,hwi,wz,opX,intBin,↓reduceIte,simprocAttr]<;>repeat' (first | refine wpG_s ?_ ?_ | refine wpC_s ?_ ?_)<;>intro hgo<;>(try simp only[dq] at hgo)<;>simp only[hgo,e37,hii,iaW hr,hcW,iaP hpr,pts,hag,Option.getD_some,Option.isSome_some,hrep,e1,hwi,wz,opX,intBin,↓reduceIte,simprocAttr])
         refine ⟨Y1,q1,m1',v',rfl,R13a,?_,fun _ h=>hd1 h,by omega,fun x hx=>by rw[hfa x hx,hfr x hx],rfl⟩
         rw[hcs,List.map_append];exact R1a
       ·rintro e h' ⟨Y,qq,m16,v16,rfl,R13,R16,hdi,hqq,hfr,rfl⟩
        rw[List.take_length] at R16 hdi
        obtain ⟨Y1,hz16,hf16⟩:=ra_frz R16
        have R13a:RA Y1 qq (qi+1) 2 v13 ((fldC c.path z.flds).map eO) m13:=R13.mono (Nat.le_refl _) fun h3=>hf16 m13 fun h1 e=>hdi h1 h3 e.symm
        obtain ⟨Y2,hz13,hf13⟩:=ra_frz R13a
        have hY2:∀ x,x<qi+1→Zv.look Y2 x=Zv.look Xi x:=fun x hx=>by rw[hf13 x (fun h=>by have:=R13a.lo h;omega),hf16 x (fun h=>by have:=R16.lo h;omega),hfr x hx]
        have V4:VB d ov dv bv Y2 o m':=Vi.same (hY2 _ (by omega)) (hY2 _ (by omega)) (hY2 _ (by omega)) (hY2 _ (by omega))
        have hone:o≠[]:=fun h=>by rw[h] at ho1;simp at ho1
        obtain ⟨r1,hv1,ma,Xa,qa,rfl,V5,hma,hqa,hme,_,F5⟩:=ih o (putC cols n (fldC c.path z.flds)) (conRows n (i:Int) z.flds.length rows) Y2 m' qq hIc ho2 (.inl ⟨hone,V4,by omega⟩) (by omega) (by omega) (by omega)
        obtain rfl:ma=m':=hme hone
        have L1:=(buildS_len d k o (putC cols n (fldC c.path z.flds)) (conRows n (i:Int) z.flds.length rows))
        have hconL:conL (buildS d k) cols rows n c i (z::y.cons.drop (i+1)) o nxs=conL (buildS d k) cols rows n c (i+1) (y.cons.drop (i+1)) (buildS d k o (putC cols n (fldC c.path z.flds)) (conRows n (i:Int) z.flds.length rows)).1 (nxs++[(buildS d k o (putC cols n (fldC c.path z.flds)) (conRows n (i:Int) z.flds.length rows)).2]):=rfl
        rw[hconL] at hch
        generalize buildS d k o (putC cols n (fldC c.path z.flds)) (conRows n (i:Int) z.flds.length rows)=Q1 at hv1 V5 L1 hch
        have hfll:(fldC c.path z.flds).length≤8:=by unfold fldC;rw[List.length_map,List.length_zipIdx];omega
        have hrpO:=fun h=>replO_ok cols n (fldC c.path z.flds) hnl (by omega) (by omega) h
        have hrpO:∀ h,callW tab 44 [.d (eOs cols),.d (.int .i64 (n:Int)),.d (eOs (fldC c.path z.flds))] h=some (.d (eOs (putC cols n (fldC c.path z.flds))),h):=hrpO
        have rb1:=fun nx=>row_of (q:=nx) V4.ibv (tot:=1) rfl
        have hYt:Zv.look Y2 q2=some (.arr 5 [gT c.path true 0 v10]):=by rw[hY2 q2 (by omega)];exact hti
        have rt2:=fun nx=>row_of (q:=nx) hYt (tot:=1) rfl
        have hldk:∀ nx,ldk false 1 ⟨Y2,nx⟩ (.ptr q2 1 0 0) (.ptr q2 1 0 3)=some v10:=by
         intro nx;simp[ldk,ld,rt2,partV,V.cells]
        have hXat:Zv.look Xa q2=Zv.look Y2 q2:=F5 q2 (by omega) (by omega) (by omega)
        have hsm:∀ n1,sameAt ⟨Y2,n1⟩ ⟨Xa,qa⟩ (.ptr q2 1 0 0)=true:=by
         intro n1;simp only[sameAt,Hp.get,hXat,hYt,Ob.beq_refl]
        have R10a:RA Xa qa (q2+1) 1 v10 (nxs.map eI) m10:=R10.mono (by omega) fun h=>by
         have h5:=R10.lo h
         have h6:=R10.hi h
         rw[F5 m10 (by omega) (by omega) (by omega),hY2 m10 (by omega)]
        obtain ⟨v',Xb,qb,m1',e1,R1a,hqb,hmA,hmB,hfb⟩:=ra_app (nl:=some false) (x:=eI Q1.2) (b:=8) R10a (by omega) rfl (by rw[List.length_map];unfold roomB;omega)
        have hXbt:Zv.look Xb q2=some (.arr 5 [gT c.path true 0 v10]):=by rw[hfb q2 (by omega) (fun h=>by have:=R10.lo h;omega),hXat];exact hYt
        have hst3:st 1 ⟨Xb,qb⟩ (.ptr q2 1 0 3) v'=some ⟨Zv.upd Xb q2 (.arr 5 [gT c.path true 0 v']),qb⟩:=by
         rw[R1a.v];exact st_next hXbt m1' _ qb
        have hlo1:=R1a.lo (by simp)
        have hXc:∀ x,x≠q2→Zv.look (Zv.upd Xb q2 (.arr 5 [gT c.path true 0 v'])) x=Zv.look Xb x:=fun x h=>by rw[Zs.look_upd,if_neg h]
        have hXb0:∀ x,x<q2→Zv.look Xb x=Zv.look Xa x:=fun x hx=>hfb x (by omega) (fun h=>by have:=R10.lo h;omega)
        (simp only[e37,hz16,hz13,hldk,rb1,hrpO,hv1,hsm,e1,hst3,hwr,wz,opX,intBin,↓reduceIte,simprocAttr]<;>repeat' (first | refine wpG_s ?_ ?_ | refine wpC_s ?_ ?_)<;>intro hgo<;>(try simp only[dq] at hgo)<;>simp only[hgo,e37,hz16,hz13,hldk,rb1,hrpO,hv1,hsm,e1,hst3,hwr,wz,opX,intBin,↓reduceIte,simprocAttr])
        refine ⟨Zv.upd Xb q2 (.arr 5 [gT c.path true 0 v']),qb,Q1.1,nxs++[Q1.2],m1',v',rfl,?_,?_,?_,by omega,?_,by omega,L1.2 ho2,by simp[hnx],hch⟩
        ·exact V5.same (by rw[hXc _ (by omega),hXb0 _ (by omega)]) (by rw[hXc _ (by omega),hXb0 _ (by omega)]) (by rw[hXc _ (by omega),hXb0 _ (by omega)]) (by rw[hXc _ (by omega),hXb0 _ (by omega)])
        ·rw[Zs.look_upd,if_pos rfl,hXbt];rfl
        ·rw[List.map_append];exact R1a.mono (Nat.le_refl _) (fun _=>hXc m1' (by omega))
        ·intro x hx h1 h2
         rw[hXc x (by omega),hXb0 x hx,F5 x (by omega) h1 h2,hY2 x (by omega),hfi x hx h1 h2]
     ·rintro e h' ⟨Xi,qi,o,nxs,m10,v10,rfl,Vi,hti,R10,hqi,hfi,ho1,ho2,hnx,hch,rfl⟩
      rw[show y.cons.drop y.cons.length=[] from List.drop_of_length_le (Nat.le_refl _)] at hch
      rw[hch]
      have hce:conL (buildS d k) cols rows n c y.cons.length [] o nxs=(o,nxs):=rfl
      rw[hce]
      obtain ⟨Ye,hz3,hf3⟩:=fz_T (X:=Xi) (a:=q2) hti R10 (by omega)
      have hYe:∀ x,x<q2→Zv.look Ye x=Zv.look Xi x:=fun x h1=>hf3 x (by omega) (fun h=>by have:=R10.lo (by simpa using h);omega)
      have V8:VB d ov dv bv Ye o m':=Vi.same (hYe _ (by omega)) (hYe _ (by omega)) (hYe _ (by omega)) (hYe _ (by omega))
      have rw8:=fun nx=>row_of (q:=nx) V8.iov (tot:=1) rfl
      have hio8:=ia_own (es:=5) (n:=m') (tot:=o.length) .i64 (show out.length<o.length by omega)
      have hst8:=fun nx=>st_elem V8.irow (L:=o.length) rfl (show out.length<o.length by omega) ⟨c.path,true,0,nxs,0⟩ nx
      have hst8:∀ nx,st 5 ⟨Ye,nx⟩ (.ptr m' o.length out.length 0) (.d (D.agg [eIs c.path,.bool true,eI 0,eIs nxs,eI 0]))=_:=hst8
      (simp only[e37,hz3,rw8,hio8,hst8,wz,opX,intBin,↓reduceIte,simprocAttr]<;>repeat' (first | refine wpG_s ?_ ?_ | refine wpC_s ?_ ?_)<;>intro hgo<;>(try simp only[dq] at hgo)<;>simp only[hgo,e37,hz3,rw8,hio8,hst8,wz,opX,intBin,↓reduceIte,simprocAttr])
      refine ⟨_,rfl,m',_,qi,rfl,V8.put (by rw[List.length_set]),by omega,by omega,hmm,hm0,?_⟩
      intro x hx h1 h2
      rw[Zs.look_upd,if_neg h2,hYe x (by omega),hfi x (by omega) h1 h2,k1 x (by omega)]
      exact F2 x hx h1 h2
end Zc28
end
section
set_option maxHeartbeats 4000000
namespace Zc28
open Go Zv Zs
theorem app_rowL {es b m q:Nat} {Y:List (Nat × Ob)} {S r:List D} (hr:Zv.look Y m=some (.arr es (S.map .d))) (hx:∀ y,y ∈ r→y.cells.length=es) (hne:r≠[]) (hb:(S.length+r.length)*b≤roomB) :
  app es b ⟨Y,q⟩ (.own m es S.length 0 S.length) (.d (.lst r))=some (.own m es (S++r).length 0 (S++r).length,⟨Zv.upd Y m (.arr es ((S++r).map .d)),q⟩):=by
 have hrow:(⟨Y,q⟩:Hp).row m S.length=some (es,S.map .d):=row_of hr (by simp)
 have hp:0<r.length:=List.length_pos_iff.2 hne
 have he:(r.map V.d).isEmpty=false:=by cases r with | nil=>exact absurd rfl hne | cons=>rfl
 have h1:¬ S.length+r.length≤S.length:=by omega
 have h2:List.take S.length (S.map V.d)=S.map V.d:=List.take_of_length_le (by simp)
 unfold app
 simp only[elems,Option.bind_some,norm_map_d,allV_d hx,if_true,hrow,List.length_map,Nat.zero_add,Nat.le_refl,and_self,he,Bool.false_eq_true,if_false,h1,hb,h2,Hp.set,List.map_append,List.length_append]
theorem raL {Y:List (Nat × Ob)} {q q0 es b m:Nat} {v:V} {S r:List D} (R:RA Y q q0 es v S m) (hq:q0≤q) (hx:∀ y,y ∈ r→y.cells.length=es) (hb:(S.length+r.length)*b≤roomB) :
  ∃ v' Y' q' m',app es b ⟨Y,q⟩ v (.d (.lst r))=some (v',⟨Y',q'⟩)∧RA Y' q' q0 es v' (S++r) m'∧q≤q'∧∀ n,n<q0→Zv.look Y' n=Zv.look Y n:=by
 by_cases hr:r=[]
 ·subst hr
  refine ⟨v,Y,q,m,?_,by rw[List.append_nil];exact R,Nat.le_refl _,fun _ _=>rfl⟩
  rw[R.v]
  unfold rowN
  split
  ·rfl
  ·rename_i hs
   have hrow:(⟨Y,q⟩:Hp).row m S.length=some (es,S.map .d):=row_of (R.row hs) (by simp)
   simp[app,elems,hrow,allV]
 ·by_cases hs:S=[]
  ·subst hs
   have h:=tl_app (nl:=some true) (es:=es) (b:=b) (h:=⟨Y,q⟩) (r:=r) hx (by simpa using hb)
   unfold cloV cloO at h
   simp only[hr,if_false] at h
   refine ⟨.own q es r.length 0 r.length,(q,.arr es (r.map .d))::Y,q+1,q,by rw[R.v];exact h,⟨by rw[List.nil_append];unfold rowN;rw[if_neg hr],fun _=>by rw[List.nil_append];exact look_hd ..,fun _=>hq,fun _=>by omega⟩,by omega,fun n hn=>look_tl _ _ (by omega)⟩
  ·have hv:v=.own m es S.length 0 S.length:=by rw[R.v];exact if_neg hs
   have hn:S++r≠[]:=by simp[hs]
   refine ⟨_,_,_,m,by rw[hv];exact app_rowL (R.row hs) hx hr hb,⟨by unfold rowN;rw[if_neg hn],fun _=>by rw[Zs.look_upd,if_pos rfl,R.row hs];rfl,fun _=>R.lo hs,fun _=>R.hi hs⟩,Nat.le_refl _,fun n hn'=>?_⟩
   rw[Zs.look_upd,if_neg (by have:=R.lo hs;omega)]
theorem raX {Y:List (Nat × Ob)} {q q0 es b m:Nat} {v:V} {S:List D} {x:D} {nl:Option Bool} (R:RA Y q q0 es v S m) (hq:q0≤q) (hx:x.cells.length=es) (hb:(S.length+1)*b≤roomB) :
  ∃ v' Y' q' m',app es b ⟨Y,q⟩ v (.tl [.d x] nl)=some (v',⟨Y',q'⟩)∧RA Y' q' q0 es v' (S++[x]) m'∧q≤q'∧∀ n,n<q0→Zv.look Y' n=Zv.look Y n:=by
 rw[show app es b ⟨Y,q⟩ v (.tl [.d x] nl)=app es b ⟨Y,q⟩ v (.d (.lst [x])) from app_tl1 ..]
 exact raL R hq (by intro y hy;rw[List.mem_singleton] at hy;subst hy;exact hx) hb
theorem rz {Y:List (Nat × Ob)} {q q0 es m:Nat} {v:V} {S:List D} (R:RA Y q q0 es v S m) :
  ∃ Y',(∀ nx,Zv.frz ⟨Y,nx⟩ v=some (.d (.lst S),⟨Y',nx⟩))∧∀ n,n<q0→Zv.look Y' n=Zv.look Y n:=by
 obtain ⟨Y',h1,h2⟩:=ra_frz R
 exact⟨Y',h1,fun n hn=>h2 n fun hs=>by have:=R.lo hs;omega⟩
theorem RA.keep {Y Y':List (Nat × Ob)} {q q' q0 es m L:Nat} {v:V} {S:List D} (R:RA Y q q0 es v S m) (hq:q≤q') (hL:q≤L) (h:∀ n,n<L→Zv.look Y' n=Zv.look Y n):RA Y' q' q0 es v S m:=
 R.mono hq fun hs=>h m (by have:=R.hi hs;omega)
theorem RA.up {Y:List (Nat × Ob)} {q q' q0 es m:Nat} {v:V} {S:List D} (R:RA Y q q0 es v S m) (hq:q≤q'):RA Y q' q0 es v S m:=R.mono hq fun _=>rfl
abbrev gW (n:Int) (v:V):V:=V.agg [.d (eI n),v]
theorem rowN4_agg (m:Nat) (s:List D) (x:D):mkAgg [.d x,rowN m 4 s]=V.agg [.d x,rowN m 4 s]:=by unfold rowN;split<;>rfl
theorem rowN4_stor (m:Nat) (s:List D):stor (rowN m 4 s)=true:=by unfold rowN;split<;>rfl
theorem rowN4_cells (m:Nat) (s:List D):(rowN m 4 s).cells=[rowN m 4 s]:=by unfold rowN;split<;>rfl
theorem st_pats {X:List (Nat × Ob)} {a:Nat} {n:Int} {v:V} (hr:Zv.look X a=some (.arr 2 [gW n v])) (m:Nat) (s:List D) (nx:Nat) :
  st 1 ⟨X,nx⟩ (.ptr a 1 0 1) (rowN m 4 s)=some ⟨Zv.upd X a (.arr 2 [gW n (rowN m 4 s)]),nx⟩:=by
 have hrow:(⟨X,nx⟩:Hp).row a 1=some (2,[gW n v]):=row_of hr rfl
 have e:=st_in (sz:=1) (i:=0) (off:=1) (x:=rowN m 4 s) hrow (e:=gW n v) rfl (rowN4_stor m s) (by rw[rowN4_cells];rfl) (by show 2≤2;omega) (by omega) (by omega)
 rw[e,rowN4_cells]
 have:mkAgg (List.take 1 (gW n v).cells++[rowN m 4 s]++List.drop (1+1) (gW n v).cells)=gW n (rowN m 4 s):=rowN4_agg m s _
 rw[this]
 rfl
theorem fz_W {X:List (Nat × Ob)} {a m q q0:Nat} {n:Int} {v:V} {s:List Pt} (hr:Zv.look X a=some (.arr 2 [gW n v])) (R:RA X q q0 4 v (s.map ePt) m) (ha:a<q0) :
  ∃ Y,(∀ nx,Zv.fzd ⟨X,nx⟩ (.ptr a 1 0 0)=some (.fp (eW ⟨n,s⟩) 0,⟨Y,nx⟩))∧∀ x,x<q0→x≠a→Zv.look Y x=Zv.look X x:=by
 obtain ⟨Y,hY,hf⟩:=rz R
 have hYa:Zv.look Y a=Zv.look X a:=hf a ha
 refine ⟨Zv.del Y a,fun nx=>?_,fun x hx hm=>?_⟩
 ·have hrow:(⟨X,nx⟩:Hp).row a 1=some (2,[gW n v]):=row_of hr rfl
  unfold Zv.fzd
  simp only[hrow,Option.bind_some,List.getElem?_cons_zero]
  have d1:∀ (hh:Hp) (x:D),Zv.frz hh (.d x)=some (.d x,hh):=fun _ _=>rfl
  have hfr:frzs [V.d (eI n),v] ⟨X,nx⟩=some ([eI n,.lst (s.map ePt)],⟨Y,nx⟩):=by
   simp only[frzs,d1,Option.bind_some,hY,Option.map_some]
  rw[hfr,Option.bind_some]
  have hs:sameAt ⟨X,nx⟩ ⟨Y,nx⟩ (.ptr a 1 0 0)=true:=by
   simp only[sameAt,Hp.get,hYa,hr,Ob.beq_refl]
  rw[if_pos hs]
  rfl
 ·rw[look_del hm]
  exact hf x hx
theorem patsL {Z:List (Nat × Ob)} {a q m:Nat} {n:Int} {v:V} {S r:List D} (hr:Zv.look Z a=some (.arr 2 [gW n v])) (R:RA Z q (a+1) 4 v S m) (hq:a+1≤q) (hx:∀ y,y ∈ r→y.cells.length=4) (hb:(S.length+r.length)*48≤roomB) :
  ∃ v' Z' q' m' Z2,app 4 48 ⟨Z,q⟩ v (.d (.lst r))=some (v',⟨Z',q'⟩)∧st 1 ⟨Z',q'⟩ (.ptr a 1 0 1) v'=some ⟨Z2,q'⟩∧Zv.look Z2 a=some (.arr 2 [gW n v'])∧RA Z2 q' (a+1) 4 v' (S++r) m'∧q≤q'∧∀ x,x<a→Zv.look Z2 x=Zv.look Z x:=by
 obtain ⟨v',Z',q',m',h1,h2,h3,h4⟩:=raL (b:=48) R hq hx hb
 have hr':Zv.look Z' a=some (.arr 2 [gW n v]):=by rw[h4 a (by omega)];exact hr
 refine ⟨v',Z',q',m',Zv.upd Z' a (.arr 2 [gW n v']),h1,?_,?_,?_,h3,fun x hx=>?_⟩
 ·rw[h2.v];exact st_pats hr' m' _ q'
 ·rw[Zs.look_upd,if_pos rfl,hr'];rfl
 ·exact h2.mono (Nat.le_refl _) fun hs=>by rw[Zs.look_upd,if_neg (by have:=h2.lo hs;omega)]
 ·rw[Zs.look_upd,if_neg (by omega),h4 x (by omega)]
theorem idxZ_first {α:Type} (p:α→Bool) (l:List α):(idxZ p l = -1∧∀ x,x ∈ l→p x=false)∨∃ (n:Nat) (x:α),idxZ p l=n∧l[n]? = some x∧p x=true∧∀ (j:Nat) y,j<n→l[j]? = some y→p y=false:=by
 have hnn:(0≤idxZ p l)=(l.any p=true):=idxZ_nn p l
 unfold idxZ at hnn ⊢
 cases h:fst? p 0 l with
 |none=>
  left
  refine ⟨rfl,fun x hx=>?_⟩
  rw[h] at hnn
  cases hp:p x with
  |false=>rfl
  |true=>
   have:l.any p=true:=List.any_eq_true.2 ⟨x,hx,hp⟩
   rw[this] at hnn
   simp at hnn
 |some q=>
  obtain ⟨n,x⟩:=q
  obtain ⟨h0,h1,h2,h3⟩:=fst_some h
  exact .inr ⟨n,x,rfl,by simpa using h1,h2,fun j y hj hy=>h3 j y (by omega) hj (by simpa using hy)⟩
end Zc28
end
section
set_option maxHeartbeats 4000000
namespace Zc28
open Go Zv Zs
theorem fit_at {d:List Dt}:∀ {ts:List Int} {r:List Pt} {k:Nat} {t:Int} {p:Pt},fitR d ts r=true→r[k]? = some p→ts[k]? = some t→fitsP d t p=true
 | [],_,_,_,_,_,_,h=>by cases h
 |_::_,[],_,_,_,h,_,_=>by cases h
 |a::ts,b::r,0,t,p,h,h1,h2=>by
  simp only[fitR,Bool.and_eq_true] at h
  cases h1;cases h2;exact h.1
 |a::ts,b::r,k+1,t,p,h,h1,h2=>by
  simp only[fitR,Bool.and_eq_true] at h
  exact fit_at h.2 h1 h2
theorem ld_hP (n nx:Nat) (p:Pt) (r:List (Nat × Ob)):ld true 4 ⟨(n,.arr 4 [.d (ePt p)])::r,nx⟩ (.ptr n 1 0 0)=some (.d (ePt p)):=by
 obtain ⟨k,c,m,q⟩:=p
 simp[ld,row_hd,ePt_mk]
theorem mk_w:norm (V.agg [.d (.int .i64 0),.d (.int .i64 0),.d (.int .i64 0),.tl [] (some true)])=.d (ePt wildT):=rfl
theorem mk_w1:mkAgg [.d (.int .i64 0),.d (.int .i64 0),.d (.int .i64 0),.tl [] (some true)]=V.agg [.d (.int .i64 0),.d (.int .i64 0),.d (.int .i64 0),.tl [] (some true)]:=rfl
theorem nwB_mk (k c m:Int) (q:List Pt):nwB (.mk k c m q) = !(k == 0):=rfl
theorem rbuild_ok {d:List Dt} (S:Sml d):∀ (k:Nat) (out:List Ts) (cols:List Co) (rows:List Rw) (X:List (Nat × Ob)) (m q:Nat) (v:V),BI d k cols rows→out.length≤4097→RA X q 0 5 v (out.map eT) m →
  ∃ r,callW tab 48 [.d (eDs d),v,.d (eOs cols),.d (eWs rows)] ⟨X,q⟩=some r ∧
   ∃ m' v' X' q',r=(.tup [v',.d (eI (buildS d k out cols rows).2)],⟨X',q'⟩)∧RA X' q' 0 5 v' ((buildS d k out cols rows).1.map eT) m'∧q≤q'∧(out≠[]→m'=m)∧(out=[]→q≤m')∧∀ x,x<q→(out≠[]→x≠m)→Zv.look X' x=Zv.look X x:=by
 intro k
 induction k with
 |zero=>intro out cols rows X m q v I;have:=I.nw;omega
 |succ k ih=>
  intro out cols rows X m q v I hol R
  refine call_wpE (fn:=f48) rfl rfl ?_
  have bft:(false == true)=false:=rfl
  have btf:(true == false)=false:=rfl
  have hlv:lenL v=some (.d (.int .i64 (out.length:Int))):=by rw[R.v,lenL_rowN,List.length_map]
  by_cases h4:4096<out.length
  ·have hB:buildS d (k+1) out cols rows=(out,(out.length:Int)):=by unfold buildS;rw[if_pos h4]
   have h4':(4096:Int)<(out.length:Int):=by omega
   have hne:out≠[]:=fun h=>by rw[h] at h4;simp at h4
   (simp only[e48,hlv,h4',wz,opX,intBin,↓reduceIte,simprocAttr]<;>repeat' (first | refine wpG_s ?_ ?_ | refine wpC_s ?_ ?_)<;>intro hgo<;>(try simp only[dq] at hgo)<;>simp only[hgo,e48,hlv,h4',wz,opX,intBin,↓reduceIte,simprocAttr])
   exact⟨_,rfl,m,v,X,q,by rw[hB],by rw[hB];exact R,Nat.le_refl _,fun _=>rfl,fun h=>absurd h hne,fun _ _ _=>rfl⟩
  ·have h4':¬ (4096:Int)<(out.length:Int):=by omega
   have hB0:buildS d (k+1) out cols rows=bldB d (buildS d k) cols rows out:=by rw[buildS,if_neg h4]
   obtain ⟨r0,hr0⟩:∃ r0,rows[0]? = some r0:=get_of_lt (List.length_pos_iff.2 I.ne)
   have hB1:bldB d (buildS d k) cols rows out=bldK d (buildS d k) cols rows r0 (idxZ nwB r0.pats) out:=by
    cases rows with
    |nil=>cases hr0
    |cons x rs=>cases hr0;rfl
   rw[hB0,hB1]
   have hr0m:=List.mem_of_getElem? hr0
   have hfit:=I.fit r0 hr0m
   have hpl:=fitR_len hfit
   rw[List.length_map] at hpl
   have hcl:=I.len
   obtain ⟨v2,X2,q2,m',happ,R2,hq2,hmm,hm0,F2⟩:=ra_app (nl:=some false) (x:=eT zT) (b:=72) R (by omega) rfl (by rw[List.length_map];unfold roomB;omega)
   have hmap2:out.map eT++[eT zT]=(out++[zT]).map eT:=by simp
   rw[hmap2] at R2
   have hmm:out≠[]→m'=m:=fun h=>hmm (by simpa using h)
   have hm0:out=[]→q≤m':=fun h=>hm0 (by simpa using h)
   have F2:∀ x,x<q→(out≠[]→x≠m)→Zv.look X2 x=Zv.look X x:=fun x h1 h2=>F2 x h1 (fun h=>h2 (by simpa using h))
   have hm2:=R2.hi (by simp)
   have hv2:v2=.own m' 5 (out.length+1) 0 (out.length+1):=by
    rw[R2.v];unfold rowN;rw[if_neg (by simp)];simp
   have ia0:ia 2 (.d (.lst (rows.map eW))) (.d (.int .i64 0))=some (.fp (eW r0) 0):=iaW hr0
   have hio:=ia_own (es:=5) (n:=m') (tot:=out.length+1) .i64 (show out.length<out.length+1 by omega)
   obtain ⟨K,hK,hKw,hKe⟩:∃ K:Nat,K≤cols.length∧(∀ (j:Nat) y,j<K→r0.pats[j]? = some y→nwB y=false)∧((idxZ nwB r0.pats = -1∧K=cols.length)∨∃ p,idxZ nwB r0.pats=(K:Int)∧r0.pats[K]? = some p∧nwB p=true∧K<cols.length):=by
    rcases idxZ_first nwB r0.pats with ⟨h1,h2⟩ | ⟨n,p,h1,h2,h3,h5⟩
    ·exact⟨cols.length,Nat.le_refl _,fun j y _ hy=>h2 y (List.mem_of_getElem? hy),.inl ⟨h1,rfl⟩⟩
    ·have:=(List.getElem?_eq_some_iff.1 h2).1
     exact⟨n,by omega,h5,.inr ⟨p,h1,h2,h3,by omega⟩⟩
   (simp only[e48,hlv,h4',mk_z1,mk_z,happ,hv2,wz,opX,intBin,↓reduceIte,simprocAttr]<;>repeat' (first | refine wpG_s ?_ ?_ | refine wpC_s ?_ ?_)<;>intro hgo<;>(try simp only[dq] at hgo)<;>simp only[hgo,e48,hlv,h4',mk_z1,mk_z,happ,hv2,wz,opX,intBin,↓reduceIte,simprocAttr])
   refine loop_wp K (fun j e h'=>h'=⟨X2,q2⟩∧e=[(0,.d (eDs d)),(1,.own m' 5 (out.length+1) 0 (out.length+1)),(2,.d (eOs cols)),(3,.d (eWs rows)),(10,.d (.int .i64 (out.length:Int))),(11,.d (.int .i64 (j:Int)))]) _ ?_ ?_ K 0 _ _ (by omega) ⟨rfl,rfl⟩
   ·rintro j e h' hj ⟨rfl,rfl⟩
    obtain ⟨p,hp⟩:=get_of_lt (l:=r0.pats) (n:=j) (by omega)
    have hw:=hKw j p hj hp
    have hjl:j<cols.length:=by omega
    have hwr:IntKind.i64.wrap ((j:Int)+1)=((j+1:Nat):Int):=by rw[wrap_ok (by omega) (by omega)];rfl
    obtain ⟨pk,pc,pm,pq⟩:=p
    have hia:=iaP hp
    rw[ePt_mk] at hia
    have hk0:(pk == 0)=true:=by
     rw[nwB_mk] at hw
     cases h:(pk == 0) with
     |true=>rfl
     |false=>rw[h] at hw;cases hw
    (simp only[e48,hjl,ia0,hia,hk0,hwr,wz,opX,intBin,↓reduceIte,simprocAttr]<;>repeat' (first | refine wpG_s ?_ ?_ | refine wpC_s ?_ ?_)<;>intro hgo<;>(try simp only[dq] at hgo)<;>simp only[hgo,e48,hjl,ia0,hia,hk0,hwr,wz,opX,intBin,↓reduceIte,simprocAttr])
   ·rintro e h' ⟨rfl,rfl⟩
    rcases hKe with ⟨hz,rfl⟩ | ⟨p,hz,hp,hpn,hKl⟩
    ·have hB2:bldK d (buildS d k) cols rows r0 (idxZ nwB r0.pats) out=(out++[leafAt r0.n],(out.length:Int)):=by rw[hz];rfl
     rw[hB2]
     have hst4:=fun nx=>st_cell4 (R2.row (by simp)) (L:=out.length+1) rfl r0.n nx
     (simp only[e48,ia0,hio,hst4,wz,opX,intBin,↓reduceIte,simprocAttr]<;>repeat' (first | refine wpG_s ?_ ?_ | refine wpC_s ?_ ?_)<;>intro hgo<;>(try simp only[dq] at hgo)<;>simp only[hgo,e48,ia0,hio,hst4,wz,opX,intBin,↓reduceIte,simprocAttr])
     refine ⟨_,rfl,m',_,_,q2,rfl,⟨?_,fun _=>?_,fun _=>Nat.zero_le _,fun _=>hm2⟩,hq2,hmm,hm0,fun x h1 h2=>?_⟩
     ·unfold rowN;rw[if_neg (by simp)];simp
     ·rw[Zs.look_upd,if_pos rfl,R2.row (by simp)];rfl
     ·rw[Zs.look_upd,if_neg (fun e=>by
       by_cases h0:out=[]
       ·have:=hm0 h0;omega
       ·exact h2 h0 (e.trans (hmm h0)))]
      exact F2 x h1 h2
    ·obtain ⟨c,hc⟩:=get_of_lt hKl
     have hB2:bldK d (buildS d k) cols rows r0 (idxZ nwB r0.pats) out=if c.ty=0 then bldN (buildS d k) cols rows r0 K c out else bldC d (buildS d k) cols rows K c out:=by
      rw[hz];unfold bldK;rw[getI_nat,hc];rfl
     rw[hB2]
     have hcm:=List.mem_of_getElem? hc
     have hcp:=I.path c hcm
     have hct:=I.typ c hcm
     have hpat:patAt r0 K=p:=by unfold patAt;rw[List.getD_eq_getElem?_getD,hp];rfl
     have hlt:(K:Int)<(cols.length:Int):=by omega
     have hne2:((K:Int) == (cols.length:Int))=false:=beq_eq_false_iff_ne.2 (by omega)
     have hrl:=I.rl
     have hdiff:∀ x,x<q→(out≠[]→x≠m)→x≠m':=fun x h1 h2 e=>by
      by_cases h0:out=[]
      ·have:=hm0 h0;omega
      ·exact h2 h0 (e.trans (hmm h0))
     obtain ⟨pk,pc,pm,pq⟩:=p
     have hiaP:=iaP hp
     rw[ePt_mk] at hiaP
     have hk0:(pk == 0)=false:=by
      rw[nwB_mk] at hpn
      cases h:(pk == 0) with
      |false=>rfl
      |true=>rw[h] at hpn;cases hpn
     cases hty:(c.ty == 0) with
     |true=>
      have hty2:c.ty=0:=by simpa using hty
      rw[if_pos hty2]
      have I1:=I.same hr0 hz hc hty2
      have I2:=I.oth hr0 hz hc hty2
      rw[hpat] at I1 I2
      have hB3:bldN (buildS d k) cols rows r0 K c out=((buildS d k (buildS d k (out++[zT]) (putC cols K []) (sameRows K pm rows)).1 cols (othRows K pm rows)).1.set out.length ⟨c.path,false,pm,[(buildS d k (out++[zT]) (putC cols K []) (sameRows K pm rows)).2,(buildS d k (buildS d k (out++[zT]) (putC cols K []) (sameRows K pm rows)).1 cols (othRows K pm rows)).2],0⟩,(out.length:Int)):=by
       unfold bldN;rw[hpat];rfl
      rw[hB3]
      have hsn:=fun a nx L=>st_num a nx c.path false 0 pm L
      (simp only[e48,hlt,ia0,hiaP,hk0,hne2,iaO hc,hty,bne,mk_t0,hsn,wz,opX,intBin,↓reduceIte,simprocAttr]<;>repeat' (first | refine wpG_s ?_ ?_ | refine wpC_s ?_ ?_)<;>intro hgo<;>(try simp only[dq] at hgo)<;>simp only[hgo,e48,hlt,ia0,hiaP,hk0,hne2,iaO hc,hty,bne,mk_t0,hsn,wz,opX,intBin,↓reduceIte,simprocAttr])
      have L1:=(buildS_len d k (out++[zT]) (putC cols K []) (sameRows K pm rows))
      rw[List.length_append,List.length_cons,List.length_nil] at L1
      generalize hQ1:buildS d k (out++[zT]) (putC cols K []) (sameRows K pm rows)=Q1 at L1 ⊢
      have L2:=(buildS_len d k Q1.1 cols (othRows K pm rows))
      generalize hQ2:buildS d k Q1.1 cols (othRows K pm rows)=Q2 at L2 ⊢
      have hneQ:Q1.1≠[]:=fun h=>by rw[h] at L1;simp at L1
      have k1:∀ x,x<q2→Zv.look ((q2,Ob.arr 5 [gT c.path false pm (.tl [] (some true))])::X2) x=Zv.look X2 x:=fun x hx=>look_tl _ _ (by omega)
      have k2:Zv.look ((q2,Ob.arr 5 [gT c.path false pm (.tl [] (some true))])::X2) q2=some (.arr 5 [gT c.path false pm (.tl [] (some true))]):=look_hd ..
      generalize ((q2,Ob.arr 5 [gT c.path false pm (.tl [] (some true))])::X2)=X3 at k1 k2 ⊢
      have R3:RA X3 (q2+1) 0 5 (.own m' 5 (out.length+1) 0 (out.length+1)) ((out++[zT]).map eT) m':=by rw[←hv2];exact R2.mono (by omega) fun _=>k1 m' hm2
      refine loop_wp 2 (fun s e h'=>∃ Xi qi o nxs m10 v10 vo,h'=⟨Xi,qi⟩∧RA Xi qi 0 5 vo (o.map eT) m'∧Zv.look Xi q2=some (.arr 5 [gT c.path false pm v10])∧RA Xi qi (q2+1) 1 v10 (nxs.map eI) m10∧q2+1≤qi∧(∀ x,x<q2→x≠m'→Zv.look Xi x=Zv.look X3 x)∧(s=0→o=out++[zT]∧nxs=[])∧(s=1→o=Q1.1∧nxs=[Q1.2])∧(s=2→o=Q2.1∧nxs=[Q1.2,Q2.2])∧nxs.length≤2 ∧
       e=[(0,.d (eDs d)),(1,vo),(2,.d (eOs cols)),(3,.d (eWs rows)),(10,.d (.int .i64 (out.length:Int))),(11,.d (.int .i64 (K:Int))),(12,.ptr q2 1 0 0),(13,.d (.int .i64 (s:Int)))]) _ ?_ ?_ 2 0 _ _ (by omega) ⟨X3,q2+1,out++[zT],[],0,_,_,rfl,R3,k2,RA.nil ..,Nat.le_refl _,fun _ _ _=>rfl,fun _=>⟨rfl,rfl⟩,fun h=>by omega,fun h=>by omega,by simp,rfl⟩
      ·rintro s e h' hs ⟨Xi,qi,o,nxs,m10,v10,vo,rfl,Ro,hti,R10,hqi,hfi,hs0,hs1,hs2,hnl1,rfl⟩
       rcases (show s=0∨s=1 by omega) with rfl | rfl
       ·obtain ⟨rfl,hnx0⟩:=hs0 rfl
        clear hs0 hs1 hs2
        have sS:(cols.map eO).take K++(cols.map eO).drop (K+1)=(putC cols K []).map eO:=by unfold putC;simp[List.map_take,List.map_drop]
        obtain ⟨va,Ya,qa,ma,ea,Ra,hqa,hfa⟩:=raL (b:=32) (RA.nil Xi qi qi 2 0) (Nat.le_refl _) (r:=(cols.map eO).take K) (fun y hy=>ocells y (List.mem_of_mem_take hy)) (by simp only[List.length_nil,List.length_take,List.length_map,roomB];omega)
        rw[List.nil_append] at Ra
        obtain ⟨vc,Yc,qc,mc,ec,Rc,hqc,hfc⟩:=raL (b:=32) Ra hqa (r:=(cols.map eO).drop (K+1)) (fun y hy=>ocells y (List.mem_of_mem_drop hy)) (by simp only[List.length_take,List.length_drop,List.length_map,roomB];omega)
        have hfY:∀ x,x<qi→Zv.look Yc x=Zv.look Xi x:=fun x hx=>by rw[hfc x hx,hfa x hx]
        rw[sS] at Rc
        have wK:IntKind.i64.wrap ((K:Int)+1)=((K+1:Nat):Int):=by rw[wrap_ok (by omega) (by omega)];rfl
        have s1:=slc_all (es:=2) (l:=cols.map eO) (n:=K) ocells (by rw[List.length_map];omega)
        have s2:=slc_from (es:=2) (l:=cols.map eO) (n:=K+1) ocells (by rw[List.length_map];omega)
        (simp only[e48,s1,s2,wK,ea,ec,wz,opX,intBin,↓reduceIte,simprocAttr]<;>repeat' (first | refine wpG_s ?_ ?_ | refine wpC_s ?_ ?_)<;>intro hgo<;>(try simp only[dq] at hgo)<;>simp only[hgo,e48,s1,s2,wK,ea,ec,wz,opX,intBin,↓reduceIte,simprocAttr])
        refine loop_wp rows.length (fun ii e h'=>∃ Y q' m15 v15,h'=⟨Y,q'⟩∧RA Y q' qc 2 v15 ((sameRows K pm (rows.take ii)).map eW) m15∧qc≤q'∧(∀ x,x<qc→Zv.look Y x=Zv.look Yc x)∧e=[(0,.d (eDs d)),(1,vo),(2,.d (eOs cols)),(3,.d (eWs rows)),(10,.d (.int .i64 (out.length:Int))),(11,.d (.int .i64 (K:Int))),(12,.ptr q2 1 0 0),(13,.d (.int .i64 0)),(14,vc),(15,v15),(16,.d (.int .i64 (ii:Int)))]) _ ?_ ?_ rows.length 0 _ _ (by omega) ⟨Yc,qc,0,_,rfl,RA.nil ..,Nat.le_refl _,fun _ _=>rfl,rfl⟩
        ·rintro ii e h' hii ⟨Y,q',m15,v15,rfl,R15,hq',hfr,rfl⟩
         obtain ⟨r,hr⟩:=get_of_lt hii
         have hwi:IntKind.i64.wrap ((ii:Int)+1)=((ii+1:Nat):Int):=by rw[wrap_ok (by omega) (by omega)];rfl
         have hrf:=fitR_len (I.fit r (List.mem_of_getElem? hr))
         rw[List.length_map] at hrf
         obtain ⟨pr,hpr⟩:=get_of_lt (l:=r.pats) (n:=K) (by omega)
         have hpa:patAt r K=pr:=by unfold patAt;rw[List.getD_eq_getElem?_getD,hpr];rfl
         have hss:=same_snoc K pm hr
         have hiaR:=iaP hpr
         have hprP:=hpr
         obtain ⟨qk,qk2,qm,qs⟩:=pr
         rw[ePt_mk] at hiaR
         have hcP:(D.agg [.int .i64 qk,.int .i64 qk2,.int .i64 qm,.lst (qs.map ePt)]).cells.length=4:=rfl
         have r10:=fun nx=>row_of (q:=nx) (show Zv.look Y q2=some (.arr 5 [gT c.path false pm v10]) by rw[hfr q2 (by omega),hfY q2 (by omega)];exact hti) (tot:=1) rfl
         have hsl:(sameRows K pm (rows.take ii)).length≤6:=by
          have:=List.length_filterMap_le (fun r=>if sameB K pm r=true then some (putP r K []) else none) (rows.take ii)
          rw[List.length_take] at this;unfold sameRows;omega
         have p1:=slc_all (es:=4) (l:=r.pats.map ePt) (n:=K) ptcells (by rw[List.length_map];omega)
         have p2:=slc_from (es:=4) (l:=r.pats.map ePt) (n:=K+1) ptcells (by rw[List.length_map];omega)
         have k3:Zv.look ((q'+1,Ob.arr 2 [gW r.n (.tl [] (some true))])::Y) (q'+1)=some (.arr 2 [gW r.n (.tl [] (some true))]):=look_hd ..
         obtain ⟨w1,Z1,z1,n1,Z1',g1,g2,g3,g4,g5,g6⟩:=patsL (q:=q'+1+1) k3 (RA.nil _ (q'+1+1) (q'+1+1) 4 0) (Nat.le_refl _) (r:=(r.pats.map ePt).take K) (fun y hy=>ptcells y (List.mem_of_mem_take hy)) (by simp only[List.length_nil,List.length_take,List.length_map,roomB];omega)
         rw[List.nil_append] at g4
         obtain ⟨w3,Z3,z3,n3,Z3',i1,i2,i3,i4,i5,i6⟩:=patsL g3 g4 (by omega) (r:=(r.pats.map ePt).drop (K+1)) (fun y hy=>ptcells y (List.mem_of_mem_drop hy)) (by simp only[List.length_take,List.length_drop,List.length_map,roomB];omega)
         have hS18:(r.pats.map ePt).take K++(r.pats.map ePt).drop (K+1)=(putP r K []).pats.map ePt:=by unfold putP;simp[List.map_take,List.map_drop]
         rw[hS18] at i4
         have rz1:=fun nx=>row_of (q:=nx) g3 (tot:=1) rfl
         obtain ⟨Z4,l1,l2⟩:=fz_W i3 i4 (by omega)
         have hZ4:∀ x,x<q'→Zv.look Z4 x=Zv.look Y x:=fun x hx=>by rw[l2 x (by omega) (by omega),i6 x (by omega),g6 x (by omega),look_tl _ _ (by omega)]
         obtain ⟨v',Y1,q1,m1',e1,R1a,hq1,hf1⟩:=raX (b:=32) (nl:=some false) (R15.keep (q':=z3) (by omega) (Nat.le_refl _) hZ4) (by omega) (x:=eW (putP r K [])) rfl (by rw[List.length_map];unfold roomB;omega)
         have e1:app 2 32 ⟨Z4,z3⟩ v15 (.tl [.d (D.agg [eI r.n,ePs (putP r K []).pats])] (some false))=_:=e1
         have l1:∀ nx,Zv.fzd ⟨Z3',nx⟩ (.ptr (q'+1) 1 0 0)=some (.fp (D.agg [eI r.n,ePs (putP r K []).pats]) 0,⟨Z4,nx⟩):=l1
         cases hk1:(qk == 0) with
         |true=>
          have hsb:sameB K pm r=true:=by unfold sameB;rw[hpa];show (decide (qk=0) || _)=true;rw[show decide (qk=0)=(qk == 0) from rfl,hk1];rfl
          rw[hsb,if_pos rfl] at hss
          (simp only[e48,hii,iaW hr,hiaR,hcP,bne,bft,btf,p1,p2,wK,hwi,hk1,g1,g2,rz1,i1,i2,l1,e1,wz,opX,intBin,↓reduceIte,simprocAttr]<;>repeat' (first | refine wpG_s ?_ ?_ | refine wpC_s ?_ ?_)<;>intro hgo<;>(try simp only[dq] at hgo)<;>simp only[hgo,e48,hii,iaW hr,hiaR,hcP,bne,bft,btf,p1,p2,wK,hwi,hk1,g1,g2,rz1,i1,i2,l1,e1,wz,opX,intBin,↓reduceIte,simprocAttr])
          refine ⟨Y1,q1,m1',v',rfl,?_,by omega,fun x hx=>by rw[hf1 x hx,hZ4 x (by omega),hfr x hx],rfl⟩
          rw[hss,List.map_append];exact R1a
         |false=>
          have hk2:decide (qk=0)=false:=by rw[←hk1];rfl
          cases hnm:(qm == pm) with
          |true=>
           have hnm1:qm=pm:=by simpa using hnm
           have hsb:sameB K pm r=true:=by unfold sameB;rw[hpa];show (decide (qk=0) || decide (qm=pm))=true;rw[hk2,decide_eq_true hnm1];rfl
           rw[hsb,if_pos rfl] at hss
           (simp only[e48,hii,iaW hr,hiaR,hcP,bne,bft,btf,p1,p2,wK,hwi,hk1,r10,hnm,g1,g2,rz1,i1,i2,l1,e1,wz,opX,intBin,↓reduceIte,simprocAttr]<;>repeat' (first | refine wpG_s ?_ ?_ | refine wpC_s ?_ ?_)<;>intro hgo<;>(try simp only[dq] at hgo)<;>simp only[hgo,e48,hii,iaW hr,hiaR,hcP,bne,bft,btf,p1,p2,wK,hwi,hk1,r10,hnm,g1,g2,rz1,i1,i2,l1,e1,wz,opX,intBin,↓reduceIte,simprocAttr])
           refine ⟨Y1,q1,m1',v',rfl,?_,by omega,fun x hx=>by rw[hf1 x hx,hZ4 x (by omega),hfr x hx],rfl⟩
           rw[hss,List.map_append];exact R1a
          |false=>
           have hnm1:qm≠pm:=by simpa using hnm
           have hsb:sameB K pm r=false:=by unfold sameB;rw[hpa];show (decide (qk=0) || decide (qm=pm))=false;rw[hk2,decide_eq_false hnm1];rfl
           rw[hsb,if_neg (by simp),List.append_nil] at hss
           (simp only[e48,hii,iaW hr,hiaR,hcP,bne,bft,btf,p1,p2,wK,hwi,hk1,r10,hnm,wz,opX,intBin,↓reduceIte,simprocAttr]<;>repeat' (first | refine wpG_s ?_ ?_ | refine wpC_s ?_ ?_)<;>intro hgo<;>(try simp only[dq] at hgo)<;>simp only[hgo,e48,hii,iaW hr,hiaR,hcP,bne,bft,btf,p1,p2,wK,hwi,hk1,r10,hnm,wz,opX,intBin,↓reduceIte,simprocAttr])
           refine ⟨Y,q'+1,m15,v15,rfl,?_,by omega,hfr,rfl⟩
           rw[hss];exact R15.up (by omega)
        ·rintro e h' ⟨Y,q',m15,v15,rfl,R15,hq',hfr,rfl⟩
         rw[List.take_length] at R15
         obtain ⟨Y1,hz15,hf15⟩:=rz R15
         have Rc1:=Rc.keep (q':=q') hq' (Nat.le_refl _) (fun x hx=>by rw[hf15 x hx,hfr x hx])
         obtain ⟨Y2,hz14,hf14⟩:=rz Rc1
         have hY2:∀ x,x<qi→Zv.look Y2 x=Zv.look Xi x:=fun x hx=>by rw[hf14 x hx,hf15 x (by omega),hfr x (by omega),hfY x hx]
         obtain ⟨r1,hv1,ma1,vo1,Xa,qa1,rfl,Ro1,hqa1,hme,_,F5⟩:=ih (out++[zT]) (putC cols K []) (sameRows K pm rows) Y2 m' q' vo I1 (by simp;omega) (Ro.keep (by omega) (Nat.le_refl _) hY2)
         obtain rfl:ma1=m':=hme (by simp)
         rw[hQ1] at hv1 Ro1
         have F5:∀ x,x<q'→x≠ma1→Zv.look Xa x=Zv.look Y2 x:=fun x h1 h2=>F5 x h1 (fun _=>h2)
         have hXat:Zv.look Xa q2=some (.arr 5 [gT c.path false pm v10]):=by rw[F5 q2 (by omega) (by omega),hY2 q2 (by omega)];exact hti
         have rta:=fun nx=>row_of (q:=nx) hXat (tot:=1) rfl
         have R10a:RA Xa qa1 (q2+1) 1 v10 (nxs.map eI) m10:=R10.mono (by omega) fun h=>by
          have h5:=R10.lo h
          have h6:=R10.hi h
          rw[F5 m10 (by omega) (by omega),hY2 m10 (by omega)]
         obtain ⟨vn,Xb,qb,mn,en,Rn,hqbn,hfn⟩:=raX (nl:=some false) (x:=eI Q1.2) (b:=8) R10a (by omega) rfl (by rw[List.length_map];unfold roomB;omega)
         have hXbt:Zv.look Xb q2=some (.arr 5 [gT c.path false pm v10]):=by rw[hfn q2 (by omega)];exact hXat
         have hst3:st 1 ⟨Xb,qb⟩ (.ptr q2 1 0 3) vn=some ⟨Zv.upd Xb q2 (.arr 5 [gT c.path false pm vn]),qb⟩:=by
          rw[Rn.v];exact st_next hXbt mn _ qb
         have hlo1:=Rn.lo (by simp)
         have hXc:∀ x,x≠q2→Zv.look (Zv.upd Xb q2 (.arr 5 [gT c.path false pm vn])) x=Zv.look Xb x:=fun x h=>by rw[Zs.look_upd,if_neg h]
         (simp only[e48,hz15,hz14,hv1,rta,en,hst3,wz,opX,intBin,↓reduceIte,simprocAttr]<;>repeat' (first | refine wpG_s ?_ ?_ | refine wpC_s ?_ ?_)<;>intro hgo<;>(try simp only[dq] at hgo)<;>simp only[hgo,e48,hz15,hz14,hv1,rta,en,hst3,wz,opX,intBin,↓reduceIte,simprocAttr])
         refine ⟨Zv.upd Xb q2 (.arr 5 [gT c.path false pm vn]),qb,Q1.1,nxs++[Q1.2],mn,vn,vo1,rfl,?_,?_,?_,by omega,?_,fun h=>absurd h (by simp),fun _=>⟨rfl,by rw[hnx0];rfl⟩,fun h=>absurd h (by simp),by rw[hnx0];simp,rfl⟩
         ·exact Ro1.mono (by omega) fun hs=>by rw[hXc _ (by omega),hfn _ (by omega)]
         ·rw[Zs.look_upd,if_pos rfl,hXbt];rfl
         ·rw[List.map_append];exact Rn.mono (Nat.le_refl _) (fun _=>hXc mn (by omega))
         ·intro x hx h1
          rw[hXc x (by omega),hfn x (by omega),F5 x (by omega) h1,hY2 x (by omega),hfi x hx h1]
       ·obtain ⟨rfl,hnx1⟩:=hs1 rfl
        clear hs0 hs1 hs2
        have sS:(cols.map eO).take K++[eO c]++(cols.map eO).drop (K+1)=cols.map eO:=by rw[List.append_assoc,List.singleton_append];exact (take_drop_at (l:=cols.map eO) (by rw[List.getElem?_map,hc];rfl)).symm
        obtain ⟨va,Ya,qa,ma,ea,Ra,hqa,hfa⟩:=raL (b:=32) (RA.nil Xi qi qi 2 0) (Nat.le_refl _) (r:=(cols.map eO).take K) (fun y hy=>ocells y (List.mem_of_mem_take hy)) (by simp only[List.length_nil,List.length_take,List.length_map,roomB];omega)
        rw[List.nil_append] at Ra
        obtain ⟨vb,Yb,qb,mb,eb,Rb,hqb,hfb⟩:=raX (b:=32) (nl:=some false) Ra hqa (x:=eO c) rfl (by simp only[List.length_take,List.length_map,roomB];omega)
        have eb:app 2 32 ⟨Ya,qa⟩ va (.tl [.d (D.agg [eIs c.path,eI c.ty])] (some false))=_:=eb
        obtain ⟨vc,Yc,qc,mc,ec,Rc,hqc,hfc⟩:=raL (b:=32) Rb (by omega) (r:=(cols.map eO).drop (K+1)) (fun y hy=>ocells y (List.mem_of_mem_drop hy)) (by simp only[List.length_append,List.length_cons,List.length_nil,List.length_take,List.length_drop,List.length_map,roomB];omega)
        have hfY:∀ x,x<qi→Zv.look Yc x=Zv.look Xi x:=fun x hx=>by rw[hfc x hx,hfb x hx,hfa x hx]
        rw[sS] at Rc
        have wK:IntKind.i64.wrap ((K:Int)+1)=((K+1:Nat):Int):=by rw[wrap_ok (by omega) (by omega)];rfl
        have s1:=slc_all (es:=2) (l:=cols.map eO) (n:=K) ocells (by rw[List.length_map];omega)
        have s2:=slc_from (es:=2) (l:=cols.map eO) (n:=K+1) ocells (by rw[List.length_map];omega)
        (simp only[e48,s1,s2,wK,iaO hc,ea,eb,ec,wz,opX,intBin,↓reduceIte,simprocAttr]<;>repeat' (first | refine wpG_s ?_ ?_ | refine wpC_s ?_ ?_)<;>intro hgo<;>(try simp only[dq] at hgo)<;>simp only[hgo,e48,s1,s2,wK,iaO hc,ea,eb,ec,wz,opX,intBin,↓reduceIte,simprocAttr])
        refine loop_wp rows.length (fun ii e h'=>∃ Y q' m15 v15,h'=⟨Y,q'⟩∧RA Y q' qc 2 v15 ((othRows K pm (rows.take ii)).map eW) m15∧qc≤q'∧(∀ x,x<qc→Zv.look Y x=Zv.look Yc x)∧e=[(0,.d (eDs d)),(1,vo),(2,.d (eOs cols)),(3,.d (eWs rows)),(10,.d (.int .i64 (out.length:Int))),(11,.d (.int .i64 (K:Int))),(12,.ptr q2 1 0 0),(13,.d (.int .i64 1)),(14,vc),(15,v15),(16,.d (.int .i64 (ii:Int)))]) _ ?_ ?_ rows.length 0 _ _ (by omega) ⟨Yc,qc,0,_,rfl,RA.nil ..,Nat.le_refl _,fun _ _=>rfl,rfl⟩
        ·rintro ii e h' hii ⟨Y,q',m15,v15,rfl,R15,hq',hfr,rfl⟩
         obtain ⟨r,hr⟩:=get_of_lt hii
         have hwi:IntKind.i64.wrap ((ii:Int)+1)=((ii+1:Nat):Int):=by rw[wrap_ok (by omega) (by omega)];rfl
         have hrf:=fitR_len (I.fit r (List.mem_of_getElem? hr))
         rw[List.length_map] at hrf
         obtain ⟨pr,hpr⟩:=get_of_lt (l:=r.pats) (n:=K) (by omega)
         have hpa:patAt r K=pr:=by unfold patAt;rw[List.getD_eq_getElem?_getD,hpr];rfl
         have hss:=oth_snoc K pm hr
         have hiaR:=iaP hpr
         have hprP:=hpr
         obtain ⟨qk,qk2,qm,qs⟩:=pr
         rw[ePt_mk] at hiaR
         have hcP:(D.agg [.int .i64 qk,.int .i64 qk2,.int .i64 qm,.lst (qs.map ePt)]).cells.length=4:=rfl
         have r10:=fun nx=>row_of (q:=nx) (show Zv.look Y q2=some (.arr 5 [gT c.path false pm v10]) by rw[hfr q2 (by omega),hfY q2 (by omega)];exact hti) (tot:=1) rfl
         have hsl:(othRows K pm (rows.take ii)).length≤6:=by
          have:=List.length_filter_le (othB K pm) (rows.take ii)
          rw[List.length_take] at this;unfold othRows;omega
         have p1:=slc_all (es:=4) (l:=r.pats.map ePt) (n:=K) ptcells (by rw[List.length_map];omega)
         have p2:=slc_from (es:=4) (l:=r.pats.map ePt) (n:=K+1) ptcells (by rw[List.length_map];omega)
         have k3:Zv.look ((q'+1,Ob.arr 2 [gW r.n (.tl [] (some true))])::Y) (q'+1)=some (.arr 2 [gW r.n (.tl [] (some true))]):=look_hd ..
         obtain ⟨w1,Z1,z1,n1,Z1',g1,g2,g3,g4,g5,g6⟩:=patsL (q:=q'+1+1) k3 (RA.nil _ (q'+1+1) (q'+1+1) 4 0) (Nat.le_refl _) (r:=(r.pats.map ePt).take K) (fun y hy=>ptcells y (List.mem_of_mem_take hy)) (by simp only[List.length_nil,List.length_take,List.length_map,roomB];omega)
         rw[List.nil_append] at g4
         obtain ⟨w2,Z2,z2,n2,Z2',j1,j2,j3,j4,j5,j6⟩:=patsL g3 g4 (by omega) (r:=[ePt (.mk qk qk2 qm qs)]) (fun y hy=>by rw[List.mem_singleton] at hy;subst hy;exact ePt_cells _) (by simp only[List.length_cons,List.length_nil,List.length_take,List.length_map,roomB];omega)
         have j1:app 4 48 ⟨Z1',z1⟩ w1 (.tl [.d (D.agg [.int .i64 qk,.int .i64 qk2,.int .i64 qm,.lst (qs.map ePt)])] (some false))=some (w2,⟨Z2,z2⟩):=by rw[app_tl1,←ePt_mk];exact j1
         obtain ⟨w3,Z3,z3,n3,Z3',i1,i2,i3,i4,i5,i6⟩:=patsL j3 j4 (by omega) (r:=(r.pats.map ePt).drop (K+1)) (fun y hy=>ptcells y (List.mem_of_mem_drop hy)) (by simp only[List.length_append,List.length_cons,List.length_nil,List.length_take,List.length_drop,List.length_map,roomB];omega)
         have hS18:(r.pats.map ePt).take K++[ePt (.mk qk qk2 qm qs)]++(r.pats.map ePt).drop (K+1)=r.pats.map ePt:=by rw[List.append_assoc,List.singleton_append];exact (take_drop_at (l:=r.pats.map ePt) (by rw[List.getElem?_map,hprP];rfl)).symm
         have rz2:=fun nx=>row_of (q:=nx) j3 (tot:=1) rfl
         rw[hS18] at i4
         have rz1:=fun nx=>row_of (q:=nx) g3 (tot:=1) rfl
         obtain ⟨Z4,l1,l2⟩:=fz_W i3 i4 (by omega)
         have hZ4:∀ x,x<q'→Zv.look Z4 x=Zv.look Y x:=fun x hx=>by rw[l2 x (by omega) (by omega),i6 x (by omega),j6 x (by omega),g6 x (by omega),look_tl _ _ (by omega)]
         obtain ⟨v',Y1,q1,m1',e1,R1a,hq1,hf1⟩:=raX (b:=32) (nl:=some false) (R15.keep (q':=z3) (by omega) (Nat.le_refl _) hZ4) (by omega) (x:=eW (r)) rfl (by rw[List.length_map];unfold roomB;omega)
         have e1:app 2 32 ⟨Z4,z3⟩ v15 (.tl [.d (D.agg [eI r.n,ePs (r).pats])] (some false))=_:=e1
         have l1:∀ nx,Zv.fzd ⟨Z3',nx⟩ (.ptr (q'+1) 1 0 0)=some (.fp (D.agg [eI r.n,ePs (r).pats]) 0,⟨Z4,nx⟩):=l1
         cases hk1:(qk == 0) with
         |true=>
          have hsb:othB K pm r=true:=by unfold othB;rw[hpa];show (decide (qk=0) || _)=true;rw[show decide (qk=0)=(qk == 0) from rfl,hk1];rfl
          rw[hsb,if_pos rfl] at hss
          (simp only[e48,hii,iaW hr,hiaR,hcP,bne,bft,btf,p1,p2,wK,hwi,hk1,g1,g2,rz1,j1,j2,rz2,i1,i2,l1,e1,wz,opX,intBin,↓reduceIte,simprocAttr]<;>repeat' (first | refine wpG_s ?_ ?_ | refine wpC_s ?_ ?_)<;>intro hgo<;>(try simp only[dq] at hgo)<;>simp only[hgo,e48,hii,iaW hr,hiaR,hcP,bne,bft,btf,p1,p2,wK,hwi,hk1,g1,g2,rz1,j1,j2,rz2,i1,i2,l1,e1,wz,opX,intBin,↓reduceIte,simprocAttr])
          refine ⟨Y1,q1,m1',v',rfl,?_,by omega,fun x hx=>by rw[hf1 x hx,hZ4 x (by omega),hfr x hx],rfl⟩
          rw[hss,List.map_append];exact R1a
         |false=>
          have hk2:decide (qk=0)=false:=by rw[←hk1];rfl
          cases hnm:(qm == pm) with
          |true=>
           have hnm1:qm=pm:=by simpa using hnm
           have hsb:othB K pm r=false:=by unfold othB;rw[hpa];show (decide (qk=0) || decide (qm≠pm))=false;rw[hk2,decide_eq_false (by simp[hnm1])];rfl
           rw[hsb,if_neg (by simp),List.append_nil] at hss
           (simp only[e48,hii,iaW hr,hiaR,hcP,bne,bft,btf,p1,p2,wK,hwi,hk1,r10,hnm,wz,opX,intBin,↓reduceIte,simprocAttr]<;>repeat' (first | refine wpG_s ?_ ?_ | refine wpC_s ?_ ?_)<;>intro hgo<;>(try simp only[dq] at hgo)<;>simp only[hgo,e48,hii,iaW hr,hiaR,hcP,bne,bft,btf,p1,p2,wK,hwi,hk1,r10,hnm,wz,opX,intBin,↓reduceIte,simprocAttr])
           refine ⟨Y,q'+1,m15,v15,rfl,?_,by omega,hfr,rfl⟩
           rw[hss];exact R15.up (by omega)
          |false=>
           have hnm1:qm≠pm:=by simpa using hnm
           have hsb:othB K pm r=true:=by unfold othB;rw[hpa];show (decide (qk=0) || decide (qm≠pm))=true;rw[hk2,decide_eq_true hnm1];rfl
           rw[hsb,if_pos rfl] at hss
           (simp only[e48,hii,iaW hr,hiaR,hcP,bne,bft,btf,p1,p2,wK,hwi,hk1,r10,hnm,g1,g2,rz1,j1,j2,rz2,i1,i2,l1,e1,wz,opX,intBin,↓reduceIte,simprocAttr]<;>repeat' (first | refine wpG_s ?_ ?_ | refine wpC_s ?_ ?_)<;>intro hgo<;>(try simp only[dq] at hgo)<;>simp only[hgo,e48,hii,iaW hr,hiaR,hcP,bne,bft,btf,p1,p2,wK,hwi,hk1,r10,hnm,g1,g2,rz1,j1,j2,rz2,i1,i2,l1,e1,wz,opX,intBin,↓reduceIte,simprocAttr])
           refine ⟨Y1,q1,m1',v',rfl,?_,by omega,fun x hx=>by rw[hf1 x hx,hZ4 x (by omega),hfr x hx],rfl⟩
           rw[hss,List.map_append];exact R1a
        ·rintro e h' ⟨Y,q',m15,v15,rfl,R15,hq',hfr,rfl⟩
         rw[List.take_length] at R15
         obtain ⟨Y1,hz15,hf15⟩:=rz R15
         have Rc1:=Rc.keep (q':=q') hq' (Nat.le_refl _) (fun x hx=>by rw[hf15 x hx,hfr x hx])
         obtain ⟨Y2,hz14,hf14⟩:=rz Rc1
         have hY2:∀ x,x<qi→Zv.look Y2 x=Zv.look Xi x:=fun x hx=>by rw[hf14 x hx,hf15 x (by omega),hfr x (by omega),hfY x hx]
         obtain ⟨r1,hv1,ma1,vo1,Xa,qa1,rfl,Ro1,hqa1,hme,_,F5⟩:=ih Q1.1 cols (othRows K pm rows) Y2 m' q' vo I2 (by omega) (Ro.keep (by omega) (Nat.le_refl _) hY2)
         obtain rfl:ma1=m':=hme hneQ
         rw[hQ2] at hv1 Ro1
         have F5:∀ x,x<q'→x≠ma1→Zv.look Xa x=Zv.look Y2 x:=fun x h1 h2=>F5 x h1 (fun _=>h2)
         have hXat:Zv.look Xa q2=some (.arr 5 [gT c.path false pm v10]):=by rw[F5 q2 (by omega) (by omega),hY2 q2 (by omega)];exact hti
         have rta:=fun nx=>row_of (q:=nx) hXat (tot:=1) rfl
         have R10a:RA Xa qa1 (q2+1) 1 v10 (nxs.map eI) m10:=R10.mono (by omega) fun h=>by
          have h5:=R10.lo h
          have h6:=R10.hi h
          rw[F5 m10 (by omega) (by omega),hY2 m10 (by omega)]
         obtain ⟨vn,Xb,qb,mn,en,Rn,hqbn,hfn⟩:=raX (nl:=some false) (x:=eI Q2.2) (b:=8) R10a (by omega) rfl (by rw[List.length_map];unfold roomB;omega)
         have hXbt:Zv.look Xb q2=some (.arr 5 [gT c.path false pm v10]):=by rw[hfn q2 (by omega)];exact hXat
         have hst3:st 1 ⟨Xb,qb⟩ (.ptr q2 1 0 3) vn=some ⟨Zv.upd Xb q2 (.arr 5 [gT c.path false pm vn]),qb⟩:=by
          rw[Rn.v];exact st_next hXbt mn _ qb
         have hlo1:=Rn.lo (by simp)
         have hXc:∀ x,x≠q2→Zv.look (Zv.upd Xb q2 (.arr 5 [gT c.path false pm vn])) x=Zv.look Xb x:=fun x h=>by rw[Zs.look_upd,if_neg h]
         (simp only[e48,hz15,hz14,hv1,rta,en,hst3,wz,opX,intBin,↓reduceIte,simprocAttr]<;>repeat' (first | refine wpG_s ?_ ?_ | refine wpC_s ?_ ?_)<;>intro hgo<;>(try simp only[dq] at hgo)<;>simp only[hgo,e48,hz15,hz14,hv1,rta,en,hst3,wz,opX,intBin,↓reduceIte,simprocAttr])
         refine ⟨Zv.upd Xb q2 (.arr 5 [gT c.path false pm vn]),qb,Q2.1,nxs++[Q2.2],mn,vn,vo1,rfl,?_,?_,?_,by omega,?_,fun h=>absurd h (by simp),fun h=>absurd h (by simp),fun _=>⟨rfl,by rw[hnx1];rfl⟩,by rw[hnx1];simp,rfl⟩
         ·exact Ro1.mono (by omega) fun hs=>by rw[hXc _ (by omega),hfn _ (by omega)]
         ·rw[Zs.look_upd,if_pos rfl,hXbt];rfl
         ·rw[List.map_append];exact Rn.mono (Nat.le_refl _) (fun _=>hXc mn (by omega))
         ·intro x hx h1
          rw[hXc x (by omega),hfn x (by omega),F5 x (by omega) h1,hY2 x (by omega),hfi x hx h1]
      ·rintro e h' ⟨Xi,qi,o,nxs,m10,v10,vo,rfl,Ro,hti,R10,hqi,hfi,hs0,hs1,hs2,hnl1,rfl⟩
       obtain ⟨rfl,rfl⟩:=hs2 rfl
       obtain ⟨Ye,hz3,hf3⟩:=fz_T (X:=Xi) (a:=q2) hti R10 (by omega)
       have hYe:∀ x,x<q2→Zv.look Ye x=Zv.look Xi x:=fun x h1=>hf3 x (by omega) (fun _=>by have:=R10.lo (by simp);omega)
       have hneQ2:Q2.1≠[]:=fun h=>by have h1:=L2.1;have h2:=L1.1;rw[h,List.length_nil] at h1;omega
       have hvo:vo=.own m' 5 Q2.1.length 0 Q2.1.length:=by rw[Ro.v];unfold rowN;rw[if_neg (by simpa using hneQ2),List.length_map]
       have hlkm:Zv.look Ye m'=some (.arr 5 ((Q2.1.map eT).map .d)):=by rw[hYe m' hm2];exact Ro.row (by simpa using hneQ2)
       have hio8:=ia_own (es:=5) (n:=m') (tot:=Q2.1.length) .i64 (show out.length<Q2.1.length by omega)
       have hst8:=fun nx=>st_elem hlkm (L:=Q2.1.length) rfl (show out.length<Q2.1.length by omega) ⟨c.path,false,pm,[Q1.2,Q2.2],0⟩ nx
       have hst8:∀ nx,st 5 ⟨Ye,nx⟩ (.ptr m' Q2.1.length out.length 0) (.d (D.agg [eIs c.path,.bool false,eI pm,eIs [Q1.2,Q2.2],eI 0]))=_:=hst8
       subst hvo
       (simp only[e48,hz3,hio8,hst8,wz,opX,intBin,↓reduceIte,simprocAttr]<;>repeat' (first | refine wpG_s ?_ ?_ | refine wpC_s ?_ ?_)<;>intro hgo<;>(try simp only[dq] at hgo)<;>simp only[hgo,e48,hz3,hio8,hst8,wz,opX,intBin,↓reduceIte,simprocAttr])
       refine ⟨_,rfl,m',_,_,qi,rfl,⟨?_,fun _=>?_,fun _=>Nat.zero_le _,fun _=>by omega⟩,by omega,hmm,hm0,fun x h1 h2=>?_⟩
       ·unfold rowN;rw[if_neg (by simpa using hneQ2)];simp
       ·rw[Zs.look_upd,if_pos rfl,hlkm];rfl
       ·rw[Zs.look_upd,if_neg (hdiff x h1 h2),hYe x (by omega),hfi x (by omega) (hdiff x h1 h2),k1 x (by omega)]
        exact F2 x h1 h2
     |false=>
      have hty2:c.ty≠0:=by simpa using hty
      rw[if_neg hty2]
      obtain ⟨n',y,hct2,hy⟩:∃ (n':Nat) (y:Dt),c.ty=(n':Int)+1∧d[n']? = some y:=by
       rcases tcase d c.ty with h | h | h
       ·exfalso;unfold isT at hct;simp only[Bool.and_eq_true,decide_eq_true_eq] at hct;omega
       ·exfalso;unfold isT at hct;simp only[Bool.and_eq_true,decide_eq_true_eq] at hct;omega
       ·exact h
      have hym:=List.mem_of_getElem? hy
      have hyl:=(S.ds y hym).2.1
      have hdl:=S.len
      have hnd:=(List.getElem?_eq_some_iff.1 hy).1
      have hws:=wrap_sub1 (n:=n') (by omega)
      have hco:consOf d c.ty=y.cons:=by rw[hct2];exact consOf_at hy
      have hB3:bldC d (buildS d k) cols rows K c out=((conL (buildS d k) cols rows K c 0 y.cons (out++[zT]) []).1.set out.length ⟨c.path,true,0,(conL (buildS d k) cols rows K c 0 y.cons (out++[zT]) []).2,0⟩,(out.length:Int)):=by
       unfold bldC;rw[hco]
      rw[hB3]
      (simp only[e48,hlt,ia0,hiaP,hk0,hne2,iaO hc,hty,bne,mk_t0,hct2,hws,iaD hy,wz,opX,intBin,↓reduceIte,simprocAttr]<;>repeat' (first | refine wpG_s ?_ ?_ | refine wpC_s ?_ ?_)<;>intro hgo<;>(try simp only[dq] at hgo)<;>simp only[hgo,e48,hlt,ia0,hiaP,hk0,hne2,iaO hc,hty,bne,mk_t0,hct2,hws,iaD hy,wz,opX,intBin,↓reduceIte,simprocAttr])
      have k1:∀ x,x<q2→Zv.look ((q2,Ob.arr 5 [gT c.path true 0 (.tl [] (some true))])::X2) x=Zv.look X2 x:=fun x hx=>look_tl _ _ (by omega)
      have k2:Zv.look ((q2,Ob.arr 5 [gT c.path true 0 (.tl [] (some true))])::X2) q2=some (.arr 5 [gT c.path true 0 (.tl [] (some true))]):=look_hd ..
      generalize ((q2,Ob.arr 5 [gT c.path true 0 (.tl [] (some true))])::X2)=X3 at k1 k2 ⊢
      have R3:RA X3 (q2+1) 0 5 (.own m' 5 (out.length+1) 0 (out.length+1)) ((out++[zT]).map eT) m':=by rw[←hv2];exact R2.mono (by omega) fun _=>k1 m' hm2
      have wK:IntKind.i64.wrap ((K:Int)+1)=((K+1:Nat):Int):=by rw[wrap_ok (by omega) (by omega)];rfl
      have s1:=slc_all (es:=2) (l:=cols.map eO) (n:=K) ocells (by rw[List.length_map];omega)
      have s2:=slc_from (es:=2) (l:=cols.map eO) (n:=K+1) ocells (by rw[List.length_map];omega)
      refine loop_wp y.cons.length (fun i e h'=>∃ Xi qi o nxs m10 v10 vo,h'=⟨Xi,qi⟩∧RA Xi qi 0 5 vo (o.map eT) m'∧Zv.look Xi q2=some (.arr 5 [gT c.path true 0 v10])∧RA Xi qi (q2+1) 1 v10 (nxs.map eI) m10∧q2+1≤qi∧(∀ x,x<q2→x≠m'→Zv.look Xi x=Zv.look X3 x)∧out.length+1≤o.length∧o.length≤4097∧nxs.length=i ∧
       conL (buildS d k) cols rows K c 0 y.cons (out++[zT]) []=conL (buildS d k) cols rows K c i (y.cons.drop i) o nxs ∧
       e=[(0,.d (eDs d)),(1,vo),(2,.d (eOs cols)),(3,.d (eWs rows)),(10,.d (.int .i64 (out.length:Int))),(11,.d (.int .i64 (K:Int))),(12,.ptr q2 1 0 0),(20,.d (.lst (y.cons.map eC))),(21,.d (.int .i64 (i:Int)))]) _ ?_ ?_ y.cons.length 0 _ _ (by omega) ⟨X3,q2+1,out++[zT],[],0,_,_,rfl,R3,k2,RA.nil ..,Nat.le_refl _,fun _ _ _=>rfl,by simp,by simp;omega,rfl,rfl,rfl⟩
      ·rintro i e h' hi ⟨Xi,qi,o,nxs,m10,v10,vo,rfl,Ro,hti,R10,hqi,hfi,ho1,ho2,hnx,hch,rfl⟩
       obtain ⟨z,hz1⟩:=get_of_lt hi
       have hzm:=List.mem_of_getElem? hz1
       have hzf:=((S.ds y hym).2.2 z hzm).2
       have hwr:IntKind.i64.wrap ((i:Int)+1)=((i+1:Nat):Int):=by rw[wrap_ok (by omega) (by omega)];rfl
       rw[drop_at hz1] at hch
       have hIc:=I.con hr0 hz hc hty2 (by rw[hco];exact hz1)
       obtain ⟨va,Ya,qa,ma,ea,Ra,hqa,hfa⟩:=raL (b:=32) (RA.nil Xi qi qi 2 0) (Nat.le_refl _) (r:=(cols.map eO).take K) (fun y hy=>ocells y (List.mem_of_mem_take hy)) (by simp only[List.length_nil,List.length_take,List.length_map,roomB];omega)
       rw[List.nil_append] at Ra
       (simp only[e48,hi,s1,ea,wz,opX,intBin,↓reduceIte,simprocAttr]<;>repeat' (first | refine wpG_s ?_ ?_ | refine wpC_s ?_ ?_)<;>intro hgo<;>(try simp only[dq] at hgo)<;>simp only[hgo,e48,hi,s1,ea,wz,opX,intBin,↓reduceIte,simprocAttr])
       refine loop_wp z.flds.length (fun j e h'=>∃ Y qq mb vb,h'=⟨Y,qq⟩∧RA Y qq qi 2 vb ((cols.map eO).take K++(fldC c.path (z.flds.take j)).map eO) mb∧qi≤qq∧(∀ x,x<qi→Zv.look Y x=Zv.look Xi x) ∧
        e=[(0,.d (eDs d)),(1,vo),(2,.d (eOs cols)),(3,.d (eWs rows)),(10,.d (.int .i64 (out.length:Int))),(11,.d (.int .i64 (K:Int))),(12,.ptr q2 1 0 0),(20,.d (.lst (y.cons.map eC))),(21,.d (.int .i64 (i:Int))),(22,vb),(23,.d (.int .i64 (j:Int)))]) _ ?_ ?_ z.flds.length 0 _ _ (by omega) ⟨Ya,qa,ma,va,rfl,by simpa [fldC] using Ra,hqa,hfa,rfl⟩
       ·rintro j e h' hj ⟨Y,qq,mb,vb,rfl,Rb,hqq,hfr,rfl⟩
        obtain ⟨f,hf⟩:=get_of_lt hj
        have hwj:IntKind.i64.wrap ((j:Int)+1)=((j+1:Nat):Int):=by rw[wrap_ok (by omega) (by omega)];rfl
        have hwt:=fun h=>with_ok c.path (j:Int) (by omega) h
        have hfs:=fldC_snoc c.path hf
        have hfl:(fldC c.path (z.flds.take j)).length≤8:=by unfold fldC;rw[List.length_map,List.length_zipIdx,List.length_take];omega
        obtain ⟨v',Y1,q1,m1',e1,R1a,hq1,hf1⟩:=raX (nl:=some false) (x:=eO ⟨c.path++[(j:Int)],f⟩) (b:=32) Rb hqq rfl (by simp only[List.length_append,List.length_take,List.length_map,roomB];omega)
        have e1:app 2 32 ⟨Y,qq⟩ vb (.tl [.d (D.agg [eIs (c.path++[(j:Int)]),eI f])] (some false))=_:=e1
        (simp only[e48,hj,iaC hz1,iaI hf,iaO hc,hwt,hwj,e1,wz,opX,intBin,↓reduceIte,simprocAttr]<;>repeat' (first | refine wpG_s ?_ ?_ | refine wpC_s ?_ ?_)<;>intro hgo<;>(try simp only[dq] at hgo)<;>simp only[hgo,e48,hj,iaC hz1,iaI hf,iaO hc,hwt,hwj,e1,wz,opX,intBin,↓reduceIte,simprocAttr])
        refine ⟨Y1,q1,m1',v',rfl,?_,by omega,fun x hx=>by rw[hf1 x hx,hfr x hx],rfl⟩
        rw[hfs,List.map_append,←List.append_assoc];exact R1a
       ·rintro e h' ⟨Y,qq,mb,vb,rfl,Rb,hqq,hfr,rfl⟩
        rw[List.take_length] at Rb
        have hfl:(fldC c.path z.flds).length≤8:=by unfold fldC;rw[List.length_map,List.length_zipIdx];omega
        obtain ⟨vc,Yc,qc,mc,ec,Rc,hqc,hfc⟩:=raL (b:=32) Rb hqq (r:=(cols.map eO).drop (K+1)) (fun y hy=>ocells y (List.mem_of_mem_drop hy)) (by simp only[List.length_append,List.length_take,List.length_drop,List.length_map,roomB];omega)
        have sS:(cols.map eO).take K++(fldC c.path z.flds).map eO++(cols.map eO).drop (K+1)=(putC cols K (fldC c.path z.flds)).map eO:=by unfold putC;simp[List.map_take,List.map_drop]
        rw[sS] at Rc
        have hfY:∀ x,x<qi→Zv.look Yc x=Zv.look Xi x:=fun x hx=>by rw[hfc x hx,hfr x hx]
        (simp only[e48,iaC hz1,wK,s2,ec,wz,opX,intBin,↓reduceIte,simprocAttr]<;>repeat' (first | refine wpG_s ?_ ?_ | refine wpC_s ?_ ?_)<;>intro hgo<;>(try simp only[dq] at hgo)<;>simp only[hgo,e48,iaC hz1,wK,s2,ec,wz,opX,intBin,↓reduceIte,simprocAttr])
        refine loop_wp rows.length (fun ii e h'=>∃ Y q' m15 v15,h'=⟨Y,q'⟩∧RA Y q' qc 2 v15 ((conRows K (i:Int) z.flds.length (rows.take ii)).map eW) m15∧qc≤q'∧(∀ x,x<qc→Zv.look Y x=Zv.look Yc x) ∧
         e=[(0,.d (eDs d)),(1,vo),(2,.d (eOs cols)),(3,.d (eWs rows)),(10,.d (.int .i64 (out.length:Int))),(11,.d (.int .i64 (K:Int))),(12,.ptr q2 1 0 0),(20,.d (.lst (y.cons.map eC))),(21,.d (.int .i64 (i:Int))),(22,vc),(24,v15),(25,.d (.int .i64 (ii:Int)))]) _ ?_ ?_ rows.length 0 _ _ (by omega) ⟨Yc,qc,0,_,rfl,RA.nil ..,Nat.le_refl _,fun _ _=>rfl,rfl⟩
        ·rintro ii e h' hii ⟨Y,q',m15,v15,rfl,R15,hq',hfr,rfl⟩
         obtain ⟨r,hr⟩:=get_of_lt hii
         have hwi:IntKind.i64.wrap ((ii:Int)+1)=((ii+1:Nat):Int):=by rw[wrap_ok (by omega) (by omega)];rfl
         have hrfit:=I.fit r (List.mem_of_getElem? hr)
         have hrf:=fitR_len hrfit
         rw[List.length_map] at hrf
         obtain ⟨pr,hpr⟩:=get_of_lt (l:=r.pats) (n:=K) (by omega)
         have hpa:patAt r K=pr:=by unfold patAt;rw[List.getD_eq_getElem?_getD,hpr];rfl
         have hcs:=con_snoc K (i:Int) z.flds.length hr
         have hiaR:=iaP hpr
         have hsl:(conRows K (i:Int) z.flds.length (rows.take ii)).length≤6:=by
          have:=List.length_filterMap_le (conRow K (i:Int) z.flds.length) (rows.take ii)
          rw[List.length_take] at this;unfold conRows;omega
         have p1:=slc_all (es:=4) (l:=r.pats.map ePt) (n:=K) ptcells (by rw[List.length_map];omega)
         have p2:=slc_from (es:=4) (l:=r.pats.map ePt) (n:=K+1) ptcells (by rw[List.length_map];omega)
         have hargl:=fit_at hrfit hpr (by rw[List.getElem?_map,hc];rfl)
         obtain ⟨qk,qk2,qm,qs⟩:=pr
         rw[ePt_mk] at hiaR
         have hcP:(D.agg [.int .i64 qk,.int .i64 qk2,.int .i64 qm,.lst (qs.map ePt)]).cells.length=4:=rfl
         have hbody:∀ A:List Pt,argsFor (.mk qk qk2 qm qs) (i:Int) z.flds.length=some A→A.length=z.flds.length→∀ (kq:Bool),(qk == 0)=kq→(kq=true→∀ (jj:Nat) aj,A[jj]? = some aj→aj=wildT)→(kq=false→A=qs) →
           ∀ (Z1':List (Nat × Ob)) (z1 n1:Nat) (w1:V),Zv.look Z1' (q'+1)=some (.arr 2 [gW r.n w1])→RA Z1' z1 (q'+1+1) 4 w1 ((r.pats.map ePt).take K) n1→q'+1+1≤z1→(∀ x,x<q'+1→Zv.look Z1' x=Zv.look Y x) →
           ∀ Q:Out→Prop,(∀ Z zz w n18,Zv.look Z (q'+1)=some (.arr 2 [gW r.n w])→RA Z zz (q'+1+1) 4 w ((r.pats.map ePt).take K++A.map ePt) n18→q'+1+1≤zz→(∀ x,x<q'+1→Zv.look Z x=Zv.look Y x)→Q (.exit 12,[(0,.d (eDs d)),(1,vo),(2,.d (eOs cols)),(3,.d (eWs rows)),(10,.d (.int .i64 (out.length:Int))),(11,.d (.int .i64 (K:Int))),(12,.ptr q2 1 0 0),(20,.d (.lst (y.cons.map eC))),(21,.d (.int .i64 (i:Int))),(22,vc),(24,v15),(25,.d (.int .i64 (ii:Int))),(26,.fp (D.agg [.int .i64 qk,.int .i64 qk2,.int .i64 qm,.lst (qs.map ePt)]) 0),(27,.ptr (q'+1) 1 0 0),(28,.d (.int .i64 z.flds.length)),(312,.d (.bool false))],⟨Z,zz⟩)) →
            wp tab (.loop f48l4) [(0,.d (eDs d)),(1,vo),(2,.d (eOs cols)),(3,.d (eWs rows)),(10,.d (.int .i64 (out.length:Int))),(11,.d (.int .i64 (K:Int))),(12,.ptr q2 1 0 0),(20,.d (.lst (y.cons.map eC))),(21,.d (.int .i64 (i:Int))),(22,vc),(24,v15),(25,.d (.int .i64 (ii:Int))),(26,.fp (D.agg [.int .i64 qk,.int .i64 qk2,.int .i64 qm,.lst (qs.map ePt)]) 0),(27,.ptr (q'+1) 1 0 0),(28,.d (.int .i64 0))] ⟨Z1',z1⟩ Q:=by
          intro A hA hAl kq hkq hAw hAq Z1' z1 n1 w1 g3 g4 g5 g6 Q hQ
          refine loop_wp z.flds.length (fun jj e h'=>∃ Z zz w n18,h'=⟨Z,zz⟩∧Zv.look Z (q'+1)=some (.arr 2 [gW r.n w])∧RA Z zz (q'+1+1) 4 w ((r.pats.map ePt).take K++(A.take jj).map ePt) n18∧q'+1+1≤zz∧(∀ x,x<q'+1→Zv.look Z x=Zv.look Y x) ∧
           e=[(0,.d (eDs d)),(1,vo),(2,.d (eOs cols)),(3,.d (eWs rows)),(10,.d (.int .i64 (out.length:Int))),(11,.d (.int .i64 (K:Int))),(12,.ptr q2 1 0 0),(20,.d (.lst (y.cons.map eC))),(21,.d (.int .i64 (i:Int))),(22,vc),(24,v15),(25,.d (.int .i64 (ii:Int))),(26,.fp (D.agg [.int .i64 qk,.int .i64 qk2,.int .i64 qm,.lst (qs.map ePt)]) 0),(27,.ptr (q'+1) 1 0 0),(28,.d (.int .i64 (jj:Int)))]) _ ?_ ?_ z.flds.length 0 _ _ (by omega) ⟨Z1',z1,w1,n1,rfl,g3,by simpa using g4,g5,g6,rfl⟩
          ·rintro jj e h' hjj ⟨Z,zz,w,n18,rfl,hg,Rg,hzz,hfz,rfl⟩
           obtain ⟨aj,haj⟩:=get_of_lt (l:=A) (n:=jj) (by omega)
           have hwj:IntKind.i64.wrap ((jj:Int)+1)=((jj+1:Nat):Int):=by rw[wrap_ok (by omega) (by omega)];rfl
           have htk:(A.take (jj+1)).map ePt=(A.take jj).map ePt++[ePt aj]:=ptl A jj haj
           have hz8:z.flds.length≤8:=hzf
           have hstep:∀ o29:Ob,∃ w' Z' z' n19,app 4 48 ⟨(zz,o29)::Z,zz+1⟩ w (.tl [.d (ePt aj)] (some false))=some (w',⟨Z',z'⟩)∧st 1 ⟨Z',z'⟩ (.ptr (q'+1) 1 0 1) w'=some ⟨Zv.upd Z' (q'+1) (.arr 2 [gW r.n w']),z'⟩∧Zv.look (Zv.del (Zv.upd Z' (q'+1) (.arr 2 [gW r.n w'])) zz) (q'+1)=some (.arr 2 [gW r.n w']) ∧
             RA (Zv.del (Zv.upd Z' (q'+1) (.arr 2 [gW r.n w'])) zz) z' (q'+1+1) 4 w' ((r.pats.map ePt).take K++(A.take (jj+1)).map ePt) n19∧zz+1≤z'∧∀ x,x<q'+1→Zv.look (Zv.del (Zv.upd Z' (q'+1) (.arr 2 [gW r.n w'])) zz) x=Zv.look Y x:=by
            intro o29
            have Rg':RA ((zz,o29)::Z) (zz+1) (q'+1+1) 4 w ((r.pats.map ePt).take K++(A.take jj).map ePt) n18:=Rg.mono (by omega) fun hs=>look_tl _ _ (by have:=Rg.hi hs;omega)
            obtain ⟨w',Z',z',n19,e1,R1,hz',hm1,hm2',hf'⟩:=ra_app (nl:=some false) (b:=48) Rg' (by omega) (ePt_cells aj) (by simp only[List.length_append,List.length_take,List.length_map,roomB];omega)
            have hn19:n19≠zz:=by
             intro e
             by_cases hs:(r.pats.map ePt).take K++(A.take jj).map ePt=[]
             ·have:=hm2' hs;omega
             ·have:=hm1 hs;have:=Rg.hi hs;omega
            have hlo:=R1.lo (by simp)
            have hgz:Zv.look Z' (q'+1)=some (.arr 2 [gW r.n w]):=by rw[hf' (q'+1) (by omega) (fun hs=>by have:=Rg.lo hs;omega),look_tl _ _ (by omega)];exact hg
            refine ⟨w',Z',z',n19,e1,?_,?_,?_,by omega,fun x hx=>?_⟩
            ·rw[R1.v];exact st_pats hgz n19 _ z'
            ·rw[look_del (by omega),Zs.look_upd,if_pos rfl,hgz];rfl
            ·rw[htk,←List.append_assoc]
             exact R1.mono (Nat.le_refl _) fun _=>by rw[look_del hn19,Zs.look_upd,if_neg (by omega)]
            ·rw[look_del (by omega),Zs.look_upd,if_neg (by omega),hf' x (by omega) (fun hs=>by have:=Rg.lo hs;omega),look_tl _ _ (by omega)];exact hfz x hx
           have rgz:=fun (o29:Ob) nx=>row_cn (n:=q'+1) (m:=zz) (o:=o29) (nx:=nx) (by omega) (fun nx=>row_of (q:=nx) hg (tot:=1) rfl)
           cases kq with
           |true=>
            obtain rfl:=hAw rfl jj aj haj
            obtain ⟨w',Z',z',n19,e1,e2,e3,e4,e5,e6⟩:=hstep (.arr 4 [.agg [.d (.int .i64 0),.d (.int .i64 0),.d (.int .i64 0),.tl [] (some true)]])
            have hkl:∀ A B,Hp.kill ⟨A,B⟩ zz=⟨Zv.del A zz,B⟩:=fun _ _=>rfl
            (simp only[e48,iaC hz1,hjj,mk_w1,mk_w,hkq,bne,rgz,ld_pat,e1,e2,hkl,hwj,wz,opX,intBin,↓reduceIte,simprocAttr]<;>repeat' (first | refine wpG_s ?_ ?_ | refine wpC_s ?_ ?_)<;>intro hgo<;>(try simp only[dq] at hgo)<;>simp only[hgo,e48,iaC hz1,hjj,mk_w1,mk_w,hkq,bne,rgz,ld_pat,e1,e2,hkl,hwj,wz,opX,intBin,↓reduceIte,simprocAttr])
            exact⟨_,_,_,_,rfl,e3,e4,by omega,e6⟩
           |false=>
            obtain rfl:=hAq rfl
            have hiaj:=iaP haj
            obtain ⟨w',Z',z',n19,e1,e2,e3,e4,e5,e6⟩:=hstep (.arr 4 [.d (ePt aj)])
            have hkl:∀ A B,Hp.kill ⟨A,B⟩ zz=⟨Zv.del A zz,B⟩:=fun _ _=>rfl
            (simp only[e48,iaC hz1,hjj,mk_w1,mk_w,hkq,bne,hiaj,pts,ld_hP,rgz,e1,e2,hkl,hwj,wz,opX,intBin,↓reduceIte,simprocAttr]<;>repeat' (first | refine wpG_s ?_ ?_ | refine wpC_s ?_ ?_)<;>intro hgo<;>(try simp only[dq] at hgo)<;>simp only[hgo,e48,iaC hz1,hjj,mk_w1,mk_w,hkq,bne,hiaj,pts,ld_hP,rgz,e1,e2,hkl,hwj,wz,opX,intBin,↓reduceIte,simprocAttr])
            exact⟨_,_,_,_,rfl,e3,e4,by omega,e6⟩
          ·rintro e h' ⟨Z,zz,w,n18,rfl,hg,Rg,hzz,hfz,rfl⟩
           rw[show A.take z.flds.length=A from List.take_of_length_le (by omega)] at Rg
           (simp only[e48,iaC hz1,wz,opX,intBin,↓reduceIte,simprocAttr]<;>repeat' (first | refine wpG_s ?_ ?_ | refine wpC_s ?_ ?_)<;>intro hgo<;>(try simp only[dq] at hgo)<;>simp only[hgo,e48,iaC hz1,wz,opX,intBin,↓reduceIte,simprocAttr])
           exact hQ Z zz w n18 hg Rg hzz hfz
         cases hk1:(qk == 0) with
         |true=>
          have hAl:(List.replicate z.flds.length wildT).length=z.flds.length:=List.length_replicate
          have hA:argsFor (.mk qk qk2 qm qs) (i:Int) z.flds.length=some (List.replicate z.flds.length wildT):=by unfold argsFor;exact if_pos (show qk=0 from by simpa using hk1)
          have hcr:conRow K (i:Int) z.flds.length r=some (putP r K (List.replicate z.flds.length wildT)):=by unfold conRow;rw[hpa,hA];rfl
          rw[hcr,Option.toList_some] at hcs
          have k3:Zv.look ((q'+1,Ob.arr 2 [gW r.n (.tl [] (some true))])::Y) (q'+1)=some (.arr 2 [gW r.n (.tl [] (some true))]):=look_hd ..
          obtain ⟨w1,Z1,z1,n1,Z1',g1,g2,g3,g4,g5,g6⟩:=patsL (q:=q'+1+1) k3 (RA.nil _ (q'+1+1) (q'+1+1) 4 0) (Nat.le_refl _) (r:=(r.pats.map ePt).take K) (fun y hy=>ptcells y (List.mem_of_mem_take hy)) (by simp only[List.length_nil,List.length_take,List.length_map,roomB];omega)
          rw[List.nil_append] at g4
          (simp only[e48,hii,iaW hr,hiaR,hcP,bne,hk1,p1,g1,g2,wz,opX,intBin,↓reduceIte,simprocAttr]<;>repeat' (first | refine wpG_s ?_ ?_ | refine wpC_s ?_ ?_)<;>intro hgo<;>(try simp only[dq] at hgo)<;>simp only[hgo,e48,hii,iaW hr,hiaR,hcP,bne,hk1,p1,g1,g2,wz,opX,intBin,↓reduceIte,simprocAttr])
          refine hbody (List.replicate z.flds.length wildT) hA hAl true hk1 (fun _ jj aj haj=>by have:=List.mem_of_getElem? haj;exact (List.mem_replicate.1 this).2) (fun h=>by cases h) Z1' z1 n1 w1 g3 g4 g5 (fun x hx=>by rw[g6 x hx,look_tl _ _ (by omega)]) _ ?_
          intro Z zz w n18 hg Rg hzz hfz
          obtain ⟨w3,Z3,z3,n3,Z3',i1,i2,i3,i4,i5,i6⟩:=patsL hg Rg hzz (r:=(r.pats.map ePt).drop (K+1)) (fun y hy=>ptcells y (List.mem_of_mem_drop hy)) (by simp only[List.length_append,List.length_take,List.length_drop,List.length_map,hAl,roomB];omega)
          have hS18:(r.pats.map ePt).take K++(List.replicate z.flds.length wildT).map ePt++(r.pats.map ePt).drop (K+1)=(putP r K (List.replicate z.flds.length wildT)).pats.map ePt:=by unfold putP;simp only[List.map_append,List.map_take,List.map_drop]
          rw[hS18] at i4
          obtain ⟨Z4,l1,l2⟩:=fz_W i3 i4 (by omega)
          have hZ4:∀ x,x<q'→Zv.look Z4 x=Zv.look Y x:=fun x hx=>by rw[l2 x (by omega) (by omega),i6 x (by omega),hfz x (by omega)]
          obtain ⟨v',Y1,q1,m1',e1,R1a,hq1,hf1⟩:=raX (b:=32) (nl:=some false) (R15.keep (q':=z3) (by omega) (Nat.le_refl _) hZ4) (by omega) (x:=eW (putP r K (List.replicate z.flds.length wildT))) rfl (by rw[List.length_map];unfold roomB;omega)
          have e1:app 2 32 ⟨Z4,z3⟩ v15 (.tl [.d (D.agg [eI r.n,ePs (putP r K (List.replicate z.flds.length wildT)).pats])] (some false))=_:=e1
          have l1:∀ nx,Zv.fzd ⟨Z3',nx⟩ (.ptr (q'+1) 1 0 0)=some (.fp (D.agg [eI r.n,ePs (putP r K (List.replicate z.flds.length wildT)).pats]) 0,⟨Z4,nx⟩):=l1
          have rzg:=fun nx=>row_of (q:=nx) hg (tot:=1) rfl
          (simp only[e48,iaW hr,wK,p2,rzg,i1,i2,l1,e1,hwi,wz,opX,intBin,↓reduceIte,simprocAttr]<;>repeat' (first | refine wpG_s ?_ ?_ | refine wpC_s ?_ ?_)<;>intro hgo<;>(try simp only[dq] at hgo)<;>simp only[hgo,e48,iaW hr,wK,p2,rzg,i1,i2,l1,e1,hwi,wz,opX,intBin,↓reduceIte,simprocAttr])
          refine ⟨Y1,q1,m1',v',rfl,?_,by omega,fun x hx=>by rw[hf1 x hx,hZ4 x (by omega),hfr x hx],rfl⟩
          rw[hcs,List.map_append];exact R1a
         |false=>
          have hk2:¬ qk=0:=by simpa using hk1
          cases hcc:(qk2 == (i:Int)) with
          |true=>
           have hcc2:qk2=(i:Int):=by simpa using hcc
           have hAl:qs.length=z.flds.length:=by
            rcases fits_cases hargl with ⟨h1,_⟩ | ⟨_,h1,_⟩ | ⟨_,_,_,i',z',h1,h2,h3,_⟩
            ·exact absurd h1 hk2
            ·exact absurd h1 hty2
            ·rw[hcc2] at h1
             have h1:i'=i:=by omega
             subst h1
             rw[hco,hz1] at h2
             cases h2
             exact h3.symm
           have hA:argsFor (.mk qk qk2 qm qs) (i:Int) z.flds.length=some (qs):=by unfold argsFor;rw[if_neg (show ¬ kdP (.mk qk qk2 qm qs)=0 from hk2)];exact if_pos (show qk2=(i:Int) from hcc2)
           have hcr:conRow K (i:Int) z.flds.length r=some (putP r K (qs)):=by unfold conRow;rw[hpa,hA];rfl
           rw[hcr,Option.toList_some] at hcs
           have k3:Zv.look ((q'+1,Ob.arr 2 [gW r.n (.tl [] (some true))])::Y) (q'+1)=some (.arr 2 [gW r.n (.tl [] (some true))]):=look_hd ..
           obtain ⟨w1,Z1,z1,n1,Z1',g1,g2,g3,g4,g5,g6⟩:=patsL (q:=q'+1+1) k3 (RA.nil _ (q'+1+1) (q'+1+1) 4 0) (Nat.le_refl _) (r:=(r.pats.map ePt).take K) (fun y hy=>ptcells y (List.mem_of_mem_take hy)) (by simp only[List.length_nil,List.length_take,List.length_map,roomB];omega)
           rw[List.nil_append] at g4
           (simp only[e48,hii,iaW hr,hiaR,hcP,bne,hk1,hcc,p1,g1,g2,wz,opX,intBin,↓reduceIte,simprocAttr]<;>repeat' (first | refine wpG_s ?_ ?_ | refine wpC_s ?_ ?_)<;>intro hgo<;>(try simp only[dq] at hgo)<;>simp only[hgo,e48,hii,iaW hr,hiaR,hcP,bne,hk1,hcc,p1,g1,g2,wz,opX,intBin,↓reduceIte,simprocAttr])
           refine hbody (qs) hA hAl false hk1 (fun h=>by cases h) (fun _=>rfl) Z1' z1 n1 w1 g3 g4 g5 (fun x hx=>by rw[g6 x hx,look_tl _ _ (by omega)]) _ ?_
           intro Z zz w n18 hg Rg hzz hfz
           obtain ⟨w3,Z3,z3,n3,Z3',i1,i2,i3,i4,i5,i6⟩:=patsL hg Rg hzz (r:=(r.pats.map ePt).drop (K+1)) (fun y hy=>ptcells y (List.mem_of_mem_drop hy)) (by simp only[List.length_append,List.length_take,List.length_drop,List.length_map,hAl,roomB];omega)
           have hS18:(r.pats.map ePt).take K++(qs).map ePt++(r.pats.map ePt).drop (K+1)=(putP r K (qs)).pats.map ePt:=by unfold putP;simp only[List.map_append,List.map_take,List.map_drop]
           rw[hS18] at i4
           obtain ⟨Z4,l1,l2⟩:=fz_W i3 i4 (by omega)
           have hZ4:∀ x,x<q'→Zv.look Z4 x=Zv.look Y x:=fun x hx=>by rw[l2 x (by omega) (by omega),i6 x (by omega),hfz x (by omega)]
           obtain ⟨v',Y1,q1,m1',e1,R1a,hq1,hf1⟩:=raX (b:=32) (nl:=some false) (R15.keep (q':=z3) (by omega) (Nat.le_refl _) hZ4) (by omega) (x:=eW (putP r K (qs))) rfl (by rw[List.length_map];unfold roomB;omega)
           have e1:app 2 32 ⟨Z4,z3⟩ v15 (.tl [.d (D.agg [eI r.n,ePs (putP r K (qs)).pats])] (some false))=_:=e1
           have l1:∀ nx,Zv.fzd ⟨Z3',nx⟩ (.ptr (q'+1) 1 0 0)=some (.fp (D.agg [eI r.n,ePs (putP r K (qs)).pats]) 0,⟨Z4,nx⟩):=l1
           have rzg:=fun nx=>row_of (q:=nx) hg (tot:=1) rfl
           (simp only[e48,iaW hr,wK,p2,rzg,i1,i2,l1,e1,hwi,wz,opX,intBin,↓reduceIte,simprocAttr]<;>repeat' (first | refine wpG_s ?_ ?_ | refine wpC_s ?_ ?_)<;>intro hgo<;>(try simp only[dq] at hgo)<;>simp only[hgo,e48,iaW hr,wK,p2,rzg,i1,i2,l1,e1,hwi,wz,opX,intBin,↓reduceIte,simprocAttr])
           refine ⟨Y1,q1,m1',v',rfl,?_,by omega,fun x hx=>by rw[hf1 x hx,hZ4 x (by omega),hfr x hx],rfl⟩
           rw[hcs,List.map_append];exact R1a
          |false=>
           have hcc2:¬ qk2=(i:Int):=by simpa using hcc
           have hA:argsFor (.mk qk qk2 qm qs) (i:Int) z.flds.length=none:=by unfold argsFor;rw[if_neg (show ¬ kdP (.mk qk qk2 qm qs)=0 from hk2)];exact if_neg (show ¬ qk2=(i:Int) from hcc2)
           have hcr:conRow K (i:Int) z.flds.length r=none:=by unfold conRow;rw[hpa,hA];rfl
           rw[hcr,Option.toList_none,List.append_nil] at hcs
           (simp only[e48,hii,iaW hr,hiaR,hcP,bne,hk1,hcc,hwi,wz,opX,intBin,↓reduceIte,simprocAttr]<;>repeat' (first | refine wpG_s ?_ ?_ | refine wpC_s ?_ ?_)<;>intro hgo<;>(try simp only[dq] at hgo)<;>simp only[hgo,e48,hii,iaW hr,hiaR,hcP,bne,hk1,hcc,hwi,wz,opX,intBin,↓reduceIte,simprocAttr])
           refine ⟨Y,q'+1,m15,v15,rfl,?_,by omega,hfr,rfl⟩
           rw[hcs];exact R15.up (by omega)
        ·rintro e h' ⟨Y,q',m15,v15,rfl,R15,hq',hfr,rfl⟩
         rw[List.take_length] at R15
         obtain ⟨Y1,hz15,hf15⟩:=rz R15
         have Rc1:=Rc.keep (q':=q') hq' (Nat.le_refl _) (fun x hx=>by rw[hf15 x hx,hfr x hx])
         obtain ⟨Y2,hz14,hf14⟩:=rz Rc1
         have hY2:∀ x,x<qi→Zv.look Y2 x=Zv.look Xi x:=fun x hx=>by rw[hf14 x hx,hf15 x (by omega),hfr x (by omega),hfY x hx]
         have hone:o≠[]:=fun h=>by rw[h] at ho1;simp at ho1
         obtain ⟨r1,hv1,ma1,vo1,Xa,qa1,rfl,Ro1,hqa1,hme,_,F5⟩:=ih o (putC cols K (fldC c.path z.flds)) (conRows K (i:Int) z.flds.length rows) Y2 m' q' vo hIc ho2 (Ro.keep (by omega) (Nat.le_refl _) hY2)
         obtain rfl:ma1=m':=hme hone
         have L1:=(buildS_len d k o (putC cols K (fldC c.path z.flds)) (conRows K (i:Int) z.flds.length rows))
         have hconL:conL (buildS d k) cols rows K c i (z::y.cons.drop (i+1)) o nxs=conL (buildS d k) cols rows K c (i+1) (y.cons.drop (i+1)) (buildS d k o (putC cols K (fldC c.path z.flds)) (conRows K (i:Int) z.flds.length rows)).1 (nxs++[(buildS d k o (putC cols K (fldC c.path z.flds)) (conRows K (i:Int) z.flds.length rows)).2]):=rfl
         rw[hconL] at hch
         generalize buildS d k o (putC cols K (fldC c.path z.flds)) (conRows K (i:Int) z.flds.length rows)=Q1 at hv1 Ro1 L1 hch
         have F5:∀ x,x<q'→x≠ma1→Zv.look Xa x=Zv.look Y2 x:=fun x h1 h2=>F5 x h1 (fun _=>h2)
         have hXat:Zv.look Xa q2=some (.arr 5 [gT c.path true 0 v10]):=by rw[F5 q2 (by omega) (by omega),hY2 q2 (by omega)];exact hti
         have rta:=fun nx=>row_of (q:=nx) hXat (tot:=1) rfl
         have R10a:RA Xa qa1 (q2+1) 1 v10 (nxs.map eI) m10:=R10.mono (by omega) fun h=>by
          have h5:=R10.lo h
          have h6:=R10.hi h
          rw[F5 m10 (by omega) (by omega),hY2 m10 (by omega)]
         obtain ⟨vn,Xb,qb,mn,en,Rn,hqbn,hfn⟩:=raX (nl:=some false) (x:=eI Q1.2) (b:=8) R10a (by omega) rfl (by rw[List.length_map];unfold roomB;omega)
         have hXbt:Zv.look Xb q2=some (.arr 5 [gT c.path true 0 v10]):=by rw[hfn q2 (by omega)];exact hXat
         have hst3:st 1 ⟨Xb,qb⟩ (.ptr q2 1 0 3) vn=some ⟨Zv.upd Xb q2 (.arr 5 [gT c.path true 0 vn]),qb⟩:=by
          rw[Rn.v];exact st_next hXbt mn _ qb
         have hlo1:=Rn.lo (by simp)
         have hXc:∀ x,x≠q2→Zv.look (Zv.upd Xb q2 (.arr 5 [gT c.path true 0 vn])) x=Zv.look Xb x:=fun x h=>by rw[Zs.look_upd,if_neg h]
         (simp only[e48,hz15,hz14,hv1,rta,en,hst3,hwr,wz,opX,intBin,↓reduceIte,simprocAttr]<;>repeat' (first | refine wpG_s ?_ ?_ | refine wpC_s ?_ ?_)<;>intro hgo<;>(try simp only[dq] at hgo)<;>simp only[hgo,e48,hz15,hz14,hv1,rta,en,hst3,hwr,wz,opX,intBin,↓reduceIte,simprocAttr])
         refine ⟨Zv.upd Xb q2 (.arr 5 [gT c.path true 0 vn]),qb,Q1.1,nxs++[Q1.2],mn,vn,vo1,rfl,?_,?_,?_,by omega,?_,by omega,L1.2 ho2,by simp[hnx],hch,rfl⟩
         ·exact Ro1.mono (by omega) fun hs=>by rw[hXc _ (by omega),hfn _ (by omega)]
         ·rw[Zs.look_upd,if_pos rfl,hXbt];rfl
         ·rw[List.map_append];exact Rn.mono (Nat.le_refl _) (fun _=>hXc mn (by omega))
         ·intro x hx h1
          rw[hXc x (by omega),hfn x (by omega),F5 x (by omega) h1,hY2 x (by omega),hfi x hx h1]
      ·rintro e h' ⟨Xi,qi,o,nxs,m10,v10,vo,rfl,Ro,hti,R10,hqi,hfi,ho1,ho2,hnx,hch,rfl⟩
       rw[show y.cons.drop y.cons.length=[] from List.drop_of_length_le (Nat.le_refl _)] at hch
       rw[hch]
       have hce:conL (buildS d k) cols rows K c y.cons.length [] o nxs=(o,nxs):=rfl
       rw[hce]
       obtain ⟨Ye,hz3,hf3⟩:=fz_T (X:=Xi) (a:=q2) hti R10 (by omega)
       have hYe:∀ x,x<q2→Zv.look Ye x=Zv.look Xi x:=fun x h1=>hf3 x (by omega) (fun h=>by have:=R10.lo (by simpa using h);omega)
       have hone:o≠[]:=fun h=>by rw[h] at ho1;simp at ho1
       have hvo:vo=.own m' 5 o.length 0 o.length:=by rw[Ro.v];unfold rowN;rw[if_neg (by simpa using hone),List.length_map]
       have hlkm:Zv.look Ye m'=some (.arr 5 ((o.map eT).map .d)):=by rw[hYe m' hm2];exact Ro.row (by simpa using hone)
       have hio8:=ia_own (es:=5) (n:=m') (tot:=o.length) .i64 (show out.length<o.length by omega)
       have hst8:=fun nx=>st_elem hlkm (L:=o.length) rfl (show out.length<o.length by omega) ⟨c.path,true,0,nxs,0⟩ nx
       have hst8:∀ nx,st 5 ⟨Ye,nx⟩ (.ptr m' o.length out.length 0) (.d (D.agg [eIs c.path,.bool true,eI 0,eIs nxs,eI 0]))=_:=hst8
       subst hvo
       (simp only[e48,hz3,hio8,hst8,wz,opX,intBin,↓reduceIte,simprocAttr]<;>repeat' (first | refine wpG_s ?_ ?_ | refine wpC_s ?_ ?_)<;>intro hgo<;>(try simp only[dq] at hgo)<;>simp only[hgo,e48,hz3,hio8,hst8,wz,opX,intBin,↓reduceIte,simprocAttr])
       refine ⟨_,rfl,m',_,_,qi,rfl,⟨?_,fun _=>?_,fun _=>Nat.zero_le _,fun _=>by omega⟩,by omega,hmm,hm0,fun x h1 h2=>?_⟩
       ·unfold rowN;rw[if_neg (by simpa using hone)];simp
       ·rw[Zs.look_upd,if_pos rfl,hlkm];rfl
       ·rw[Zs.look_upd,if_neg (hdiff x h1 h2),hYe x (by omega),hfi x (by omega) (hdiff x h1 h2),k1 x (by omega)]
        exact F2 x h1 h2
end Zc28
end
section
set_option maxHeartbeats 4000000
namespace Zc28
open Go Zv Zs
def wi3:Option (List Pt)→V
 |none=>.tup [.d (.lst []),.d (.bool false),.d (.int .i64 0)]
 |some w=>.tup [.d (ePs w),.d (.bool true),.d (.int .i64 0)]
theorem Witness_ok {d:List Dt} {ts:List Int} {l:List (List Pt)} (G:Gd d ts l) (F:Rng d ts l) (hc:chk27 d ts l=0) (h:Hp) :
  callW tab 36 [.d (eDs d),.d (eIs ts),.d (eRs l)] h=some (wi3 (wiS d 8001 ts l),h):=by
 refine call_wp (fn:=f36) rfl rfl ?_
 have hck:=fun h=>chk_ok F h
 rw[hc] at hck
 have hw:=fun h=>witness_ok G.sml G.typ 8001 ts l (by have:=G.w;omega) G.w G.len G.tys G.fit h
 cases hu:wiS d 8001 ts l with
 |none=>rw[hu] at hw;(simp only[e36,hck,ibne,hw,wiV,wi3,wz,opX,intBin,↓reduceIte,simprocAttr]<;>repeat' (first | refine wpG_s ?_ ?_ | refine wpC_s ?_ ?_)<;>intro hgo<;>(try simp only[dq] at hgo)<;>simp only[hgo,e36,hck,ibne,hw,wiV,wi3,wz,opX,intBin,↓reduceIte,simprocAttr])
 |some w=>rw[hu] at hw;(simp only[e36,hck,ibne,hw,wiV,wi3,wz,opX,intBin,↓reduceIte,simprocAttr]<;>repeat' (first | refine wpG_s ?_ ?_ | refine wpC_s ?_ ?_)<;>intro hgo<;>(try simp only[dq] at hgo)<;>simp only[hgo,e36,hck,ibne,hw,wiV,wi3,wz,opX,intBin,↓reduceIte,simprocAttr])
theorem gd28 {d:List Dt} {ts:List Int} {l:List (List Pt)} (S:Sml d) (ht:ts.length≤10) (hl:l.length≤9) (hs:nwS l≤100) (hc:chk27 d ts l=0):Gd d ts l∧checkS d=0:=by
 unfold chk27 at hc
 by_cases h1:checkS d≠0
 ·rw[if_pos h1] at hc;cases hc
 rw[if_neg h1] at hc
 by_cases h2:8<ts.length∨64<l.length
 ·rw[if_pos h2] at hc;cases hc
 rw[if_neg h2] at hc
 by_cases h3:ts.any (badT d)=true
 ·rw[if_pos h3] at hc;cases hc
 rw[if_neg h3] at hc
 by_cases h4:l.any deepR=true
 ·rw[if_pos h4] at hc;cases hc
 rw[if_neg h4] at hc
 by_cases h5:l.any (badR d ts)=true
 ·rw[if_pos h5] at hc;cases hc
 refine ⟨⟨S,check_typed (Decidable.not_not.1 h1),fun t hm=>?_,fun r hr=>?_,by omega,by omega⟩,Decidable.not_not.1 h1⟩
 ·cases hb:isT d t with
  |true=>rfl
  |false=>exact absurd (List.any_eq_true.2 ⟨t,hm,by rw[badT,hb];rfl⟩) h3
 ·cases hb:badR d ts r with
  |true=>exact absurd (List.any_eq_true.2 ⟨r,hr,hb⟩) h5
  |false=>
   unfold badR at hb
   rw[←fitsL_any] at hb
   simp only[Bool.not_eq_false',Bool.and_eq_true,decide_eq_true_eq] at hb
   exact fitR_of_L hb.1.symm hb.2
theorem Few8.nw {d:List Dt} {ts:List Int} {l:List (List Pt)} (F:Few8 d ts l):nwS l≤72:=by
 have h1:∀ (l:List (List Pt)),(∀ r,r ∈ l→cntL r≤12)→nwS l≤12*l.length:=by
  intro l
  induction l with
  |nil=>intro _;exact Nat.le_refl _
  |cons r l ih=>
   intro h
   have a:=ih fun r hr=>h r (.tail _ hr)
   have b:=h r (.head _)
   have c:=nw_cntL r
   rw[nwS,List.length_cons];omega
 have:=h1 l fun r hr=>(F.row r hr).2
 have:=F.rows
 omega
theorem Few8.rng {d:List Dt} {ts:List Int} {l:List (List Pt)} (F:Few8 d ts l):Rng d ts l:=
 ⟨F.sml.bd,F.sml.nm,by have:=F.ts;omega,by have:=F.rows;omega,fun r hr=>by have:=(F.row r hr).2;omega⟩
def col0 (ts:List Int):List Co:=ts.zipIdx.map fun q=>⟨[(q.2:Int)],q.1⟩
def row0 (l:List (List Pt)):List Rw:=l.zipIdx.map fun q=>⟨(q.2:Int),q.1⟩
theorem col0_ty (ts:List Int):(col0 ts).map Co.ty=ts:=by
 unfold col0;rw[List.map_map];exact List.zipIdx_map_fst 0 ts
theorem row0_pats (l:List (List Pt)):(row0 l).map Rw.pats=l:=by
 unfold row0;rw[List.map_map];exact List.zipIdx_map_fst 0 l
theorem col0_snoc {ts:List Int} {n:Nat} {t:Int} (h:ts[n]? = some t):col0 (ts.take (n+1))=col0 (ts.take n)++[⟨[(n:Int)],t⟩]:=by
 have hn:=(List.getElem?_eq_some_iff.1 h).1
 rw[List.take_add_one,h]
 unfold col0
 rw[Option.toList_some,List.zipIdx_append,List.map_append]
 simp[show min n ts.length=n by omega]
theorem row0_snoc {l:List (List Pt)} {n:Nat} {r:List Pt} (h:l[n]? = some r):row0 (l.take (n+1))=row0 (l.take n)++[⟨(n:Int),r⟩]:=by
 have hn:=(List.getElem?_eq_some_iff.1 h).1
 rw[List.take_add_one,h]
 unfold row0
 rw[Option.toList_some,List.zipIdx_append,List.map_append]
 simp[show min n l.length=n by omega]
theorem col0_len (ts:List Int):(col0 ts).length=ts.length:=by unfold col0;simp
theorem row0_len (l:List (List Pt)):(row0 l).length=l.length:=by unfold row0;simp
theorem nwW_eq:∀ rows:List Rw,nwW rows=nwS (rows.map Rw.pats)
 | []=>rfl
 |r::rs=>by
  have:=nwW_eq rs
  unfold nwW at this ⊢
  rw[List.map_cons,List.sum_cons,this,List.map_cons,nwS]
theorem us_none {d:List Dt} {ts:List Int} {l:List (List Pt)} (G:Gd d ts l) (h:wiS d 8001 ts l=none) (K:Nat):usS d K ts l (List.replicate ts.length wildT)=false:=by
 have h1:=wi_us d 8001 ts l
 rw[h] at h1
 have h1:false=usS d 8001 ts l (List.replicate ts.length wildT):=h1
 cases hu:usS d K ts l (List.replicate ts.length wildT) with
 |false=>rfl
 |true=>
  have h2:=us_le 8001 hu
  have hw:nwL (List.replicate ts.length wildT)=0:=nwL_wild _
  have h3:=us_fuel G.sml G.typ (k:=8001) (k':=K+8001) (ts:=ts) (l:=l) (r:=List.replicate ts.length wildT) (by have:=G.w;omega) (by have:=G.w;omega) (by have:=G.w;omega) G.len G.tys G.fit (fitR_wild d ts)
  rw[←h1,h2] at h3
  cases h3
theorem bi0 {d:List Dt} {ts:List Int} {l:List (List Pt)} (F:Few8 d ts l) (hc:chk27 d ts l=0) (h:wiS d 8001 ts l=none):BI d 80 (col0 ts) (row0 l):=by
 obtain ⟨G,hC⟩:=gd28 F.sml (by have:=F.ts;omega) (by have:=F.rows;omega) (by have:=F.nw;omega) hc
 refine ⟨fun r hr=>?_,fun c hcm=>?_,?_,fun c hcm=>?_,?_,?_,hC,fun y hy c hcm=>((F.sml.ds y hy).2.2 c hcm).2,?_⟩
 ·rw[col0_ty]
  have:r.pats ∈ (row0 l).map Rw.pats:=List.mem_map.2 ⟨r,hr,rfl⟩
  rw[row0_pats] at this
  exact G.fit _ this
 ·have:c.ty ∈ (col0 ts).map Co.ty:=List.mem_map.2 ⟨c,hcm,rfl⟩
  rw[col0_ty] at this
  exact G.tys _ this
 ·rw[nwW_eq,row0_pats];have:=F.nw;omega
 ·unfold col0 at hcm
  obtain ⟨q,_,rfl⟩:=List.mem_map.1 hcm
  simp
 ·rw[col0_len];have:=F.ts;omega
 ·rw[row0_len];exact F.rows
 ·rw[col0_ty,row0_pats]
  exact covL0 G.fit (us_none G h)
def TOk (t:Ts):Prop:=t.path.length≤100∧t.next.length≤30
def TsOk (l:List Ts):Prop:=∀ t,t ∈ l→TOk t
theorem conL_ind {f:Bld} {cols:List Co} {rows:List Rw} {k:Nat} {c:Co} (P:List Ts→Prop):∀ (zs:List Cn) (i:Nat) (out:List Ts) (nx:List Int),
  (∀ j z,zs[j]? = some z→∀ out,P out→P (f out (putC cols k (fldC c.path z.flds)) (conRows k ((i+j:Nat):Int) z.flds.length rows)).1)→P out→P (conL f cols rows k c i zs out nx).1
 | [],i,out,nx,_,h=>h
 |z::zs,i,out,nx,H,h=>by
  unfold conL
  refine conL_ind P zs (i+1) _ _ (fun j z' hj=>?_) (H 0 z rfl out h)
  have:=H (j+1) z' (by simpa using hj)
  rw[show i+(j+1)=i+1+j by omega] at this
  exact this
theorem TsOk.snoc {l:List Ts} {t:Ts} (h:TsOk l) (ht:TOk t):TsOk (l++[t]):=fun x hx=>by
 rcases List.mem_append.1 hx with h' | h'
 ·exact h x h'
 ·rw[List.mem_singleton] at h';subst h';exact ht
theorem TsOk.set {l:List Ts} {t:Ts} {n:Nat} (h:TsOk l) (ht:TOk t):TsOk (l.set n t):=fun x hx=>by
 rcases List.mem_or_eq_of_mem_set hx with h' | h'
 ·exact h x h'
 ·subst h';exact ht
theorem zT_ok:TOk zT:=⟨by simp[zT],by simp[zT]⟩
theorem leaf_ok28 (n:Int):TOk (leafAt n):=⟨by simp[leafAt],by simp[leafAt]⟩
theorem consOf_8 {d:List Dt} (S:Sml d) (t:Int):(consOf d t).length≤8:=(cons_sm S t).1
theorem build_ts {d:List Dt} (S:Sml d):∀ (k:Nat) (out:List Ts) (cols:List Co) (rows:List Rw),BI d k cols rows→TsOk out→TsOk (buildS d k out cols rows).1
 |0,out,cols,rows,I,_=>by have:=I.nw;omega
 |k+1,out,cols,rows,I,h=>by
  unfold buildS
  split
  ·exact h
  obtain ⟨r0,hr0⟩:∃ r0,rows[0]? = some r0:=get_of_lt (List.length_pos_iff.2 I.ne)
  have hB1:bldB d (buildS d k) cols rows out=bldK d (buildS d k) cols rows r0 (idxZ nwB r0.pats) out:=by
   cases rows with
   |nil=>cases hr0
   |cons x rs=>cases hr0;rfl
  rw[hB1]
  rcases idxZ_cases nwB r0.pats with hz | ⟨n,p,hz,hp,hpn⟩
  ·rw[hz]
   exact h.snoc (leaf_ok28 _)
  ·have hpl:=fitR_len (I.fit r0 (List.mem_of_getElem? hr0))
   rw[List.length_map] at hpl
   obtain ⟨c,hc⟩:=get_of_lt (l:=cols) (n:=n) (by have:=(List.getElem?_eq_some_iff.1 hp).1;omega)
   have hcp:=I.path c (List.mem_of_getElem? hc)
   have hB2:bldK d (buildS d k) cols rows r0 (idxZ nwB r0.pats) out=if c.ty=0 then bldN (buildS d k) cols rows r0 n c out else bldC d (buildS d k) cols rows n c out:=by
    rw[hz];unfold bldK;rw[getI_nat,hc];rfl
   rw[hB2]
   split
   ·rename_i ht
    unfold bldN
    exact (build_ts S k _ _ _ (I.oth hr0 hz hc ht) (build_ts S k _ _ _ (I.same hr0 hz hc ht) (h.snoc zT_ok))).set ⟨by show c.path.length≤100;omega,by simp⟩
   ·rename_i ht
    unfold bldC
    refine TsOk.set (conL_ind TsOk (consOf d c.ty) 0 (out++[zT]) [] (fun j z hj out ho=>?_) (h.snoc zT_ok)) ⟨by show c.path.length≤100;omega,?_⟩
    ·rw[Nat.zero_add]
     exact build_ts S k _ _ _ (I.con hr0 hz hc ht hj) ho
    ·show (conL (buildS d k) cols rows n c 0 (consOf d c.ty) (out++[zT]) []).2.length≤30
     rw[(conL_len (buildS_len d k) ..).2.2]
     have:=consOf_8 S c.ty
     simp only[List.length_nil];omega
end Zc28
end
