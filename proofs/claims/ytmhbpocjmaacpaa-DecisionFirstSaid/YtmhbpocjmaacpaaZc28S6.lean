/-
  Parts of the proof.
-/
import Derived.Test.YtmhbpocjmaacpaaZwRun
import Derived.KernelRfl
set_option linter.unusedSimpArgs false
set_option linter.unusedVariables false
section
namespace Zs
open Go Zv
def rowN (m es:Nat) (s:List D):V:=if s=[] then .tl [] (some true) else .own m es s.length 0 s.length
def rowQ (h:Hp) (m es:Nat) (s:List D) (q:Nat):Hp:=⟨if s=[] then h.objs else (m,.arr es (s.map .d))::h.objs,q⟩
theorem rowQ_next (h:Hp) (m es:Nat) (s:List D) (q:Nat):(rowQ h m es s q).next=q:=rfl
theorem rowQ_mk (h:Hp) (m es:Nat) (s:List D) (q n:Nat):(⟨(rowQ h m es s q).objs,n⟩:Hp)=rowQ h m es s n:=rfl
def nmQ (s:List D) (m q:Nat):Nat:=if s=[] then q else m
def nqQ (s:List D) (q:Nat):Nat:=if s=[] then q+1 else q
theorem nqQ_le (s:List D) (q:Nat):q≤nqQ s q:=by unfold nqQ;split<;>omega
theorem nmQ_lt {s:List D} {m q:Nat} (h:s≠[]→m<q):nmQ s m q<nqQ s q:=by
 unfold nmQ nqQ
 split
 ·omega
 ·rename_i hs;exact h hs
theorem rowQ_row (h:Hp) (m es:Nat) {s:List D} (hs:s≠[]) (q:Nat):(rowQ h m es s q).row m s.length=some (es,s.map .d):=by
 unfold rowQ Hp.row Hp.get
 rw[if_neg hs]
 simp only[Zv.look,if_true,List.length_map]
theorem rowQ_app (h:Hp) {m es b q:Nat} {s:List D} {x:D} {nl:Option Bool} (hx:x.cells.length=es) (hlen:(s.length+1)*b≤roomB) (hl:∀ y,y ∈ s→y.cells.length=es) :
  app es b (rowQ h m es s q) (rowN m es s) (.tl [.d x] nl)=some (rowN (nmQ s m q) es (s++[x]),rowQ h (nmQ s m q) es (s++[x]) (nqQ s q)):=by
 have hxs:allV es [V.d x]=true:=by simp[allV,V.cells,hx]
 have hne:s++[x]≠[]:=by simp
 unfold app
 simp only[elems,Option.bind_some,List.map_cons,List.map_nil,norm_d,hxs,if_true]
 by_cases h0:s=[]
 ·subst h0
  simp[rowN,rowQ,allV,nmQ,nqQ,Hp.alloc]
  simpa using hlen
 ·have hr:=rowQ_row h m es h0 q
  rw[show rowN m es s=.own m es s.length 0 s.length from if_neg h0]
  simp only[hr,Option.bind_some,List.length_map,Nat.zero_add,Nat.le_refl,and_self,if_true,List.isEmpty_cons,Bool.false_eq_true,if_false,List.length_cons,List.length_nil]
  rw[if_neg (by omega),if_pos hlen,List.take_of_length_le (by simp)]
  simp only[rowN,rowQ,nmQ,nqQ,hne,h0,if_false,List.length_append,List.length_cons,List.length_nil,List.map_append,List.map_cons,List.map_nil,Nat.zero_add,Hp.set,upd,if_true]
theorem rowQ_suf (h:Hp) (m es:Nat) (s:List D) (q:Nat):sufOk h.objs (rowQ h m es s q).objs=true:=by
 unfold rowQ
 split
 ·exact suf_refl _
 ·exact suf_one _ _
theorem rowQ_deep (h:Hp) {m es n0:Nat} (s:List D) (q:Nat) (hm:s≠[]→n0≤m):deep (rowQ h m es s q) n0 8 (rowN m es s)=some (.lst s):=by
 by_cases hl:s=[]
 ·subst hl;rfl
 ·have hr:=rowQ_row h m es hl q
  rw[show rowN m es s=.own m es s.length 0 s.length from if_neg hl]
  unfold deep
  simp only[hm hl,if_true,hr,Option.bind_some,List.length_map,Nat.zero_add,Nat.le_refl,List.drop_zero]
  rw[List.take_of_length_le (by simp),deep_ds]
  rfl
theorem finS_rowQ {h:Hp} {m es:Nat} {s:List D} {q:Nat} (hm:s≠[]→h.next≤m):finS h (rowQ h m es s q) [rowN m es s]=some (.d (.lst s),h):=by
 rw[finS,if_pos (rowQ_suf h m es s q)]
 simp only[List.mapM_cons,List.mapM_nil,back1,rowQ_deep h s q hm]
 rfl
def accG {α β:Type} (G:List β→α→Option β) (s:List β) (x:α):List β:=match G s x with
 |none=>s
 |some y=>s++[y]
def accL {α β:Type} (G:List β→α→Option β) (l:List α):List β:=l.foldl (accG G) []
theorem accL_snoc {α β:Type} (G:List β→α→Option β) (l:List α) (x:α):accL G (l++[x])=accG G (accL G l) x:=by
 rw[accL,List.foldl_append];rfl
theorem accL_fm {α β:Type} (F:α→Option β) (l:List α):accL (fun _=>F) l=l.filterMap F:=by
 have:∀ (l:List α) (s:List β),l.foldl (accG fun _=>F) s=s++l.filterMap F:=by
  intro l
  induction l with
  |nil=>intro s;simp
  |cons x r ih=>
   intro s
   rw[List.foldl_cons,List.filterMap_cons]
   cases hf:F x with
   |none=>rw[ih];simp only[accG,hf]
   |some y=>rw[ih];simp only[accG,hf,List.append_assoc,List.singleton_append]
 exact (this l []).trans (List.nil_append _)
theorem loop_acc {T:Tab} {a:AC} {α β:Type} {l:List α} (G:List β→α→Option β) (enc:β→D) (es b:Nat) (env:Nat→V→Env) {h:Hp} {n0:Nat} {x1:Ex} {e1:V→Env} (hn0:n0≤h.next)
  (hc:∀ y,(enc y).cells.length=es) (hb:l.length*b≤roomB)
  (h0:∀ n x s m q,l[n]? = some x→n<l.length→s=accL G (l.take n)→s.length≤n→G s x=none→wp T a (env n (rowN m es (s.map enc))) (rowQ h m es (s.map enc) q) (fun o=>∃ q',o=(.norm,env (n+1) (rowN m es (s.map enc)),rowQ h m es (s.map enc) q')∧q≤q'))
  (h1:∀ n x y s m q,l[n]? = some x→n<l.length→s=accL G (l.take n)→s.length≤n→G s x=some y→(∀ q,app es b (rowQ h m es (s.map enc) q) (rowN m es (s.map enc)) (.tl [.d (enc y)] (some false))=some (rowN (nmQ (s.map enc) m q) es (s.map enc++[enc y]),rowQ h (nmQ (s.map enc) m q) es (s.map enc++[enc y]) (nqQ (s.map enc) q))) →
   wp T a (env n (rowN m es (s.map enc))) (rowQ h m es (s.map enc) q) (fun o=>∃ q' q'',o=(.norm,env (n+1) (rowN (nmQ (s.map enc) m q') es (s.map enc++[enc y])),rowQ h (nmQ (s.map enc) m q') es (s.map enc++[enc y]) q'')∧q≤q'∧nqQ (s.map enc) q'≤q''))
  (h2:∀ m q,wp T a (env l.length (rowN m es ((accL G l).map enc))) (rowQ h m es ((accL G l).map enc) q) (fun o=>∃ q',o=(x1,e1 (rowN m es ((accL G l).map enc)),rowQ h m es ((accL G l).map enc) q')∧q≤q')) (ho:x1≠.norm) :
  ∃ m q,((accL G l).map enc≠[]→n0≤m∧m<q)∧h.next≤q∧ex T (.loop a) (env 0 (.tl [] (some true))) h=some (x1,e1 (rowN m es ((accL G l).map enc)),rowQ h m es ((accL G l).map enc) q):=by
 obtain ⟨o,g1,m,q,g2,g3,g4⟩:wp T (.loop a) (env 0 (.tl [] (some true))) h (fun o=>∃ m q,((accL G l).map enc≠[]→n0≤m∧m<q)∧h.next≤q∧o=(x1,e1 (rowN m es ((accL G l).map enc)),rowQ h m es ((accL G l).map enc) q)):=by
  refine loop_wp l.length (fun n e h'=>∃ s m q,s=accL G (l.take n)∧s.length≤n∧(s.map enc≠[]→n0≤m∧m<q)∧h.next≤q∧h'=rowQ h m es (s.map enc) q∧e=env n (rowN m es (s.map enc))) _ ?_ ?_ l.length 0 _ _ (by omega) ⟨[],0,h.next,by simp[accL],by simp,by simp,Nat.le_refl _,rfl,rfl⟩
  ·rintro n e h' hn ⟨s,m,q,hs,hsl,hm,hq,rfl,rfl⟩
   have hx':l[n]? = some l[n]:=List.getElem?_eq_getElem hn
   have hstep:accL G (l.take (n+1))=accG G s l[n]:=by
    rw[hs,List.take_add_one,hx'];exact accL_snoc G _ _
   cases hg:G s l[n] with
   |none=>
    obtain ⟨o,hw,q',rfl,hle⟩:=h0 n _ s m q hx' hn hs hsl hg
    exact⟨_,hw,.inl ⟨rfl,s,m,q',by rw[hstep,accG,hg],by omega,fun h=>⟨(hm h).1,by have:=(hm h).2;omega⟩,by omega,rfl,rfl⟩⟩
   |some y=>
    have hroom:((s.map enc).length+1)*b≤roomB:=Nat.le_trans (Nat.mul_le_mul_right b (by rw[List.length_map];omega)) hb
    obtain ⟨o,hw,q',q'',rfl,hle,hle2⟩:=h1 n _ y s m q hx' hn hs hsl hg (fun q=>rowQ_app h (hc y) hroom (fun z hz=>by obtain ⟨w,_,rfl⟩:=List.mem_map.1 hz;exact hc w))
    refine ⟨_,hw,.inl ⟨rfl,s++[y],nmQ (s.map enc) m q',q'',by rw[hstep,accG,hg],by simp;omega,fun _=>⟨?_,?_⟩,?_,by simp only[List.map_append,List.map_cons,List.map_nil],by simp only[List.map_append,List.map_cons,List.map_nil]⟩⟩
    ·unfold nmQ
     split
     ·omega
     ·rename_i h;exact (hm h).1
    ·have:=nmQ_lt (s:=s.map enc) (m:=m) (q:=q') (fun h=>by have:=(hm h).2;omega)
     omega
    ·have:=nqQ_le (s.map enc) q';omega
  ·rintro e h' ⟨s,m,q,hs,hsl,hm,hq,rfl,rfl⟩
   rw[List.take_length] at hs
   subst hs
   obtain ⟨o,hw,q',rfl,hle⟩:=h2 m q
   exact⟨_,hw,ho,m,q',fun h=>⟨(hm h).1,by have:=(hm h).2;omega⟩,by omega,rfl⟩
 exact⟨m,q,g2,g3,by rw[g1,g4]⟩
theorem norm_map_d (l:List D):(l.map V.d).map norm=l.map V.d:=by
 rw[List.map_map];rfl
theorem allV_d {es:Nat} {l:List D} (hl:∀ y,y ∈ l→y.cells.length=es):allV es (l.map .d)=true:=by
 unfold allV
 refine List.all_eq_true.2 fun x hx=>?_
 obtain ⟨y,hy,rfl⟩:=List.mem_map.1 hx
 simp[V.cells,hl y hy]
theorem own_app {es b m q:Nat} {o:List (Nat × Ob)} {l r:List D} (hr:∀ y,y ∈ r→y.cells.length=es) (hb:(l.length+r.length)*b≤roomB) :
  app es b ⟨(m,.arr es (l.map .d))::o,q⟩ (.own m es l.length 0 l.length) (.d (.lst r))=some (.own m es (l++r).length 0 (l++r).length,⟨(m,.arr es ((l++r).map .d))::o,q⟩):=by
 have hrow:(⟨(m,.arr es (l.map V.d))::o,q⟩:Hp).row m l.length=some (es,l.map .d):=by rw[row_cons];simp
 unfold app
 simp only[elems,Option.bind_some,norm_map_d,allV_d hr,if_true,hrow,List.length_map,Nat.zero_add,Nat.le_refl,and_self]
 by_cases h0:r=[]
 ·subst h0;simp
 ·have hp:0<r.length:=List.length_pos_iff.2 h0
  have he:(r.map V.d).isEmpty=false:=by cases r with | nil=>exact absurd rfl h0 | cons=>rfl
  rw[he]
  simp only[Bool.false_eq_true,if_false]
  rw[if_neg (by omega),if_pos hb]
  simp only[if_true,List.take_of_length_le (show (l.map V.d).length≤l.length by simp),List.length_append,List.map_append,Hp.set,upd]
theorem own_frz {es m q:Nat} {o:List (Nat × Ob)} {l:List D}:frz ⟨(m,.arr es (l.map .d))::o,q⟩ (.own m es l.length 0 l.length)=some (.d (.lst l),⟨o,q⟩):=by
 have hrow:(⟨(m,.arr es (l.map V.d))::o,q⟩:Hp).row m l.length=some (es,l.map .d):=by rw[row_cons];simp
 unfold frz
 simp only[hrow,Option.bind_some,List.length_map,Nat.zero_add,Nat.le_refl,if_true,List.drop_zero,List.take_of_length_le (show (l.map V.d).length≤l.length by simp),toDs_map,Option.map_some,Hp.kill,del]
def cloV (nl:Option Bool) (n es:Nat) (l:List D):V:=if l=[] then .tl [] nl else .own n es l.length 0 l.length
def cloO (o:List (Nat × Ob)) (n es:Nat) (l:List D):Hp:=⟨if l=[] then o else (n,.arr es (l.map .d))::o,if l=[] then n else n+1⟩
theorem cloO_nil (o:List (Nat × Ob)) (n es:Nat):cloO o n es []=⟨o,n⟩:=rfl
theorem clo_app {nl:Option Bool} {es b n:Nat} {o:List (Nat × Ob)} {l r:List D} (hl:∀ y,y ∈ l→y.cells.length=es) (hr:∀ y,y ∈ r→y.cells.length=es) (hb:(l.length+r.length)*b≤roomB) :
  app es b (cloO o n es l) (cloV nl n es l) (.d (.lst r))=some (cloV nl n es (l++r),cloO o n es (l++r)):=by
 by_cases h0:l=[]
 ·subst h0
  by_cases h1:r=[]
  ·subst h1;rfl
  ·have hp:0<r.length:=List.length_pos_iff.2 h1
   have he:(r.map V.d).isEmpty=false:=by cases r with | nil=>exact absurd rfl h1 | cons=>rfl
   simp only[cloV,cloO,if_true,List.nil_append,h1,if_false]
   unfold app
   simp only[elems,Option.bind_some,norm_map_d,allV_d hr,if_true,he,Bool.false_eq_true,if_false,List.length_nil,Nat.zero_add,List.length_map,List.nil_append]
   rw[if_pos ⟨by simpa using hb,rfl⟩]
   rfl
 ·have hlr:l++r≠[]:=by simp[h0]
  simp only[cloV,cloO,h0,hlr,if_false]
  exact own_app hr hb
theorem tl_app {nl:Option Bool} {es b:Nat} {h:Hp} {r:List D} (hr:∀ y,y ∈ r→y.cells.length=es) (hb:r.length*b≤roomB) :
  app es b h (.tl [] nl) (.d (.lst r))=some (cloV nl h.next es r,cloO h.objs h.next es r):=
 clo_app (o:=h.objs) (n:=h.next) (l:=[]) (by simp) hr (by simpa using hb)
theorem clo_frz {nl:Option Bool} {es n:Nat} {o:List (Nat × Ob)} {l:List D}:frz (cloO o n es l) (cloV nl n es l)=some (.d (.lst l),⟨o,if l=[] then n else n+1⟩):=by
 by_cases h0:l=[]
 ·subst h0;rfl
 ·simp only[cloV,cloO,h0,if_false]
  exact own_frz
theorem finS_clo {h:Hp} {nl:Option Bool} {es n:Nat} {l:List D} (hn:h.next≤n):finS h (cloO h.objs n es l) [cloV nl n es l]=some (.d (.lst l),h):=by
 by_cases h0:l=[]
 ·subst h0
  rw[cloO_nil,finS,if_pos (suf_refl _)]
  rfl
 ·have:=finS_rowQ (h:=h) (m:=n) (es:=es) (s:=l) (q:=n+1) (fun _=>hn)
  unfold rowQ rowN at this
  unfold cloV cloO
  simp only[h0,if_false] at this ⊢
  exact this
theorem ex_ambU {T:Tab} {p a b r:AC} {c:Opd} {e e1:Env} {h h1:Hp} {o q z:Out} (hp:ex T p e h=some (.norm,e1,h1)) (hc:e1.ev c=.ub) (ho:ex T (.seq a r) e1 h1=some o) (hq:ex T (.seq b r) e1 h1=some q)
  (hz:outJoin o q=some z):ex T (.amb p c a b r) e h=some z:=by
 show (ex T p e h).bind (nxt (ambB c (ex T a) (ex T b) (ex T r)))=some z
 rw[hp,Option.bind_some,nxt_n]
 unfold ambB
 rw[hc]
 rw[ex_seq] at ho hq
 simp only[ho,hq,Option.bind_some,hz]
theorem ex_ambD {T:Tab} {p a b r:AC} {c:Opd} {e e1:Env} {h h1:Hp} {o:Out} (t:Bool) (hp:ex T p e h=some (.norm,e1,h1)) (hc:e1.ev c=.d (.bool t)) (ho:ex T (.seq (if t=true then a else b) r) e1 h1=some o):ex T (.amb p c a b r) e h=some o:=by
 show (ex T p e h).bind (nxt (ambB c (ex T a) (ex T b) (ex T r)))=some o
 rw[hp,Option.bind_some,nxt_n]
 unfold ambB
 rw[hc]
 rw[ex_seq] at ho
 cases t<;>exact ho
theorem loop_anyO {T:Tab} {a:AC} {K:Nat} {p:Nat→Bool} {f:Nat→Env} {O O2:List (Nat × Ob)} {x1 x2:Ex} {e2:Env} {q0:Nat}
  (hs:∀ q n,n<K→p n=false→wp T a (f n) ⟨O,q⟩ (fun o=>∃ q',o=(.norm,f (n+1),⟨O,q'⟩)∧q≤q'))
  (hx:∀ q n,n<K→p n=true→wp T a (f n) ⟨O,q⟩ (fun o=>∃ e q',o=(x1,e,⟨O2,q'⟩)∧q≤q'))
  (hN:∀ q,wp T a (f K) ⟨O,q⟩ (fun o=>∃ q',o=(x2,e2,⟨O,q'⟩)∧q≤q')) (ho:x1≠.norm) (hoN:x2≠.norm) :
  ∃ e q',q0≤q'∧ex T (.loop a) (f 0) ⟨O,q0⟩=some (if (List.range K).any p=true then (x1,e,⟨O2,q'⟩) else (x2,e2,⟨O,q'⟩)):=by
 obtain ⟨o,h1,e,q,hqq,h2⟩:wp T (.loop a) (f 0) ⟨O,q0⟩ (fun o=>∃ e q',q0≤q'∧o=if (List.range K).any p=true then (x1,e,⟨O2,q'⟩) else (x2,e2,⟨O,q'⟩)):=by
  refine loop_wp K (fun n e h'=>(∃ q,q0≤q∧h'=⟨O,q⟩)∧e=f n∧∀ i,i<n→p i=false) _ ?_ ?_ K 0 _ _ (by omega) ⟨⟨q0,Nat.le_refl _,rfl⟩,rfl,fun i hi=>by omega⟩
  ·rintro n e h' hn ⟨⟨q,hqn,rfl⟩,rfl,hk⟩
   cases hp:p n with
   |true=>
    obtain ⟨o,hq,e,q',rfl,hle⟩:=hx q n hn hp
    have:(List.range K).any p=true:=List.any_eq_true.2 ⟨n,List.mem_range.2 hn,hp⟩
    rw[this]
    exact⟨_,hq,.inr ⟨ho,e,q',Nat.le_trans hqn hle,rfl⟩⟩
   |false=>
    obtain ⟨o,hq,q',rfl,hle⟩:=hs q n hn hp
    refine ⟨_,hq,.inl ⟨rfl,⟨q',Nat.le_trans hqn hle,rfl⟩,rfl,fun i hi=>?_⟩⟩
    by_cases hij:i=n
    ·subst hij;exact hp
    ·exact hk i (by omega)
  ·rintro e h' ⟨⟨q,hqn,rfl⟩,rfl,hk⟩
   have:(List.range K).any p=false:=by
    rw[←Bool.not_eq_true,List.any_eq_true]
    rintro ⟨x,hx,hp⟩
    rw[hk x (List.mem_range.1 hx)] at hp
    cases hp
   rw[this]
   obtain ⟨o,hq,q',rfl,hle⟩:=hN q
   exact⟨_,hq,hoN,f 0,q',Nat.le_trans hqn hle,rfl⟩
 exact⟨e,q,hqq,by rw[h1,h2]⟩
end Zs
end
section
set_option maxHeartbeats 4000000
namespace Zc28
open Go Zv Zs
theorem awake:callW tab 10 [] ⟨[],0⟩=some (.d (.bool true),⟨[],0⟩):=callW_of tab 200 (by kernel_rfl)
theorem awake_any {b:Hp} (L:Low b):callW tab 10 [] b=some (.d (.bool true),b):=callW_any tabCl (xs:=[]) awake L
end Zc28
end
section
set_option maxHeartbeats 4000000
namespace Zc28
open Go Zv Zs
abbrev eI (n:Int):D:=.int .i64 n
abbrev eIs (l:List Int):D:=.lst (l.map eI)
theorem iaI {l:List Int} {n:Nat} {x:Int} (hx:l[n]? = some x):ia 1 (.d (.lst (l.map eI))) (.d (.int .i64 (n:Int)))=some (.fp (eI x) 0):=ia_map (f:=eI) .i64 hx rfl
theorem get_of_lt {α:Type} {l:List α} {n:Nat} (h:n<l.length):∃ x,l[n]? = some x:=⟨l[n],List.getElem?_eq_getElem h⟩
theorem okEs_map {α:Type} {E:Nat→ET} {t:ET} {enc:α→D} (H:∀ x,ok E t x→∃ a,x=enc a):∀ {l:List D},okEs E t l→∃ xs:List α,l=xs.map enc
 | [],_=>⟨[],rfl⟩
 |x::l,h=>by
  simp only[okEs] at h
  obtain ⟨a,rfl⟩:=H x h.1
  obtain ⟨xs,rfl⟩:=okEs_map H h.2
  exact⟨a::xs,rfl⟩
theorem okI {x:D} (h:ok (EE es) (.one (.i .i64)) x):∃ a,x=eI a:=by
 obtain ⟨n,rfl,_⟩:=ok_i h;exact⟨n,rfl⟩
structure Ts where
 path:List Int
 con:Bool
 num:Int
 next:List Int
 row:Int
abbrev eT (t:Ts):D:=.agg [eIs t.path,.bool t.con,eI t.num,eIs t.next,eI t.row]
abbrev eTs (l:List Ts):D:=.lst (l.map eT)
theorem iaT {l:List Ts} {n:Nat} {x:Ts} (hx:l[n]? = some x):ia 5 (.d (.lst (l.map eT))) (.d (.int .i64 (n:Int)))=some (.fp (eT x) 0):=ia_map (f:=eT) .i64 hx rfl
inductive Vl where
 |mk (m c:Int) (qs:List Vl)
mutual
def eV:Vl→D
 | .mk m c qs=>.agg [.int .i64 m,.int .i64 c,.lst (eVL qs)]
def eVL:List Vl→List D
 | []=>[]
 |p::r=>eV p::eVL r
end
theorem eVL_map:∀ l:List Vl,eVL l=l.map eV
 | []=>rfl
 |p::r=>by rw[eVL,eVL_map r];rfl
theorem eV_mk (m c:Int) (qs:List Vl):eV (.mk m c qs)=.agg [.int .i64 m,.int .i64 c,.lst (qs.map eV)]:=by rw[eV,eVL_map]
theorem eV_cells (p:Vl):(eV p).cells.length=3:=by cases p;rfl
theorem aggV (p:Vl):D.agg (List.take 3 (eV p).cells)=eV p:=by cases p;rfl
theorem vls:(∀ p,(eV p).cells.length=3)∧(∀ p,D.agg (List.take 3 (eV p).cells)=eV p)∧((3:Nat)≤3 ↔ True):=⟨eV_cells,aggV,by simp⟩
abbrev eVs (l:List Vl):D:=.lst (l.map eV)
theorem iaV {l:List Vl} {n:Nat} {x:Vl} (hx:l[n]? = some x):ia 3 (.d (.lst (l.map eV))) (.d (.int .i64 (n:Int)))=some (.fp (eV x) 0):=ia_map (f:=eV) .i64 hx (eV_cells x)
mutual
theorem okV:∀ (x:D),ok (EE es) (.st [.i .i64,.i .i64,.l 7]) x→∃ p,x=eV p
 | .agg [.int k a,.int k' b,.lst qs],h=>by
  simp only[ok,okCs] at h
  obtain ⟨⟨rfl,_⟩,⟨rfl,_⟩,⟨_,hq⟩,_⟩:=h
  obtain ⟨ps,rfl⟩:=okVl qs hq
  exact⟨.mk a b ps,by rw[eV_mk]⟩
 |x,h=>by
  obtain ⟨l,rfl,h1⟩:=ok_st h
  obtain ⟨a,r,rfl,ha,h1⟩:=okCs_cons h1
  obtain ⟨b,r,rfl,hb,h1⟩:=okCs_cons h1
  obtain ⟨q,r,rfl,hq,h1⟩:=okCs_cons h1
  obtain rfl:=okCs_nil h1
  obtain ⟨k,rfl⟩:=okI ha
  obtain ⟨n,rfl⟩:=okI hb
  obtain ⟨qs,rfl,_,hq2⟩:=ok_l hq
  obtain ⟨ps,rfl⟩:=okVl qs hq2
  exact⟨.mk k n ps,by rw[eV_mk]⟩
termination_by x=>sizeOf x
decreasing_by
 all_goals simp_wf
 all_goals subst_vars
 all_goals simp
 all_goals omega
theorem okVl:∀ (l:List D),okEs (EE es) (EE es 7) l→∃ ps:List Vl,l=ps.map eV
 | [],_=>⟨[],rfl⟩
 |x::l,h=>by
  simp only[okEs] at h
  obtain ⟨p,rfl⟩:=okV x h.1
  obtain ⟨ps,rfl⟩:=okVl l h.2
  exact⟨p::ps,rfl⟩
termination_by l=>sizeOf l
end
theorem okVs {x:D} (h:ok (EE es) (.one (.l 7)) x):∃ a,x=eVs a∧a.length≤maxLen:=by
 obtain ⟨l,rfl,hl,h2⟩:=ok_l h
 obtain ⟨xs,rfl⟩:=okVl l h2
 rw[List.length_map] at hl
 exact⟨xs,rfl,hl⟩
def conV:Vl→Int | .mk _ c _=>c
def numV:Vl→Int | .mk m _ _=>m
def argV:Vl→List Vl | .mk _ _ qs=>qs
theorem eV_cs (p:Vl):(eV p).cells=[.int .i64 (numV p),.int .i64 (conV p),.lst ((argV p).map eV)]:=by
 obtain ⟨m,c,qs⟩:=p
 rw[eV_mk];rfl
structure Light (l:List Ts):Prop where
 len:l.length≤4096
 ts:∀ t,t ∈ l→t.path.length≤110∧t.next.length≤40
end Zc28
end
section
set_option maxHeartbeats 4000000
namespace Zc28
open Go Zv Zs
def getI {α:Type} (l:List α) (i:Int):Option α:=if 0≤i then l[i.toNat]? else none
theorem getI_neg {α:Type} {l:List α} {i:Int} (h:i<0):getI l i=none:=if_neg (by omega)
theorem getI_big {α:Type} {l:List α} {i:Int} (h:(l.length:Int)≤i):getI l i=none:=by
 unfold getI
 rw[if_pos (by omega),List.getElem?_eq_none (by omega)]
theorem getI_nat {α:Type} (l:List α) (n:Nat):getI l (n:Int)=l[n]? := by
 unfold getI
 rw[if_pos (by omega)];rfl
theorem getI_cases {α:Type} (l:List α) (i:Int):(i<0∧getI l i=none)∨(¬ i<0∧(l.length:Int)≤i∧getI l i=none)∨(∃ (n:Nat) (x:α),i=n∧n<l.length∧l[n]? = some x∧getI l i=some x):=by
 by_cases h1:i<0
 ·exact .inl ⟨h1,getI_neg h1⟩
 by_cases h2:(l.length:Int)≤i
 ·exact .inr (.inl ⟨h1,h2,getI_big h2⟩)
 ·obtain ⟨n,rfl⟩:∃ n:Nat,i=n:=⟨i.toNat,by omega⟩
  have hn:n<l.length:=by omega
  exact .inr (.inr ⟨n,l[n],rfl,hn,List.getElem?_eq_getElem hn,by rw[getI_nat];exact List.getElem?_eq_getElem hn⟩)
def atG:List Int→Vl→List Vl→Option Vl
 | [],x,_=>some x
 |i::p,_,v=>match getI v i with
  |none=>none
  |some y=>atG p y (argV y)
def atR (p:List Int) (v:List Vl):Option Vl:=match p with
 | []=>none
 |i::p=>match getI v i with
  |none=>none
  |some y=>atG p y (argV y)
def zV:Vl:=.mk 0 0 []
theorem atR_cons {p:List Int} (h:p≠[]) (v:List Vl) (x:Vl):atR p v=atG p x v:=by
 cases p with
 |nil=>exact absurd rfl h
 |cons i p=>rfl
theorem drop_at {α:Type} {l:List α} {n:Nat} {x:α} (h:l[n]? = some x):l.drop n=x::l.drop (n+1):=by
 obtain ⟨hn,rfl⟩:=List.getElem?_eq_some_iff.1 h
 exact List.drop_eq_getElem_cons hn
abbrev zA:V:=.agg [.d (.int .i64 0),.d (.int .i64 0),.tl [] (some true)]
structure ZX (x:Vl) (X:V):Prop where
 ld1:∀ n r nx,ld true 3 ⟨(n,.arr 3 [X])::r,nx⟩ (.ptr n 1 0 0)=some X
 st1:stor X=true
 cl1:X.cells.length=3
 fin:∀ (h:Hp) (o:Nat × Ob) (m:Nat) (b:Bool),finS h ⟨o::h.objs,m⟩ [X,.d (.bool b)]=some (.tup [.d (eV x),.d (.bool b)],h)
theorem zx_z:ZX zV zA:=by
 refine ⟨fun n r nx=>by simp[ld,row_hd],by rfl,by rfl,fun h o m b=>?_⟩
 have e:finS h ⟨o::h.objs,m⟩ [zA,.d (.bool b)]=finS h ⟨o::h.objs,m⟩ [.d (eV zV),.d (.bool b)]:=rfl
 rw[e];exact finS2c ..
theorem zx_d (x:Vl):ZX x (.d (eV x)):=by
 obtain ⟨m,c,q⟩:=x
 rw[eV_mk]
 exact⟨fun n r nx=>ld_whole ..,by rfl,by rfl,fun h o k b=>by rw[eV_mk];exact finS2c ..⟩
theorem st_h (es n:Nat) (z:V) (l:List (Nat × Ob)) (nx:Nat) (x:V) (h1:stor x=true) (h2:x.cells.length=es):st es ⟨(n,.arr es [z])::l,nx⟩ (.ptr n 1 0 0) x=some ⟨(n,.arr es [x])::l,nx⟩:=by
 rw[st_hd,if_pos ⟨h1,h2⟩]
theorem st_s (es n:Nat) (o:Ob) (z:V) (l:List (Nat × Ob)) (nx:Nat) (x:V) (h1:stor x=true) (h2:x.cells.length=es):st es ⟨(n+1,o)::(n,.arr es [z])::l,nx⟩ (.ptr n 1 0 0) x=some ⟨(n+1,o)::(n,.arr es [x])::l,nx⟩:=by
 rw[st_2,if_pos ⟨h1,h2⟩]
theorem at_ok (p:List Int) (v:List Vl) (hp:p.length≤110) (h:Hp):∃ y,callW tab 62 [.d (eIs p),.d (eVs v)] h=some (.tup [.d (eV y),.d (.bool (atR p v).isSome)],h)∧∀ z,atR p v=some z→y=z:=by
 obtain ⟨r,h1,y,rfl,h2⟩:∃ r,callW tab 62 [.d (eIs p),.d (eVs v)] h=some r∧∃ y,r=(.tup [.d (eV y),.d (.bool (atR p v).isSome)],h)∧∀ z,atR p v=some z→y=z:=by
  refine call_wpE (fn:=f62) rfl rfl ?_
  have z:=zx_z
  by_cases hp0:p=[]
  ·subst hp0
   simp only[e62,z.ld1,z.st1,z.cl1,st_s,z.fin,wz,opX,intBin,↓reduceIte,simprocAttr]
   exact⟨_,rfl,zV,rfl,fun z hz=>by cases hz⟩
  ·have hl:((p.length:Int) == 0)=false:=by
    have:0<p.length:=List.length_pos_iff.2 hp0
    simp;omega
   simp only[e62,hl,wz,opX,intBin,↓reduceIte,simprocAttr]
   refine loop_wp p.length (fun n e h'=>∃ x X w,ZX x X∧e=[(1,.d (eVs w)),(4,.ptr h.next 1 0 0),(6,.ptr (h.next+1) 1 0 0),(13,.d (eIs p)),(14,.d (.int .i64 p.length)),(15,.d (.int .i64 (n:Int)))]∧h'=⟨(h.next+1,.arr 3 [X])::(h.next,.arr 3 [zA])::h.objs,h.next+1+1⟩∧atG (p.drop n) x w=atR p v) _ ?_ ?_ p.length 0 _ _ (by omega) ⟨zV,zA,v,z,rfl,rfl,(atR_cons hp0 v zV).symm⟩
   ·rintro n e h' hn ⟨x,X,w,hX,rfl,rfl,hw⟩
    obtain ⟨i,hi⟩:=get_of_lt hn
    have hwr:IntKind.i64.wrap ((n:Int)+1)=((n+1:Nat):Int):=by rw[wrap_ok (by omega) (by omega)];rfl
    rw[drop_at hi] at hw
    simp only[atG] at hw
    rcases getI_cases w i with ⟨h1,h2⟩ | ⟨h1,h2,h3⟩ | ⟨m,y,rfl,hm,hy,h2⟩
    ·rw[h2] at hw
     simp only[e62,hn,iaI hi,h1,hX.ld1,hX.st1,hX.cl1,st_s,hX.fin,wz,opX,intBin,↓reduceIte,simprocAttr]
     exact⟨_,rfl,x,by rw[←hw];rfl,fun z hz=>by rw[←hw] at hz;cases hz⟩
    ·rw[h3] at hw
     simp only[e62,hn,iaI hi,h1,h2,hX.ld1,hX.st1,hX.cl1,st_s,hX.fin,wz,opX,intBin,↓reduceIte,simprocAttr]
     exact⟨_,rfl,x,by rw[←hw];rfl,fun z hz=>by rw[←hw] at hz;cases hz⟩
    ·rw[h2] at hw
     have hY:=zx_d y
     have hm2:¬ (w.length:Int)≤(m:Int):=by omega
     simp only[e62,hn,iaI hi,hm2,iaV hy,aggV,hY.st1,hY.cl1,st_h,eV_cs,hwr,wz,opX,intBin,↓reduceIte,simprocAttr]
     exact⟨y,_,argV y,hY,rfl,(by obtain ⟨a,b,c⟩:=y;rw[eV_mk];rfl),hw⟩
   ·rintro e h' ⟨x,X,w,hX,rfl,rfl,hw⟩
    rw[List.drop_length] at hw
    simp only[e62,hX.ld1,hX.st1,hX.cl1,st_s,hX.fin,wz,opX,intBin,↓reduceIte,simprocAttr]
    exact⟨_,rfl,x,by rw[←hw];rfl,fun z hz=>by rw[←hw] at hz;cases hz;rfl⟩
 exact⟨y,h1,h2⟩
end Zc28
end
section
set_option maxHeartbeats 4000000
namespace Zc28
open Go Zv Zs
def goS (t:Ts) (v:List Vl):Option Int:=match atR t.path v with
 |none=>none
 |some x=>getI t.next (if t.con=true then conV x else if numV x=t.num then 0 else 1)
inductive Sp where
 |R (row:Int)
 |E
 |G (n:Int)
def spO:Option Int→Sp
 |none=>.E
 |some n=>.G n
def stpS (l:List Ts) (v:List Vl) (a:Int):Sp:=match getI l a with
 |none=>.E
 |some t=>if t.next.length=0 then .R t.row else spO (goS t v)
def conS (f:Int→Int × Int):Sp→Int × Int
 | .R r=>(r,0)
 | .E=>(0,3)
 | .G n=>f n
def runS (l:List Ts) (v:List Vl):Nat→Int→Int × Int
 |0,_=>(0,3)
 |k+1,a=>conS (runS l v k) (stpS l v a)
theorem stp_none {l:List Ts} {v:List Vl} {a:Int} (h:getI l a=none):stpS l v a=.E:=by unfold stpS;rw[h]
theorem run_E {l:List Ts} {v:List Vl} {a:Int} (h:stpS l v a=.E) (k:Nat):runS l v k a=(0,3):=by
 cases k with
 |zero=>rfl
 |succ k=>rw[runS,h];rfl
end Zc28
end
section
set_option maxHeartbeats 4000000
namespace Zc28
open Go Zv Zs
def cnt (M:List Bool):Nat:=M.countP id
theorem cnt_len (M:List Bool):cnt M≤M.length:=List.countP_le_length
theorem set_grow:∀ {M:List Bool} {k:Nat},M[k]? = some false→cnt M+1=cnt (M.set k true)
 | [],k,h=>by cases h
 |b::M,0,h=>by
  have hb:b=false:=by simpa using h
  subst hb;simp[cnt]
 |b::M,k+1,h=>by
  have ih:=set_grow (M:=M) (k:=k) (by simpa using h)
  unfold cnt at ih ⊢
  rw[List.set_cons_succ,List.countP_cons,List.countP_cons];omega
abbrev bV (b:Bool):V:=.d (.bool b)
theorem ia_own {es n tot len j:Nat} (k:IntKind) (h:j<len):ia es (.own n es tot 0 len) (.d (.int k (j:Int)))=some (.ptr n tot j 0):=by
 simp[ia,ixOf_nat,h]
theorem ld_bit {H:Hp} {a:Nat} {M:List Bool} {j L:Nat} {b:Bool} (hr:H.row a L=some (1,M.map bV)) (hb:M[j]? = some b):ld false 1 H (.ptr a L j 0)=some (bV b):=by
 rw[ld_one,hr]
 simp[hb,V.cells,D.cells]
section
variable (l:List (Nat × Ob)) (a q:Nat)
theorem hr_row (M:List Bool) {L:Nat} (hL:M.length=L):Hp.row ⟨(a,.arr 1 (M.map bV))::l,q⟩ a L=some (1,M.map bV):=row_look (look_hd ..) (by simp[hL])
theorem hr_st (M:List Bool) {L j:Nat} (hL:M.length=L) (b:Bool) (hj:j<L):st 1 ⟨(a,.arr 1 (M.map bV))::l,q⟩ (.ptr a L j 0) (.d (.bool b))=some ⟨(a,.arr 1 ((M.set j b).map bV))::l,q⟩:=by
 unfold st
 have:(M.map bV)[j]? = some (bV (M[j]'(by omega))):=by simp[show j<M.length by omega]
 simp only[hr_row l a q M hL,Option.bind_some,this]
 rw[if_pos (by simp[stor,V.cells,D.cells]),if_pos (by simp)]
 unfold Hp.set
 simp[upd,List.map_set]
end
def Clo (l:List Ts) (v:List Vl) (M:List Bool) (n:Int):Prop:=∀ m:Nat,M[m]? = some true→∃ b,stpS l v m=.G b∧(b=n∨∃ k:Nat,b=k∧M[k]? = some true)
theorem clo_run {l:List Ts} {v:List Vl} {M:List Bool} {n:Nat} (C:Clo l v M n) (h:M[n]? = some true):∀ (k m:Nat),M[m]? = some true→runS l v k m=(0,3)
 |0,_,_=>rfl
 |k+1,m,hm=>by
  obtain ⟨b,h1,h2⟩:=C m hm
  rw[runS,h1]
  show runS l v k b=_
  rcases h2 with rfl | ⟨j,rfl,hj⟩
  ·exact clo_run C h k n h
  ·exact clo_run C h k j hj
theorem clo_set {l:List Ts} {v:List Vl} {M:List Bool} {m:Nat} {b:Int} (C:Clo l v M m) (hm:m<M.length) (h:stpS l v m=.G b):Clo l v (M.set m true) b:=by
 intro j hj
 have hs:(M.set m true)[m]? = some true:=by simp[hm]
 by_cases e:j=m
 ·subst e;exact⟨b,h,.inl rfl⟩
 ·rw[List.getElem?_set_ne (Ne.symm e)] at hj
  obtain ⟨c,h1,h2⟩:=C j hj
  refine ⟨c,h1,.inr ?_⟩
  rcases h2 with rfl | ⟨k,rfl,hk⟩
  ·exact⟨m,rfl,hs⟩
  ·refine ⟨k,rfl,?_⟩
   by_cases e:k=m
   ·subst e;exact hs
   ·rw[List.getElem?_set_ne (Ne.symm e)];exact hk
theorem psel_ok {l:List Ts} {v:List Vl} (S:Light l) (hv:v.length≤8) (h:Hp):callW tab 25 [.d (.agg [eTs l]),.d (eVs v)] h=some (.tup [.d (eI (runS l v (l.length+1) 0).1),.d (eI (runS l v (l.length+1) 0).2)],h):=by
 refine call_wp (fn:=f25) rfl rfl ?_
 have hl:=S.len
 have hmk:mkslO (.d (.bool false)) 1 1 ⟨h.objs,h.next+1⟩ (.d (.int .i64 (l.length:Int)))=some (.own (h.next+1) 1 l.length 0 l.length,⟨(h.next+1,.arr 1 ((List.replicate l.length false).map bV))::h.objs,h.next+1+1⟩):=by
  simp only[mkslO,ixOf_nat,Option.bind_some]
  rw[if_pos (by unfold roomB;omega)]
  simp[Hp.alloc]
 simp only[e25,hmk,wz,opX,intBin,↓reduceIte,simprocAttr]
 refine loop_wp (l.length+1) (fun c e h'=>∃ M q n,h'=⟨(h.next+1,.arr 1 (M.map bV))::h.objs,q⟩∧e=[(1,.d (eVs v)),(2,.fp (.agg [eTs l]) 0),(6,.own (h.next+1) 1 l.length 0 l.length),(7,.d (eI n))]∧M.length=l.length∧cnt M=c∧Clo l v M n∧runS l v (l.length+1) 0=runS l v (l.length+1 - c) n) _ ?_ ?_ (l.length+1) 0 _ _ (by omega) ⟨List.replicate l.length false,h.next+1+1,0,rfl,rfl,by simp,by simp[cnt],fun m hm=>?_,rfl⟩
 ·rintro c e h' hn ⟨M,q,n,rfl,rfl,hM,hc,C,hR⟩
  rw[hR]
  rcases getI_cases M n with ⟨h1,-⟩ | ⟨h1,h2,-⟩ | ⟨m,b,rfl,hm,hb,-⟩
  ·rw[run_E (stp_none (getI_neg h1))]
   have h1':¬ 0≤n:=by omega
   simp only[e25,h1',wz,opX,intBin,↓reduceIte,simprocAttr]
  ·rw[hM] at h2
   rw[run_E (stp_none (getI_big h2))]
   have h1':0≤n:=by omega
   have h2':¬ n<(l.length:Int):=by omega
   simp only[e25,h1',h2',wz,opX,intBin,↓reduceIte,simprocAttr]
  ·have hio:=ia_own (es:=1) (n:=h.next+1) (tot:=l.length) .i64 (hM▸hm)
   have hlb:=fun q=>ld_bit (hr_row h.objs (h.next+1) q M hM) hb
   have hml:(m:Int)<(l.length:Int):=by omega
   cases b with
   |true=>
    rw[clo_run C hb _ m hb]
    simp only[e25,hml,hio,hlb,wz,opX,intBin,↓reduceIte,simprocAttr]
   |false=>
    obtain ⟨t,ht⟩:=get_of_lt (l:=l) (n:=m) (by omega)
    have hst:=fun q=>hr_st h.objs (h.next+1) q M hM true (j:=m) (by omega)
    obtain ⟨k,hk⟩:∃ k,l.length+1 - c=k+1:=⟨l.length - c,by omega⟩
    rw[hk,runS]
    have hgt:getI l (m:Int)=some t:=by rw[getI_nat];exact ht
    by_cases hx:t.next.length=0
    ·rw[show stpS l v m=.R t.row by unfold stpS;rw[hgt];simp only[hx,if_true]]
     simp only[e25,hml,hio,hlb,hst,iaT ht,hx,conS,wz,opX,intBin,↓reduceIte,simprocAttr]
    ·have hst8:stpS l v m=spO (goS t v):=by
      unfold stpS;rw[hgt];simp only[hx,if_false]
     have hxl:((t.next.length:Int) == 0)=false:=by rw[beq_eq_false_iff_ne];omega
     have hat:=fun h=>at_ok t.path v (S.ts t (List.mem_of_getElem? ht)).1 h
     cases ha:atR t.path v with
     |none=>
      have hg:goS t v=none:=by unfold goS;rw[ha]
      rw[hst8,hg]
      obtain ⟨y,hy,-⟩:=hat ⟨(h.next+1,.arr 1 ((M.set m true).map bV))::h.objs,q+1⟩
      rw[ha] at hy
      have hY:=zx_d y
      simp only[e25,hml,hio,hlb,hst,iaT ht,hxl,hy,eV_cells,Option.isSome_none,spO,conS,wz,opX,intBin,↓reduceIte,simprocAttr]
     |some x=>
      obtain ⟨y,hy,hy2⟩:=hat ⟨(h.next+1,.arr 1 ((M.set m true).map bV))::h.objs,q+1⟩
      have:=hy2 x ha
      subst this
      rw[ha] at hy
      have hY:=zx_d y
      have hfin:∀ (k:Int),goS t v=getI t.next k→stpS l v m=spO (getI t.next k):=by
       intro k hk;rw[hst8,hk]
      cases hcon:t.con with
      |true=>
       have hg:goS t v=getI t.next (conV y):=by unfold goS;rw[ha];simp only[hcon,if_true]
       rw[hst8,hg]
       rcases getI_cases t.next (conV y) with ⟨h1,h2⟩ | ⟨h1,h2,h3⟩ | ⟨i,b,h1,hi,hb2,h3⟩
       ·rw[h2]
        simp only[e25,hml,hio,hlb,hst,iaT ht,hxl,hy,eV_cells,Option.isSome_some,spO,conS,hcon,eV_cs,h1,wz,opX,intBin,↓reduceIte,simprocAttr]
       ·rw[h3]
        simp only[e25,hml,hio,hlb,hst,iaT ht,hxl,hy,eV_cells,Option.isSome_some,spO,conS,hcon,eV_cs,h1,h2,wz,opX,intBin,↓reduceIte,simprocAttr]
       ·have hG:=hst8
        rw[hg,h3] at hG
        rw[h3]
        have hi2:¬ (t.next.length:Int)≤(i:Int):=by omega
        simp only[e25,hml,hio,hlb,hst,iaT ht,hxl,hy,eV_cells,Option.isSome_some,spO,conS,hcon,eV_cs,h1,hi2,iaI hb2,wz,opX,intBin,↓reduceIte,simprocAttr]
        exact⟨M.set m true,_,b,rfl,rfl,by simp[hM],by rw[←set_grow hb,hc],clo_set C hm hG,by rw[show l.length - c=k by omega]⟩
      |false=>
       by_cases hnum:numV y=t.num
       ·have hg:goS t v=getI t.next 0:=by unfold goS;rw[ha];simp only[hcon,hnum,if_true,if_false,Bool.false_eq_true]
        rw[hst8,hg]
        rcases getI_cases t.next 0 with ⟨h1,-⟩ | ⟨h1,h2,h3⟩ | ⟨i,b,h1,hi,hb2,h3⟩
        ·exact absurd h1 (by decide)
        ·rw[h3]
         simp only[e25,hml,hio,hlb,hst,iaT ht,hxl,hy,eV_cells,Option.isSome_some,spO,conS,hcon,hnum,eV_cs,h2,wz,opX,intBin,↓reduceIte,simprocAttr]
        ·have hG:=hst8
         rw[hg,h3] at hG
         rw[h3]
         have hi2:¬ (t.next.length:Int)≤0:=by omega
         have hia:=iaI hb2
         rw[←h1] at hia
         simp only[e25,hml,hio,hlb,hst,iaT ht,hxl,hy,eV_cells,Option.isSome_some,spO,conS,hcon,hnum,eV_cs,hi2,hia,wz,opX,intBin,↓reduceIte,simprocAttr]
         exact⟨M.set m true,_,b,rfl,rfl,by simp[hM],by rw[←set_grow hb,hc],clo_set C hm hG,by rw[show l.length - c=k by omega]⟩
       ·have hg:goS t v=getI t.next 1:=by unfold goS;rw[ha];simp only[hcon,hnum,if_true,if_false,Bool.false_eq_true]
        rw[hst8,hg]
        have hnb:(numV y == t.num)=false:=beq_eq_false_iff_ne.2 hnum
        rcases getI_cases t.next 1 with ⟨h1,-⟩ | ⟨h1,h2,h3⟩ | ⟨i,b,h1,hi,hb2,h3⟩
        ·exact absurd h1 (by decide)
        ·rw[h3]
         simp only[e25,hml,hio,hlb,hst,iaT ht,hxl,hy,eV_cells,Option.isSome_some,spO,conS,hcon,hnb,eV_cs,h2,wz,opX,intBin,↓reduceIte,simprocAttr]
        ·have hG:=hst8
         rw[hg,h3] at hG
         rw[h3]
         have hi2:¬ (t.next.length:Int)≤1:=by omega
         have hia:=iaI hb2
         rw[←h1] at hia
         simp only[e25,hml,hio,hlb,hst,iaT ht,hxl,hy,eV_cells,Option.isSome_some,spO,conS,hcon,hnb,eV_cs,hi2,hia,wz,opX,intBin,↓reduceIte,simprocAttr]
         exact⟨M.set m true,_,b,rfl,rfl,by simp[hM],by rw[←set_grow hb,hc],clo_set C hm hG,by rw[show l.length - c=k by omega]⟩
 ·rintro e h' ⟨M,q,n,-,-,hM,hc,-⟩
  have:=cnt_len M
  omega
 ·simp[List.getElem?_replicate] at hm
end Zc28
end
section
set_option maxHeartbeats 4000000
namespace Zc28
open Go Zv Zs
end Zc28
end
section
set_option maxHeartbeats 4000000
namespace Zc28
open Go Zv Zs
abbrev zC:V:=.agg [.tl [] (some true)]
def hC (h:Hp) (s:List Ts) (q:Nat):Hp:=if s=[] then ⟨(h.next+1,.arr 1 [zC])::(h.next,.arr 1 [zC])::h.objs,h.next+1+1⟩ else
 ⟨(h.next+3,.arr 5 ((s.map eT).map .d))::(h.next+1,.arr 1 [.own (h.next+3) 5 s.length 0 s.length])::(h.next,.arr 1 [zC])::h.objs,q⟩
theorem app_0 (x:D) (hx:x.cells.length=5) (r:List (Nat × Ob)) (q:Nat) (nl:Option Bool):app 5 72 ⟨r,q⟩ (.tl [] nl) (.tl [.d x] (some false))=some (.own q 5 1 0 1,⟨(q,.arr 5 [.d x])::r,q+1⟩):=by
 simp[app,elems,allV,roomB,Hp.alloc,stor,V.cells,hx,norm_d]
theorem ld_z (n:Nat) (r:List (Nat × Ob)) (q:Nat):ld true 1 ⟨(n,.arr 1 [zC])::r,q⟩ (.ptr n 1 0 0)=some zC:=by simp[ld,row_hd]
section
variable (h:Hp) (o:Ob) (n q:Nat) (z:V)
end
end Zc28
end
section
set_option maxHeartbeats 4000000
namespace Zc28
open Go Zv Zs
end Zc28
end
section
set_option maxHeartbeats 4000000
namespace Zc28
open Go Zv Zs
end Zc28
end
section
set_option maxHeartbeats 4000000
namespace Zc28
open Go Zv Zs
end Zc28
end
section
set_option maxHeartbeats 4000000
namespace Zc28
open Go Zv Zs
end Zc28
end
section
set_option maxHeartbeats 4000000
namespace Zc28
open Go Zv Zs
end Zc28
end
section
set_option maxHeartbeats 4000000
namespace Zc28
open Go Zv Zs
section
variable (a:Nat) (L0:List (Nat × Ob)) (clo:V) (n:Nat)
def hW (M:List Bool):Option (List V × Nat)→Hp
 |none=>⟨(a+3,.arr 1 [clo])::(a+2,.arr 1 [.tl [] (some true)])::(a+1,.arr 1 [.own a 1 n 0 n])::(a,.arr 1 (M.map bV))::L0,a+4⟩
 |some (els,k)=>⟨(a+4,.arr 5 els)::(a+3,.arr 1 [clo])::(a+2,.arr 1 [.own (a+4) 5 els.length 0 k])::(a+1,.arr 1 [.own a 1 n 0 n])::(a,.arr 1 (M.map bV))::L0,a+5⟩
end
end Zc28
end
section
set_option maxHeartbeats 4000000
namespace Zc28
open Go Zv Zs
end Zc28
end
section
set_option maxHeartbeats 4000000
namespace Zc28
open Go Zv Zs
end Zc28
end
section
set_option maxHeartbeats 4000000
namespace Zc28
open Go Zv Zs
end Zc28
end
section
set_option maxHeartbeats 4000000
namespace Zc28
open Go Zv Zs
theorem icells {l:List Int}:∀ y,y ∈ l.map eI→y.cells.length=1:=by
 intro y hy
 obtain ⟨p,_,rfl⟩:=List.mem_map.1 hy
 rfl
theorem cloneI_ok (l:List Int) (hl:l.length≤1000000) (h:Hp):callW tab 40 [.d (eIs l)] h=some (.d (eIs l),h):=by
 refine call_wp (fn:=f40) rfl rfl ?_
 have hb:wp tab b40 (args 0 [.d (eIs l)]) h (· = (.ret,[(2,cloV none h.next 1 (l.map eI))],cloO h.objs h.next 1 (l.map eI))):=by
  cases l with
  |nil=>
   have hn0:nilBin NK.s BinOp.eql (.d (eIs []))=some .ub:=rfl
   have happ:app 1 8 h (.tl [] (some false)) (.d (.lst []))=some (.tl [] (some false),h):=rfl
   simp only[e40,wz,opX,intBin,↓reduceIte,simprocAttr]
   refine wq_ex.2 (ex_ambU (e1:=[(0,.d (.lst [])),(4,.ub)]) (h1:=h) (o:=(.ret,[(2,.tl [] (some true))],h)) (q:=(.ret,[(2,.tl [] (some false))],h)) ?_ rfl ?_ ?_ ?_)
   ·apply wq_ex.1;simp only[e40,hn0,wz,opX,intBin,↓reduceIte,simprocAttr]
    rfl
   ·apply wq_ex.1;simp only[e40,wz,opX,intBin,↓reduceIte,simprocAttr]
   ·apply wq_ex.1;simp only[e40,happ,wz,opX,intBin,↓reduceIte,simprocAttr]
   ·unfold outJoin
    rw[if_pos ⟨rfl,objsBeq_refl _,rfl⟩]
    rfl
  |cons p r=>
   have happ:=tl_app (nl:=some false) (es:=1) (b:=8) (h:=h) (r:=(p::r).map eI) icells (by simp only[roomB,List.length_map];omega)
   rw[List.map_cons] at happ
   have hn0:nilBin NK.s BinOp.eql (.d (eIs (p::r)))=some (.d (.bool false)):=rfl
   simp only[e40,wz,opX,intBin,↓reduceIte,simprocAttr]
   refine wq_ex.2 (ex_ambD (e1:=[(0,.d (.lst ((p::r).map eI))),(4,.d (.bool false))]) (h1:=h) false ?_ rfl ?_)
   ·apply wq_ex.1;simp only[e40,hn0,wz,opX,intBin,↓reduceIte,simprocAttr]
    rfl
   ·apply wq_ex.1;simp only[e40,happ,wz,opX,intBin,↓reduceIte,simprocAttr]
    rfl
 obtain ⟨o,h1,rfl⟩:=hb
 exact⟨_,h1,finS_clo (Nat.le_refl _)⟩
section
variable {P:List (Nat × Ob)} {C m:Nat} (hC:∀ x,x ∈ P→x.1≠C) (hm:∀ x,x ∈ P→x.1≠m) (hmC:m≠C) (b:Nat) (e0:List (Nat × V)) (O:List (Nat × Ob))
include hC in
include hC in
include hm hmC in
include hm hmC in
include hm hmC in
include hm hmC in
include hC in
include hm in
include hm in
end
end Zc28
end
section
set_option maxHeartbeats 4000000
namespace Zc28
open Go Zv Zs
section
variable {Q:List (Nat × Ob)} {C m:Nat} (hQC:∀ x,x ∈ Q→x.1≠C) (hQm:∀ x,x ∈ Q→x.1≠m) (hmC:m<C) (cl:V) (O:List (Nat × Ob))
include hQC hQm hmC
end
end Zc28
end
section
set_option maxHeartbeats 4000000
namespace Zc28
open Go Zv Zs
end Zc28
end
section
set_option maxHeartbeats 4000000
namespace Zc28
open Go Zv Zs
structure Cn where
 name:ByteArray
 flds:List Int
structure Dt where
 name:ByteArray
 cons:List Cn
abbrev eC (c:Cn):D:=.agg [.str c.name,.lst (c.flds.map eI)]
abbrev eCs (l:List Cn):D:=.lst (l.map eC)
abbrev eD (d:Dt):D:=.agg [.str d.name,.lst (d.cons.map eC)]
abbrev eDs (l:List Dt):D:=.lst (l.map eD)
theorem iaC {l:List Cn} {n:Nat} {x:Cn} (hx:l[n]? = some x):ia 2 (.d (.lst (l.map eC))) (.d (.int .i64 (n:Int)))=some (.fp (eC x) 0):=ia_map (f:=eC) .i64 hx rfl
theorem iaD {l:List Dt} {n:Nat} {x:Dt} (hx:l[n]? = some x):ia 2 (.d (.lst (l.map eD))) (.d (.int .i64 (n:Int)))=some (.fp (eD x) 0):=ia_map (f:=eD) .i64 hx rfl
def isT (d:List Dt) (t:Int):Bool:=decide (0≤t) && decide (t≤d.length)
theorem exists_ok (d:List Dt) (t:Int) (h:Hp):callW tab 58 [.d (eDs d),.d (eI t)] h=some (.d (.bool (isT d t)),h):=by
 refine call_wp (fn:=f58) rfl rfl ?_
 (simp only[e58,isT,wz,opX,intBin,↓reduceIte,simprocAttr]<;>repeat' (first | refine wpG_s ?_ ?_ | refine wpC_s ?_ ?_)<;>intro hgo<;>(try simp only[dq] at hgo)<;>simp only[hgo,e58,isT,wz,opX,intBin,↓reduceIte,simprocAttr])
def consOf (d:List Dt) (t:Int):List Cn:=if 1≤t then ((d[(t - 1).toNat]?).map Dt.cons).getD [] else []
theorem consOf_nat (d:List Dt) (n:Nat):consOf d ((n:Int)+1)=((d[n]?).map Dt.cons).getD []:=by
 unfold consOf
 rw[if_pos (by omega),show ((n:Int)+1 - 1).toNat=n by omega]
theorem consOf_at {d:List Dt} {n:Nat} {y:Dt} (hy:d[n]? = some y):consOf d ((n:Int)+1)=y.cons:=by rw[consOf_nat,hy];rfl
theorem lt_of_get {α:Type} {l:List α} {n:Nat} {x:α} (h:l[n]? = some x):n<l.length:=(List.getElem?_eq_some_iff.1 h).1
theorem wrap_sub1 {n:Nat} (h:n<2 ^ 62):IntKind.i64.wrap ((n:Int)+1 - 1)=(n:Int):=by rw[wrap_ok (by omega) (by omega)];omega
theorem tcase (d:List Dt) (t:Int):t<1∨(d.length:Int)<t∨∃ n:Nat,∃ y,t=(n:Int)+1∧d[n]? = some y:=by
 by_cases h0:t<1
 ·exact .inl h0
 ·by_cases h1:(d.length:Int)<t
  ·exact .inr (.inl h1)
  ·obtain ⟨y,hy⟩:=get_of_lt (l:=d) (n:=(t - 1).toNat) (by omega)
   exact .inr (.inr ⟨(t - 1).toNat,y,by omega,hy⟩)
theorem idxFC (l:List Cn) (cv:V) (p:Cn→Bool) (h:Hp) (hl:l.length<2 ^ 60) (hcv:norm cv=cv) (hc:∀ c,c ∈ l→cW tab cv [.d (eC c)] h=some (.d (.bool (p c)),h)) :
  callW tab 132 [.d (.lst (l.map eC)),cv] h=some (.d (eI (idxZ p l)),h):=by
 refine call_wp (fn:=f132) rfl rfl ?_
 have hloop:=loop_find (T:=tab) (a:=f132l0) (l:=l) (p:=p) (f:=fun n=>[(0,.d (.lst (l.map eC))),(1,cv),(7,int l.length),(8,int n)]) (h:=h)
   (by intro n x hx hlt hp;have hcall:=hc x (List.mem_of_getElem? hx);all_goals (apply wq_ex.1;simp only[hlt,hp,e132,iaC hx,hcall,wrap_succ (show n<2 ^ 62 by omega),wz,opX,intBin,↓reduceIte,simprocAttr]))
   (by intro n x hx hlt hp;have hcall:=hc x (List.mem_of_getElem? hx);all_goals (apply wq_ex.1;simp only[hlt,hp,e132,iaC hx,hcall,wrap_succ (show n<2 ^ 62 by omega),wz,opX,intBin,↓reduceIte,simprocAttr]<;>rfl))
   (by apply wq_ex.1;simp only[e132,wz,opX,intBin,↓reduceIte,simprocAttr]<;>rfl)
   (by intro n x;simp) (by simp)
 simp only[int,Zv.bool,Int.cast_ofNat_Int] at hloop
 simp only[e132,hcv,wq_of hloop,wz,opX,intBin,↓reduceIte,simprocAttr]
 unfold idxZ
 cases fst? p 0 l with
 |none=>simp only[e132,wz,opX,intBin,↓reduceIte,simprocAttr]
 |some n=>simp only[e132,wz,opX,intBin,↓reduceIte,simprocAttr]
theorem conFC (l:List Cn) (cv:V) (p:Cn→Bool) (h:Hp) (hl:l.length<2 ^ 60) (hcv:norm cv=cv) (hc:∀ c,c ∈ l→cW tab cv [.d (eC c)] h=some (.d (.bool (p c)),h)) :
  callW tab 97 [.d (.lst (l.map eC)),cv] h=some (.d (.bool (l.any p)),h):=by
 refine call_wp (fn:=f97) rfl rfl ?_
 have hi:=idxFC l cv p h hl hcv hc
 simp only[e97,hcv,hi,idxZ_nn,Bool.decide_eq_true,wz,opX,intBin,↓reduceIte,simprocAttr]
theorem idxFT (l:List Int) (cv:V) (p:Int→Bool) (h:Hp) (hl:l.length<2 ^ 60) (hcv:norm cv=cv) (hc:∀ c,c ∈ l→cW tab cv [.d (eI c)] h=some (.d (.bool (p c)),h)) :
  callW tab 101 [.d (.lst (l.map eI)),cv] h=some (.d (eI (idxZ p l)),h):=by
 refine call_wp (fn:=f101) rfl rfl ?_
 have hloop:=loop_find (T:=tab) (a:=f101l0) (l:=l) (p:=p) (f:=fun n=>[(0,.d (.lst (l.map eI))),(1,cv),(7,int l.length),(8,int n)]) (h:=h)
   (by intro n x hx hlt hp;have hcall:=hc x (List.mem_of_getElem? hx);all_goals (apply wq_ex.1;simp only[hlt,hp,e101,iaI hx,hcall,wrap_succ (show n<2 ^ 62 by omega),wz,opX,intBin,↓reduceIte,simprocAttr]))
   (by intro n x hx hlt hp;have hcall:=hc x (List.mem_of_getElem? hx);all_goals (apply wq_ex.1;simp only[hlt,hp,e101,iaI hx,hcall,wrap_succ (show n<2 ^ 62 by omega),wz,opX,intBin,↓reduceIte,simprocAttr]<;>rfl))
   (by apply wq_ex.1;simp only[e101,wz,opX,intBin,↓reduceIte,simprocAttr]<;>rfl)
   (by intro n x;simp) (by simp)
 simp only[int,Zv.bool,Int.cast_ofNat_Int] at hloop
 simp only[e101,hcv,wq_of hloop,wz,opX,intBin,↓reduceIte,simprocAttr]
 unfold idxZ
 cases fst? p 0 l with
 |none=>simp only[e101,wz,opX,intBin,↓reduceIte,simprocAttr]
 |some n=>simp only[e101,wz,opX,intBin,↓reduceIte,simprocAttr]
theorem conFT (l:List Int) (cv:V) (p:Int→Bool) (h:Hp) (hl:l.length<2 ^ 60) (hcv:norm cv=cv) (hc:∀ c,c ∈ l→cW tab cv [.d (eI c)] h=some (.d (.bool (p c)),h)) :
  callW tab 56 [.d (.lst (l.map eI)),cv] h=some (.d (.bool (l.any p)),h):=by
 refine call_wp (fn:=f56) rfl rfl ?_
 have hi:=idxFT l cv p h hl hcv hc
 simp only[e56,hcv,hi,idxZ_nn,Bool.decide_eq_true,wz,opX,intBin,↓reduceIte,simprocAttr]
end Zc28
end
section
set_option maxHeartbeats 4000000
namespace Zc28
open Go Zv Zs
structure Bd (d:List Dt):Prop where
 len:d.length≤100
 cons:∀ y,y ∈ d→y.cons.length≤30
 flds:∀ y,y ∈ d→∀ c,c ∈ y.cons→c.flds.length≤20
theorem Bd.at {d:List Dt} (B:Bd d) {m:Nat} {y:Dt} (hy:d[m]? = some y):m<100∧m<d.length∧y.cons.length≤30:=by
 have:=lt_of_get hy
 have:=B.len
 exact⟨by omega,by omega,B.cons y (List.mem_of_getElem? hy)⟩
theorem Bd.cat {d:List Dt} (B:Bd d) {m k:Nat} {y:Dt} {c:Cn} (hy:d[m]? = some y) (hc:y.cons[k]? = some c):k<30∧c.flds.length≤20:=by
 have:=(B.at hy).2.2
 have:=lt_of_get hc
 exact⟨by omega,B.flds y (List.mem_of_getElem? hy) c (List.mem_of_getElem? hc)⟩
theorem consOf_lo {d:List Dt} {t:Int} (h:t<1):consOf d t=[]:=by unfold consOf;rw[if_neg (by omega)]
theorem consOf_hi {d:List Dt} {t:Int} (h:(d.length:Int)<t):consOf d t=[]:=by
 unfold consOf
 split
 ·rw[List.getElem?_eq_none (by omega)];rfl
 ·rfl
abbrev sInt:ByteArray:=⟨#[73,110,116]⟩
end Zc28
end
section
set_option maxHeartbeats 4000000
namespace Zc28
open Go Zv Zs
theorem okC {x:D} (h:ok (EE es) (.st [.s,.l 2]) x):∃ a,x=eC a:=by
 obtain ⟨l,rfl,h1⟩:=ok_st h
 obtain ⟨y,r,rfl,ha,h1⟩:=okCs_cons h1
 obtain ⟨z,r,rfl,hb,h1⟩:=okCs_cons h1
 obtain rfl:=okCs_nil h1
 obtain ⟨s,rfl,_⟩:=ok_s ha
 obtain ⟨l,rfl,_,h2⟩:=ok_l hb
 obtain ⟨xs,rfl⟩:=okEs_map (fun _=>okI) h2
 exact⟨⟨s,xs⟩,rfl⟩
theorem okD {x:D} (h:ok (EE es) (.st [.s,.l 1]) x):∃ a,x=eD a:=by
 obtain ⟨l,rfl,h1⟩:=ok_st h
 obtain ⟨y,r,rfl,ha,h1⟩:=okCs_cons h1
 obtain ⟨z,r,rfl,hb,h1⟩:=okCs_cons h1
 obtain rfl:=okCs_nil h1
 obtain ⟨s,rfl,_⟩:=ok_s ha
 obtain ⟨l,rfl,_,h2⟩:=ok_l hb
 obtain ⟨xs,rfl⟩:=okEs_map (fun _=>okC) h2
 exact⟨⟨s,xs⟩,rfl⟩
theorem okDs {x:D} (h:ok (EE es) (.one (.l 0)) x):∃ a,x=eDs a:=by
 obtain ⟨l,rfl,_,h2⟩:=ok_l h
 obtain ⟨xs,rfl⟩:=okEs_map (fun _=>okD) h2
 exact⟨xs,rfl⟩
def Nm (d:List Dt):Prop:=∀ y,y ∈ d→y.name.size<2 ^ 60∧∀ c,c ∈ y.cons→c.name.size<2 ^ 60
end Zc28
end
section
set_option maxHeartbeats 4000000
namespace Zc28
open Go Zv Zs
def manyS (d:List Dt):Bool:=decide (64<d.length) || d.any fun y=>decide (16<y.cons.length) || y.cons.any fun c=>decide (6<c.flds.length)
theorem ofNat_lt_lit (a b:Nat):((a:Int)<(b:Int))=(a<b):=by simp
theorem many1_ok (c:Cn) (h:Hp):callW tab 98 [.d (eC c)] h=some (.d (.bool (decide (6<c.flds.length))),h):=by
 refine call_wp (fn:=f98) rfl rfl ?_
 have e:((6:Int)<(c.flds.length:Int))=(6<c.flds.length):=ofNat_lt_lit 6 _
 simp only[e98,e,wz,opX,intBin,↓reduceIte,simprocAttr]
theorem many_ok {d:List Dt} (B:Bd d) (h:Hp):callW tab 53 [.d (eDs d)] h=some (.d (.bool (manyS d)),h):=by
 refine call_wp (fn:=f53) rfl rfl ?_
 have hbl:=B.len
 have e:((64:Int)<(d.length:Int))=(64<d.length):=ofNat_lt_lit 64 _
 by_cases h0:64<d.length
 ·simp only[e53,manyS,e,h0,Bool.true_or,wz,opX,intBin,↓reduceIte,simprocAttr]
 ·skip
  obtain ⟨hloopq,hloop⟩:=loop_anyq (T:=tab) (a:=f53l0) (l:=d) (p:=(fun y=>decide (16<y.cons.length) || y.cons.any fun c=>decide (6<c.flds.length))) (f:=fun n=>[(8,.d (eDs d)),(9,int d.length),(10,int n)]) (h:=h)
    (by intro q n x hx hlt hp;have b:=B.at hx;have hc:=fun h=>conFC x.cons (.clo 98 []) (fun c=>decide (6<c.flds.length)) h (by omega) rfl (fun c _=>many1_ok c h);have e2:((16:Int)<(x.cons.length:Int))=(16<x.cons.length):=ofNat_lt_lit 16 _;by_cases h16:16<x.cons.length;all_goals simp only[h16,decide_true,decide_false,Bool.true_or,Bool.false_or,Bool.true_eq_false] at hp;all_goals (simp only[hlt,hp,e53,iaD hx,hc,e2,h16,wrap_succ (show n<2 ^ 62 by omega),wz,opX,intBin,↓reduceIte,simprocAttr]<;>(first | exact⟨_,rfl⟩ | exact⟨_,rfl,rfl⟩ | exact⟨_,rfl,rfl,rfl⟩)))
    (by intro q n x hx hlt hp;have b:=B.at hx;have hc:=fun h=>conFC x.cons (.clo 98 []) (fun c=>decide (6<c.flds.length)) h (by omega) rfl (fun c _=>many1_ok c h);have e2:((16:Int)<(x.cons.length:Int))=(16<x.cons.length):=ofNat_lt_lit 16 _;by_cases h16:16<x.cons.length;all_goals simp only[h16,decide_true,decide_false,Bool.true_or,Bool.false_or,Bool.true_eq_false] at hp;all_goals (simp only[hlt,hp,e53,iaD hx,hc,e2,h16,wrap_succ (show n<2 ^ 62 by omega),wz,opX,intBin,↓reduceIte,simprocAttr]<;>(first | exact⟨_,rfl⟩ | exact⟨_,rfl,rfl⟩ | exact⟨_,rfl,rfl,rfl⟩)))
    (by intro q;simp only[e53,wz,opX,intBin,↓reduceIte,simprocAttr]<;>(first | exact⟨_,rfl⟩ | exact⟨_,rfl,rfl⟩ | exact⟨_,rfl,rfl,rfl⟩))
    (by simp) (by simp)
  simp only[int,Zv.bool,Int.cast_ofNat_Int] at hloop
  simp only[e53,manyS,e,h0,wq_of hloop,Bool.false_or,wz,opX,intBin,↓reduceIte,simprocAttr]
  cases d.any (fun y=>decide (16<y.cons.length) || y.cons.any fun c=>decide (6<c.flds.length))<;>simp only[e53,wz,opX,intBin,↓reduceIte,simprocAttr]
end Zc28
end
section
set_option maxHeartbeats 4000000
namespace Zc28
open Go Zv Zs
def up (c:UInt8):Bool:=decide ((65:Int)≤(c.toNat:Int)) && decide ((c.toNat:Int)≤90)
def other (c:UInt8):Bool:=(decide ((97:Int)≤(c.toNat:Int)) && decide ((c.toNat:Int)≤122)) || (decide ((48:Int)≤(c.toNat:Int)) && decide ((c.toNat:Int)≤57)) || decide ((c.toNat:Int)=95)
def wrong (q:UInt8 × Nat):Bool := !up q.1 && (decide (q.2=0) || !other q.1)
def nameS (s:ByteArray):Bool := !s.data.toList.zipIdx.any wrong && decide (1≤s.size) && decide (s.size≤32)
theorem size_list (s:ByteArray):s.data.toList.length=s.size:=by rw[Array.length_toList];rfl
theorem any_up (n:Nat):∀ l:List UInt8,(l.zipIdx (n+1)).any wrong=l.any fun c => !up c && !other c
 | []=>rfl
 |c::l=>by
  rw[List.zipIdx_cons,List.any_cons,List.any_cons,any_up (n+1) l]
  simp[wrong]
theorem any_up0 (l:List UInt8) (c:UInt8) (h:up c=true):(c::l).zipIdx.any wrong=(c::l).any fun c => !up c && !other c:=by
 rw[List.zipIdx_cons,List.any_cons,List.any_cons,any_up 0 l]
 simp[wrong,h]
theorem any_up1 (l:List UInt8) (c:UInt8) (h:up c=false):(c::l).zipIdx.any wrong=true:=by
 rw[List.zipIdx_cons,List.any_cons]
 simp[wrong,h]
theorem size_zero {s:ByteArray} (h:s.size=0):s=⟨#[]⟩:=by
 have:=size_list s
 rw[h] at this
 have h2:s.data.toList=[]:=List.length_eq_zero_iff.1 this
 cases s with
 |mk d=>
  congr
  exact Array.toList_inj.1 (by simpa using h2)
theorem pname_ok (s:ByteArray) (hs:s.size<2 ^ 60) (h:Hp):callW tab 99 [.d (.str s)] h=some (.d (.bool (nameS s)),h):=by
 refine call_wp (fn:=f99) rfl rfl ?_
 have hsz:=size_list s
 by_cases h0:s=⟨#[]⟩
 ·subst h0
  simp only[e99,wz,opX,intBin,↓reduceIte,simprocAttr]
  decide
 ·by_cases h1:(32:Int)<s.size
  ·have h2:¬ s.size≤32:=by omega
   simp only[e99,h0,h1,nameS,h2,Bool.and_false,wz,opX,intBin,↓reduceIte,simprocAttr]
  ·obtain ⟨c,l,hl⟩:∃ c l,s.data.toList=c::l:=by
    cases hq:s.data.toList with
    |nil=>rw[hq] at hsz;exact absurd (size_zero (by simpa using hsz.symm)) h0
    |cons c l=>exact⟨c,l,rfl⟩
   have hx0:ixS (.d (.str s)) (.d (.int .i64 0))=some (.d (.int .u8 c.toNat)):=ixS_at (n:=0) .i64 (by rw[hl];rfl)
   have hn:nameS s = !s.data.toList.zipIdx.any wrong:=by
    have a:1≤s.size:=by rw[←hsz,hl];simp
    have b:s.size≤32:=by omega
    simp[nameS,a,b]
   rw[hn,hl]
   cases hu:up c with
   |false=>
    rw[any_up1 l c hu]
    simp only[up,Bool.and_eq_false_iff,decide_eq_false_iff_not] at hu
    (simp only[e99,h0,h1,hx0,wz,opX,intBin,↓reduceIte,simprocAttr]<;>repeat' (first | refine wpG_s ?_ ?_ | refine wpC_s ?_ ?_)<;>intro hgo<;>(try simp only[dq] at hgo)<;>simp only[hgo,e99,h0,h1,hx0,wz,opX,intBin,↓reduceIte,simprocAttr])
    all_goals (exfalso;omega)
   |true=>
    rw[any_up0 l c hu]
    simp only[up,Bool.and_eq_true,decide_eq_true_eq] at hu
    have c1:¬ (c.toNat:Int)<65:=by omega
    have c2:¬ (90:Int)<(c.toNat:Int):=by omega
    have hloop:=loop_any (T:=tab) (a:=f99l0) (l:=s.data.toList) (p:=(fun c => !up c && !other c)) (f:=fun n=>[(0,.d (.str s)),(23,int s.size),(24,int n)]) (h:=h)
      (by intro n x hx hlt hp;have hlt':n<s.size:=(by omega);simp only[up,other] at hp;all_goals (apply wq_ex.1;(simp only[hlt,hp,e99,ixS_at .i64 hx,hlt',ibeq,wrap_succ (show n<2 ^ 62 by omega),wz,opX,intBin,↓reduceIte,simprocAttr]<;>repeat' (first | refine wpG_s ?_ ?_ | refine wpC_s ?_ ?_)<;>intro hgo<;>(try simp only[dq] at hgo)<;>simp only[hgo,hlt,hp,e99,ixS_at .i64 hx,hlt',ibeq,wrap_succ (show n<2 ^ 62 by omega),wz,opX,intBin,↓reduceIte,simprocAttr])<;>(first | done | rfl | (exfalso;simp_all))))
      (by intro n x hx hlt hp;have hlt':n<s.size:=(by omega);simp only[up,other] at hp;all_goals (apply wq_ex.1;(simp only[hlt,hp,e99,ixS_at .i64 hx,hlt',ibeq,wrap_succ (show n<2 ^ 62 by omega),wz,opX,intBin,↓reduceIte,simprocAttr]<;>repeat' (first | refine wpG_s ?_ ?_ | refine wpC_s ?_ ?_)<;>intro hgo<;>(try simp only[dq] at hgo)<;>simp only[hgo,hlt,hp,e99,ixS_at .i64 hx,hlt',ibeq,wrap_succ (show n<2 ^ 62 by omega),wz,opX,intBin,↓reduceIte,simprocAttr])<;>(first | done | rfl | (exfalso;simp_all))<;>rfl))
      (by apply wq_ex.1;simp only[e99,hsz,wz,opX,intBin,↓reduceIte,simprocAttr]<;>rfl)
      (by simp) (by simp)
    simp only[int,Zv.bool,Int.cast_ofNat_Int] at hloop
    simp only[e99,h0,h1,hx0,c1,c2,wq_of hloop,wz,opX,intBin,↓reduceIte,simprocAttr]
    rw[hl]
    cases (c::l).any fun c => !up c && !other c<;>simp only[e99,wz,opX,intBin,↓reduceIte,simprocAttr]
end Zc28
end
section
set_option maxHeartbeats 4000000
namespace Zc28
open Go Zv Zs
abbrev sBool:ByteArray:=⟨#[66,111,111,108]⟩
abbrev sFalse:ByteArray:=⟨#[70,97,108,115,101]⟩
abbrev sTrue:ByteArray:=⟨#[84,114,117,101]⟩
def boolS (y:Dt):Bool:=decide (y.name=sBool) && match y.cons with
 | [f,t]=>decide (f.name=sFalse) && decide (t.name=sTrue) && decide (f.flds.length=0) && decide (t.flds.length=0)
 |_=>false
def badS (y:Dt):Bool := !nameS y.name || decide (y.cons.length=0) || y.cons.any fun c => !nameS c.name
def formedS (d:List Dt):Bool:=match d with
 | []=>false
 |y::_=>boolS y && !d.any badS
theorem iaD0 {l:List Dt} {x:Dt} (hx:l[0]? = some x):ia 2 (.d (.lst (l.map eD))) (.d (.int .i64 0))=some (.fp (eD x) 0):=iaD hx
theorem iaC0 {l:List Cn} {x:Cn} (hx:l[0]? = some x):ia 2 (.d (.lst (l.map eC))) (.d (.int .i64 0))=some (.fp (eC x) 0):=iaC hx
theorem iaC1 {l:List Cn} {x:Cn} (hx:l[1]? = some x):ia 2 (.d (.lst (l.map eC))) (.d (.int .i64 1))=some (.fp (eC x) 0):=iaC (n:=1) hx
theorem formed1_ok (c:Cn) (hc:c.name.size<2 ^ 60) (h:Hp):callW tab 100 [.d (eC c)] h=some (.d (.bool (!nameS c.name)),h):=by
 refine call_wp (fn:=f100) rfl rfl ?_
 simp only[e100,pname_ok c.name hc,wz,opX,intBin,↓reduceIte,simprocAttr]
theorem pformed_ok {d:List Dt} (B:Bd d) (N:Nm d) (h:Hp):callW tab 54 [.d (eDs d)] h=some (.d (.bool (formedS d)),h):=by
 refine call_wp (fn:=f54) rfl rfl ?_
 have hbl:=B.len
 cases d with
 |nil=>simp only[e54,formedS,Int.cast_ofNat_Int,wz,opX,intBin,↓reduceIte,simprocAttr]
 |cons y ds=>
  have e0:(((y::ds).length:Int) == 0)=false:=by simp;omega
  have hy:(y::ds)[0]? = some y:=rfl
  have h3:=N y List.mem_cons_self
  generalize hd:y::ds=d at *
  have hF:formedS d=(boolS y && !d.any badS):=by rw[←hd];rfl
  by_cases h1:y.name=sBool
  ·by_cases h2:y.cons.length=2
   ·obtain ⟨f,t,hft⟩:∃ f t,y.cons=[f,t]:=by
     cases hq:y.cons with
     |nil=>rw[hq] at h2;cases h2
     |cons f r=>cases r with
      |nil=>rw[hq] at h2;cases h2
      |cons t r=>cases r with
       |nil=>exact⟨f,t,rfl⟩
       |cons x r=>rw[hq] at h2;simp at h2
    have hB:boolS y=(decide (f.name=sFalse) && decide (t.name=sTrue) && decide (f.flds.length=0) && decide (t.flds.length=0)):=by
     unfold boolS;rw[hft];simp[h1]
    have b0:=iaC0 (l:=y.cons) (x:=f) (by rw[hft];rfl)
    have b1:=iaC1 (l:=y.cons) (x:=t) (by rw[hft];rfl)
    have e2:((y.cons.length:Int) != 2)=false:=by rw[h2];rfl
    have bf:=B.flds y (by rw[←hd];exact List.mem_cons_self) f (by rw[hft];simp)
    have bt:=B.flds y (by rw[←hd];exact List.mem_cons_self) t (by rw[hft];simp)
    have ew:IntKind.i64.wrap ((f.flds.length:Int)+(t.flds.length:Int))=(f.flds.length:Int)+(t.flds.length:Int):=wrap_ok (by omega) (by omega)
    by_cases k1:f.name=sFalse
    ·by_cases k2:t.name=sTrue
     ·by_cases k3:(0:Int)<(f.flds.length:Int)+(t.flds.length:Int)
      ·have:boolS y=false:=by
        rw[hB];by_cases z1:f.flds.length=0<;>by_cases z2:t.flds.length=0<;>first | (exfalso;omega) | simp[z1,z2]
       simp only[e54,iaD0 hy,e0,h1,e2,b0,b1,k1,k2,ew,k3,hF,this,wz,opX,intBin,↓reduceIte,simprocAttr]
      ·have z1:f.flds.length=0:=by omega
       have z2:t.flds.length=0:=by omega
       have:boolS y=true:=by rw[hB];simp[k1,k2,z1,z2]
       obtain ⟨hloopq,hloop⟩:=loop_anyq (T:=tab) (a:=f54l0) (l:=d) (p:=badS) (f:=fun n=>[(55,.d (eDs d)),(56,int d.length),(57,int n)]) (h:=⟨h.objs,h.next+1+1⟩)
         (by intro q n x hx hlt hp;have b:=B.at hx;have hN:=N x (List.mem_of_getElem? hx);have hcf:=fun h=>conFC x.cons (.clo 100 []) (fun c => !nameS c.name) h (by omega) rfl (fun c hc=>formed1_ok c (hN.2 c hc) h);have hnm:=fun h=>pname_ok x.name hN.1 h;simp only[badS] at hp;have ez:((x.cons.length:Int) == 0)=decide (x.cons.length=0):=(by rw[ibeq];simp);cases hn:nameS x.name;all_goals by_cases hz:x.cons.length=0;all_goals simp only[hn,hz,decide_true,decide_false,Bool.true_or,Bool.false_or,Bool.not_true,Bool.not_false,Bool.true_eq_false] at hp;all_goals (simp only[hlt,hp,e54,iaD hx,hcf,hnm,hn,hz,ez,wrap_succ (show n<2 ^ 62 by omega),wz,opX,intBin,↓reduceIte,simprocAttr]<;>(first | exact⟨_,rfl⟩ | exact⟨_,rfl,rfl⟩ | exact⟨_,rfl,rfl,rfl⟩)))
         (by intro q n x hx hlt hp;have b:=B.at hx;have hN:=N x (List.mem_of_getElem? hx);have hcf:=fun h=>conFC x.cons (.clo 100 []) (fun c => !nameS c.name) h (by omega) rfl (fun c hc=>formed1_ok c (hN.2 c hc) h);have hnm:=fun h=>pname_ok x.name hN.1 h;simp only[badS] at hp;have ez:((x.cons.length:Int) == 0)=decide (x.cons.length=0):=(by rw[ibeq];simp);cases hn:nameS x.name;all_goals by_cases hz:x.cons.length=0;all_goals simp only[hn,hz,decide_true,decide_false,Bool.true_or,Bool.false_or,Bool.not_true,Bool.not_false,Bool.true_eq_false] at hp;all_goals (simp only[hlt,hp,e54,iaD hx,hcf,hnm,hn,hz,ez,wrap_succ (show n<2 ^ 62 by omega),wz,opX,intBin,↓reduceIte,simprocAttr]<;>(first | exact⟨_,rfl⟩ | exact⟨_,rfl,rfl⟩ | exact⟨_,rfl,rfl,rfl⟩)))
         (by intro q;simp only[e54,wz,opX,intBin,↓reduceIte,simprocAttr]<;>(first | exact⟨_,rfl⟩ | exact⟨_,rfl,rfl⟩ | exact⟨_,rfl,rfl,rfl⟩))
         (by simp) (by simp)
       simp only[int,Zv.bool,Int.cast_ofNat_Int] at hloop
       simp only[e54,iaD0 hy,e0,h1,e2,b0,b1,k1,k2,ew,k3,hF,this,wq_of hloop,wz,opX,intBin,↓reduceIte,simprocAttr]
       cases d.any badS<;>simp only[e54,wz,opX,intBin,↓reduceIte,simprocAttr]
     ·have:boolS y=false:=by rw[hB];simp[k2]
      simp only[e54,iaD0 hy,e0,h1,e2,b0,b1,k1,k2,hF,this,wz,opX,intBin,↓reduceIte,simprocAttr]
    ·have:boolS y=false:=by rw[hB];simp[k1]
     simp only[e54,iaD0 hy,e0,h1,e2,b0,b1,k1,hF,this,wz,opX,intBin,↓reduceIte,simprocAttr]
   ·have:boolS y=false:=by
     unfold boolS
     split
     ·rename_i hq;rw[hq] at h2;exact absurd rfl h2
     ·simp
    have e2:((y.cons.length:Int) != 2)=true:=by simp;omega
    simp only[e54,iaD0 hy,e0,h1,e2,hF,this,wz,opX,intBin,↓reduceIte,simprocAttr]
  ·have:boolS y=false:=by unfold boolS;simp[h1]
   simp only[e54,iaD0 hy,e0,h1,hF,this,wz,opX,intBin,↓reduceIte,simprocAttr]
end Zc28
end
section
set_option maxHeartbeats 4000000
namespace Zc28
open Go Zv Zs
instance decMem (s:ByteArray) (l:List ByteArray):Decidable (s ∈ l):=decidable_of_iff (l.any (fun x=>decide (x=s))=true) (by simp)
def tyN (d:List Dt) (n:Nat):List ByteArray:=sInt::(d.take n).map Dt.name
def coN (d:List Dt) (n:Nat):List ByteArray:=(d.take n).flatMap fun y=>y.cons.map Cn.name
def coK (d:List Dt) (n:Nat) (y:Dt) (k:Nat):List ByteArray:=coN d n++(y.cons.take k).map Cn.name
def twiceS (d:List Dt):Bool := !(decide (tyN d d.length).Nodup && decide (coN d d.length).Nodup)
theorem tyN_succ {d:List Dt} {n:Nat} {y:Dt} (hy:d[n]? = some y):tyN d (n+1)=tyN d n++[y.name]:=by
 obtain ⟨hlt,rfl⟩:=List.getElem?_eq_some_iff.1 hy
 unfold tyN;rw[List.take_succ_eq_append_getElem hlt,List.map_append];rfl
theorem coN_succ {d:List Dt} {n:Nat} {y:Dt} (hy:d[n]? = some y):coN d (n+1)=coN d n++y.cons.map Cn.name:=by
 obtain ⟨hlt,rfl⟩:=List.getElem?_eq_some_iff.1 hy
 unfold coN;rw[List.take_succ_eq_append_getElem hlt,List.flatMap_append];simp
theorem coK_zero (d:List Dt) (n:Nat) (y:Dt):coK d n y 0=coN d n:=by simp[coK]
theorem coK_succ {d:List Dt} {n:Nat} {y:Dt} {k:Nat} {c:Cn} (hc:y.cons[k]? = some c):coK d n y (k+1)=coK d n y k++[c.name]:=by
 obtain ⟨hlt,rfl⟩:=List.getElem?_eq_some_iff.1 hc
 unfold coK;rw[List.take_succ_eq_append_getElem hlt,List.map_append,List.append_assoc];rfl
theorem coK_all {d:List Dt} {n:Nat} {y:Dt} (hy:d[n]? = some y):coK d n y y.cons.length=coN d (n+1):=by
 rw[coN_succ hy];simp[coK]
theorem tyN_pre (d:List Dt) (n:Nat):tyN d n <+: tyN d d.length:=by
 unfold tyN
 rw[List.take_length]
 refine ⟨(d.drop n).map Dt.name,?_⟩
 rw[List.cons_append,←List.map_append,List.take_append_drop]
theorem coN_pre (d:List Dt) (n:Nat):coN d n <+: coN d d.length:=by
 unfold coN
 rw[List.take_length]
 refine ⟨(d.drop n).flatMap fun y=>y.cons.map Cn.name,?_⟩
 rw[←List.flatMap_append,List.take_append_drop]
theorem coK_pre {d:List Dt} {n:Nat} {y:Dt} (hy:d[n]? = some y) (k:Nat):coK d n y k <+: coN d d.length:=by
 refine List.IsPrefix.trans ?_ (coN_pre d (n+1))
 rw[coN_succ hy]
 refine ⟨(y.cons.drop k).map Cn.name,?_⟩
 unfold coK
 rw[List.append_assoc,←List.map_append,List.take_append_drop]
theorem nd_add {l:List ByteArray} {s:ByteArray} (h:l.Nodup) (hs:s ∉ l):(l++[s]).Nodup:=by
 rw[List.nodup_append]
 exact⟨h,by simp,fun a ha b hb=>by rintro rfl;simp at hb;exact hs (hb▸ha)⟩
theorem nd_not {l m:List ByteArray} {s:ByteArray} (hs:s ∈ l) (h:l++[s] <+: m):¬ m.Nodup:=by
 intro hm
 have:=h.sublist.nodup hm
 rw[List.nodup_append] at this
 exact this.2.2 s hs s (by simp) rfl
theorem twice_t1 {d:List Dt} {n:Nat} {y:Dt} (hy:d[n]? = some y) (h:y.name ∈ tyN d n):twiceS d=true:=by
 have:=nd_not h (tyN_succ hy▸tyN_pre d (n+1))
 simp[twiceS,this]
theorem twice_t2 {d:List Dt} {n k:Nat} {y:Dt} {c:Cn} (hy:d[n]? = some y) (hc:y.cons[k]? = some c) (h:c.name ∈ coK d n y k):twiceS d=true:=by
 have:=nd_not h (coK_succ (d:=d) (n:=n) hc▸coK_pre hy (k+1))
 simp[twiceS,this]
theorem twice_f {d:List Dt} (h1:(tyN d d.length).Nodup) (h2:(coN d d.length).Nodup):twiceS d=false:=by
 simp[twiceS,h1,h2]
def kvS (l:List ByteArray):List (D × V):=l.map fun s=>(.str s,.d (.bool true))
theorem kvS_find (s:ByteArray):∀ l:List ByteArray,findK .s (.str s) (kvS l)=some (if s ∈ l then some (.d (.bool true)) else none)
 | []=>rfl
 |x::l=>by
  unfold kvS
  rw[List.map_cons]
  by_cases h:s=x
  ·subst h;simp[findK,keyEq]
  ·simp only[findK,keyEq,h,decide_false,List.mem_cons,false_or]
   exact kvS_find s l
theorem kvS_put (s:ByteArray):∀ l:List ByteArray,s ∉ l→putK .s (.str s) (.d (.bool true)) (kvS l)=some (kvS (l++[s]))
 | [],_=>rfl
 |x::l,hs=>by
  have h:¬ s=x:=fun e=>hs (e▸List.mem_cons_self)
  have ih:=kvS_put s l (fun e=>hs (List.mem_cons_of_mem x e))
  unfold kvS at ih ⊢
  rw[List.map_cons]
  simp only[putK,keyEq,h,decide_false,ih,Option.map_some,List.cons_append,List.map_cons]
section
variable (h:Hp)
def HM (T C:List ByteArray) (q:Nat):Hp:=⟨(h.next+1,.mp (kvS C))::(h.next,.mp (kvS T))::h.objs,q⟩
theorem HM_T (T C q) (s:ByteArray):lk .s (.d (.bool false)) false (HM h T C q) (.map h.next) (.d (.str s))=some (.d (.bool (decide (s ∈ T)))):=by
 have:(HM h T C q).get h.next=some (.mp (kvS T)):=by
  unfold Hp.get HM;rw[look_tl _ _ (by omega),look_hd]
 unfold lk
 simp only[entries,this,Option.bind_some,kvS_find,Option.map_some]
 by_cases hs:s ∈ T<;>simp[hs]
theorem HM_C (T C q) (s:ByteArray):lk .s (.d (.bool false)) false (HM h T C q) (.map (h.next+1)) (.d (.str s))=some (.d (.bool (decide (s ∈ C)))):=by
 have:(HM h T C q).get (h.next+1)=some (.mp (kvS C)):=by
  unfold Hp.get HM;rw[look_hd]
 unfold lk
 simp only[entries,this,Option.bind_some,kvS_find,Option.map_some]
 by_cases hs:s ∈ C<;>simp[hs]
theorem HM_Tp (T C q) {s:ByteArray} (hs:s ∉ T):mu .s (HM h T C q) (.map h.next) (.d (.str s)) (.d (.bool true))=some (HM h (T++[s]) C q):=by
 have:(HM h T C q).get h.next=some (.mp (kvS T)):=by
  unfold Hp.get HM;rw[look_tl _ _ (by omega),look_hd]
 unfold mu
 simp only[this,stor_d,if_true,norm_d,kvS_put s T hs,Option.map_some]
 unfold Hp.set HM
 simp[upd]
theorem HM_Cp (T C q) {s:ByteArray} (hs:s ∉ C):mu .s (HM h T C q) (.map (h.next+1)) (.d (.str s)) (.d (.bool true))=some (HM h T (C++[s]) q):=by
 have:(HM h T C q).get (h.next+1)=some (.mp (kvS C)):=by
  unfold Hp.get HM;rw[look_hd]
 unfold mu
 simp only[this,stor_d,if_true,norm_d,kvS_put s C hs,Option.map_some]
 unfold Hp.set HM
 simp[upd]
end
theorem HM_next (h:Hp) (T C q):(HM h T C q).next=q:=rfl
theorem HM_up (h:Hp) (T C q):(⟨(HM h T C q).objs,q+1⟩:Hp)=HM h T C (q+1):=rfl
theorem HM_fin (h:Hp) (T C q) (x:D):finS h (HM h T C q) [.d x]=some (.d x,h):=finS1cc ..
theorem ptwice_ok {d:List Dt} (B:Bd d) (h:Hp):callW tab 55 [.d (eDs d)] h=some (.d (.bool (twiceS d)),h):=by
 refine call_wp (fn:=f55) rfl rfl ?_
 have hbl:=B.len
 have hmu0:mu .s ⟨(h.next,.mp [])::h.objs,h.next+1⟩ (.map h.next) (.d (.str sInt)) (.d (.bool true))=some ⟨(h.next,.mp (kvS (tyN d 0)))::h.objs,h.next+1⟩:=by
  simp[mu,Hp.get,Zv.look,putK,stor,norm_d,Hp.set,upd,kvS,tyN]
 have hH:(⟨(h.next+1,.mp [])::(h.next,.mp (kvS (tyN d 0)))::h.objs,h.next+1+1⟩:Hp)=HM h (tyN d 0) (coN d 0) (h.next+2):=rfl
 simp only[e55,hmu0,hH,wz,opX,intBin,↓reduceIte,simprocAttr]
 have inner:∀ (m:Nat) (y:Dt) (q:Nat),d[m]? = some y→(coN d m).Nodup→wp tab (.loop f55l0) [(3,.map h.next),(4,.map (h.next+1)),(12,.d (eDs d)),(13,.d (.int .i64 d.length)),(14,.d (.int .i64 m)),(26,.d (eCs y.cons)),(27,.d (.int .i64 y.cons.length)),(28,.d (.int .i64 0))] (HM h (tyN d (m+1)) (coN d m) q)
   (fun o=>∃ T C q',(o=(.ret,[(2,.d (.bool true))],HM h T C q')∧twiceS d=true)∨(o=(.exit 2,[(3,.map h.next),(4,.map (h.next+1)),(12,.d (eDs d)),(13,.d (.int .i64 d.length)),(14,.d (.int .i64 m)),(26,.d (eCs y.cons)),(27,.d (.int .i64 y.cons.length)),(28,.d (.int .i64 y.cons.length)),(29,.d (.bool false))],HM h (tyN d (m+1)) (coN d (m+1)) q')∧(coN d (m+1)).Nodup)):=by
  intro m y q hy hnd
  have b:=B.at hy
  refine loop_wp y.cons.length (fun k e h'=>(∃ q,h'=HM h (tyN d (m+1)) (coK d m y k) q)∧e=[(3,.map h.next),(4,.map (h.next+1)),(12,.d (eDs d)),(13,.d (.int .i64 d.length)),(14,.d (.int .i64 m)),(26,.d (eCs y.cons)),(27,.d (.int .i64 y.cons.length)),(28,.d (.int .i64 k))]∧(coK d m y k).Nodup) _ ?_ ?_ y.cons.length 0 _ _ (by omega) ⟨⟨q,by rw[coK_zero]⟩,rfl,by rw[coK_zero];exact hnd⟩
  ·rintro k e h' hk ⟨⟨q,rfl⟩,rfl,hn⟩
   obtain ⟨c,hc⟩:=get_of_lt hk
   have hw:=wrap_succ (show k<2 ^ 62 by omega)
   by_cases hm:c.name ∈ coK d m y k
   ·have ht:=twice_t2 hy hc hm
    simp only[e55,hk,iaC hc,HM_next,HM_up,HM_C,hm,ht,wz,opX,intBin,↓reduceIte,simprocAttr]
    exact⟨_,_,_,rfl⟩
   ·have hp:=fun q=>HM_Cp h (tyN d (m+1)) (coK d m y k) q hm
    simp only[e55,hk,iaC hc,HM_next,HM_up,HM_C,hm,hp,hw,wz,opX,intBin,↓reduceIte,simprocAttr]
    exact⟨⟨_,by rw[coK_succ hc]⟩,by rw[coK_succ hc];exact nd_add hn hm⟩
  ·rintro e h' ⟨⟨q,rfl⟩,rfl,hn⟩
   simp only[e55,wz,opX,intBin,↓reduceIte,simprocAttr]
   rw[coK_all hy] at hn ⊢
   exact⟨[],[],_,rfl,hn⟩
 refine loop_wp d.length (fun k e h'=>(∃ q,h'=HM h (tyN d k) (coN d k) q)∧e=[(3,.map h.next),(4,.map (h.next+1)),(12,.d (eDs d)),(13,.d (.int .i64 d.length)),(14,.d (.int .i64 k))]∧(tyN d k).Nodup∧(coN d k).Nodup) _ ?_ ?_ d.length 0 _ _ (by omega) ⟨⟨_,rfl⟩,rfl,by simp[tyN],by simp[coN]⟩
 ·rintro k e h' hk ⟨⟨q,rfl⟩,rfl,hn1,hn2⟩
  obtain ⟨y,hy⟩:=get_of_lt hk
  have hw:=wrap_succ (show k<2 ^ 62 by omega)
  by_cases hm:y.name ∈ tyN d k
  ·have ht:=twice_t1 hy hm
   simp only[e55,hk,iaD hy,HM_next,HM_up,HM_T,hm,ht,HM_fin,wz,opX,intBin,↓reduceIte,simprocAttr]
  ·have hp:=fun q=>HM_Tp h (tyN d k) (coN d k) q hm
   simp only[e55,hk,iaD hy,HM_next,HM_up,HM_T,hm,hp,wz,opX,intBin,↓reduceIte,simprocAttr]
   rw[←tyN_succ hy]
   refine wq_mono (inner k y _ hy hn2) ?_
   rintro o ⟨T,C,q',⟨rfl,ht⟩ | ⟨rfl,hn3⟩⟩
   ·simp only[e55,ht,HM_fin,wz,opX,intBin,↓reduceIte,simprocAttr]
   ·simp only[e55,hw,wz,opX,intBin,↓reduceIte,simprocAttr]
    exact⟨⟨_,rfl⟩,by rw[tyN_succ hy];exact nd_add hn1 hm,hn3⟩
 ·rintro e h' ⟨⟨q,rfl⟩,rfl,hn1,hn2⟩
  simp only[e55,HM_fin,twice_f hn1 hn2,wz,opX,intBin,↓reduceIte,simprocAttr]
end Zc28
end
section
set_option maxHeartbeats 4000000
namespace Zc28
open Go Zv Zs
abbrev eS (s:ByteArray):D:=.str s
structure SlS (h:Hp) (v:V) (l:List ByteArray):Prop where
 len:lenL v=some (.d (.int .i64 l.length))
 at_:∀ (n:Nat) (x:ByteArray),l[n]? = some x→∃ a,ia 1 v (.d (.int .i64 (n:Int)))=some a∧ld false 1 h a=some (.d (.str x))
theorem SlS.own {h:Hp} {n:Nat} {l:List ByteArray} (hr:h.row n l.length=some (1,(l.map eS).map .d)):SlS h (.own n 1 l.length 0 l.length) l:=by
 refine ⟨lenL_own ..,fun k x hx=>⟨.ptr n l.length k 0,?_,?_⟩⟩
 ·have:=lt_of_get hx
  simp[ia,ixOf_nat,this]
 ·rw[ld_one,hr]
  simp[hx,V.cells,D.cells]
theorem SlS.nil (h:Hp):SlS h (.d (.lst [])) []:=⟨rfl,fun n x hx=>by simp at hx⟩
section
variable (h:Hp)
def cT (C:List ByteArray):List (Nat × Ob):=if C=[] then [] else [(h.next+1,.arr 1 ((C.map eS).map .d))]
end
end Zc28
end
section
set_option maxHeartbeats 4000000
namespace Zc28
open Go Zv Zs
def mk (M:List Bool) (f:Int):Bool:=M.getD f.toNat false
def allD (M:List Bool) (c:Cn):Bool:=c.flds.all (mk M)
def stp (d:List Dt) (M:List Bool) (i:Nat):List Bool:=match d[i]? with
 |some y=>if y.cons.any (allD M)=true then M.set (i+1) true else M
 |none=>M
def passN (d:List Dt) (M:List Bool):Nat→List Bool
 |0=>M
 |n+1=>stp d (passN d M n) n
def pass (d:List Dt) (M:List Bool):List Bool:=passN d M d.length
def iter (d:List Dt) (M:List Bool):Nat→List Bool
 |0=>M
 |n+1=>pass d (iter d M n)
def marks (d:List Dt):List Bool:=true::List.replicate d.length false
def finiteS (d:List Dt):Bool:=(iter d (marks d) (d.length+1)).all id
theorem set_cnt:∀ (M:List Bool) (k:Nat),M.set k true=M∨cnt M<cnt (M.set k true)
 | [],_=>.inl rfl
 |b::M,0=>by
  cases b with
  |true=>exact .inl rfl
  |false=>right;simp[cnt]
 |b::M,k+1=>by
  rcases set_cnt M k with h | h
  ·left;rw[List.set_cons_succ,h]
  ·right
   unfold cnt at h ⊢
   rw[List.set_cons_succ,List.countP_cons,List.countP_cons]
   omega
theorem set_true {M:List Bool} {k:Nat} (h:M[k]? = some true):M.set k true=M:=by
 obtain ⟨hlt,h⟩:=List.getElem?_eq_some_iff.1 h
 rw[←h];exact List.set_getElem_self hlt
theorem stp_at {d:List Dt} {M:List Bool} {i:Nat} {y:Dt} (hy:d[i]? = some y):stp d M i=if y.cons.any (allD M)=true then M.set (i+1) true else M:=by
 unfold stp;rw[hy]
theorem stp_len (d:List Dt) (M:List Bool) (i:Nat):(stp d M i).length=M.length:=by
 unfold stp
 split
 ·split
  ·exact List.length_set
  ·rfl
 ·rfl
theorem stp_cnt (d:List Dt) (M:List Bool) (i:Nat):stp d M i=M∨cnt M<cnt (stp d M i):=by
 unfold stp
 split
 ·split
  ·exact set_cnt M (i+1)
  ·exact .inl rfl
 ·exact .inl rfl
theorem passN_len (d:List Dt) (M:List Bool):∀ n,(passN d M n).length=M.length
 |0=>rfl
 |n+1=>by rw[passN,stp_len,passN_len d M n]
theorem passN_cnt (d:List Dt) (M:List Bool):∀ n,passN d M n=M∨cnt M<cnt (passN d M n)
 |0=>.inl rfl
 |n+1=>by
  rw[passN]
  rcases passN_cnt d M n with h | h<;>rcases stp_cnt d (passN d M n) n with k | k
  ·left;rw[k,h]
  ·right;rw[h] at k ⊢; exact k
  ·right;rw[k];exact h
  ·right;omega
theorem iter_len (d:List Dt) (M:List Bool):∀ n,(iter d M n).length=M.length
 |0=>rfl
 |n+1=>by rw[iter,pass,passN_len,iter_len d M n]
theorem cnt_le (M:List Bool):cnt M≤M.length:=List.countP_le_length
theorem iter_cnt (d:List Dt):∀ n,pass d (iter d (marks d) n)=iter d (marks d) n∨n+1<cnt (iter d (marks d) (n+1))
 |0=>by
  rcases passN_cnt d (marks d) d.length with h | h
  ·exact .inl h
  ·right
   have:1≤cnt (marks d):=by unfold cnt marks;rw[List.countP_cons];simp
   show 1<cnt (pass d (marks d))
   unfold pass;omega
 |n+1=>by
  rcases iter_cnt d n with h | h
  ·left
   show pass d (pass d (iter d (marks d) n))=pass d (iter d (marks d) n)
   rw[h,h]
  ·rcases passN_cnt d (iter d (marks d) (n+1)) d.length with k | k
   ·exact .inl k
   ·right
    show n+1+1<cnt (pass d (iter d (marks d) (n+1)))
    unfold pass;omega
theorem iter_fix (d:List Dt):pass d (iter d (marks d) (d.length+1))=iter d (marks d) (d.length+1):=by
 rcases iter_cnt d (d.length+1) with h | h
 ·exact h
 ·have h1:=cnt_le (iter d (marks d) (d.length+1+1))
  have h2:(marks d).length=d.length+1:=by simp[marks]
  rw[iter_len,h2] at h1
  omega
theorem iter_more {d:List Dt} {M:List Bool} {j:Nat} (h:pass d (iter d M j)=iter d M j):∀ k,iter d M (j+k)=iter d M j
 |0=>rfl
 |k+1=>by
  show pass d (iter d M (j+k))=_
  rw[iter_more h k,h]
theorem fix_eq {d:List Dt} {j:Nat} (h:pass d (iter d (marks d) j)=iter d (marks d) j):iter d (marks d) j=iter d (marks d) (d.length+1):=by
 by_cases hj:j≤d.length+1
 ·have:=iter_more h (d.length+1 - j)
  rw[show j+(d.length+1 - j)=d.length+1 by omega] at this
  exact this.symm
 ·have:=iter_more (iter_fix d) (j - (d.length+1))
  rw[show d.length+1+(j - (d.length+1))=j by omega] at this
  exact this
def typedS (d:List Dt):Bool:=d.all fun y=>y.cons.all fun c=>c.flds.all (isT d)
theorem typed_at {d:List Dt} (h:typedS d=true) {y:Dt} {c:Cn} {f:Int} (hy:y ∈ d) (hc:c ∈ y.cons) (hf:f ∈ c.flds):∃ n:Nat,f=n∧n<d.length+1:=by
 have:=List.all_eq_true.1 (List.all_eq_true.1 (List.all_eq_true.1 h y hy) c hc) f hf
 simp only[isT,Bool.and_eq_true,decide_eq_true_eq] at this
 exact⟨f.toNat,by omega,by omega⟩
theorem mk_at {M:List Bool} {n:Nat} {b:Bool} (h:M[n]? = some b):mk M (n:Int)=b:=by
 unfold mk
 rw[Int.toNat_natCast,List.getD_eq_getElem?_getD,h];rfl
section
variable (h:Hp)
end
end Zc28
end
section
set_option maxHeartbeats 4000000
namespace Zc28
open Go Zv Zs
structure RM (H:Hp) (b a L:Nat) (M:List Bool):Prop where
 len:M.length=L
 box:H.row b 1=some (1,[.own a 1 L 0 L])
 row:H.row a L=some (1,M.map bV)
theorem RM.up {H:Hp} {b a L:Nat} {M:List Bool} (R:RM H b a L M) (q:Nat):RM ⟨H.objs,q⟩ b a L M:=⟨R.len,R.box,R.row⟩
theorem fin11_ok {H:Hp} {b a L n:Nat} {M:List Bool} (R:RM H b a L M) (hn:n<L):callW tab 103 [.d (eI n),.ptr b 1 0 0] H=some (.d (.bool (!mk M n)),H):=by
 refine call_wp (fn:=f103) rfl rfl ?_
 obtain ⟨x,hx⟩:=get_of_lt (l:=M) (n:=n) (by rw[R.len];exact hn)
 simp only[e103,R.box,ia_own (es:=1) (n:=a) (tot:=L) .i64 hn,ld_bit R.row hx,mk_at hx,wz,opX,intBin,↓reduceIte,simprocAttr]
theorem fin1_ok {H:Hp} {b a L:Nat} {M:List Bool} (R:RM H b a L M) (c:Cn) (hc:c.flds.length<2 ^ 60) (hf:∀ f,f ∈ c.flds→∃ n:Nat,f=n∧n<L):callW tab 102 [.d (eC c),.ptr b 1 0 0] H=some (.d (.bool (allD M c)),H):=by
 refine call_wp (fn:=f102) rfl rfl ?_
 have hcont:=conFT c.flds (.clo 103 [.ptr b 1 0 0]) (fun f => !mk M f) ⟨H.objs,H.next+1⟩ hc rfl
  (fun f hfm=>by obtain ⟨n,rfl,hn⟩:=hf f hfm;exact fin11_ok (R.up _) hn)
 have e:(!c.flds.any fun f => !mk M f)=allD M c:=by
  unfold allD
  have:∀ l:List Int,(!l.any fun f => !mk M f)=l.all (mk M):=by
   intro l;induction l with
   |nil=>rfl
   |cons b l ih=>rw[List.any_cons,List.all_cons,←ih];cases mk M b<;>simp
  exact this _
 simp only[e102,hcont,e,wz,opX,intBin,↓reduceIte,simprocAttr]
theorem indB {h:Hp} {a L:Nat} {M:List Bool} (hr:h.row a L=some (1,M.map bV)) (hL:M.length=L) (hl:L<2 ^ 60) (b:Bool):callW tab 114 [.own a 1 L 0 L,.d (.bool b)] h=some (.d (eI (idxZ (fun x=>b == x) M)),h):=by
 refine call_wp (fn:=f114) rfl rfl ?_
 have hloop:=loop_find (T:=tab) (a:=f114l0) (l:=M) (p:=(fun x=>b == x)) (f:=fun n=>[(0,.own a 1 L 0 L),(1,.d (.bool b)),(7,int L),(8,int n)]) (h:=h)
   (by intro n x hx hlt hp;have hlt':n<L:=(by omega);have hio:=ia_own (es:=1) (n:=a) (tot:=L) .i64 hlt';have hl:=ld_bit hr hx;all_goals (apply wq_ex.1;simp only[hlt,hp,e114,hlt',hio,hl,wrap_succ (show n<2 ^ 62 by omega),wz,opX,intBin,↓reduceIte,simprocAttr]))
   (by intro n x hx hlt hp;have hlt':n<L:=(by omega);have hio:=ia_own (es:=1) (n:=a) (tot:=L) .i64 hlt';have hl:=ld_bit hr hx;all_goals (apply wq_ex.1;simp only[hlt,hp,e114,hlt',hio,hl,wrap_succ (show n<2 ^ 62 by omega),wz,opX,intBin,↓reduceIte,simprocAttr]<;>rfl))
   (by apply wq_ex.1;simp only[e114,hL,wz,opX,intBin,↓reduceIte,simprocAttr]<;>rfl)
   (by intro n x;simp) (by simp)
 simp only[int,Zv.bool,Int.cast_ofNat_Int] at hloop
 simp only[e114,wq_of hloop,wz,opX,intBin,↓reduceIte,simprocAttr]
 unfold idxZ
 cases fst? (fun x=>b == x) 0 M with
 |none=>simp only[e114,wz,opX,intBin,↓reduceIte,simprocAttr]
 |some n=>simp only[e114,wz,opX,intBin,↓reduceIte,simprocAttr]
theorem containsB {h:Hp} {a L:Nat} {M:List Bool} (hr:h.row a L=some (1,M.map bV)) (hL:M.length=L) (hl:L<2 ^ 60) (b:Bool):callW tab 70 [.own a 1 L 0 L,.d (.bool b)] h=some (.d (.bool (M.any fun x=>b == x)),h):=by
 refine call_wp (fn:=f70) rfl rfl ?_
 simp only[e70,indB hr hL hl b,idxZ_nn,Bool.decide_eq_true,wz,opX,intBin,↓reduceIte,simprocAttr]
section
variable (h:Hp) (L:Nat)
def HP (M:List Bool):Hp:=⟨(h.next+1,.arr 1 [.own h.next 1 L 0 L])::(h.next,.arr 1 (M.map bV))::h.objs,h.next+2⟩
theorem HP_R (M:List Bool) (hL:M.length=L):RM (HP h L M) (h.next+1) h.next L M:=by
 refine ⟨hL,row_look (look_hd ..) rfl,row_look ?_ (by simp[hL])⟩
 unfold HP
 rw[look_tl _ _ (by omega),look_hd]
theorem HP_st (M:List Bool) {j:Nat} (hL:M.length=L) (b:Bool) (hj:j<L):st 1 (HP h L M) (.ptr h.next L j 0) (.d (.bool b))=some (HP h L (M.set j b)):=by
 unfold st
 have:(M.map bV)[j]? = some (bV (M[j]'(by omega))):=by simp[show j<M.length by omega]
 simp only[(HP_R h L M hL).row,Option.bind_some,this]
 rw[if_pos (by simp[stor,V.cells,D.cells]),if_pos (by simp)]
 unfold HP Hp.set
 simp[upd,List.map_set]
theorem HP_fin (M:List Bool) (x:D):finS h (HP h L M) [.d x]=some (.d x,h):=finS1cc ..
end
theorem pfinite_ok {d:List Dt} (B:Bd d) (Ty:typedS d=true) (h:Hp):callW tab 59 [.d (eDs d)] h=some (.d (.bool (finiteS d)),h):=by
 refine call_wp (fn:=f59) rfl rfl ?_
 have hbl:=B.len
 have hw0:=wrap_succ (show d.length<2 ^ 62 by omega)
 have hmk:mkslO (.d (.bool false)) 1 1 h (.d (.int .i64 ((d.length+1:Nat):Int)))=some (.own h.next 1 (d.length+1) 0 (d.length+1),⟨(h.next,.arr 1 ((List.replicate (d.length+1) false).map bV))::h.objs,h.next+1⟩):=by
  simp only[mkslO,ixOf_nat,Option.bind_some]
  rw[if_pos (by unfold roomB;omega)]
  simp[Hp.alloc]
 have hH:(⟨(h.next+1,.arr 1 [.own h.next 1 (d.length+1) 0 (d.length+1)])::(h.next,.arr 1 ((List.replicate (d.length+1) false).map bV))::h.objs,h.next+1+1⟩:Hp)=HP h (d.length+1) (List.replicate (d.length+1) false):=rfl
 have hR0:=(HP_R h (d.length+1) (List.replicate (d.length+1) false) (by simp)).box
 have hi0:ia 1 (.own h.next 1 (d.length+1) 0 (d.length+1)) (.d (.int .i64 0))=some (.ptr h.next (d.length+1) 0 0):=ia_own (j:=0) .i64 (by omega)
 have hs0:st 1 (HP h (d.length+1) (List.replicate (d.length+1) false)) (.ptr h.next (d.length+1) 0 0) (.d (.bool true))=some (HP h (d.length+1) (marks d)):=by
  rw[HP_st h _ _ (by simp) true (by omega)];rfl
 have l0:∀ (M:List Bool),M.length=d.length+1 →
   wp tab (.loop f59l0) [(0,.d (eDs d)),(3,.ptr (h.next+1) 1 0 0),(4,.d (.bool false)),(15,.d (.int .i64 d.length)),(16,.d (.int .i64 0))] (HP h (d.length+1) M)
    (fun o=>∃ b,o=(.exit 2,[(0,.d (eDs d)),(3,.ptr (h.next+1) 1 0 0),(4,.d (.bool b)),(15,.d (.int .i64 d.length)),(16,.d (.int .i64 d.length)),(17,.d (.bool false))],HP h (d.length+1) (pass d M))∧(b=false→pass d M=M)∧(b=true→cnt M<cnt (pass d M))):=by
  intro M hM
  refine loop_wp d.length (fun i e h'=>∃ b,h'=HP h (d.length+1) (passN d M i)∧e=[(0,.d (eDs d)),(3,.ptr (h.next+1) 1 0 0),(4,.d (.bool b)),(15,.d (.int .i64 d.length)),(16,.d (.int .i64 i))]∧(b=false→passN d M i=M)∧(b=true→cnt M<cnt (passN d M i))) _ ?_ ?_ d.length 0 _ _ (by omega) ⟨false,rfl,rfl,fun _=>rfl,fun h=>by cases h⟩
  ·rintro i e h' hi ⟨b,rfl,rfl,hb0,hb1⟩
   obtain ⟨y,hy⟩:=get_of_lt hi
   have by_:=B.at hy
   have hlen:(passN d M i).length=d.length+1:=by rw[passN_len];exact hM
   have R:=HP_R h (d.length+1) (passN d M i) hlen
   have hcont:=conFC y.cons (.clo 102 [.ptr (h.next+1) 1 0 0]) (allD (passN d M i)) (HP h (d.length+1) (passN d M i)) (by omega) rfl
    (fun c hc=>fin1_ok R c (by have:=B.flds y (List.mem_of_getElem? hy) c hc;omega) (fun f hf=>typed_at Ty (List.mem_of_getElem? hy) hc hf))
   have hw:=wrap_succ (show i<2 ^ 62 by omega)
   obtain ⟨x,hx⟩:=get_of_lt (l:=passN d M i) (n:=i+1) (by omega)
   have hi1:=ia_own (es:=1) (n:=h.next) (tot:=d.length+1) (j:=i+1) (len:=d.length+1) .i64 (by omega)
   have hl:=ld_bit R.row hx
   have hst:=HP_st h (d.length+1) (passN d M i) (j:=i+1) hlen true (by omega)
   have hs:=stp_at (M:=passN d M i) hy
   have hbx:=R.box
   cases hr:y.cons.any (allD (passN d M i)) with
   |false=>
    rw[hr,if_neg (by simp)] at hs
    simp only[e59,hi,iaD hy,hcont,hr,hw,wz,opX,intBin,↓reduceIte,simprocAttr]
    refine ⟨b,?_,rfl,?_,?_⟩
    ·rw[passN,hs]
    ·rw[passN,hs];exact hb0
    ·rw[passN,hs];exact hb1
   |true=>
    rw[hr,if_pos rfl] at hs
    cases x with
    |true=>
     rw[set_true hx] at hs
     simp only[e59,hi,iaD hy,hcont,hr,hw,hbx,hi1,hl,wz,opX,intBin,↓reduceIte,simprocAttr]
     refine ⟨b,?_,rfl,?_,?_⟩
     ·rw[passN,hs]
     ·rw[passN,hs];exact hb0
     ·rw[passN,hs];exact hb1
    |false=>
     simp only[e59,hi,iaD hy,hcont,hr,hw,hbx,hi1,hl,hst,wz,opX,intBin,↓reduceIte,simprocAttr]
     refine ⟨true,?_,rfl,(fun h=>by cases h),fun _=>?_⟩
     ·rw[passN,hs]
     ·rw[passN,hs]
      have:=set_grow hx
      rcases passN_cnt d M i with k | k
      ·rw[k] at this ⊢; omega
      ·omega
  ·rintro e h' ⟨b,rfl,rfl,hb0,hb1⟩
   simp only[e59,wz,opX,intBin,↓reduceIte,simprocAttr]
   exact⟨b,⟨rfl,rfl⟩,hb0,hb1⟩
 have l1:∀ (k:Nat) (M:List Bool) (b:Bool) (r:Env),M.length=d.length+1→(∃ j,M=iter d (marks d) j)→(b=true→d.length+2≤cnt M+k)→(b=false→pass d M=M) →
   wp tab (.loop f59l1) ((0,.d (eDs d))::(3,.ptr (h.next+1) 1 0 0)::(4,.d (.bool b))::r) (HP h (d.length+1) M)
    (fun o=>o=(.exit 0,[(0,.d (eDs d)),(3,.ptr (h.next+1) 1 0 0),(13,.d (.bool false))],HP h (d.length+1) (iter d (marks d) (d.length+1)))):=by
  intro k
  induction k with
  |zero=>
   intro M b r hM hj hk hb
   cases b with
   |true=>have:=hk rfl;have:=cnt_le M;omega
   |false=>
    obtain ⟨j,rfl⟩:=hj
    rw[wq_loop,fix_eq (hb rfl)]
    simp only[e59,wz,opX,intBin,↓reduceIte,simprocAttr]
  |succ k ih=>
   intro M b r hM hj hk hb
   cases b with
   |false=>
    obtain ⟨j,rfl⟩:=hj
    rw[wq_loop,fix_eq (hb rfl)]
    simp only[e59,wz,opX,intBin,↓reduceIte,simprocAttr]
   |true=>
    rw[wq_loop]
    simp only[e59,wz,opX,intBin,↓reduceIte,simprocAttr]
    refine wq_mono (l0 M hM) ?_
    rintro o ⟨b,rfl,h0,h1⟩
    simp only[e59,wz,opX,intBin,↓reduceIte,simprocAttr]
    obtain ⟨j,rfl⟩:=hj
    refine ih (pass d (iter d (marks d) j)) b _ (by rw[pass,passN_len];exact hM) ⟨j+1,rfl⟩ (fun hb=>?_) (fun hb=>?_)
    ·have:=hk rfl;have:=h1 hb;omega
    ·have:=h0 hb;rw[this,this]
 simp only[e59,hw0,hmk,hH,hR0,hi0,hs0,wz,opX,intBin,↓reduceIte,simprocAttr]
 refine wq_mono (l1 (d.length+2) (marks d) true _ (by simp[marks]) ⟨0,rfl⟩ (fun _=>by omega) (fun h=>by cases h)) ?_
 rintro o rfl
 have hlen:(iter d (marks d) (d.length+1)).length=d.length+1:=by rw[iter_len];simp[marks]
 have R:=HP_R h (d.length+1) (iter d (marks d) (d.length+1)) hlen
 have hcB:=containsB R.row hlen (by omega) false
 have e:(!(iter d (marks d) (d.length+1)).any fun x=>false == x)=finiteS d:=by
  unfold finiteS
  have:∀ l:List Bool,(!l.any fun b=>false == b)=l.all id:=by
   intro l;induction l with
   |nil=>rfl
   |cons b l ih=>rw[List.any_cons,List.all_cons,←ih];cases b<;>simp
  exact this _
 simp only[e59,R.box,hcB,e,HP_fin,wz,opX,intBin,↓reduceIte,simprocAttr]
end Zc28
end
section
set_option maxHeartbeats 4000000
namespace Zc28
open Go Zv Zs
theorem typed_any (d:List Dt):typedS d = !d.any fun y=>y.cons.any fun c=>c.flds.any fun f => !isT d f:=by
 unfold typedS
 simp only[List.not_any_eq_all_not,Bool.not_not]
def checkS (d:List Dt):Int:=if manyS d=true then 6 else if formedS d=false then 3 else if twiceS d=true then 8 else if typedS d=false then 10 else if finiteS d=false then 7 else 0
theorem check1_ok (d:List Dt) (t:Int) (a:Nat) (h:Hp) (hr:h.row a 1=some (1,[.d (eDs d)])):callW tab 57 [.d (eI t),.ptr a 1 0 0] h=some (.d (.bool (!isT d t)),h):=by
 refine call_wp (fn:=f57) rfl rfl ?_
 simp only[e57,hr,exists_ok,wz,opX,intBin,↓reduceIte,simprocAttr]
theorem pcheck_ok {d:List Dt} (B:Bd d) (N:Nm d) (h:Hp):callW tab 22 [.d (eDs d)] h=some (.d (eI (checkS d)),h):=by
 refine call_wp (fn:=f22) rfl rfl ?_
 have hbl:=B.len
 unfold checkS
 cases h1:manyS d with
 |true=>simp only[e22,many_ok B,h1,wz,opX,intBin,↓reduceIte,simprocAttr]
 |false=>
  cases h2:formedS d with
  |false=>simp only[e22,many_ok B,h1,pformed_ok B N,h2,wz,opX,intBin,↓reduceIte,simprocAttr]
  |true=>
   cases h3:twiceS d with
   |true=>simp only[e22,many_ok B,h1,pformed_ok B N,h2,ptwice_ok B,h3,wz,opX,intBin,↓reduceIte,simprocAttr]
   |false=>
    have l0:∀ (q m:Nat) (y:Dt),d[m]? = some y→∃ q',ex tab (.loop f22l0) [(1,.ptr h.next 1 0 0),(14,.d (eDs d)),(15,.d (.int .i64 d.length)),(16,.d (.int .i64 m)),(21,.d (eCs y.cons)),(22,.d (.int .i64 y.cons.length)),(23,.d (.int .i64 0))] ⟨(h.next,.arr 1 [.d (eDs d)])::h.objs,q⟩ =
      some (if (y.cons.any fun c=>c.flds.any fun f => !isT d f)=true then (.ret,[(2,.d (eI 10))],⟨(h.next,.arr 1 [.d (eDs d)])::h.objs,q'⟩) else (.exit 2,[(1,.ptr h.next 1 0 0),(14,.d (eDs d)),(15,.d (.int .i64 d.length)),(16,.d (.int .i64 m)),(21,.d (eCs y.cons)),(22,.d (.int .i64 y.cons.length)),(23,.d (.int .i64 y.cons.length)),(24,.d (.bool false))],⟨(h.next,.arr 1 [.d (eDs d)])::h.objs,q'⟩)):=by
     intro q m y hy
     have b:=B.at hy
     obtain ⟨hloopq,hloop⟩:=loop_anyq (T:=tab) (a:=f22l0) (l:=y.cons) (p:=(fun c=>c.flds.any fun f => !isT d f)) (f:=fun n=>[(1,.ptr h.next 1 0 0),(14,.d (eDs d)),(15,.d (.int .i64 d.length)),(16,.d (.int .i64 m)),(21,.d (eCs y.cons)),(22,.d (.int .i64 y.cons.length)),(23,int n)]) (h:=⟨(h.next,.arr 1 [.d (eDs d)])::h.objs,q⟩)
       (by intro q n x hx hlt hp;have bc:=B.cat hy hx;have hcf:=conFT x.flds (.clo 57 [.ptr h.next 1 0 0]) (fun f => !isT d f) ⟨(h.next,.arr 1 [.d (eDs d)])::h.objs,q+1⟩ (by omega) rfl (fun f _=>check1_ok d f h.next _ (row_hd ..));all_goals (simp only[hlt,hp,e22,iaC hx,hcf,wrap_succ (show n<2 ^ 62 by omega),wz,opX,intBin,↓reduceIte,simprocAttr]<;>(first | exact⟨_,rfl⟩ | exact⟨_,rfl,rfl⟩ | exact⟨_,rfl,rfl,rfl⟩)))
       (by intro q n x hx hlt hp;have bc:=B.cat hy hx;have hcf:=conFT x.flds (.clo 57 [.ptr h.next 1 0 0]) (fun f => !isT d f) ⟨(h.next,.arr 1 [.d (eDs d)])::h.objs,q+1⟩ (by omega) rfl (fun f _=>check1_ok d f h.next _ (row_hd ..));all_goals (simp only[hlt,hp,e22,iaC hx,hcf,wrap_succ (show n<2 ^ 62 by omega),wz,opX,intBin,↓reduceIte,simprocAttr]<;>(first | exact⟨_,rfl⟩ | exact⟨_,rfl,rfl⟩ | exact⟨_,rfl,rfl,rfl⟩)))
       (by intro q;simp only[e22,wz,opX,intBin,↓reduceIte,simprocAttr]<;>(first | exact⟨_,rfl⟩ | exact⟨_,rfl,rfl⟩ | exact⟨_,rfl,rfl,rfl⟩))
       (by simp) (by simp)
     simp only[int,Zv.bool,Int.cast_ofNat_Int] at hloop
     exact⟨_,hloop⟩
    obtain ⟨hloopq,hloop⟩:=loop_anyq (T:=tab) (a:=f22l1) (l:=d) (p:=(fun y=>y.cons.any fun c=>c.flds.any fun f => !isT d f)) (f:=fun n=>[(1,.ptr h.next 1 0 0),(14,.d (eDs d)),(15,.d (.int .i64 d.length)),(16,int n)]) (h:=⟨(h.next,.arr 1 [.d (eDs d)])::h.objs,h.next+1⟩)
      (by intro q n x hx hlt hp;obtain ⟨q',hin⟩:=l0 (q+1) n x hx;simp only[hp,if_true,if_false,Bool.false_eq_true] at hin;all_goals (simp only[hlt,hp,e22,iaD hx,wq_of hin,wrap_succ (show n<2 ^ 62 by omega),wz,opX,intBin,↓reduceIte,simprocAttr]<;>(first | exact⟨_,rfl⟩ | exact⟨_,rfl,rfl⟩ | exact⟨_,rfl,rfl,rfl⟩)))
      (by intro q n x hx hlt hp;obtain ⟨q',hin⟩:=l0 (q+1) n x hx;simp only[hp,if_true,if_false,Bool.false_eq_true] at hin;all_goals (simp only[hlt,hp,e22,iaD hx,wq_of hin,wrap_succ (show n<2 ^ 62 by omega),wz,opX,intBin,↓reduceIte,simprocAttr]<;>(first | exact⟨_,rfl⟩ | exact⟨_,rfl,rfl⟩ | exact⟨_,rfl,rfl,rfl⟩)))
      (by intro q;simp only[e22,wz,opX,intBin,↓reduceIte,simprocAttr]<;>(first | exact⟨_,rfl⟩ | exact⟨_,rfl,rfl⟩ | exact⟨_,rfl,rfl,rfl⟩))
      (by simp) (by simp)
    simp only[int,Zv.bool,Int.cast_ofNat_Int] at hloop
    have hty:=typed_any d
    cases h4:typedS d with
    |false=>
     have h4':(d.any fun y=>y.cons.any fun c=>c.flds.any fun f => !isT d f)=true:=by rw[h4] at hty;simpa using hty.symm
     rw[h4',if_pos rfl] at hloop
     simp only[e22,many_ok B,h1,pformed_ok B N,h2,ptwice_ok B,h3,wq_of hloop,wz,opX,intBin,↓reduceIte,simprocAttr]
    |true=>
     have h4':(d.any fun y=>y.cons.any fun c=>c.flds.any fun f => !isT d f)=false:=by rw[h4] at hty;simpa using hty.symm
     rw[h4',if_neg (by simp)] at hloop
     cases h5:finiteS d with
     |false=>simp only[e22,many_ok B,h1,pformed_ok B N,h2,ptwice_ok B,h3,wq_of hloop,pfinite_ok B h4,h5,wz,opX,intBin,↓reduceIte,simprocAttr]
     |true=>simp only[e22,many_ok B,h1,pformed_ok B N,h2,ptwice_ok B,h3,wq_of hloop,pfinite_ok B h4,h5,wz,opX,intBin,↓reduceIte,simprocAttr]
end Zc28
end
section
set_option maxHeartbeats 4000000
namespace Zc28
open Go Zv Zs
def smC (c:Cn):Prop:=c.name.size≤40∧c.flds.length≤8
def smD (y:Dt):Prop:=y.name.size≤40∧y.cons.length≤8∧∀ c,c ∈ y.cons→smC c
structure Sml (d:List Dt):Prop where
 len:d.length≤10
 ds:∀ y,y ∈ d→smD y
theorem mem_get {α:Type} {l:List α} {x:α} (h:x ∈ l):∃ k,k<l.length∧l[k]? = some x:=by
 obtain ⟨k,hk1,hk2⟩:=List.getElem_of_mem h
 exact⟨k,hk1,by rw[List.getElem?_eq_getElem hk1,hk2]⟩
theorem small_in {d:List Dt} {y:Dt} {j:Nat} (hy:d[j]? = some y) (hj:j<10) (hc:y.cons.length≤8) (h:Hp) :
  wp tab (.loop f27l0) [(0,.d (eDs d)),(3,.d (.int .i64 (j:Int))),(4,.d (.int .i64 0))] h
   (fun o=>o=(.ret,[(2,.d (.bool false))],h)∨(o=(.exit 2,[(0,.d (eDs d)),(3,.d (.int .i64 (j:Int))),(4,.d (.int .i64 y.cons.length)),(38,.d (.bool false))],h)∧∀ c,c ∈ y.cons→smC c)):=by
 refine loop_wp y.cons.length (fun n e h'=>h'=h∧e=[(0,.d (eDs d)),(3,.d (.int .i64 (j:Int))),(4,.d (.int .i64 n))]∧∀ c k,y.cons[k]? = some c→k<n→smC c) _ ?_ ?_ y.cons.length 0 _ _ (by omega) ⟨rfl,rfl,fun c k _ hk=>by omega⟩
 ·rintro n e h' hn ⟨rfl,rfl,hk⟩
  obtain ⟨c,hcn⟩:=get_of_lt hn
  by_cases h1:(40:Int)<(c.name.size:Int)
  ·simp only[e27,iaD hy,iaC hcn,hn,h1,wz,opX,intBin,↓reduceIte,simprocAttr]
  ·by_cases h2:(8:Int)<(c.flds.length:Int)
   ·simp only[e27,iaD hy,iaC hcn,hn,h1,h2,wz,opX,intBin,↓reduceIte,simprocAttr]
   ·simp only[e27,iaD hy,iaC hcn,hn,h1,h2,wrap_succ (show n<2 ^ 62 by omega),wz,opX,intBin,↓reduceIte,simprocAttr]
    intro c' k hc' hkn
    by_cases hkk:k=n
    ·subst hkk;rw[hcn] at hc';cases hc';exact⟨by omega,by omega⟩
    ·exact hk c' k hc' (by omega)
 ·rintro e h' ⟨rfl,rfl,hk⟩
  simp only[e27,iaD hy,wz,opX,intBin,↓reduceIte,simprocAttr]
  intro c hc
  obtain ⟨k,h1,h2⟩:=mem_get hc
  exact hk c k h2 h1
theorem small_ok (d:List Dt) (h:Hp):∃ b,callW tab 27 [.d (eDs d)] h=some (.d (.bool b),h)∧(b=true→Sml d):=by
 obtain ⟨r,h1,b,rfl,h2⟩:∃ r,callW tab 27 [.d (eDs d)] h=some r∧∃ b,r=(.d (.bool b),h)∧(b=true→Sml d):=by
  refine call_wpE (fn:=f27) rfl rfl ?_
  simp only[e27,wz,opX,intBin,↓reduceIte,simprocAttr]
  refine loop_wp (min d.length 10) (fun n e h'=>h'=h∧e=[(0,.d (eDs d)),(3,.d (.int .i64 n))]∧∀ y k,d[k]? = some y→k<n→smD y) _ ?_ ?_ (min d.length 10) 0 _ _ (by omega) ⟨rfl,rfl,fun c k _ hk=>by omega⟩
  ·rintro n e h' hn ⟨rfl,rfl,hk⟩
   have hn1:n<d.length:=by omega
   have hn2:(n:Int)<10:=by omega
   obtain ⟨y,hy⟩:=get_of_lt hn1
   by_cases h1:(40:Int)<(y.name.size:Int)
   ·simp only[e27,iaD hy,hn1,hn2,h1,wz,opX,intBin,↓reduceIte,simprocAttr]
    exact⟨_,rfl,false,rfl,fun h=>(by cases h)⟩
   ·by_cases h2:(8:Int)<(y.cons.length:Int)
    ·simp only[e27,iaD hy,hn1,hn2,h1,h2,wz,opX,intBin,↓reduceIte,simprocAttr]
     exact⟨_,rfl,false,rfl,fun h=>(by cases h)⟩
    ·simp only[e27,iaD hy,hn1,hn2,h1,h2,wz,opX,intBin,↓reduceIte,simprocAttr]
     refine wq_mono (small_in hy (by omega) (by omega) h') ?_
     rintro o (rfl | ⟨rfl,hall⟩)
     ·simp only[e27,wz,opX,intBin,↓reduceIte,simprocAttr]
      exact⟨_,rfl,false,rfl,fun h=>(by cases h)⟩
     ·simp only[e27,wrap_succ (show n<2 ^ 62 by omega),wz,opX,intBin,↓reduceIte,simprocAttr]
      intro y' k hy' hkn
      by_cases hkk:k=n
      ·subst hkk;rw[hy] at hy';cases hy';exact⟨by omega,by omega,hall⟩
      ·exact hk y' k hy' (by omega)
  ·rintro e h' ⟨rfl,rfl,hk⟩
   by_cases h3:d.length<10
   ·have e1:min d.length 10=d.length:=by omega
    rw[e1]
    have hle:(d.length:Int)≤10:=by omega
    simp only[e27,hle,wz,opX,intBin,↓reduceIte,simprocAttr]
    refine ⟨_,rfl,true,rfl,fun _=>⟨by omega,fun y hy=>?_⟩⟩
    obtain ⟨k,k1,k2⟩:=mem_get hy
    exact hk y k k2 (by omega)
   ·have e1:min d.length 10=10:=by omega
    rw[e1]
    have hnl:¬ ((10:Int)<10):=by omega
    by_cases h4:(10:Int)<(d.length:Int)
    ·have hnle:¬ (d.length:Int)≤10:=by omega
     simp only[e27,h4,hnle,wz,opX,intBin,↓reduceIte,simprocAttr]
     exact⟨_,rfl,false,rfl,fun h=>(by cases h)⟩
    ·have hle:(d.length:Int)≤10:=by omega
     simp only[e27,h4,hle,wz,opX,intBin,↓reduceIte,simprocAttr]
     refine ⟨_,rfl,true,rfl,fun _=>⟨by omega,fun y hy=>?_⟩⟩
     obtain ⟨k,k1,k2⟩:=mem_get hy
     exact hk y k k2 (by omega)
 exact⟨b,h1,h2⟩
end Zc28
end
section
set_option maxHeartbeats 4000000
namespace Zc28
open Go Zv Zs
structure Kn where
 path:List Int
 ty:Int
 done:Bool
 nots:List Int
abbrev eK (p:Kn):D:=.agg [eIs p.path,eI p.ty,.bool p.done,eIs p.nots]
abbrev eKs (l:List Kn):D:=.lst (l.map eK)
theorem iaK {l:List Kn} {n:Nat} {x:Kn} (hx:l[n]? = some x):ia 4 (.d (.lst (l.map eK))) (.d (.int .i64 (n:Int)))=some (.fp (eK x) 0):=ia_map (f:=eK) .i64 hx rfl
theorem kcells {l:List Kn}:∀ y,y ∈ l.map eK→y.cells.length=4:=by
 intro y hy
 obtain ⟨p,_,rfl⟩:=List.mem_map.1 hy
 rfl
theorem eqI_ok (a b:List Int) (ha:a.length<2 ^ 60) (hb:b.length<2 ^ 60) (h:Hp):callW tab 21 [.d (eIs a),.d (eIs b)] h=some (.d (.bool (decide (a=b))),h):=by
  refine call_wp (fn:=f21) rfl rfl ?_
  by_cases hl:a.length=b.length
  ·have hl2:((a.length:Int) == (b.length:Int))=true:=by rw[hl];exact beq_self_eq_true _
   simp only[e21,hl2,bne,wz,opX,intBin,↓reduceIte,simprocAttr]
   refine loop_wp a.length (fun n e h'=>h'=h∧a.take n=b.take n∧e=[(0,.d (eIs a)),(1,.d (eIs b)),(12,.d (.int .i64 a.length)),(13,.d (.int .i64 (n:Int)))]) _ ?_ ?_ a.length 0 _ _ (by omega) ⟨rfl,rfl,rfl⟩
   ·rintro n e h' hn ⟨rfl,ht,rfl⟩
    obtain ⟨x,hx⟩:=get_of_lt hn
    obtain ⟨y,hy⟩:=get_of_lt (l:=b) (n:=n) (by omega)
    have hwr:IntKind.i64.wrap ((n:Int)+1)=((n+1:Nat):Int):=by rw[wrap_ok (by omega) (by omega)];rfl
    by_cases hxy:x=y
    ·subst hxy
     simp only[e21,hn,iaI hx,iaI hy,hwr,wz,opX,intBin,↓reduceIte,simprocAttr]
     rw[List.take_add_one,List.take_add_one,ht,hx,hy]
    ·have hne:(x == y)=false:=beq_eq_false_iff_ne.2 hxy
     have hab:decide (a=b)=false:=decide_eq_false (fun e=>by subst e;rw[hx] at hy;cases hy;exact hxy rfl)
     simp only[e21,hn,iaI hx,iaI hy,hne,bne,hab,wz,opX,intBin,↓reduceIte,simprocAttr]
   ·rintro e h' ⟨rfl,ht,rfl⟩
    have hab:a=b:=by
     rw[List.take_length] at ht
     rw[ht];exact List.take_of_length_le (by omega)
    have hd:decide (a=b)=true:=decide_eq_true hab
    simp only[e21,hd,wz,opX,intBin,↓reduceIte,simprocAttr]
  ·have hl2:((a.length:Int) == (b.length:Int))=false:=beq_eq_false_iff_ne.2 (fun e=>hl (by omega))
   have hab:decide (a=b)=false:=decide_eq_false (fun e=>hl (by rw[e]))
   simp only[e21,hl2,bne,hab,wz,opX,intBin,↓reduceIte,simprocAttr]
theorem idxFK (l:List Kn) (cv:V) (p:Kn→Bool) (h:Hp) (hl:l.length<2 ^ 60) (hcv:norm cv=cv) (hc:∀ c,c ∈ l→cW tab cv [.d (eK c)] h=some (.d (.bool (p c)),h)) :
  callW tab 65 [.d (.lst (l.map eK)),cv] h=some (.d (eI (idxZ p l)),h):=by
 refine call_wp (fn:=f65) rfl rfl ?_
 have hloop:=loop_find (T:=tab) (a:=f65l0) (l:=l) (p:=p) (f:=fun n=>[(0,.d (.lst (l.map eK))),(1,cv),(7,int l.length),(8,int n)]) (h:=h)
   (by intro n x hx hlt hp;have hcall:=hc x (List.mem_of_getElem? hx);all_goals (apply wq_ex.1;simp only[hlt,hp,e65,iaK hx,hcall,wrap_succ (show n<2 ^ 62 by omega),wz,opX,intBin,↓reduceIte,simprocAttr]))
   (by intro n x hx hlt hp;have hcall:=hc x (List.mem_of_getElem? hx);all_goals (apply wq_ex.1;simp only[hlt,hp,e65,iaK hx,hcall,wrap_succ (show n<2 ^ 62 by omega),wz,opX,intBin,↓reduceIte,simprocAttr]<;>rfl))
   (by apply wq_ex.1;simp only[e65,wz,opX,intBin,↓reduceIte,simprocAttr]<;>rfl)
   (by intro n x;simp) (by simp)
 simp only[int,Zv.bool,Int.cast_ofNat_Int] at hloop
 simp only[e65,hcv,wq_of hloop,wz,opX,intBin,↓reduceIte,simprocAttr]
 unfold idxZ
 cases fst? p 0 l with
 |none=>simp only[e65,wz,opX,intBin,↓reduceIte,simprocAttr]
 |some n=>simp only[e65,wz,opX,intBin,↓reduceIte,simprocAttr]
def hasP (t:Ts) (p:Kn):Bool:=decide (p.path=t.path)
theorem check11_ok (t:Ts) (a:Nat) (ht:t.path.length<2 ^ 60) (p:Kn) (hp:p.path.length<2 ^ 60) (h:Hp) (hr:h.row a 1=some (5,[.d (eT t)])) (ha:a≠h.next):callW tab 66 [.d (eK p),.ptr a 1 0 0] h=some (.d (.bool (hasP t p)),h):=by
 refine call_wp (fn:=f66) rfl rfl ?_
 have hc:(eK p).cells.length=4:=rfl
 have hld:∀ q,ld false 1 ⟨h.objs,q⟩ (.ptr a 1 0 0)=some (.d (eIs t.path)):=by
  intro q
  have:Hp.row ⟨h.objs,q⟩ a 1=some (5,[.d (eT t)]):=hr
  simp[ld,this,partV,V.cells,D.cells]
 have he:=fun h=>eqI_ok p.path t.path hp ht h
 simp only[e66,hc,hld,he,wz,opX,intBin,↓reduceIte,simprocAttr]
 unfold hasP;rfl
def leafT (t:Ts):Bool:=decide (0≤t.row) && decide (t.path=[]) && !t.con && decide (t.num=0)
theorem len0 (l:List Int):((l.length:Int) == 0)=decide (l=[]):=by
 cases l with
 |nil=>rfl
 |cons x l=>simp;omega
theorem leaf_ok (t:Ts) (h:Hp):callW tab 64 [.d (eT t)] h=some (.d (.bool (leafT t)),h):=by
 refine call_wp (fn:=f64) rfl rfl ?_
 have hc:(eT t).cells.length=5:=rfl
 unfold leafT
 have h4:∀ b:Bool,(t.num == 0)=b→decide (t.num=0)=b:=by intro b hb;rw[←hb];rfl
 by_cases h1:0≤t.row
 ·by_cases h2:t.path=[]
  ·have hz:((t.path.length:Int) == 0)=true:=by rw[h2];rfl
   cases h3:t.con<;>cases hn:(t.num == 0)<;>simp only[e64,hc,h1,h2,hz,h3,hn,h4 _ hn,wz,opX,intBin,↓reduceIte,simprocAttr]
  ·have hz:((t.path.length:Int) == 0)=false:=by rw[len0];exact decide_eq_false h2
   simp only[e64,hc,h1,h2,hz,wz,opX,intBin,↓reduceIte,simprocAttr]
 ·simp only[e64,hc,h1,wz,opX,intBin,↓reduceIte,simprocAttr]
theorem longer_ok (p:List Int) (i:Int) (hp:p.length≤5000) (h:Hp):callW tab 41 [.d (eIs p),.d (eI i)] h=some (.d (eIs (p++[i])),h):=by
 refine call_wp (fn:=f41) rfl rfl ?_
 have hsl:slc3 1 (.d (eIs p)) none (some (.d (.int .i64 (p.length:Int)))) (some (.d (.int .i64 (p.length:Int))))=some (.tl ((p.map eI).map .d) none):=by
  have h1:Zv.allD 1 (p.map eI)=true:=by
   unfold Zv.allD
   exact List.all_eq_true.2 fun y hy=>by obtain ⟨q,_,rfl⟩:=List.mem_map.1 hy;rfl
  have h2:List.take p.length (p.map (V.d ∘ eI))=p.map (V.d ∘ eI):=List.take_of_length_le (by simp)
  simp[slc3,bnd,ixOf,h1,h2]
 have hap:app 1 8 h (.tl ((p.map eI).map .d) none) (.tl [.d (eI i)] (some false))=some (.own h.next 1 (p.length+1) 0 (p.length+1),⟨(h.next,.arr 1 (((p++[i]).map eI).map .d))::h.objs,h.next+1⟩):=by
  have h2:(p.length+1)*8≤roomB:=by unfold roomB;omega
  simp[app,elems,allV,V.cells,norm_d,stor,h2,Hp.alloc]
  exact⟨rfl,fun _ _=>rfl⟩
 have hf:finS h ⟨(h.next,.arr 1 (((p++[i]).map eI).map .d))::h.objs,h.next+1⟩ [.own h.next 1 (p.length+1) 0 (p.length+1)]=some (.d (.lst ((p++[i]).map eI)),h):=by
  have:=finS_clo (h:=h) (nl:=none) (es:=1) (n:=h.next) (l:=(p++[i]).map eI) (Nat.le_refl _)
  unfold cloO cloV at this
  simpa using this
 simp only[e41,hsl,hap,hf,wz,opX,intBin,↓reduceIte,simprocAttr]
end Zc28
end
section
set_option maxHeartbeats 4000000
namespace Zc28
open Go Zv Zs
theorem slc_all {es:Nat} {l:List D} {n:Nat} (hl:∀ y,y ∈ l→y.cells.length=es) (hn:n≤l.length):slc es (.d (.lst l)) none (some (.d (.int .i64 (n:Int))))=some (.d (.lst (l.take n))):=by
 have h:Zv.allD es l=true:=by
  unfold Zv.allD
  exact List.all_eq_true.2 fun y hy=>by simpa using hl y hy
 simp only[slc,bnd,Option.bind_some,ixOf,h]
 simp[hn]
theorem slc_from {es:Nat} {l:List D} {n:Nat} (hl:∀ y,y ∈ l→y.cells.length=es) (hn:n≤l.length):slc es (.d (.lst l)) (some (.d (.int .i64 (n:Int)))) none=some (.d (.lst (l.drop n))):=by
 have h:Zv.allD es l=true:=by
  unfold Zv.allD
  exact List.all_eq_true.2 fun y hy=>by simpa using hl y hy
 simp only[slc,bnd,Option.bind_some,ixOf,h]
 simp[hn]
theorem app_in {es b m tot q:Nat} {o:List (Nat × Ob)} {l r z:List D} (hr:∀ y,y ∈ r→y.cells.length=es) (ht:tot=l.length+z.length) (hz:r.length≤z.length) :
  app es b ⟨(m,.arr es ((l++z).map .d))::o,q⟩ (.own m es tot 0 l.length) (.d (.lst r))=some (.own m es tot 0 (l++r).length,⟨(m,.arr es (((l++r)++z.drop r.length).map .d))::o,q⟩):=by
 subst ht
 have hrow:(⟨(m,.arr es ((l++z).map V.d))::o,q⟩:Hp).row m (l.length+z.length)=some (es,(l++z).map .d):=by rw[row_cons];simp
 unfold app
 simp only[elems,Option.bind_some,norm_map_d,allV_d hr,if_true,hrow,List.length_map,Nat.zero_add,List.length_append,Nat.le_add_right,and_self]
 by_cases h0:r=[]
 ·subst h0;simp
 ·have he:(r.map V.d).isEmpty=false:=by cases r with | nil=>exact absurd rfl h0 | cons=>rfl
  have h1:l.length+r.length≤l.length+z.length:=by omega
  simp only[he,Bool.false_eq_true,if_false,h1,if_true]
  simp only[Hp.set,upd,if_true,List.map_append]
  congr 4
  rw[List.take_left' (by simp),List.append_assoc,List.append_assoc,List.drop_append]
  have e1:List.drop (l.length+r.length) (l.map V.d)=[]:=List.drop_of_length_le (by simp)
  rw[e1,List.nil_append,List.map_drop,List.length_map,Nat.add_sub_cancel_left]
def totL (ls:List (List D)):Nat:=ls.flatten.length
theorem totL_snoc (ls:List (List D)) (l:List D):totL (ls++[l])=totL ls+l.length:=by unfold totL;simp
theorem totL_take {ls:List (List D)} {n:Nat} {l:List D} (h:ls[n]? = some l):totL (ls.take (n+1))=totL (ls.take n)+l.length:=by
 rw[List.take_add_one,h];exact totL_snoc _ _
theorem totL_le (ls:List (List D)) (n:Nat):totL (ls.take n)≤totL ls:=by
 unfold totL
 have:ls.flatten=(ls.take n).flatten++(ls.drop n).flatten:=by rw[←List.flatten_append,List.take_append_drop]
 rw[this,List.length_append];omega
abbrev eLL (ls:List (List D)):D:=.lst (ls.map .lst)
theorem iaLL {ls:List (List D)} {n:Nat} {l:List D} (h:ls[n]? = some l):ia 1 (.d (eLL ls)) (.d (.int .i64 (n:Int)))=some (.fp (.lst l) 0):=ia_map (f:=D.lst) .i64 h rfl
theorem flat_take {ls:List (List D)} {n:Nat} {l:List D} (h:ls[n]? = some l):(ls.take (n+1)).flatten=(ls.take n).flatten++l:=by
 rw[List.take_add_one,h];simp
abbrev zK:D:=.agg [.lst [],.int .i64 0,.bool false,.lst []]
theorem growK_ok (n:Nat) (hn:n≤1000000) (h:Hp):callW tab 135 [.tl [] (some true),.d (.int .i64 (n:Int))] h=some (if n=0 then (.tl [] (some true),h) else (.own h.next 4 n 0 0,⟨(h.next,.arr 4 ((List.replicate n zK).map .d))::h.objs,h.next+1⟩)):=by
 refine call_wp (fn:=f135) rfl rfl ?_
 have hc:capT (.tl [] (some true))=some (.d (.int .i64 0)):=rfl
 have h0:IntKind.i64.wrap 0=0:=rfl
 have hw:IntKind.i64.wrap ((n:Int) - IntKind.i64.wrap 0)=(n:Int):=by rw[h0,wrap_ok (by omega) (by omega)];omega
 have hneg:¬ (n:Int)<0:=by omega
 by_cases hz:n=0
 ·subst hz
  simp only[e135,hc,h0,wz,opX,intBin,↓reduceIte,simprocAttr]
 ·have hp:(0:Int)<(n:Int):=by omega
  have s1:slc 4 (.tl [] (some true)) none (some (.d (.int .i64 0)))=some (.tl [] (some true)):=rfl
  have s2:appz (.d zK) 4 64 h (.tl [] (some true)) (.d (.int .i64 (n:Int)))=some (.own h.next 4 n 0 n,⟨(h.next,.arr 4 ((List.replicate n zK).map .d))::h.objs,h.next+1⟩):=by
   have hb:n*64≤roomB∧n<2 ^ 62:=⟨by unfold roomB;omega,by omega⟩
   simp only[appz,ixOf_nat,Option.bind_some]
   rw[if_pos hb,if_neg hz]
   simp[Hp.alloc]
  have s3:∀ m,slc 4 (.own m 4 n 0 n) none (some (.d (.int .i64 0)))=some (.own m 4 n 0 0):=by
   intro m
   simp[slc,bnd,ixOf]
  have s4:(n=0)=False:=by simp[hz]
  simp only[e135,hc,hw,hneg,hp,s1,s2,s3,s4,wz,opX,intBin,↓reduceIte,simprocAttr]
theorem concatK_ok (ls:List (List D)) (hl:ls.length≤100) (hc:∀ l,l ∈ ls→∀ y,y ∈ l→y.cells.length=4) (hp:0<totL ls) (ht:totL ls≤1000000) (h:Hp) :
  callW tab 112 [.d (eLL ls)] h=some (.own h.next 4 (totL ls) 0 (totL ls),⟨(h.next,.arr 4 (ls.flatten.map .d))::h.objs,h.next+1⟩):=by
 refine call_wp (fn:=f112) rfl rfl ?_
 simp only[e112,wz,opX,intBin,↓reduceIte,simprocAttr]
 have z0:totL (ls.take 0)=0:=rfl
 have hgr:=fun h=>growK_ok (totL ls) ht h
 have hpn:(totL ls=0)=False:=by simp;omega
 simp only[hpn,if_false] at hgr
 refine loop_wp ls.length (fun n e h'=>h'=h∧e=[(0,.d (eLL ls)),(3,.d (.int .i64 ((totL (ls.take n):Nat):Int))),(9,.d (eLL ls)),(10,.d (.int .i64 ls.length)),(11,.d (.int .i64 (n:Int)))]) _ ?_ ?_ ls.length 0 _ _ (by omega) ⟨rfl,rfl⟩
 ·rintro n e h' hn ⟨rfl,rfl⟩
  obtain ⟨x,hx⟩:=get_of_lt hn
  have hwr:IntKind.i64.wrap ((n:Int)+1)=((n+1:Nat):Int):=by rw[wrap_ok (by omega) (by omega)];rfl
  have h1:=totL_take hx
  have h2:=totL_le ls (n+1)
  have hw2:IntKind.i64.wrap (((totL (ls.take n):Nat):Int)+(x.length:Int))=((totL (ls.take (n+1)):Nat):Int):=by rw[wrap_ok (by omega) (by omega)];omega
  have hneg:¬ ((totL (ls.take (n+1)):Nat):Int)<0:=by omega
  simp only[e112,hn,iaLL hx,hw2,hneg,hwr,wz,opX,intBin,↓reduceIte,simprocAttr]
 ·rintro e h' ⟨rfl,rfl⟩
  rw[List.take_length]
  simp only[e112,hgr,wz,opX,intBin,↓reduceIte,simprocAttr]
  refine loop_wp ls.length (fun n e h''=>h''=⟨(h'.next,.arr 4 (((ls.take n).flatten++List.replicate (totL ls - totL (ls.take n)) zK).map .d))::h'.objs,h'.next+1⟩∧e=[(6,.own h'.next 4 (totL ls) 0 (totL (ls.take n))),(25,.d (eLL ls)),(26,.d (.int .i64 ls.length)),(27,.d (.int .i64 (n:Int)))]) _ ?_ ?_ ls.length 0 _ _ (by omega) ⟨rfl,rfl⟩
  ·rintro n e h'' hn ⟨rfl,rfl⟩
   obtain ⟨x,hx⟩:=get_of_lt hn
   have hwr:IntKind.i64.wrap ((n:Int)+1)=((n+1:Nat):Int):=by rw[wrap_ok (by omega) (by omega)];rfl
   have h1:=totL_take hx
   have h2:=totL_le ls (n+1)
   have happ:=app_in (es:=4) (b:=64) (m:=h'.next) (tot:=totL ls) (q:=h'.next+1) (o:=h'.objs) (l:=(ls.take n).flatten) (r:=x) (z:=List.replicate (totL ls - totL (ls.take n)) zK)
    (hc x (List.mem_of_getElem? hx)) (by rw[List.length_replicate];unfold totL at h1 h2 ⊢; omega) (by rw[List.length_replicate];omega)
   have e1:(ls.take n).flatten.length=totL (ls.take n):=rfl
   have e2:((ls.take n).flatten++x).length=totL (ls.take (n+1)):=by rw[h1,List.length_append];rfl
   have e3:List.drop x.length (List.replicate (totL ls - totL (ls.take n)) zK)=List.replicate (totL ls - totL (ls.take (n+1))) zK:=by rw[List.drop_replicate];congr 1;omega
   rw[e1,e2,e3,←flat_take hx] at happ
   simp only[e112,hn,iaLL hx,happ,hwr,wz,opX,intBin,↓reduceIte,simprocAttr]
  ·rintro e h'' ⟨rfl,rfl⟩
   rw[List.take_length,Nat.sub_self]
   simp only[e112,List.replicate_zero,wz,opX,intBin,↓reduceIte,simprocAttr]
theorem replK_ok (l:List Kn) (k:Nat) (p:Kn) (hk:k<l.length) (hl:l.length≤100000) (h:Hp) :
  callW tab 68 [.d (eKs l),.d (.int .i64 (k:Int)),.d (eKs [p])] h=some (.own h.next 4 l.length 0 l.length,⟨(h.next,.arr 4 (((l.set k p).map eK).map .d))::h.objs,h.next+1⟩):=by
 refine call_wp (fn:=f68) rfl rfl ?_
 have hw:IntKind.i64.wrap ((k:Int)+1)=((k+1:Nat):Int):=by rw[wrap_ok (by omega) (by omega)];rfl
 have s1:=slc_all (es:=4) (l:=l.map eK) (n:=k) kcells (by rw[List.length_map];omega)
 have s2:=slc_from (es:=4) (l:=l.map eK) (n:=k+1) kcells (by rw[List.length_map];omega)
 have hfl:[(l.map eK).take k,[eK p],(l.map eK).drop (k+1)].flatten=(l.set k p).map eK:=by
  rw[List.map_set,List.set_eq_take_append_cons_drop]
  simp[hk]
 have htot:totL [(l.map eK).take k,[eK p],(l.map eK).drop (k+1)]=l.length:=by unfold totL;rw[hfl];simp
 have hcc:=concatK_ok [(l.map eK).take k,[eK p],(l.map eK).drop (k+1)] (by simp) (by
  intro x hx y hy
  simp only[List.mem_cons,List.not_mem_nil,or_false] at hx
  rcases hx with rfl | rfl | rfl
  ·exact kcells y (List.mem_of_mem_take hy)
  ·rw[List.mem_singleton] at hy;subst hy;rfl
  ·exact kcells y (List.mem_of_mem_drop hy)) (by omega) (by omega)
 rw[htot,hfl] at hcc
 have hcc:∀ h,callW tab 112 [.d (.lst [.lst ((l.map eK).take k),eKs [p],.lst ((l.map eK).drop (k+1))])] h=_:=hcc
 have hnt:∀ a b c:D,norm (.tl [.d a,.d b,.d c] (some false))=.d (.lst [a,b,c]):=fun _ _ _=>rfl
 simp only[e68,s1,s2,hw,hnt,hcc,wz,opX,intBin,↓reduceIte,simprocAttr]
theorem withK_ok (l:List Kn) (k:Nat) (p:Kn) (hk:k<l.length) (hl:l.length≤100000) (a b:Nat) (h:Hp) (ha:h.row a 1=some (1,[.d (eKs l)])) (hb:h.row b 1=some (1,[.d (.int .i64 (k:Int))])) :
  callW tab 67 [.d (eK p),.ptr a 1 0 0,.ptr b 1 0 0] h=some (.own (h.next+1) 4 l.length 0 l.length,⟨(h.next+1,.arr 4 (((l.set k p).map eK).map .d))::h.objs,h.next+1+1⟩):=by
 refine call_wp (fn:=f67) rfl rfl ?_
 have hc:(eK p).cells.length=4:=rfl
 have hla:∀ q,ld false 1 ⟨h.objs,q⟩ (.ptr a 1 0 0)=some (.d (eKs l)):=by
  intro q
  have:Hp.row ⟨h.objs,q⟩ a 1=some (1,[.d (eKs l)]):=ha
  simp[ld,this,partV,V.cells,D.cells]
 have hlb:∀ q,ld false 1 ⟨h.objs,q⟩ (.ptr b 1 0 0)=some (.d (.int .i64 (k:Int))):=by
  intro q
  have:Hp.row ⟨h.objs,q⟩ b 1=some (1,[.d (.int .i64 (k:Int))]):=hb
  simp[ld,this,partV,V.cells,D.cells]
 have hr:∀ h,callW tab 68 [.d (eKs l),.d (.int .i64 (k:Int)),.d (.lst [.agg [eIs p.path,eI p.ty,.bool p.done,eIs p.nots]])] h=_:=fun h=>replK_ok l k p hk hl h
 have hnt:∀ a:D,norm (.tl [.d a] (some false))=.d (.lst [a]):=fun _=>rfl
 simp only[e67,hc,hla,hlb,hnt,hr,wz,opX,intBin,↓reduceIte,simprocAttr]
theorem idxI64_ok (l:List Int) (x:Int) (hl:l.length<2 ^ 60) (h:Hp):callW tab 113 [.d (eIs l),.d (eI x)] h=some (.d (eI (idxZ (fun y=>x == y) l)),h):=by
 refine call_wp (fn:=f113) rfl rfl ?_
 have hloop:=loop_find (T:=tab) (a:=f113l0) (l:=l) (p:=fun y=>x == y) (f:=fun n=>[(0,.d (eIs l)),(1,.d (eI x)),(7,int l.length),(8,int n)]) (h:=h)
   (by intro n x hx hlt hp;all_goals (apply wq_ex.1;simp only[hlt,hp,e113,iaI hx,hp,wrap_succ (show n<2 ^ 62 by omega),wz,opX,intBin,↓reduceIte,simprocAttr]))
   (by intro n x hx hlt hp;all_goals (apply wq_ex.1;simp only[hlt,hp,e113,iaI hx,hp,wrap_succ (show n<2 ^ 62 by omega),wz,opX,intBin,↓reduceIte,simprocAttr]<;>rfl))
   (by apply wq_ex.1;simp only[e113,wz,opX,intBin,↓reduceIte,simprocAttr]<;>rfl)
   (by intro n x;simp) (by simp)
 simp only[int,Zv.bool,Int.cast_ofNat_Int] at hloop
 simp only[e113,wq_of hloop,wz,opX,intBin,↓reduceIte,simprocAttr]
 unfold idxZ
 cases fst? (fun y=>x == y) 0 l with
 |none=>simp only[e113,wz,opX,intBin,↓reduceIte,simprocAttr]
 |some n=>simp only[e113,wz,opX,intBin,↓reduceIte,simprocAttr]
theorem conI64_ok (l:List Int) (x:Int) (hl:l.length<2 ^ 60) (h:Hp):callW tab 69 [.d (eIs l),.d (eI x)] h=some (.d (.bool (l.any fun y=>x == y)),h):=by
 refine call_wp (fn:=f69) rfl rfl ?_
 have hi:=idxI64_ok l x hl h
 simp only[e69,hi,idxZ_nn,Bool.decide_eq_true,wz,opX,intBin,↓reduceIte,simprocAttr]
end Zc28
end
section
namespace Zs
open Go Zv
def rowOf (o:Option Ob) (tot:Nat):Option (Nat × List V):=match o with
 |some (.arr es els)=>if els.length=tot then some (es,els) else none
 |_=>none
theorem row_lk (h:Hp) (n tot:Nat):h.row n tot=rowOf (h.get n) tot:=rfl
theorem rowOf_arr (es:Nat) (els:List V) (tot:Nat):rowOf (some (.arr es els)) tot=if els.length=tot then some (es,els) else none:=rfl
theorem get_objs (h:Hp) (q n:Nat):Hp.get ⟨h.objs,q⟩ n=h.get n:=rfl
theorem get_mk (m:Nat) (o:Ob) (l:List (Nat × Ob)) (q n:Nat):Hp.get ⟨(m,o)::l,q⟩ n=if n=m then some o else Hp.get ⟨l,q⟩ n:=rfl
theorem look_upd (n:Nat) (x:Ob) (m:Nat):∀ l:List (Nat × Ob),look (upd l n x) m=if m=n then (look l n).map (fun _=>x) else look l m
 | []=>by simp[upd,Zv.look]
 | (k,o)::l=>by
  unfold upd
  by_cases h1:n=k
  ·subst h1
   rw[if_pos rfl]
   by_cases h2:m=n
   ·subst h2;simp[Zv.look]
   ·simp[Zv.look,h2]
  ·rw[if_neg h1]
   by_cases h2:m=k
   ·subst h2
    have:¬ m=n:=fun e=>h1 e.symm
    simp[Zv.look,this]
   ·simp only[Zv.look,h2,h1,if_false]
    exact look_upd n x m l
theorem get_sets (h:Hp) (n:Nat) (x:Ob) (m:Nat):(h.set n x).get m=if m=n then (h.get n).map (fun _=>x) else h.get m:=look_upd n x m h.objs
theorem set_next (h:Hp) (n:Nat) (x:Ob):(h.set n x).next=h.next:=rfl
theorem upd_upd (n:Nat) (x y:Ob):∀ l:List (Nat × Ob),upd (upd l n x) n y=upd l n y
 | []=>rfl
 | (k,o)::l=>by
  by_cases h:n=k
  ·subst h;simp[upd]
  ·simp only[upd,if_neg h]
   rw[upd_upd n x y l]
theorem set_set (h:Hp) (n:Nat) (x y:Ob):(h.set n x).set n y=h.set n y:=by
 unfold Hp.set;simp only[upd_upd]
theorem set_objs (h:Hp) (q n:Nat) (x:Ob):Hp.set ⟨h.objs,q⟩ n x=⟨(h.set n x).objs,q⟩:=rfl
theorem st_in {sz:Nat} {h:Hp} {n tot i off es:Nat} {els:List V} {e x:V} (hr:h.row n tot=some (es,els)) (he:els[i]? = some e) (hx:stor x=true) (hc:x.cells.length=sz) (ho:off+sz≤e.cells.length) (h1:es≠1) (h2:¬ (off=0∧sz=es)) :
  st sz h (.ptr n tot i off) x=some (h.set n (.arr es (els.set i (mkAgg (e.cells.take off++x.cells++e.cells.drop (off+sz)))))):=by
 simp only[st,hr,Option.bind_some,he]
 rw[if_pos ⟨hx,hc⟩,if_neg h2,if_pos ⟨ho,h1⟩]
theorem st_all {sz:Nat} {h:Hp} {n tot i:Nat} {els:List V} {e x:V} (hr:h.row n tot=some (sz,els)) (he:els[i]? = some e) (hx:stor x=true) (hc:x.cells.length=sz) :
  st sz h (.ptr n tot i 0) x=some (h.set n (.arr sz (els.set i x))):=by
 simp only[st,hr,Option.bind_some,he]
 rw[if_pos ⟨hx,hc⟩,if_pos (by simp)]
theorem hr:(type_of% @row_lk)∧(type_of% @rowOf_arr)∧(type_of% @get_objs)∧(type_of% @get_mk)∧(type_of% @get_sets)∧(type_of% @set_next)∧(type_of% @set_set)∧(type_of% @set_cons)∧(type_of% @set_objs):=
 ⟨@row_lk,@rowOf_arr,@get_objs,@get_mk,@get_sets,@set_next,@set_set,@set_cons,@set_objs⟩
end Zs
end
section
set_option maxHeartbeats 4000000
namespace Zc28
open Go Zv Zs
def newK (path:List Int) (fs:List Int):List Kn:=fs.zipIdx.map fun q=>⟨path++[(q.2:Int)],q.1,false,[]⟩
abbrev Vis:=Int→List Kn→List Bool→Bool × List Bool
def chL (f:Vis) (base:List Kn) (path:List Int):List (Int × Cn)→List Bool→Bool × List Bool
 | [],M=>(true,M)
 |x::r,M=>if (f x.1 (base++newK path x.2.flds) M).1=true then chL f base path r (f x.1 (base++newK path x.2.flds) M).2 else (false,(f x.1 (base++newK path x.2.flds) M).2)
def kDone (p:Kn):Kn:=⟨p.path,p.ty,true,p.nots⟩
def kNot (p:Kn) (n:Int):Kn:=⟨p.path,p.ty,p.done,p.nots++[n]⟩
def refuse (t:Ts) (p:Kn):Bool:=p.done || (decide (p.ty≠0) != t.con)
def chN (f:Vis) (t:Ts) (kn:List Kn) (i:Nat) (p:Kn) (M:List Bool):Bool × List Bool:=
 if t.next.length=2∧(p.nots.any fun y=>t.num == y)=false then
  (if (f (t.next.getD 0 0) (kn.set i (kDone p)) M).1=true then f (t.next.getD 1 0) (kn.set i (kNot p t.num)) (f (t.next.getD 0 0) (kn.set i (kDone p)) M).2 else (false,(f (t.next.getD 0 0) (kn.set i (kDone p)) M).2))
 else (false,M)
def chC (d:List Dt) (f:Vis) (t:Ts) (kn:List Kn) (i:Nat) (p:Kn) (M:List Bool):Bool × List Bool:=
 if t.num=0∧t.next.length=(consOf d p.ty).length then chL f (kn.set i (kDone p)) t.path (t.next.zip (consOf d p.ty)) M else (false,M)
def chP (d:List Dt) (f:Vis) (t:Ts) (kn:List Kn) (z:Int) (M:List Bool):Bool × List Bool:=
 match getI kn z with
 |none=>(false,M)
 |some p=>if refuse t p=true then (false,M) else if t.con=false then chN f t kn z.toNat p M else chC d f t kn z.toNat p M
def chT (d:List Dt) (f:Vis) (t:Ts) (kn:List Kn) (M:List Bool):Bool × List Bool:=
 if t.next=[] then (leafT t,M) else if t.row≠0 then (false,M) else chP d f t kn (idxZ (hasP t) kn) M
def chS (d:List Dt) (l:List Ts):Nat→Vis
 |0,_,_,M=>(false,M)
 |k+1,a,kn,M=>match getI l a with
  |none=>(false,M)
  |some t=>if getI M a=some true then (false,M) else chT d (chS d l k) t kn (M.set a.toNat true)
structure KnOk (d:List Dt) (k:Nat) (kn:List Kn):Prop where
 len:kn.length+8*k≤50000
 ty:∀ p,p ∈ kn→isT d p.ty=true
 nots:∀ p,p ∈ kn→p.nots.length+k≤5000
 path:∀ p,p ∈ kn→p.path.length≤150
theorem newK_len (path:List Int) (fs:List Int):(newK path fs).length=fs.length:=by simp[newK]
theorem newK_mem {path fs:List Int} {p:Kn} (h:p ∈ newK path fs):∃ (i:Nat) (f:Int),fs[i]? = some f∧p=⟨path++[(i:Int)],f,false,[]⟩:=by
 unfold newK at h
 obtain ⟨q,hq,rfl⟩:=List.mem_map.1 h
 exact⟨q.2,q.1,(List.mk_mem_zipIdx_iff_getElem?.1 hq),rfl⟩
theorem KnOk.set {d:List Dt} {k:Nat} {kn:List Kn} (K:KnOk d (k+1) kn) {i:Nat} {p:Kn} (hp:isT d p.ty=true) (hn:p.nots.length+k≤5000) (hl:p.path.length≤150):KnOk d k (kn.set i p):=by
 refine ⟨by have:=K.len;rw[List.length_set];omega,?_,?_,?_⟩<;>intro q hq<;>rcases List.mem_or_eq_of_mem_set hq with h | rfl
 ·exact K.ty q h
 ·exact hp
 ·have:=K.nots q h;omega
 ·exact hn
 ·exact K.path q h
 ·exact hl
theorem KnOk.more {d:List Dt} {k:Nat} {kn:List Kn} (K:KnOk d (k+1) kn) {i:Nat} {p:Kn} (hp:isT d p.ty=true) (hn:p.nots.length+k≤5000) (hl:p.path.length≤150) {path fs:List Int} (h1:path.length≤110) (h2:fs.length≤8) (h3:∀ f,f ∈ fs→isT d f=true) (hk:k≤5000):KnOk d k (kn.set i p++newK path fs):=by
 have S:=K.set (i:=i) hp hn hl
 refine ⟨by have:=K.len;rw[List.length_append,List.length_set,newK_len];omega,?_,?_,?_⟩<;>intro q hq<;>rcases List.mem_append.1 hq with h | h
 ·exact S.ty q h
 ·obtain ⟨j,f,hf,rfl⟩:=newK_mem h;exact h3 f (List.mem_of_getElem? hf)
 ·exact S.nots q h
 ·obtain ⟨j,f,hf,rfl⟩:=newK_mem h;simp only[List.length_nil];omega
 ·exact S.path q h
 ·obtain ⟨j,f,hf,rfl⟩:=newK_mem h;simp only[List.length_append,List.length_cons,List.length_nil];omega
def MonoV (f:Vis):Prop:=∀ a kn M,(f a kn M).2.length=M.length∧cnt M≤cnt (f a kn M).2
theorem chL_mono {f:Vis} (h:MonoV f) (base:List Kn) (path:List Int):∀ (r:List (Int × Cn)) (M:List Bool),(chL f base path r M).2.length=M.length∧cnt M≤cnt (chL f base path r M).2
 | [],M=>⟨rfl,Nat.le_refl _⟩
 |x::r,M=>by
  have h1:=h x.1 (base++newK path x.2.flds) M
  unfold chL
  split
  ·have h2:=chL_mono h base path r (f x.1 (base++newK path x.2.flds) M).2
   exact⟨h2.1.trans h1.1,by omega⟩
  ·exact h1
theorem chN_mono {f:Vis} (h:MonoV f) (t:Ts) (kn:List Kn) (i:Nat) (p:Kn) (M:List Bool):(chN f t kn i p M).2.length=M.length∧cnt M≤cnt (chN f t kn i p M).2:=by
 unfold chN
 split
 ·split
  ·have h1:=h (t.next.getD 0 0) (kn.set i (kDone p)) M
   have h2:=h (t.next.getD 1 0) (kn.set i (kNot p t.num)) (f (t.next.getD 0 0) (kn.set i (kDone p)) M).2
   exact⟨h2.1.trans h1.1,Nat.le_trans h1.2 h2.2⟩
  ·exact h ..
 ·exact⟨rfl,Nat.le_refl _⟩
theorem chT_mono {d:List Dt} {f:Vis} (h:MonoV f) (t:Ts) (kn:List Kn) (M:List Bool):(chT d f t kn M).2.length=M.length∧cnt M≤cnt (chT d f t kn M).2:=by
 unfold chT chP
 split
 ·exact⟨rfl,Nat.le_refl _⟩
 split
 ·exact⟨rfl,Nat.le_refl _⟩
 split
 ·exact⟨rfl,Nat.le_refl _⟩
 split
 ·exact⟨rfl,Nat.le_refl _⟩
 split
 ·exact chN_mono h ..
 ·unfold chC
  split
  ·exact chL_mono h _ _ _ _
  ·exact⟨rfl,Nat.le_refl _⟩
theorem chS_mono (d:List Dt) (l:List Ts):∀ k,MonoV (chS d l k)
 |0=>fun _ _ _=>⟨rfl,Nat.le_refl _⟩
 |k+1=>by
  intro a kn M
  unfold chS
  split
  ·exact⟨rfl,Nat.le_refl _⟩
  ·rename_i t _
   split
   ·exact⟨rfl,Nat.le_refl _⟩
   ·have h1:=chT_mono (d:=d) (chS_mono d l k) t kn (M.set a.toNat true)
    refine ⟨h1.1.trans (List.length_set ..),?_⟩
    have:cnt M≤cnt (M.set a.toNat true):=by
     cases hg:M[a.toNat]? with
     |none=>rw[List.set_eq_of_length_le (by rwa [List.getElem?_eq_none_iff] at hg)];exact Nat.le_refl _
     |some b=>cases b with
      |false=>have:=set_grow hg;omega
      |true=>
       have:M.set a.toNat true=M:=by
        apply List.ext_getElem?
        intro n
        rw[List.getElem?_set]
        split
        ·rename_i e;subst e;rw[hg];split
         ·rfl
         ·rename_i h2;have:=(List.getElem?_eq_some_iff.1 hg).1;exact absurd this h2
        ·rfl
       rw[this];exact Nat.le_refl _
    omega
theorem look_del {n m:Nat} (h:m≠n):∀ l:List (Nat × Ob),Zv.look (Zv.del l n) m=Zv.look l m
 | []=>rfl
 | (k,o)::l=>by
  unfold Zv.del
  split
  ·rename_i e;subst e;rw[look_tl _ _ h]
  ·by_cases hk:m=k
   ·subst hk;simp[Zv.look]
   ·rw[look_tl _ _ hk,look_tl _ _ hk,look_del h l]
theorem row_of {X:List (Nat × Ob)} {n es tot q:Nat} {els:List V} (h:Zv.look X n=some (.arr es els)) (ht:els.length=tot):(⟨X,q⟩:Hp).row n tot=some (es,els):=row_look h ht
section
variable (d:List Dt) (l:List Ts) (a dv cv:Nat)
structure VI (X:List (Nat × Ob)) (M:List Bool):Prop where
 len:M.length=l.length
 rr:Zv.look X a=some (.arr 1 (M.map bV))
 rv:Zv.look X (a+1)=some (.arr 1 [.own a 1 l.length 0 l.length])
 vv:Zv.look X (a+2)=some (.arr 1 [.clo 63 [.ptr cv 1 0 0,.ptr (a+1) 1 0 0,.ptr (a+2) 1 0 0,.ptr dv 1 0 0]])
 cv:Zv.look X cv=some (.arr 1 [.d (.agg [eTs l])])
 dv:Zv.look X dv=some (.arr 1 [.d (eDs d)])
variable {d l a dv cv}
theorem VI.cons {X:List (Nat × Ob)} {M:List Bool} (H:VI d l a dv cv X M) (hc:cv<a) (hd:dv<a) {m:Nat} (hm:a+2<m) (o:Ob):VI d l a dv cv ((m,o)::X) M:=
 ⟨H.len,by rw[look_tl _ _ (by omega)];exact H.rr,by rw[look_tl _ _ (by omega)];exact H.rv,by rw[look_tl _ _ (by omega)];exact H.vv,by rw[look_tl _ _ (by omega)];exact H.cv,by rw[look_tl _ _ (by omega)];exact H.dv⟩
theorem VI.del {X:List (Nat × Ob)} {M:List Bool} (H:VI d l a dv cv X M) (hc:cv<a) (hd:dv<a) {m:Nat} (hm:a+2<m):VI d l a dv cv (Zv.del X m) M:=
 ⟨H.len,by rw[look_del (by omega)];exact H.rr,by rw[look_del (by omega)];exact H.rv,by rw[look_del (by omega)];exact H.vv,by rw[look_del (by omega)];exact H.cv,by rw[look_del (by omega)];exact H.dv⟩
theorem VI.mark {X:List (Nat × Ob)} {M M':List Bool} (H:VI d l a dv cv X M) (hc:cv<a) (hd:dv<a) (hM:M'.length=l.length):VI d l a dv cv (Zv.upd X a (.arr 1 (M'.map bV))) M':=by
 refine ⟨hM,?_,?_,?_,?_,?_⟩<;>rw[Zs.look_upd]
 ·rw[if_pos rfl,H.rr];rfl
 ·rw[if_neg (by omega)];exact H.rv
 ·rw[if_neg (by omega)];exact H.vv
 ·rw[if_neg (by omega)];exact H.cv
 ·rw[if_neg (by omega)];exact H.dv
end
def Fr (a q:Nat) (X X':List (Nat × Ob)):Prop:=∀ n,n<q→n≠a→Zv.look X' n=Zv.look X n
theorem Fr.refl (a q:Nat) (X:List (Nat × Ob)):Fr a q X X:=fun _ _ _=>rfl
theorem Fr.trans {a q q':Nat} {X Y Z:List (Nat × Ob)} (h1:Fr a q X Y) (h2:Fr a q' Y Z) (h:q≤q'):Fr a q X Z:=fun n hn hna=>(h2 n (by omega) hna).trans (h1 n hn hna)
theorem Fr.cons {a q m:Nat} {X Y:List (Nat × Ob)} (h:Fr a q X Y) (hm:q≤m) (o:Ob):Fr a q X ((m,o)::Y):=fun n hn hna=>by rw[look_tl _ _ (by omega)];exact h n hn hna
theorem Fr.del {a q m:Nat} {X Y:List (Nat × Ob)} (h:Fr a q X Y) (hm:q≤m):Fr a q X (Zv.del Y m):=fun n hn hna=>by rw[look_del (by omega)];exact h n hn hna
theorem Fr.upd {a q:Nat} {X Y:List (Nat × Ob)} (h:Fr a q X Y) (o:Ob):Fr a q X (Zv.upd Y a o):=fun n hn hna=>by rw[Zs.look_upd,if_neg hna];exact h n hn hna
end Zc28
end
section
set_option maxHeartbeats 4000000
namespace Zc28
open Go Zv Zs
theorem st_k1 (p:Kn) (m nx:Nat) (L:List (Nat × Ob)):st 1 ⟨(m,.arr 4 [.d (eK p)])::L,nx⟩ (.ptr m 1 0 2) (.d (.bool true))=some ⟨(m,.arr 4 [.d (eK (kDone p))])::L,nx⟩:=by
 simp[st,row_hd,stor,V.cells,D.cells,set_hd]
 rfl
theorem st_k2 (p:Kn) (m nx:Nat) (o:Ob) (L:List (Nat × Ob)):st 1 ⟨(m+1,o)::(m,.arr 4 [.d (eK p)])::L,nx⟩ (.ptr m 1 0 2) (.d (.bool true))=some ⟨(m+1,o)::(m,.arr 4 [.d (eK (kDone p))])::L,nx⟩:=by
 have hr:Hp.row ⟨(m+1,o)::(m,.arr 4 [.d (eK p)])::L,nx⟩ m 1=some (4,[.d (eK p)]):=by
  unfold Hp.row Hp.get;simp[Zv.look]
 have hs:∀ y,Hp.set ⟨(m+1,o)::(m,.arr 4 [.d (eK p)])::L,nx⟩ m y=⟨(m+1,o)::(m,y)::L,nx⟩:=by
  intro y;unfold Hp.set;simp[upd]
 simp[st,hr,stor,V.cells,D.cells,hs]
 rfl
theorem st_k3 (p:Kn) (n:Int) (m nx:Nat) (L:List (Nat × Ob)):st 1 ⟨(m,.arr 4 [.d (eK p)])::L,nx⟩ (.ptr m 1 0 3) (.d (.lst ((p.nots++[n]).map eI)))=some ⟨(m,.arr 4 [.d (eK (kNot p n))])::L,nx⟩:=by
 simp[st,row_hd,stor,V.cells,D.cells,set_hd]
 simp[mkAgg,asD,kNot]
theorem slc3_I (p:List Int):slc3 1 (.d (eIs p)) none (some (.d (.int .i64 (p.length:Int)))) (some (.d (.int .i64 (p.length:Int))))=some (.tl ((p.map eI).map .d) none):=by
 have h1:Zv.allD 1 (p.map eI)=true:=by
  unfold Zv.allD
  exact List.all_eq_true.2 fun y hy=>by obtain ⟨q,_,rfl⟩:=List.mem_map.1 hy;rfl
 have h2:List.take p.length (p.map (V.d ∘ eI))=p.map (V.d ∘ eI):=List.take_of_length_le (by simp)
 simp[slc3,bnd,ixOf,h1,h2]
theorem appd_I (p:List Int) (n:Int) (hp:p.length≤100000):appd 1 8 (.tl ((p.map eI).map .d) none) (.tl [.d (eI n)] (some false))=some (.d (.lst ((p++[n]).map eI))):=by
 have hb:(p.length+1)*8≤roomB:=by unfold roomB;omega
 have h1:allV 1 ((p.map eI).map V.d)=true:=by
  unfold allV
  refine List.all_eq_true.2 fun y hy=>?_
  obtain ⟨q,hq,rfl⟩:=List.mem_map.1 hy
  obtain ⟨z,_,rfl⟩:=List.mem_map.1 hq
  simp[stor,V.cells,D.cells]
 have h2:allV 1 [V.d (eI n)]=true:=rfl
 have h3:toDs ((p.map eI).map V.d++[V.d (eI n)])=some ((p++[n]).map eI):=by
  have:=toDs_map_d ((p++[n]).map eI)
  simpa using this
 simp only[appd,elems0,Option.bind_some,h2,if_true,List.map_cons,List.map_nil,norm_d,List.isEmpty_cons,Bool.false_eq_true,if_false,List.length_map,List.length_cons,List.length_nil,Nat.zero_add,hb,h1,and_self,h3,Option.map_some]
theorem row_cn {n m es tot nx:Nat} {o:Ob} {els:List V} {L:List (Nat × Ob)} (h:n≠m) (hr:∀ nx,Hp.row ⟨L,nx⟩ n tot=some (es,els)):Hp.row ⟨(m,o)::L,nx⟩ n tot=some (es,els):=by
 have:=hr nx
 unfold Hp.row Hp.get at this ⊢
 simp only[Zv.look,if_neg h] at this ⊢
 exact this
theorem idxZ_cases {α:Type} (p:α→Bool) (l:List α):idxZ p l = -1∨∃ (n:Nat) (x:α),idxZ p l=n∧l[n]? = some x∧p x=true:=by
 unfold idxZ
 cases h:fst? p 0 l with
 |none=>exact .inl rfl
 |some q=>
  obtain ⟨n,x⟩:=q
  obtain ⟨h0,h1,h2,_⟩:=fst_some h
  exact .inr ⟨n,x,rfl,by simpa using h1,h2⟩
theorem newK_snoc (path:List Int) {fs:List Int} {n:Nat} {f:Int} (h:fs[n]? = some f):newK path (fs.take (n+1))=newK path (fs.take n)++[⟨path++[(n:Int)],f,false,[]⟩]:=by
 have hn:=(List.getElem?_eq_some_iff.1 h).1
 rw[List.take_add_one,h]
 unfold newK
 rw[Option.toList_some,List.zipIdx_append,List.map_append]
 simp[show min n fs.length=n by omega]
theorem app_tl1 (es b:Nat) (h:Hp) (s:V) (x:D) (nl:Option Bool):app es b h s (.tl [.d x] nl)=app es b h s (.d (.lst [x])):=by
 simp[app,elems,norm_d]
theorem chL_cons (f:Vis) (base:List Kn) (path:List Int) (x:Int) (c:Cn) (r:List (Int × Cn)) (M:List Bool):chL f base path ((x,c)::r) M=if (f x (base++newK path c.flds) M).1=true then chL f base path r (f x (base++newK path c.flds) M).2 else (false,(f x (base++newK path c.flds) M).2):=rfl
theorem mk_s (x y z:D):stor (mkAgg [.d x,.d y,.d z,.tl [] (some true)])=true:=rfl
theorem mk_c (x y z:D):(mkAgg [.d x,.d y,.d z,.tl [] (some true)]).cells.length=4:=rfl
theorem mk_n (x y z:D):norm (mkAgg [.d x,.d y,.d z,.tl [] (some true)])=.d (.agg [x,y,z,.lst []]):=rfl
end Zc28
end
section
set_option maxHeartbeats 4000000
namespace Zc28
open Go Zv Zs
def VPost (d:List Dt) (l:List Ts) (a dv cv:Nat) (X:List (Nat × Ob)) (q:Nat) (R:Bool × List Bool) (r:V × Hp):Prop:=∃ X' q',r=(.d (.bool R.1),⟨X',q'⟩)∧VI d l a dv cv X' R.2∧q≤q'∧Fr a q X X'
abbrev vArgs (a dv cv:Nat) (n:Int) (kn:List Kn):List V:=[.d (eI n),.d (eKs kn),.ptr cv 1 0 0,.ptr (a+1) 1 0 0,.ptr (a+2) 1 0 0,.ptr dv 1 0 0]
theorem visit_ok {d:List Dt} {l:List Ts} (L:Light l) (B:Bd d) (Fl:∀ y,y ∈ d→∀ c,c ∈ y.cons→c.flds.length≤8) (T:∀ y,y ∈ d→∀ c,c ∈ y.cons→∀ f,f ∈ c.flds→isT d f=true) {a dv cv:Nat} (hc:cv<a) (hd:dv<a) :
  ∀ (k:Nat) (n:Int) (kn:List Kn) (M:List Bool) (X:List (Nat × Ob)) (q:Nat),l.length - cnt M<k→k≤5000→KnOk d k kn→VI d l a dv cv X M→a+2<q →
   ∃ r,callW tab 63 (vArgs a dv cv n kn) ⟨X,q⟩=some r∧VPost d l a dv cv X q (chS d l k n kn M) r:=by
 intro k
 induction k with
 |zero=>intro n kn M X q h;omega
 |succ k ih=>
  intro n kn M X q hk hk100 K I hq
  have hlen:=L.len
  have bft:(false == true)=false:=rfl
  have btf:(true == false)=false:=rfl
  have hcl:=cnt_len M
  have hML:=I.len
  have R:∀ {m es tot:Nat} {els:List V},Zv.look X m=some (.arr es els)→els.length=tot→m<q→∀ o nx,Hp.row ⟨(q,o)::X,nx⟩ m tot=some (es,els):=fun h1 h2 h3 o nx=>row_cn (by omega) (fun nx=>row_of h1 h2)
  have rc:=fun o nx=>R (tot:=1) I.cv rfl (by omega) o nx
  have rv:=fun o nx=>R (tot:=1) I.rv rfl (by omega) o nx
  have rr:=fun o nx=>R (tot:=l.length) I.rr (by rw[List.length_map];exact I.len) (by omega) o nx
  refine call_wpE (fn:=f63) rfl rfl ?_
  rcases getI_cases l n with ⟨hn,hg⟩ | ⟨hn,hn2,hg⟩ | ⟨j,t,rfl,hj,ht,hg⟩
  ·have hS:chS d l (k+1) n kn M=(false,M):=by unfold chS;rw[hg]
   simp only[e63,hn,wz,opX,intBin,↓reduceIte,simprocAttr]
   exact⟨_,rfl,by rw[hS];exact⟨_,_,rfl,I.cons hc hd hq _,by omega,(Fr.refl _ _ _).cons (Nat.le_refl _) _⟩⟩
  ·have hS:chS d l (k+1) n kn M=(false,M):=by unfold chS;rw[hg]
   simp only[e63,hn,hn2,rc,wz,opX,intBin,↓reduceIte,simprocAttr]
   exact⟨_,rfl,by rw[hS];exact⟨_,_,rfl,I.cons hc hd hq _,by omega,(Fr.refl _ _ _).cons (Nat.le_refl _) _⟩⟩
  ·obtain ⟨b,hb⟩:=get_of_lt (l:=M) (n:=j) (by omega)
   have hj2:¬ (l.length:Int)≤(j:Int):=by omega
   have hio:=ia_own (es:=1) (n:=a) (tot:=l.length) .i64 hj
   have hlb:=fun o nx=>ld_bit (rr o nx) hb
   have hgM:getI M (j:Int)=some b:=by rw[getI_nat];exact hb
   cases b with
   |true=>
    have hS:chS d l (k+1) j kn M=(false,M):=by unfold chS;rw[hg];simp only[hgM,if_true]
    simp only[e63,hj2,rc,rv,hio,hlb,wz,opX,intBin,↓reduceIte,simprocAttr]
    exact⟨_,rfl,by rw[hS];exact⟨_,_,rfl,I.cons hc hd hq _,by omega,(Fr.refl _ _ _).cons (Nat.le_refl _) _⟩⟩
   |false=>
    have hS:chS d l (k+1) j kn M=chT d (chS d l k) t kn (M.set j true):=by
     rw[chS,hg];simp only[hgM];rfl
    have hgr:=set_grow hb
    have hst:∀ o nx,st 1 ⟨(q,o)::X,nx⟩ (.ptr a l.length j 0) (.d (.bool true))=some ⟨(q,o)::Zv.upd X a (.arr 1 ((M.set j true).map bV)),nx⟩:=by
     intro o nx
     have e:=st_all (sz:=1) (i:=j) (x:=.d (.bool true)) (rr o nx) (e:=bV false) (by rw[List.getElem?_map,hb];rfl) rfl rfl
     rw[e]
     have:a≠q:=by omega
     simp[Hp.set,upd,this,List.map_set]
    have I1:=I.mark hc hd (M':=M.set j true) (by rw[List.length_set];exact hML)
    have F1:Fr a q X (Zv.upd X a (.arr 1 ((M.set j true).map bV))):=(Fr.refl _ _ _).upd _
    generalize Zv.upd X a (.arr 1 ((M.set j true).map bV))=X1 at hst I1 F1
    have R1:∀ {m es tot:Nat} {els:List V},Zv.look X1 m=some (.arr es els)→els.length=tot→m<q→∀ o nx,Hp.row ⟨(q,o)::X1,nx⟩ m tot=some (es,els):=fun h1 h2 h3 o nx=>row_cn (by omega) (fun nx=>row_of h1 h2)
    have rc1:=fun o nx=>R1 (tot:=1) I1.cv rfl (by omega) o nx
    have hcT:(eT t).cells.length=5:=rfl
    rw[hS]
    have hcM:l.length - cnt (M.set j true)<k:=by
     have:=cnt_len (M.set j true);rw[List.length_set] at this;omega
    have hC1:=fun h=>leaf_ok t h
    by_cases hnx:t.next=[]
    ·have hz:((t.next.length:Int) == 0)=true:=by rw[hnx];rfl
     have hS2:chT d (chS d l k) t kn (M.set j true)=(leafT t,M.set j true):=by unfold chT;rw[if_pos hnx]
     rw[hS2]
     simp only[e63,hj2,rc,rv,hio,hlb,hst,rc1,iaT ht,hcT,hz,hC1,wz,opX,intBin,↓reduceIte,simprocAttr]
     exact⟨_,rfl,_,_,rfl,(I1.cons hc hd hq _).cons hc hd (by omega) _,by omega,(F1.cons (Nat.le_refl _) _).cons (by omega) _⟩
    ·have hz:((t.next.length:Int) == 0)=false:=beq_eq_false_iff_ne.2 (fun h=>hnx (List.length_eq_zero_iff.1 (by omega)))
     obtain ⟨htp,htn⟩:=L.ts t (List.mem_of_getElem? ht)
     have hidx:=idxFK kn (.clo 66 [.ptr (q+1) 1 0 0]) (hasP t) ⟨(q+1,.arr 5 [.d (eT t)])::(q,.arr 1 [.d (eKs kn)])::X1,q+1+1⟩ (by have:=K.len;omega) rfl
      (fun c hc=>by rw[cW_clo,if_neg (by decide)];exact check11_ok t (q+1) (by omega) c (by have:=K.path c hc;omega) _ (by rw[row_hd];rfl) (by show q+1≠q+1+1;omega))
     have rq:∀ o nx,Hp.row ⟨(q+1+1,o)::(q,.arr 1 [.d (eKs kn)])::X1,nx⟩ q 1=some (1,[.d (eKs kn)]):=fun o nx=>row_cn (by omega) (fun nx=>by rw[row_hd];rfl)
     have rq0:∀ o nx,Hp.row ⟨(q+1,o)::(q,.arr 1 [.d (eKs kn)])::X1,nx⟩ q 1=some (1,[.d (eKs kn)]):=fun o nx=>row_cn (by omega) (fun nx=>by rw[row_hd];rfl)
     have I2:∀ o,VI d l a dv cv ((q+1+1,o)::(q,.arr 1 [.d (eKs kn)])::X1) (M.set j true):=fun o=>(I1.cons hc hd hq _).cons hc hd (by omega) _
     have F2:∀ o,Fr a q X ((q+1+1,o)::(q,.arr 1 [.d (eKs kn)])::X1):=fun o=>(F1.cons (Nat.le_refl _) _).cons (by omega) _
     by_cases hrow:t.row=0
     ·have hr0:(t.row == 0)=true:=by rw[hrow];rfl
      have hS2:chT d (chS d l k) t kn (M.set j true)=chP d (chS d l k) t kn (idxZ (hasP t) kn) (M.set j true):=by
       unfold chT;rw[if_neg hnx,if_neg (by simp[hrow])]
      rw[hS2]
      rcases idxZ_cases (hasP t) kn with hz1 | ⟨m,p,hz1,hp,hpt⟩
      ·have hS3:chP d (chS d l k) t kn (idxZ (hasP t) kn) (M.set j true)=(false,M.set j true):=by rw[hz1];rfl
       rw[hS3]
       rw[hz1] at hidx
       simp only[e63,hj2,rc,rv,hio,hlb,hst,rc1,iaT ht,hcT,hz,hidx,rq,rq0,hr0,bne,wz,opX,intBin,↓reduceIte,simprocAttr]
       exact⟨_,rfl,_,_,rfl,I2 _,by omega,F2 _⟩
      ·rw[hz1] at hidx
       have hS3:chP d (chS d l k) t kn (idxZ (hasP t) kn) (M.set j true)=if refuse t p=true then (false,M.set j true) else if t.con=false then chN (chS d l k) t kn m p (M.set j true) else chC d (chS d l k) t kn m p (M.set j true):=by
        rw[hz1];unfold chP;rw[getI_nat,hp];rfl
       rw[hS3]
       have hpl:=(List.getElem?_eq_some_iff.1 hp).1
       have hpm:=List.mem_of_getElem? hp
       cases hdn:p.done with
       |true=>
        have hrf:refuse t p=true:=by unfold refuse;rw[hdn];rfl
        rw[if_pos hrf]
        simp only[e63,hj2,rc,rv,hio,hlb,hst,rc1,iaT ht,hcT,hz,hidx,rq,rq0,hr0,bne,iaK hp,hdn,wz,opX,intBin,↓reduceIte,simprocAttr]
        exact⟨_,rfl,_,_,rfl,I2 _,by omega,F2 _⟩
       |false=>
        cases hty:(p.ty == 0) with
        |true=>
         have hty2:p.ty=0:=by simpa using hty
         cases hcn:t.con with
         |true=>
          have hrf:refuse t p=true:=by unfold refuse;rw[hdn,hcn,hty2];rfl
          rw[if_pos hrf]
          simp only[eT,hcn] at hidx
          simp only[e63,hj2,rc,rv,hio,hlb,hst,rc1,iaT ht,hcT,hz,hidx,rq,rq0,hr0,bne,iaK hp,hdn,hty,hcn,bft,btf,wz,opX,intBin,↓reduceIte,simprocAttr]
          exact⟨_,rfl,_,_,rfl,I2 _,by omega,F2 _⟩
         |false=>
          have hrf:refuse t p=false:=by unfold refuse;rw[hdn,hcn,hty2];rfl
          rw[if_neg (by rw[hrf];simp),if_pos rfl]
          simp only[eT,hcn] at hidx
          have hKl:=K.len
          have hcon:=fun h=>conI64_ok p.nots t.num (by have:=K.nots p hpm;omega) h
          by_cases h2:t.next.length=2
          ·have hn2:((t.next.length:Int) == 2)=true:=by rw[h2];rfl
           cases hany:(p.nots.any fun y=>t.num == y) with
           |true=>
            have hS4:chN (chS d l k) t kn m p (M.set j true)=(false,M.set j true):=by unfold chN;rw[if_neg (by rw[hany];simp)]
            rw[hS4]
            rw[hany] at hcon
            simp only[e63,hj2,rc,rv,hio,hlb,hst,rc1,iaT ht,hcT,hz,hidx,rq,rq0,hr0,bne,iaK hp,hdn,hty,hcn,bft,btf,hn2,hcon,wz,opX,intBin,↓reduceIte,simprocAttr]
            exact⟨_,rfl,_,_,rfl,I2 _,by omega,F2 _⟩
           |false=>
            rw[hany] at hcon
            obtain ⟨x0,hx0⟩:=get_of_lt (l:=t.next) (n:=0) (by omega)
            obtain ⟨x1,hx1⟩:=get_of_lt (l:=t.next) (n:=1) (by omega)
            have ia0:ia 1 (.d (.lst (t.next.map eI))) (.d (.int .i64 0))=some (.fp (eI x0) 0):=iaI hx0
            have ia1:ia 1 (.d (.lst (t.next.map eI))) (.d (.int .i64 1))=some (.fp (eI x1) 0):=iaI hx1
            have hS4:chN (chS d l k) t kn m p (M.set j true)=if (chS d l k x0 (kn.set m (kDone p)) (M.set j true)).1=true then chS d l k x1 (kn.set m (kNot p t.num)) (chS d l k x0 (kn.set m (kDone p)) (M.set j true)).2 else (false,(chS d l k x0 (kn.set m (kDone p)) (M.set j true)).2):=by
             unfold chN;rw[if_pos ⟨h2,hany⟩,List.getD_eq_getElem?_getD,List.getD_eq_getElem?_getD,hx0,hx1];rfl
            rw[hS4]
            have hty3:=K.ty p hpm
            have hno3:=K.nots p hpm
            have hpa3:=K.path p hpm
            have K1:KnOk d k (kn.set m (kDone p)):=K.set (p:=kDone p) hty3 (by show p.nots.length+k≤5000;omega) hpa3
            have K2:KnOk d k (kn.set m (kNot p t.num)):=K.set (p:=kNot p t.num) hty3 (by show (p.nots++[t.num]).length+k≤5000;rw[List.length_append];simp only[List.length_cons,List.length_nil];omega) hpa3
            have hfz:∀ (p':Kn) (m':Nat) (o:List (Nat × Ob)) (nx:Nat),Zv.frz ⟨(m',.arr 4 (((kn.set m p').map eK).map .d))::o,nx⟩ (.own m' 4 kn.length 0 kn.length)=some (.d (eKs (kn.set m p')),⟨o,nx⟩):=by
             intro p' m' o nx
             have:=own_frz (es:=4) (m:=m') (q:=nx) (o:=o) (l:=(kn.set m p').map eK)
             rw[List.length_map,List.length_set] at this
             exact this
            have hw1:∀ nx,callW tab 67 [.d (eK (kDone p)),.ptr q 1 0 0,.ptr (q+1+1) 1 0 0] ⟨(q+1+1,.arr 1 [.d (eI m)])::(q,.arr 1 [.d (eKs kn)])::X1,nx⟩=_:=
             fun nx=>withK_ok kn m (kDone p) hpl (by omega) q (q+1+1) ⟨(q+1+1,.arr 1 [.d (eI m)])::(q,.arr 1 [.d (eKs kn)])::X1,nx⟩ (rq _ _) (by rw[row_hd];rfl)
            have lk:=fun o nx=>row_of (q:=nx) (I2 o).vv (tot:=1) rfl
            have hlk:∀ o nx,ldk false 1 ⟨(q+1+1,o)::(q,.arr 1 [.d (eKs kn)])::X1,nx⟩ (.ptr (a+2) 1 0 0) (.ptr (a+2) 1 0 0)=some (.clo 63 [.ptr cv 1 0 0,.ptr (a+1) 1 0 0,.ptr (a+2) 1 0 0,.ptr dv 1 0 0]):=by
             intro o nx;simp[ldk,ld,lk,partV,V.cells]
            have hsm:∀ (Y:List (Nat × Ob)) (M':List Bool) (n1 n2:Nat),VI d l a dv cv Y M'→sameAt ⟨Y,n1⟩ ⟨Y,n2⟩ (.ptr (a+2) 1 0 0)=true:=by
             intro Y M' n1 n2 IY
             simp only[sameAt,Hp.get,IY.vv,Ob.beq_refl]
            have hs1:=fun o n1 n2=>hsm _ _ n1 n2 (I2 o)
            obtain ⟨r1,hv1,X',q',rfl,I3,hq3,F3⟩:=ih x0 (kn.set m (kDone p)) (M.set j true) ((q+1+1,.arr 1 [.d (eI m)])::(q,.arr 1 [.d (eKs kn)])::X1) (q+1+1+1+1+1+1+1+1) hcM (by omega) K1 (I2 _) (by omega)
            simp only[vArgs] at hv1
            have hslc:=slc3_I p.nots
            have hapd:=appd_I p.nots t.num (by omega)
            have e2:eK p=D.agg [eIs p.path,eI p.ty,.bool false,eIs p.nots]:=by show D.agg [eIs p.path,eI p.ty,.bool p.done,eIs p.nots]=_;rw[hdn]
            have e1:eK (kDone p)=D.agg [eIs p.path,eI p.ty,.bool true,eIs p.nots]:=rfl
            have e3:eK (kNot p t.num)=D.agg [eIs p.path,eI p.ty,.bool false,eIs (p.nots++[t.num])]:=by show D.agg [eIs p.path,eI p.ty,.bool p.done,eIs (p.nots++[t.num])]=_;rw[hdn]
            have hk2:=fun m nx o L=>st_k2 p m nx o L
            have hk3:=fun m nx L=>st_k3 p t.num m nx L
            rw[e2,e1] at hk2
            rw[e2,e3] at hk3
            rw[e1] at hw1
            cases hb1:(chS d l k x0 (kn.set m (kDone p)) (M.set j true)).1 with
            |false=>
             rw[if_neg (by simp)]
             rw[hb1] at hv1
             simp only[e63,hj2,rc,rv,hio,hlb,hst,rc1,iaT ht,hcT,hz,hidx,rq,rq0,hr0,bne,iaK hp,hdn,hty,hcn,bft,btf,hn2,hcon,hslc,hapd,hk2,hk3,hlk,hw1,hfz,hs1,ia0,hv1,wz,opX,intBin,↓reduceIte,simprocAttr]
             exact⟨_,rfl,_,_,rfl,I3,by omega,(F2 _).trans F3 (by omega)⟩
            |true=>
             rw[if_pos rfl]
             rw[hb1] at hv1
             have hmo:=chS_mono d l k x0 (kn.set m (kDone p)) (M.set j true)
             have lq:Zv.look X' q=some (.arr 1 [.d (eKs kn)]):=by rw[F3 q (by omega) (by omega),look_tl _ _ (by omega),look_hd]
             have lm:Zv.look X' (q+1+1)=some (.arr 1 [.d (eI m)]):=by rw[F3 (q+1+1) (by omega) (by omega),look_hd]
             have hw2:∀ nx,callW tab 67 [.d (eK (kNot p t.num)),.ptr q 1 0 0,.ptr (q+1+1) 1 0 0] ⟨X',nx⟩=_:=
              fun nx=>withK_ok kn m (kNot p t.num) hpl (by omega) q (q+1+1) ⟨X',nx⟩ (row_of lq rfl) (row_of lm rfl)
             rw[e3] at hw2
             have lk3:=fun nx=>row_of (q:=nx) I3.vv (tot:=1) rfl
             have hlk3:∀ nx,ldk false 1 ⟨X',nx⟩ (.ptr (a+2) 1 0 0) (.ptr (a+2) 1 0 0)=some (.clo 63 [.ptr cv 1 0 0,.ptr (a+1) 1 0 0,.ptr (a+2) 1 0 0,.ptr dv 1 0 0]):=by
              intro nx;simp[ldk,ld,lk3,partV,V.cells]
             have hs3:=fun n1 n2=>hsm _ _ n1 n2 I3
             obtain ⟨r2,hv2,X'',q'',rfl,I4,hq4,F4⟩:=ih x1 (kn.set m (kNot p t.num)) _ X' (q'+1+1) (by omega) (by omega) K2 I3 (by omega)
             simp only[vArgs] at hv2
             simp only[e63,hj2,rc,rv,hio,hlb,hst,rc1,iaT ht,hcT,hz,hidx,rq,rq0,hr0,bne,iaK hp,hdn,hty,hcn,bft,btf,hn2,hcon,hslc,hapd,hk2,hk3,hlk,hw1,hfz,hs1,ia0,ia1,hv1,hw2,hlk3,hs3,hv2,wz,opX,intBin,↓reduceIte,simprocAttr]
             exact⟨_,rfl,_,_,rfl,I4,by omega,((F2 _).trans F3 (by omega)).trans F4 (by omega)⟩
          ·have hn2:((t.next.length:Int) == 2)=false:=beq_eq_false_iff_ne.2 (fun h=>h2 (by omega))
           have hS4:chN (chS d l k) t kn m p (M.set j true)=(false,M.set j true):=by unfold chN;rw[if_neg (fun h=>h2 h.1)]
           rw[hS4]
           simp only[e63,hj2,rc,rv,hio,hlb,hst,rc1,iaT ht,hcT,hz,hidx,rq,rq0,hr0,bne,iaK hp,hdn,hty,hcn,bft,btf,hn2,wz,opX,intBin,↓reduceIte,simprocAttr]
           exact⟨_,rfl,_,_,rfl,I2 _,by omega,F2 _⟩
        |false=>
         have hty2:p.ty≠0:=by simpa using hty
         cases hcn:t.con with
         |false=>
          have hrf:refuse t p=true:=by unfold refuse;rw[hdn,hcn,decide_eq_true hty2];rfl
          rw[if_pos hrf]
          simp only[eT,hcn] at hidx
          simp only[e63,hj2,rc,rv,hio,hlb,hst,rc1,iaT ht,hcT,hz,hidx,rq,rq0,hr0,bne,iaK hp,hdn,hty,hcn,bft,btf,wz,opX,intBin,↓reduceIte,simprocAttr]
          exact⟨_,rfl,_,_,rfl,I2 _,by omega,F2 _⟩
         |true=>
          have hrf:refuse t p=false:=by unfold refuse;rw[hdn,hcn,decide_eq_true hty2];rfl
          rw[if_neg (by rw[hrf];simp),if_neg (by simp)]
          simp only[eT,hcn] at hidx
          have hKl:=K.len
          have hty3:=K.ty p hpm
          obtain ⟨n',y,hpt2,hy⟩:∃ (n':Nat) (y:Dt),p.ty=(n':Int)+1∧d[n']? = some y:=by
           rcases tcase d p.ty with h | h | h
           ·exfalso;unfold isT at hty3;simp only[Bool.and_eq_true,decide_eq_true_eq] at hty3;omega
           ·exfalso;unfold isT at hty3;simp only[Bool.and_eq_true,decide_eq_true_eq] at hty3;omega
           ·exact h
          have hnd:=(List.getElem?_eq_some_iff.1 hy).1
          have hdl:=B.len
          have hym:=List.mem_of_getElem? hy
          have hyc:=(B.at hy).2.2
          have hws:=wrap_sub1 (n:=n') (by omega)
          have hco:consOf d p.ty=y.cons:=by rw[hpt2];exact consOf_at hy
          have rdv:∀ o o' nx,Hp.row ⟨(q+1+1+1,o)::(q+1+1,o')::(q,.arr 1 [.d (eKs kn)])::X1,nx⟩ dv 1=some (1,[.d (eDs d)]):=fun o o' nx=>row_cn (by omega) (fun nx=>row_of (I2 o').dv rfl)
          cases hnum:(t.num == 0) with
          |false=>
           have hS4:chC d (chS d l k) t kn m p (M.set j true)=(false,M.set j true):=by
            unfold chC;rw[if_neg (fun h=>by rw[h.1] at hnum;cases hnum)]
           rw[hS4]
           simp only[e63,hj2,rc,rv,hio,hlb,hst,rc1,iaT ht,hcT,hz,hidx,rq,rq0,hr0,bne,iaK hp,hdn,hty,hcn,bft,btf,hpt2,rdv,hws,iaD hy,hnum,wz,opX,intBin,↓reduceIte,simprocAttr]
           exact⟨_,rfl,_,_,rfl,I2 _,by omega,F2 _⟩
          |true=>
           by_cases hle:t.next.length=y.cons.length
           ·have hlt:((t.next.length:Int) == (y.cons.length:Int))=true:=by rw[hle];exact beq_self_eq_true _
            have hS4:chC d (chS d l k) t kn m p (M.set j true)=chL (chS d l k) (kn.set m (kDone p)) t.path (t.next.zip y.cons) (M.set j true):=by
             unfold chC;rw[if_pos ⟨by simpa using hnum,by rw[hle,hco]⟩,hco]
            rw[hS4]
            have hno3:=K.nots p hpm
            have hpa3:=K.path p hpm
            have e2:eK p=D.agg [eIs p.path,eI ((n':Int)+1),.bool false,eIs p.nots]:=by show D.agg [eIs p.path,eI p.ty,.bool p.done,eIs p.nots]=_;rw[hdn,hpt2]
            have e1:eK (kDone p)=D.agg [eIs p.path,eI ((n':Int)+1),.bool true,eIs p.nots]:=by show D.agg [eIs p.path,eI p.ty,.bool true,eIs p.nots]=_;rw[hpt2]
            have hk1:=fun m nx L=>st_k1 p m nx L
            rw[e2,e1] at hk1
            have hzl:(t.next.zip y.cons).length=t.next.length:=by rw[List.length_zip];omega
            simp only[e63,hj2,rc,rv,hio,hlb,hst,rc1,iaT ht,hcT,hz,hidx,rq,rq0,hr0,bne,iaK hp,hdn,hty,hcn,bft,btf,hpt2,rdv,hws,iaD hy,hnum,hlt,hk1,wz,opX,intBin,↓reduceIte,simprocAttr]
            refine loop_wp t.next.length (fun i e h'=>∃ (X':List (Nat × Ob)) (q':Nat) (M':List Bool),h'=⟨X',q'⟩∧VI d l a dv cv X' M'∧q+3<q'∧Fr a q X X'∧Zv.look X' q=some (.arr 1 [.d (eKs kn)])∧Zv.look X' (q+1+1)=some (.arr 1 [.d (eI m)])∧Zv.look X' (q+1+1+1)=some (.arr 4 [.d (eK (kDone p))])∧l.length - cnt M'<k ∧
             chL (chS d l k) (kn.set m (kDone p)) t.path (t.next.zip y.cons) (M.set j true)=chL (chS d l k) (kn.set m (kDone p)) t.path ((t.next.zip y.cons).drop i) M' ∧
             e=[(4,.ptr (a+2) 1 0 0),(9,.fp (D.agg [eIs t.path,.bool true,eI t.num,eIs t.next,eI t.row]) 0),(11,.clo 67 [.ptr q 1 0 0,.ptr (q+1+1) 1 0 0]),(12,.ptr (q+1+1+1) 1 0 0),(15,.d (.lst (y.cons.map eC))),(154,.d (eIs t.next)),(155,.d (.int .i64 t.next.length)),(156,.d (.int .i64 (i:Int)))]) _ ?_ ?_ t.next.length 0 _ _ (by omega) ⟨_,_,_,rfl,(I2 _).cons hc hd (by omega) _,by omega,(F2 _).cons (by omega) _,by rw[look_tl _ _ (by omega),look_tl _ _ (by omega),look_hd],by rw[look_tl _ _ (by omega),look_hd],by rw[look_hd,e1],hcM,rfl,rfl⟩
            ·rintro i e h' hi ⟨X',q',M',rfl,I3,hq3,F3,l1,l2,l3,hc3,hch,rfl⟩
             obtain ⟨x,hx⟩:=get_of_lt hi
             obtain ⟨c,hcx⟩:=get_of_lt (l:=y.cons) (n:=i) (by omega)
             have hcm:=List.mem_of_getElem? hcx
             have hfl:=Fl y hym c hcm
             have hzx:(t.next.zip y.cons)[i]? = some (x,c):=by rw[List.getElem?_zip_eq_some];exact⟨hx,hcx⟩
             have hwr:IntKind.i64.wrap ((i:Int)+1)=((i+1:Nat):Int):=by rw[wrap_ok (by omega) (by omega)];rfl
             have r3:=fun nx=>row_of (q:=nx) l3 (tot:=1) rfl
             have hl3:∀ nx,ld true 4 ⟨X',nx⟩ (.ptr (q+1+1+1) 1 0 0)=some (.d (D.agg [eIs p.path,eI ((n':Int)+1),.bool true,eIs p.nots])):=by
              intro nx;rw[←e1];simp[ld,r3]
             have hw1:∀ nx,callW tab 67 [.d (eK (kDone p)),.ptr q 1 0 0,.ptr (q+1+1) 1 0 0] ⟨X',nx⟩=_:=
              fun nx=>withK_ok kn m (kDone p) hpl (by omega) q (q+1+1) ⟨X',nx⟩ (row_of l1 rfl) (row_of l2 rfl)
             rw[e1] at hw1
             have rvv:=fun nx=>row_of (q:=nx) I3.vv (tot:=1) rfl
             rw[drop_at hzx] at hch
             have hKm:KnOk d k (kn.set m (kDone p)++newK t.path c.flds):=K.more (p:=kDone p) hty3 (by show p.nots.length+k≤5000;omega) hpa3 htp hfl (T y hym c hcm) (by omega)
             simp only[e63,hi,iaI hx,hl3,hw1,iaC hcx,wz,opX,intBin,↓reduceIte,simprocAttr]
             refine loop_wp c.flds.length (fun jj e h'=>∃ q'':Nat,q'+1<q''∧h'=⟨(q'+1,.arr 4 (((kn.set m (kDone p)++newK t.path (c.flds.take jj)).map eK).map .d))::X',q''⟩ ∧
              e=[(4,.ptr (a+2) 1 0 0),(9,.fp (D.agg [eIs t.path,.bool true,eI t.num,eIs t.next,eI t.row]) 0),(11,.clo 67 [.ptr q 1 0 0,.ptr (q+1+1) 1 0 0]),(12,.ptr (q+1+1+1) 1 0 0),(15,.d (.lst (y.cons.map eC))),(17,.d (eI x)),(18,.own (q'+1) 4 (kn.length+jj) 0 (kn.length+jj)),(154,.d (eIs t.next)),(155,.d (.int .i64 t.next.length)),(156,.d (.int .i64 (i:Int))),(168,.d (.lst (c.flds.map eI))),(169,.d (.int .i64 c.flds.length)),(170,.d (.int .i64 (jj:Int)))]) _ ?_ ?_ c.flds.length 0 _ _ (by omega) ⟨q'+1+1,by omega,by simp[newK],rfl⟩
             ·rintro jj e h' hjj ⟨q'',hq4,rfl,rfl⟩
              obtain ⟨f,hf⟩:=get_of_lt hjj
              have hwr2:IntKind.i64.wrap ((jj:Int)+1)=((jj+1:Nat):Int):=by rw[wrap_ok (by omega) (by omega)];rfl
              have hlo:=fun h=>longer_ok t.path (jj:Int) (by omega) h
              have hns:=newK_snoc t.path hf
              have happ:∀ q'',app 4 64 ⟨(q'+1,.arr 4 (((kn.set m (kDone p)++newK t.path (c.flds.take jj)).map eK).map .d))::X',q''⟩ (.own (q'+1) 4 (kn.length+jj) 0 (kn.length+jj)) (.tl [.d (D.agg [eIs (t.path++[(jj:Int)]),eI f,.bool false,.lst []])] (some false)) =
                some (.own (q'+1) 4 (kn.length+(jj+1)) 0 (kn.length+(jj+1)),⟨(q'+1,.arr 4 (((kn.set m (kDone p)++newK t.path (c.flds.take (jj+1))).map eK).map .d))::X',q''⟩):=by
               intro q''
               rw[app_tl1]
               have hll:((kn.set m (kDone p)++newK t.path (c.flds.take jj)).map eK).length=kn.length+jj:=by
                rw[List.length_map,List.length_append,List.length_set,newK_len,List.length_take];omega
               have:=own_app (es:=4) (b:=64) (m:=q'+1) (q:=q'') (o:=X') (l:=(kn.set m (kDone p)++newK t.path (c.flds.take jj)).map eK) (r:=[eK ⟨t.path++[(jj:Int)],f,false,[]⟩]) (by intro z hz;rw[List.mem_singleton] at hz;subst hz;rfl) (by rw[hll];simp only[List.length_cons,List.length_nil,roomB];omega)
               rw[List.length_append,hll] at this
               rw[hns]
               simp only[List.map_append,List.append_assoc,List.map_cons,List.map_nil,List.length_cons,List.length_nil,Nat.zero_add,Nat.add_assoc] at this ⊢
               exact this
              simp only[e63,hjj,iaI hf,hlo,hwr2,mk_s,mk_c,mk_n,happ,wz,opX,intBin,↓reduceIte,simprocAttr]
              exact⟨q'',hq4,rfl⟩
             ·rintro e h' ⟨q'',hq4,rfl,rfl⟩
              rw[List.take_length]
              have hfz:Zv.frz ⟨(q'+1,.arr 4 (((kn.set m (kDone p)++newK t.path c.flds).map eK).map .d))::X',q''⟩ (.own (q'+1) 4 (kn.length+c.flds.length) 0 (kn.length+c.flds.length))=some (.d (eKs (kn.set m (kDone p)++newK t.path c.flds)),⟨X',q''⟩):=by
               have:=own_frz (es:=4) (m:=q'+1) (q:=q'') (o:=X') (l:=(kn.set m (kDone p)++newK t.path c.flds).map eK)
               rw[List.length_map,List.length_append,List.length_set,newK_len] at this
               exact this
              obtain ⟨r1,hv1,X2,q2,rfl,I4,hq5,F4⟩:=ih x (kn.set m (kDone p)++newK t.path c.flds) M' X' q'' hc3 (by omega) hKm I3 (by omega)
              simp only[vArgs] at hv1
              have hmo:=chS_mono d l k x (kn.set m (kDone p)++newK t.path c.flds) M'
              rw[chL_cons] at hch
              cases hb1:(chS d l k x (kn.set m (kDone p)++newK t.path c.flds) M').1 with
              |false=>
               rw[hb1] at hv1
               simp only[hb1,Bool.false_eq_true,if_false] at hch
               rw[hch]
               simp only[e63,hfz,rvv,hv1,wz,opX,intBin,↓reduceIte,simprocAttr]
               exact⟨_,rfl,Zv.del X2 (q+1+1+1),q2,rfl,I4.del hc hd (m:=q+1+1+1) (by omega),by omega,(F3.trans F4 (by omega)).del (m:=q+1+1+1) (by omega)⟩
              |true=>
               rw[hb1] at hv1
               simp only[hb1,if_true] at hch
               simp only[e63,hfz,rvv,hv1,hwr,wz,opX,intBin,↓reduceIte,simprocAttr]
               exact⟨X2,q2,_,rfl,I4,by omega,F3.trans F4 (by omega),by rw[F4 q (by omega) (by omega)];exact l1,by rw[F4 (q+1+1) (by omega) (by omega)];exact l2,by rw[F4 (q+1+1+1) (by omega) (by omega)];exact l3,by omega,hch⟩
            ·rintro e h' ⟨X',q',M',rfl,I3,hq3,F3,l1,l2,l3,hc3,hch,rfl⟩
             rw[show (t.next.zip y.cons).drop t.next.length=[] from List.drop_of_length_le (by rw[hzl];exact Nat.le_refl _)] at hch
             rw[hch]
             simp only[e63,wz,opX,intBin,↓reduceIte,simprocAttr]
             exact⟨_,rfl,Zv.del X' (q+1+1+1),q',rfl,I3.del hc hd (m:=q+1+1+1) (by omega),by omega,F3.del (m:=q+1+1+1) (by omega)⟩
           ·have hlf:((t.next.length:Int) == (y.cons.length:Int))=false:=beq_eq_false_iff_ne.2 (fun h=>hle (by omega))
            have hS4:chC d (chS d l k) t kn m p (M.set j true)=(false,M.set j true):=by
             unfold chC;rw[if_neg (fun h=>hle (by rw[h.2,hco]))]
            rw[hS4]
            simp only[e63,hj2,rc,rv,hio,hlb,hst,rc1,iaT ht,hcT,hz,hidx,rq,rq0,hr0,bne,iaK hp,hdn,hty,hcn,bft,btf,hpt2,rdv,hws,iaD hy,hnum,hlf,wz,opX,intBin,↓reduceIte,simprocAttr]
            exact⟨_,rfl,_,_,rfl,I2 _,by omega,F2 _⟩
     ·have hr0:(t.row == 0)=false:=beq_eq_false_iff_ne.2 hrow
      have hS2:chT d (chS d l k) t kn (M.set j true)=(false,M.set j true):=by
       unfold chT;rw[if_neg hnx,if_pos hrow]
      rw[hS2]
      simp only[e63,hj2,rc,rv,hio,hlb,hst,rc1,iaT ht,hcT,hz,hidx,rq,rq0,hr0,bne,wz,opX,intBin,↓reduceIte,simprocAttr]
      exact⟨_,rfl,_,_,rfl,I2 _,by omega,F2 _⟩
end Zc28
end
section
set_option maxHeartbeats 4000000
namespace Zc28
open Go Zv Zs
structure KnD (kn:List Kn):Prop where
 nd:(kn.map Kn.path).Nodup
 par:∀ p,p ∈ kn→∀ (pp:List Int) (j:Int),p.path=pp++[j]→pp≠[]→∃ r,r ∈ kn∧r.path=pp∧r.done=true
 ne:∀ p,p ∈ kn→p.path≠[]
theorem KnD.same {kn:List Kn} (K:KnD kn) {i j:Nat} {p r:Kn} (h1:kn[i]? = some p) (h2:kn[j]? = some r) (h:p.path=r.path):i=j:=by
 have hi:=(List.getElem?_eq_some_iff.1 h1).1
 have e:(kn.map Kn.path)[i]? = (kn.map Kn.path)[j]? := by rw[List.getElem?_map,List.getElem?_map,h1,h2];simp[h]
 exact (List.getElem?_inj (by simpa using hi) K.nd).1 e
theorem set_path {kn:List Kn} {i:Nat} {p p':Kn} (h1:kn[i]? = some p) (h:p'.path=p.path):(kn.set i p').map Kn.path=kn.map Kn.path:=by
 rw[List.map_set]
 apply List.ext_getElem?
 intro n
 rw[List.getElem?_set]
 split
 ·rename_i e;subst e
  rw[List.getElem?_map,h1]
  split
  ·simp[h]
  ·rename_i h2;exact absurd (by simpa using (List.getElem?_eq_some_iff.1 h1).1) h2
 ·rfl
theorem KnD.set {kn:List Kn} (K:KnD kn) {i:Nat} {p p':Kn} (h1:kn[i]? = some p) (h:p'.path=p.path) (hd:p.done=true→p'.done=true):KnD (kn.set i p'):=by
 have hi:=(List.getElem?_eq_some_iff.1 h1).1
 have hpm:=List.mem_of_getElem? h1
 have hin:p' ∈ kn.set i p':=List.mem_set hi p'
 have hm:∀ r,r ∈ kn.set i p'→∃ r',r' ∈ kn∧r.path=r'.path:=by
  intro r hr
  rcases List.mem_or_eq_of_mem_set hr with hr | rfl
  ·exact⟨r,hr,rfl⟩
  ·exact⟨p,hpm,h⟩
 refine ⟨by rw[set_path h1 h];exact K.nd,?_,?_⟩
 ·intro r hr pp j hpp hne
  obtain ⟨r',hr',e⟩:=hm r hr
  obtain ⟨s,hs,e1,e2⟩:=K.par r' hr' pp j (by rw[←e];exact hpp) hne
  obtain ⟨n,hn⟩:=List.mem_iff_getElem?.1 hs
  by_cases hni:n=i
  ·subst hni
   rw[h1] at hn;cases hn
   exact⟨p',hin,by rw[h];exact e1,hd e2⟩
  ·exact⟨s,List.mem_of_getElem? (i:=n) (by rw[List.getElem?_set_ne (fun e=>hni e.symm)];exact hn),e1,e2⟩
 ·intro r hr
  obtain ⟨r',hr',e⟩:=hm r hr
  rw[e];exact K.ne r' hr'
theorem newK_path (path fs:List Int):(newK path fs).map Kn.path=(List.range fs.length).map fun (i:Nat)=>path++[(i:Int)]:=by
 apply List.ext_getElem?
 intro n
 unfold newK
 rw[List.getElem?_map,List.getElem?_map,List.getElem?_zipIdx,List.getElem?_map]
 by_cases hn:n<fs.length
 ·rw[List.getElem?_eq_getElem hn,List.getElem?_range hn];simp
 ·rw[List.getElem?_eq_none (by omega),List.getElem?_eq_none (by rw[List.length_range];omega)];rfl
theorem KnD.more {kn:List Kn} (K:KnD kn) {i:Nat} {p:Kn} (h1:kn[i]? = some p) (hd:p.done=false) (fs:List Int):KnD (kn.set i (kDone p)++newK p.path fs):=by
 have hi:=(List.getElem?_eq_some_iff.1 h1).1
 have hpm:=List.mem_of_getElem? h1
 have S:KnD (kn.set i (kDone p)):=K.set h1 rfl (fun _=>rfl)
 have hin:kDone p ∈ kn.set i (kDone p):=List.mem_set hi _
 have hno:∀ (j:Int),p.path++[j] ∉ kn.map Kn.path:=by
  intro j hj
  obtain ⟨r,hr,e⟩:=List.mem_map.1 hj
  obtain ⟨s,hs,e1,e2⟩:=K.par r hr p.path j e (K.ne p hpm)
  obtain ⟨n,hn⟩:=List.mem_iff_getElem?.1 hs
  have:=K.same hn h1 e1
  subst this
  rw[h1] at hn;cases hn
  rw[hd] at e2;cases e2
 refine ⟨?_,?_,?_⟩
 ·rw[List.map_append,set_path (p':=kDone p) h1 rfl,newK_path,List.nodup_append]
  refine ⟨K.nd,?_,?_⟩
  ·refine List.Pairwise.map _ ?_ (List.nodup_range (n:=fs.length))
   intro a b hab e
   have:=List.append_cancel_left e
   simp at this
   exact hab (by exact_mod_cast this)
  ·intro x hx y hy e
   obtain ⟨j,_,rfl⟩:=List.mem_map.1 hy
   exact hno j (e▸hx)
 ·intro r hr pp j hpp hne
  rcases List.mem_append.1 hr with hr | hr
  ·obtain ⟨s,hs,e1,e2⟩:=S.par r hr pp j hpp hne
   exact⟨s,List.mem_append_left _ hs,e1,e2⟩
  ·obtain ⟨n,f,_,rfl⟩:=newK_mem hr
   have:=List.append_inj' hpp rfl
   exact⟨kDone p,List.mem_append_left _ hin,this.1,rfl⟩
 ·intro r hr
  rcases List.mem_append.1 hr with hr | hr
  ·exact S.ne r hr
  ·obtain ⟨n,f,_,rfl⟩:=newK_mem hr
   simp
theorem idx_uniq {kn:List Kn} (K:KnD kn) (t:Ts) {i:Nat} {p:Kn} (h1:kn[i]? = some p) (h:p.path=t.path):idxZ (hasP t) kn=i:=by
 rcases idxZ_cases (hasP t) kn with hz | ⟨n,x,hz,hx,hp⟩
 ·exfalso
  have:(0≤idxZ (hasP t) kn)=(kn.any (hasP t)=true):=idxZ_nn ..
  rw[hz] at this
  have h2:kn.any (hasP t)=true:=List.any_eq_true.2 ⟨p,List.mem_of_getElem? h1,by unfold hasP;exact decide_eq_true h⟩
  rw[h2] at this
  simp at this
 ·rw[hz]
  have e:x.path=t.path:=of_decide_eq_true hp
  have:=K.same hx h1 (e.trans h.symm)
  rw[this]
end Zc28
end
section
set_option maxHeartbeats 4000000
namespace Zc28
open Go Zv Zs
end Zc28
end
section
set_option maxHeartbeats 4000000
namespace Zc28
open Go Zv Zs
theorem okIs {x:D} (h:ok (EE es) (.one (.l 2)) x):∃ a,x=eIs a∧a.length≤maxLen:=by
 obtain ⟨l,rfl,hl,h2⟩:=ok_l h
 obtain ⟨xs,rfl⟩:=okEs_map (fun _=>okI) h2
 refine ⟨xs,rfl,?_⟩
 rw[List.length_map] at hl
 exact hl
theorem Sml.bd {d:List Dt} (S:Sml d):Bd d:=⟨by have:=S.len;omega,fun y hy=>by have:=(S.ds y hy).2.1;omega,fun y hy c hc=>by have:=((S.ds y hy).2.2 c hc).2;omega⟩
theorem Sml.nm {d:List Dt} (S:Sml d):Nm d:=fun y hy=>⟨by have:=(S.ds y hy).1;omega,fun c hc=>by have:=((S.ds y hy).2.2 c hc).1;omega⟩
theorem check_typed {d:List Dt} (h:checkS d=0):typedS d=true:=by
 unfold checkS at h
 by_cases h1:manyS d=true
 ·rw[if_pos h1] at h;exact absurd h (by decide)
 rw[if_neg h1] at h
 by_cases h2:formedS d=false
 ·rw[if_pos h2] at h;exact absurd h (by decide)
 rw[if_neg h2] at h
 by_cases h3:twiceS d=true
 ·rw[if_pos h3] at h;exact absurd h (by decide)
 rw[if_neg h3] at h
 by_cases h4:typedS d=false
 ·rw[if_pos h4] at h;exact absurd h (by decide)
 simpa using h4
theorem typed_flds {d:List Dt} (h:typedS d=true):∀ y,y ∈ d→∀ c,c ∈ y.cons→∀ f,f ∈ c.flds→isT d f=true:=by
 intro y hy c hc f hf
 rw[typed_any] at h
 cases hi:isT d f with
 |true=>rfl
 |false=>
  have:(d.any fun y=>y.cons.any fun c=>c.flds.any fun f => !isT d f)=true:=
   List.any_eq_true.2 ⟨y,hy,List.any_eq_true.2 ⟨c,hc,List.any_eq_true.2 ⟨f,hf,by rw[hi];rfl⟩⟩⟩
  rw[this] at h;cases h
abbrev kn0 (ts:List Int):List Kn:=newK [] ts
theorem kn0_ok {d:List Dt} {ts:List Int} {k:Nat} (hts:ts.length≤4) (hT:∀ t,t ∈ ts→isT d t=true) (hk:k≤4200):KnOk d k (kn0 ts):=by
 refine ⟨by rw[newK_len];omega,?_,?_,?_⟩<;>intro p hp<;>obtain ⟨i,f,hf,rfl⟩:=newK_mem hp
 ·exact hT f (List.mem_of_getElem? hf)
 ·simp only[List.length_nil];omega
 ·simp
theorem kn0_D (ts:List Int):KnD (kn0 ts):=by
 refine ⟨?_,?_,?_⟩
 ·rw[newK_path]
  refine List.Pairwise.map _ ?_ (List.nodup_range (n:=ts.length))
  intro a b hab e
  simp at e
  exact hab (by exact_mod_cast e)
 ·intro p hp pp j hpp hne
  obtain ⟨i,f,hf,rfl⟩:=newK_mem hp
  have:=congrArg List.length hpp
  simp at this
  exact absurd this hne
 ·intro p hp
  obtain ⟨i,f,hf,rfl⟩:=newK_mem hp
  simp
def badTy (d:List Dt) (t:Int):Bool:=decide (t<0) || decide ((d.length:Int)<t)
theorem badTy_isT {d:List Dt} {t:Int} (h:badTy d t=false):isT d t=true:=by
 unfold badTy at h;unfold isT
 simp only[Bool.or_eq_false_iff,decide_eq_false_iff_not] at h
 rw[decide_eq_true (by omega),decide_eq_true (by omega)];rfl
def visC (d:List Dt) (ts:List Int) (l:List Ts):Bool × List Bool:=chS d l (l.length+1) 0 (kn0 ts) (List.replicate l.length false)
def checkC (d:List Dt) (ts:List Int) (l:List Ts):Int:=if checkS d≠0 then 3 else if ts.any (badTy d)=true then 2 else if (visC d ts l).1=false∨((visC d ts l).2.any fun x=>false == x)=true then 3 else 0
theorem any_take {α:Type} {p:α→Bool} {l:List α} (h:∀ (j:Nat) y,j<l.length→l[j]? = some y→p y=false):l.any p=false:=by
 rw[List.any_eq_false]
 intro y hy
 obtain ⟨n,hn⟩:=List.mem_iff_getElem?.1 hy
 rw[h n y (List.getElem?_eq_some_iff.1 hn).1 hn];simp
theorem mk_kn (a b c:D):norm (V.agg [.tl [.d a] (some false),.d b,.d c,.tl [] (some true)])=.d (.agg [.lst [a],b,c,.lst []]):=rfl
theorem frz_row {h:Hp} {m es:Nat} {l:List D} (hr:h.row m l.length=some (es,l.map .d)):Zv.frz h (.own m es l.length 0 l.length)=some (.d (.lst l),h.kill m):=by
 unfold Zv.frz
 simp only[hr,Option.bind_some,List.length_map,Nat.zero_add,Nat.le_refl,if_true,List.drop_zero]
 rw[List.take_of_length_le (by simp),toDs_map_d]
 rfl
end Zc28
end
section
set_option maxHeartbeats 4000000
namespace Zc28
open Go Zv Zs
theorem finS_e (n:Nat) (h:Hp) (x:D):finS ⟨[],n⟩ h [.d x]=some (.d x,⟨[],n⟩):=by
 have:sufOk [] h.objs=true:=by
  unfold sufOk
  rw[List.length_nil,Nat.sub_zero,List.drop_length]
  exact objsBeq_refl _
 rw[finS,if_pos this]
 rfl
theorem rowQ_rowB {o:List (Nat × Ob)} {nx m es q n tot es':Nat} {s:List D} {els:List V} (h:n≠m) (hr:∀ nx,Hp.row ⟨o,nx⟩ n tot=some (es',els)):(rowQ ⟨o,nx⟩ m es s q).row n tot=some (es',els):=by
 unfold rowQ
 split
 ·exact hr q
 ·exact row_cn h hr
theorem pcheck28_ok {d:List Dt} (S:Sml d) {ts:List Int} (hts:ts.length≤4) {l:List Ts} (L:Light l) (n:Nat):callW tab 28 [.d (eDs d),.d (eIs ts),.d (.agg [eTs l])] ⟨[],n⟩=some (.d (eI (checkC d ts l)),⟨[],n⟩):=by
 refine call_wp (fn:=f28) rfl rfl ?_
 have hc:=fun h=>pcheck_ok S.bd S.nm h
 have hlen:=L.len
 have hB:=S.bd.len
 have hfe:=fun h x=>finS_e n h x
 have c1:(D.agg [eTs l]).cells.length=1:=rfl
 have c2:(eDs d).cells.length=1:=rfl
 have rd:∀ nx,Hp.row ⟨[(n+1,.arr 1 [.d (.agg [eTs l])]),(n,.arr 1 [.d (eDs d)])],nx⟩ n 1=some (1,[.d (eDs d)]):=fun nx=>row_cn (by omega) (fun nx=>by rw[row_hd];rfl)
 have rcx:∀ nx,Hp.row ⟨[(n+1,.arr 1 [.d (.agg [eTs l])]),(n,.arr 1 [.d (eDs d)])],nx⟩ (n+1) 1=some (1,[.d (.agg [eTs l])]):=fun nx=>by rw[row_hd];rfl
 by_cases h0:checkS d=0
 ·have hc0:(checkS d == 0)=true:=by rw[h0];rfl
  simp only[e28,hc,hc0,bne,c1,c2,rd,wz,opX,intBin,↓reduceIte,simprocAttr]
  refine loop_wp ts.length (fun i e h''=>h''=rowQ ⟨[(n+1,.arr 1 [.d (.agg [eTs l])]),(n,.arr 1 [.d (eDs d)])],0⟩ (n+1+1) 4 ((newK [] (ts.take i)).map eK) (if i=0 then n+1+1 else n+1+1+1)∧(∀ (j:Nat) y,j<i→ts[j]? = some y→badTy d y=false) ∧
   e=[(3,.ptr n 1 0 0),(5,.ptr (n+1) 1 0 0),(7,rowN (n+1+1) 4 ((newK [] (ts.take i)).map eK)),(15,.d (eIs ts)),(16,.d (.int .i64 ts.length)),(17,.d (.int .i64 (i:Int)))]) _ ?_ ?_ ts.length 0 _ _ (by omega) ⟨rfl,fun j y hj=>by omega,rfl⟩
  ·rintro i e h' hi ⟨rfl,hno,rfl⟩
   obtain ⟨x,hx⟩:=get_of_lt hi
   have hwr:IntKind.i64.wrap ((i:Int)+1)=((i+1:Nat):Int):=by rw[wrap_ok (by omega) (by omega)];rfl
   have rdq:=fun s q=>rowQ_rowB (nx:=0) (m:=n+1+1) (es:=4) (s:=s) (q:=q) (by omega) rd
   cases hb:badTy d x with
   |true=>
    have hC:checkC d ts l=2:=by
     unfold checkC
     rw[if_neg (by simp[h0]),if_pos (List.any_eq_true.2 ⟨x,List.mem_of_getElem? hx,hb⟩)]
    rw[hC]
    unfold badTy at hb
    by_cases h1:x<0
    ·simp only[e28,hi,iaI hx,h1,hfe,wz,opX,intBin,↓reduceIte,simprocAttr]
    ·have h2:(d.length:Int)<x:=by
      rw[decide_eq_false h1,Bool.false_or] at hb;exact of_decide_eq_true hb
     simp only[e28,hi,iaI hx,h1,h2,rdq,hfe,wz,opX,intBin,↓reduceIte,simprocAttr]
   |false=>
    have hb2:=hb
    unfold badTy at hb
    simp only[Bool.or_eq_false_iff,decide_eq_false_iff_not] at hb
    have hns:=newK_snoc [] hx
    have happ:=rowQ_app ⟨[(n+1,.arr 1 [.d (.agg [eTs l])]),(n,.arr 1 [.d (eDs d)])],0⟩ (m:=n+1+1) (es:=4) (b:=64) (q:=if i=0 then n+1+1 else n+1+1+1) (s:=(newK [] (ts.take i)).map eK) (x:=eK ⟨[(i:Int)],x,false,[]⟩) (nl:=some false) rfl
     (by rw[List.length_map,newK_len,List.length_take];simp only[roomB];omega) (by intro y hy;obtain ⟨z,_,rfl⟩:=List.mem_map.1 hy;rfl)
    have hnm:nmQ ((newK [] (ts.take i)).map eK) (n+1+1) (if i=0 then n+1+1 else n+1+1+1)=n+1+1:=by
     unfold nmQ
     split
     ·rename_i h5
      have:i=0:=by
       have:=congrArg List.length h5
       rw[List.length_map,newK_len,List.length_take,List.length_nil] at this;omega
      rw[if_pos this]
     ·rfl
    have hnq:nqQ ((newK [] (ts.take i)).map eK) (if i=0 then n+1+1 else n+1+1+1)=n+1+1+1:=by
     unfold nqQ
     by_cases h6:i=0
     ·subst h6;rfl
     ·rw[if_neg (fun h5=>by
       have:=congrArg List.length h5
       rw[List.length_map,newK_len,List.length_take,List.length_nil] at this;omega),if_neg h6]
    rw[hnm,hnq] at happ
    have hmap:(newK [] (ts.take (i+1))).map eK=(newK [] (ts.take i)).map eK++[eK ⟨[(i:Int)],x,false,[]⟩]:=by rw[hns,List.map_append];rfl
    rw[←hmap] at happ
    have happ:app 4 64 (rowQ ⟨[(n+1,.arr 1 [.d (.agg [eTs l])]),(n,.arr 1 [.d (eDs d)])],0⟩ (n+1+1) 4 ((newK [] (ts.take i)).map eK) (if i=0 then n+1+1 else n+1+1+1)) (rowN (n+1+1) 4 ((newK [] (ts.take i)).map eK)) (.tl [.d (D.agg [.lst [.int .i64 (i:Int)],.int .i64 x,.bool false,.lst []])] (some false))=_:=happ
    have h01:(i+1=0)=False:=by simp
    simp only[e28,hi,iaI hx,hb.1,hb.2,rdq,hwr,mk_kn,happ,h01,wz,opX,intBin,↓reduceIte,simprocAttr]
    intro j y hj hy
    by_cases e:j=i
    ·subst e;rw[hx] at hy;cases hy;exact hb2
    ·exact hno j y (by omega) hy
  ·rintro e h' ⟨rfl,hno,rfl⟩
   rw[List.take_length]
   have hany:ts.any (badTy d)=false:=any_take hno
   have hT:∀ t,t ∈ ts→isT d t=true:=fun t ht=>badTy_isT (by
    have:=List.any_eq_false.1 hany t ht;simpa using this)
   have h4:¬ (4096:Int)<(l.length:Int):=by omega
   obtain ⟨X0,a,hX,ha,hr0,hfz⟩:∃ (X0:List (Nat × Ob)) (a:Nat),rowQ ⟨[(n+1,.arr 1 [.d (.agg [eTs l])]),(n,.arr 1 [.d (eDs d)])],0⟩ (n+1+1) 4 ((newK [] ts).map eK) (if ts.length=0 then n+1+1 else n+1+1+1)=⟨X0,a⟩∧n+1<a∧(∀ nx,Hp.row ⟨X0,nx⟩ (n+1) 1=some (1,[.d (.agg [eTs l])])) ∧
     ∀ o1 o2 o3 nx,Zv.frz ⟨(a+1+1,o1)::(a+1,o2)::(a,o3)::X0,nx⟩ (rowN (n+1+1) 4 ((newK [] ts).map eK))=some (.d (eKs (kn0 ts)),⟨(a+1+1,o1)::(a+1,o2)::(a,o3)::[(n+1,.arr 1 [.d (.agg [eTs l])]),(n,.arr 1 [.d (eDs d)])],nx⟩):=by
    by_cases h5:ts=[]
    ·subst h5
     exact⟨_,_,rfl,by simp,rcx,fun _ _ _ _=>rfl⟩
    ·have h6:(newK [] ts).map eK≠[]:=fun h=>h5 (by
      have:=congrArg List.length h
      rw[List.length_map,newK_len] at this
      exact List.length_eq_zero_iff.1 this)
     have h7:¬ ts.length=0:=fun h=>h5 (List.length_eq_zero_iff.1 h)
     refine ⟨(n+1+1,.arr 4 (((newK [] ts).map eK).map .d))::[(n+1,.arr 1 [.d (.agg [eTs l])]),(n,.arr 1 [.d (eDs d)])],n+1+1+1,?_,by omega,fun nx=>row_cn (by omega) rcx,?_⟩
     ·unfold rowQ;rw[if_neg h6,if_neg h7]
     ·intro o1 o2 o3 nx
      unfold rowN
      rw[if_neg h6]
      have hr:Hp.row ⟨(n+1+1+1+1+1,o1)::(n+1+1+1+1,o2)::(n+1+1+1,o3)::(n+1+1,.arr 4 (((newK [] ts).map eK).map .d))::[(n+1,.arr 1 [.d (.agg [eTs l])]),(n,.arr 1 [.d (eDs d)])],nx⟩ (n+1+1) ((newK [] ts).map eK).length=some (4,((newK [] ts).map eK).map .d):=
       row_look (by rw[look_tl _ _ (by omega),look_tl _ _ (by omega),look_tl _ _ (by omega),look_hd]) (by simp)
      rw[frz_row hr]
      simp[Hp.kill,del]
   rw[hX]
   have hmk:∀ o,mkslO (.d (.bool false)) 1 1 ⟨o,a⟩ (.d (.int .i64 (l.length:Int)))=some (.own a 1 l.length 0 l.length,⟨(a,.arr 1 ((List.replicate l.length false).map bV))::o,a+1⟩):=by
    intro o
    simp only[mkslO,ixOf_nat,Option.bind_some]
    rw[if_pos (by unfold roomB;omega)]
    simp[Hp.alloc]
   let X:List (Nat × Ob):=(a+1+1,.arr 1 [.clo 63 [.ptr (n+1) 1 0 0,.ptr (a+1) 1 0 0,.ptr (a+1+1) 1 0 0,.ptr n 1 0 0]])::(a+1,.arr 1 [.own a 1 l.length 0 l.length])::(a,.arr 1 ((List.replicate l.length false).map bV))::[(n+1,.arr 1 [.d (.agg [eTs l])]),(n,.arr 1 [.d (eDs d)])]
   have I0:VI d l a n (n+1) X (List.replicate l.length false):=by
    refine ⟨by simp,?_,?_,?_,?_,?_⟩
    ·show Zv.look X a=_
     rw[look_tl _ _ (by omega),look_tl _ _ (by omega),look_hd]
    ·show Zv.look X (a+1)=_
     rw[look_tl _ _ (by omega),look_hd]
    ·show Zv.look X (a+1+1)=_
     rw[look_hd]
    ·show Zv.look X (n+1)=_
     rw[look_tl _ _ (by omega),look_tl _ _ (by omega),look_tl _ _ (by omega),look_hd]
    ·show Zv.look X n=_
     rw[look_tl _ _ (by omega),look_tl _ _ (by omega),look_tl _ _ (by omega),look_tl _ _ (by omega),look_hd]
   obtain ⟨r,hv,X',q',rfl,I1,hq',F1⟩:=visit_ok L S.bd (fun y hy c hc=>((S.ds y hy).2.2 c hc).2) (typed_flds (check_typed h0)) (a:=a) (dv:=n) (cv:=n+1) (by omega) (by omega) (l.length+1) 0 (kn0 ts) (List.replicate l.length false) X (a+1+1+1) (by omega) (by omega) (kn0_ok hts hT (by omega)) I0 (by omega)
   have hC:checkC d ts l=if (visC d ts l).1=false∨((visC d ts l).2.any fun x=>false == x)=true then 3 else 0:=by
    unfold checkC;rw[if_neg (by simp[h0]),if_neg (by rw[hany];simp)]
   rw[hC]
   have hv:callW tab 63 [.d (eI 0),.d (eKs (kn0 ts)),.ptr (n+1) 1 0 0,.ptr (a+1) 1 0 0,.ptr (a+1+1) 1 0 0,.ptr n 1 0 0] ⟨X,a+1+1+1⟩=some (.d (.bool (visC d ts l).1),⟨X',q'⟩):=hv
   have I1:VI d l a n (n+1) X' (visC d ts l).2:=I1
   have hcb:=containsB (h:=⟨X',q'⟩) (L:=l.length) (row_of I1.rr (by rw[List.length_map];exact I1.len)) I1.len (by omega) false
   have rv:=row_of (q:=q') I1.rv (tot:=1) rfl
   simp only[X] at hv
   cases hb:(visC d ts l).1 with
   |false=>
    rw[hb] at hv
    rw[if_pos (.inl rfl)]
    simp only[e28,hr0,h4,hmk,hfz,hv,hfe,wz,opX,intBin,↓reduceIte,simprocAttr]
   |true=>
    rw[hb] at hv
    cases hm:((visC d ts l).2.any fun x=>false == x) with
    |true=>
     rw[hm] at hcb
     rw[if_pos (.inr rfl)]
     simp only[e28,hr0,h4,hmk,hfz,hv,rv,hcb,hfe,wz,opX,intBin,↓reduceIte,simprocAttr]
    |false=>
     rw[hm] at hcb
     rw[if_neg (by simp)]
     simp only[e28,hr0,h4,hmk,hfz,hv,rv,hcb,hfe,wz,opX,intBin,↓reduceIte,simprocAttr]
 ·have hc0:(checkS d == 0)=false:=beq_eq_false_iff_ne.2 h0
  have hC:checkC d ts l=3:=by unfold checkC;rw[if_pos h0]
  simp only[e28,hc,hc0,bne,hC,c1,c2,rd,hfe,wz,opX,intBin,↓reduceIte,simprocAttr]
end Zc28
end
section
set_option maxHeartbeats 4000000
namespace Zc28
open Go Zv Zs
inductive Pt where
 |mk (k c n:Int) (qs:List Pt)
mutual
def ePt:Pt→D
 | .mk k c n qs=>.agg [.int .i64 k,.int .i64 c,.int .i64 n,.lst (eL qs)]
def eL:List Pt→List D
 | []=>[]
 |p::r=>ePt p::eL r
end
theorem eL_map:∀ l:List Pt,eL l=l.map ePt
 | []=>rfl
 |p::r=>by rw[eL,eL_map r];rfl
theorem ePt_mk (k c n:Int) (qs:List Pt):ePt (.mk k c n qs)=.agg [.int .i64 k,.int .i64 c,.int .i64 n,.lst (qs.map ePt)]:=by rw[ePt,eL_map]
theorem ePt_cells (p:Pt):(ePt p).cells.length=4:=by
 cases p;rfl
theorem aggP (p:Pt):D.agg (List.take 4 (ePt p).cells)=ePt p:=by
 cases p;rfl
theorem pts:(∀ p,(ePt p).cells.length=4)∧(∀ p,D.agg (List.take 4 (ePt p).cells)=ePt p)∧((4:Nat)≤4 ↔ True):=⟨ePt_cells,aggP,by simp⟩
abbrev ePs (l:List Pt):D:=.lst (l.map ePt)
abbrev eRs (l:List (List Pt)):D:=.lst (l.map ePs)
theorem iaP {l:List Pt} {n:Nat} {x:Pt} (hx:l[n]? = some x):ia 4 (.d (.lst (l.map ePt))) (.d (.int .i64 (n:Int)))=some (.fp (ePt x) 0):=ia_map (f:=ePt) .i64 hx (ePt_cells x)
theorem iaR {l:List (List Pt)} {n:Nat} {x:List Pt} (hx:l[n]? = some x):ia 1 (.d (.lst (l.map ePs))) (.d (.int .i64 (n:Int)))=some (.fp (ePs x) 0):=ia_map (f:=ePs) .i64 hx rfl
mutual
def cntP:Pt→Nat
 | .mk _ _ _ qs=>cntL qs+1
def cntL:List Pt→Nat
 | []=>0
 |p::r=>cntP p+cntL r
end
theorem cntP_pos (p:Pt):1≤cntP p:=by cases p;simp[cntP]
theorem cntL_len:∀ l:List Pt,l.length≤cntL l
 | []=>Nat.le_refl _
 |p::r=>by have:=cntL_len r;have:=cntP_pos p;rw[List.length_cons,cntL];omega
theorem cntL_mem:∀ {l:List Pt} {p:Pt},p ∈ l→cntP p≤cntL l
 |q::r,p,h=>by
  rw[cntL]
  rcases List.mem_cons.1 h with rfl | h
  ·omega
  ·have:=cntL_mem h;omega
end Zc28
end
section
set_option maxHeartbeats 4000000
namespace Zc28
open Go Zv Zs
def argsP:Pt→List Pt
 | .mk _ _ _ qs=>qs
mutual
def p2P:Pt→Nat→Nat
 | .mk _ _ _ qs,n=>p2L qs n
def p2L:List Pt→Nat→Nat
 | [],n=>n
 |p::r,n=>if 60<n+1 then n+1 else p2L r (p2P p (n+1))
end
mutual
theorem p2P_eq:∀ (p:Pt) (n:Nat),n≤p2P p n∧(p2P p n≤60→p2P p n+1=n+cntP p)
 | .mk k c q qs,n=>by
  have:=p2L_eq qs n
  rw[p2P,cntP]
  exact⟨this.1,fun h=>by have:=this.2 h;omega⟩
theorem p2L_eq:∀ (l:List Pt) (n:Nat),n≤p2L l n∧(p2L l n≤60→p2L l n=n+cntL l)
 | [],n=>by rw[p2L,cntL];exact⟨Nat.le_refl _,fun _=>rfl⟩
 |p::r,n=>by
  rw[p2L,cntL]
  split
  ·exact⟨by omega,fun h=>by omega⟩
  ·have h1:=p2P_eq p (n+1)
   have h2:=p2L_eq r (p2P p (n+1))
   exact⟨by omega,fun h=>by have:=h2.2 h;have:=h1.2 (by omega);omega⟩
end
mutual
theorem p2P_le:∀ (p:Pt) (n:Nat),n≤60→p2P p n≤121 - n
 | .mk k c q qs,n,h=>by rw[p2P];exact p2L_le qs n h
theorem p2L_le:∀ (l:List Pt) (n:Nat),n≤60→p2L l n≤121 - n
 | [],n,h=>by rw[p2L];omega
 |p::r,n,h=>by
  rw[p2L]
  split
  ·omega
  ·have h1:=p2P_le p (n+1) (by omega)
   have h3:=(p2P_eq p (n+1)).1
   by_cases hm:p2P p (n+1)≤60
   ·have:=p2L_le r (p2P p (n+1)) hm;omega
   ·cases r with
    |nil=>rw[p2L];omega
    |cons q r=>rw[p2L,if_pos (by omega)];omega
end
theorem p2L_big {p:Pt} {r:List Pt} {n:Nat} (h:60≤n):p2L (p::r) n=n+1:=by rw[p2L,if_pos (by omega)]
theorem parts_ok:∀ (l:List Pt) (n:Nat),n≤60→∀ h,callW tab 32 [.d (ePs l),.d (.int .i64 n)] h=some (.d (.int .i64 (p2L l n)),h)
 |l,n,hn,h=>by
  have hrec:∀ p,p ∈ l→∀ (n:Nat),n≤60→∀ h,callW tab 32 [.d (ePs (argsP p)),.d (.int .i64 (n:Int))] h=some (.d (.int .i64 (p2P p n)),h):=by
   intro p hp n hn h
   have hc:=cntL_mem hp
   obtain ⟨k,c,q,qs⟩:=p
   rw[cntP] at hc
   have:=parts_ok qs n hn h
   have e:p2P (.mk k c q qs) n=p2L qs n:=by rw[p2P]
   show callW tab 32 [.d (ePs qs),.d (.int .i64 (n:Int))] h=_
   rw[this,e]
  refine call_wp (fn:=f32) rfl rfl ?_
  simp only[e32,wz,opX,intBin,↓reduceIte,simprocAttr]
  refine loop_wp l.length (fun j e h'=>∃ m:Nat,(∃ q,h'=⟨h.objs,q⟩)∧j≤m∧m≤121∧p2L l n=p2L (l.drop j) m∧e=[(1,.d (.int .i64 (m:Int))),(7,.d (ePs l)),(8,.d (.int .i64 l.length)),(9,.d (.int .i64 (j:Int)))]) _ ?_ ?_ l.length 0 _ _ (by omega) ⟨n,⟨_,rfl⟩,by omega,by omega,rfl,rfl⟩
  ·rintro j e h' hj ⟨m,⟨q,rfl⟩,hjm,hm,heq,rfl⟩
   obtain ⟨p,hp⟩:=get_of_lt hj
   rw[drop_at hp] at heq
   have hw0:=wrap_succ (show m<2 ^ 62 by omega)
   by_cases hm6:m+1≤60
   ·have hle:¬ (60:Int)<((m+1:Nat):Int):=by omega
    have hr:=hrec p (List.mem_of_getElem? hp) (m+1) hm6
    have hpc:=p2P_le p (m+1) hm6
    have hpe:=p2P_eq p (m+1)
    rw[p2L,if_neg (by omega)] at heq
    obtain ⟨k,c,q',qs⟩:=p
    have hia:=iaP hp
    rw[ePt_mk] at hia
    have hcl:(D.agg [.int .i64 k,.int .i64 c,.int .i64 q',.lst (qs.map ePt)]).cells.length=4:=rfl
    have hr':∀ h,callW tab 32 [.d (.lst (qs.map ePt)),.d (.int .i64 ((m+1:Nat):Int))] h=some (.d (.int .i64 (p2P (.mk k c q' qs) (m+1))),h):=hr
    simp only[e32,hj,hle,hia,hcl,hw0,hr',wrap_succ (show j<2 ^ 62 by omega),wz,opX,intBin,↓reduceIte,simprocAttr]
    exact⟨_,⟨_,rfl⟩,by omega,by omega,heq,rfl⟩
   ·have hle:(60:Int)<((m+1:Nat):Int):=by omega
    rw[heq,p2L_big (by omega)]
    obtain ⟨k,c,q',qs⟩:=p
    have hia:=iaP hp
    rw[ePt_mk] at hia
    have hcl:(D.agg [.int .i64 k,.int .i64 c,.int .i64 q',.lst (qs.map ePt)]).cells.length=4:=rfl
    simp only[e32,hj,hle,hia,hcl,hw0,wz,opX,intBin,↓reduceIte,simprocAttr]
  ·rintro e h' ⟨m,⟨q,rfl⟩,hjm,hm,heq,rfl⟩
   rw[show l.drop l.length=[] from List.drop_of_length_le (Nat.le_refl _),p2L] at heq
   rw[heq]
   simp only[e32,wz,opX,intBin,↓reduceIte,simprocAttr]
termination_by l=>cntL l
decreasing_by
 have:=cntL_mem hp
 rw[cntP] at this
 omega
structure Few8 (d:List Dt) (ts:List Int) (l:List (List Pt)):Prop where
 sml:Sml d
 ts:ts.length≤4
 rows:l.length≤6
 row:∀ r,r ∈ l→r.length≤5∧cntL r≤12
theorem few_ok (d:List Dt) (ts:List Int) (l:List (List Pt)) (h:Hp):∃ b,callW tab 9 [.d (eDs d),.d (eIs ts),.d (eRs l)] h=some (.d (.bool b),h)∧(b=true→Few8 d ts l):=by
 obtain ⟨b,hb,hs⟩:=small_ok d h
 obtain ⟨r,h1,b',rfl,h2⟩:∃ r,callW tab 9 [.d (eDs d),.d (eIs ts),.d (eRs l)] h=some r∧∃ b,r=(.d (.bool b),h)∧(b=true→Few8 d ts l):=by
  refine call_wpE (fn:=f9) rfl rfl ?_
  cases b with
  |false=>
   simp only[e9,hb,wz,opX,intBin,↓reduceIte,simprocAttr]
   exact⟨_,rfl,false,rfl,fun h=>by cases h⟩
  |true=>
   by_cases q1:(4:Int)<(ts.length:Int)
   ·simp only[e9,hb,q1,wz,opX,intBin,↓reduceIte,simprocAttr]
    exact⟨_,rfl,false,rfl,fun h=>by cases h⟩
   by_cases q2:(6:Int)<(l.length:Int)
   ·simp only[e9,hb,q1,q2,wz,opX,intBin,↓reduceIte,simprocAttr]
    exact⟨_,rfl,false,rfl,fun h=>by cases h⟩
   simp only[e9,hb,q1,q2,wz,opX,intBin,↓reduceIte,simprocAttr]
   refine loop_wp l.length (fun n e h'=>h'=h∧(∀ (j:Nat) r,j<n→l[j]? = some r→r.length≤5∧cntL r≤12)∧e=[(22,.d (eRs l)),(23,.d (.int .i64 l.length)),(24,.d (.int .i64 (n:Int)))]) _ ?_ ?_ l.length 0 _ _ (by omega) ⟨rfl,fun j r hj=>by omega,rfl⟩
   ·rintro n e h' hn ⟨rfl,hall,rfl⟩
    obtain ⟨r,hr⟩:=get_of_lt hn
    have hp:∀ h,callW tab 32 [.d (ePs r),.d (.int .i64 0)] h=some (.d (.int .i64 (p2L r 0)),h):=fun h=>parts_ok r 0 (by omega) h
    have hpe:=p2L_eq r 0
    by_cases q3:(5:Int)<(r.length:Int)
    ·simp only[e9,hn,iaR hr,q3,wz,opX,intBin,↓reduceIte,simprocAttr]
     exact⟨_,rfl,false,rfl,fun h=>by cases h⟩
    by_cases q4:(12:Int)<((p2L r 0:Nat):Int)
    ·simp only[e9,hn,iaR hr,q3,hp,q4,wz,opX,intBin,↓reduceIte,simprocAttr]
     exact⟨_,rfl,false,rfl,fun h=>by cases h⟩
    simp only[e9,hn,iaR hr,q3,hp,q4,wrap_succ (show n<2 ^ 62 by omega),wz,opX,intBin,↓reduceIte,simprocAttr]
    intro j r' hj hr'
    by_cases e:j=n
    ·subst e;rw[hr] at hr';cases hr'
     have:=hpe.2 (by omega)
     exact⟨by omega,by omega⟩
    ·exact hall j r' (by omega) hr'
   ·rintro e h' ⟨rfl,hall,rfl⟩
    simp only[e9,wz,opX,intBin,↓reduceIte,simprocAttr]
    refine ⟨_,rfl,true,rfl,fun _=>⟨hs rfl,by omega,by omega,fun r hr=>?_⟩⟩
    obtain ⟨j,hj,hjr⟩:=mem_get hr
    exact hall j r hj hjr
 exact⟨b',h1,h2⟩
end Zc28
end
section
set_option maxHeartbeats 4000000
namespace Zc28
open Go Zv Zs
theorem idxFP (l:List Pt) (cv:V) (p:Pt→Bool) (h:Hp) (hl:l.length<2 ^ 60) (hcv:norm cv=cv) (hc:∀ c,c ∈ l→cW tab cv [.d (ePt c)] h=some (.d (.bool (p c)),h)) :
  callW tab 38 [.d (.lst (l.map ePt)),cv] h=some (.d (eI (idxZ p l)),h):=by
 refine call_wp (fn:=f38) rfl rfl ?_
 have hloop:=loop_find (T:=tab) (a:=f38l0) (l:=l) (p:=p) (f:=fun n=>[(0,.d (.lst (l.map ePt))),(1,cv),(7,int l.length),(8,int n)]) (h:=h)
   (by intro n x hx hlt hp;have hcall:=hc x (List.mem_of_getElem? hx);all_goals (apply wq_ex.1;simp only[hlt,hp,e38,iaP hx,pts,hcall,wrap_succ (show n<2 ^ 62 by omega),wz,opX,intBin,↓reduceIte,simprocAttr]))
   (by intro n x hx hlt hp;have hcall:=hc x (List.mem_of_getElem? hx);all_goals (apply wq_ex.1;simp only[hlt,hp,e38,iaP hx,pts,hcall,wrap_succ (show n<2 ^ 62 by omega),wz,opX,intBin,↓reduceIte,simprocAttr]<;>rfl))
   (by apply wq_ex.1;simp only[e38,wz,opX,intBin,↓reduceIte,simprocAttr]<;>rfl)
   (by intro n x;simp) (by simp)
 simp only[int,Zv.bool,Int.cast_ofNat_Int] at hloop
 simp only[e38,hcv,wq_of hloop,wz,opX,intBin,↓reduceIte,simprocAttr]
 unfold idxZ
 cases fst? p 0 l with
 |none=>simp only[e38,wz,opX,intBin,↓reduceIte,simprocAttr]
 |some n=>simp only[e38,wz,opX,intBin,↓reduceIte,simprocAttr]
theorem conFP (l:List Pt) (cv:V) (p:Pt→Bool) (h:Hp) (hl:l.length<2 ^ 60) (hcv:norm cv=cv) (hc:∀ c,c ∈ l→cW tab cv [.d (ePt c)] h=some (.d (.bool (p c)),h)) :
  callW tab 78 [.d (.lst (l.map ePt)),cv] h=some (.d (.bool (l.any p)),h):=by
 refine call_wp (fn:=f78) rfl rfl ?_
 have hi:=idxFP l cv p h hl hcv hc
 simp only[e78,hcv,hi,idxZ_nn,Bool.decide_eq_true,wz,opX,intBin,↓reduceIte,simprocAttr]
mutual
def deepP:Pt→Nat→Bool
 | .mk _ _ _ qs,k=>decide (64<k) || deepL qs (k+1)
def deepL:List Pt→Nat→Bool
 | [],_=>false
 |p::r,k=>deepP p k || deepL r k
end
theorem deepL_any (k:Nat):∀ l:List Pt,deepL l k=l.any fun p=>deepP p k
 | []=>by rw[deepL];rfl
 |p::r=>by rw[deepL,deepL_any k r,List.any_cons]
theorem deep_ok:∀ (p:Pt) (k:Nat),k≤65→cntP p<2 ^ 60→∀ h,callW tab 80 [.d (ePt p),.d (.int .i64 (k:Int))] h=some (.d (.bool (deepP p k)),h)
 | .mk kd c m qs,k,hk,hc,h=>by
  have hlen:=cntL_len qs
  rw[cntP] at hc
  rw[deepP,ePt_mk]
  refine call_wp (fn:=f80) rfl rfl ?_
  by_cases h6:64<k
  ·have hk':(64:Int)<(k:Int):=by omega
   have e:(decide (64<k) || deepL qs (k+1))=true:=by simp[h6]
   rw[e]
   simp only[e80,hk',wz,opX,intBin,↓reduceIte,simprocAttr]
  ·have hk':¬ (64:Int)<(k:Int):=by omega
   have e:(decide (64<k) || deepL qs (k+1))=qs.any fun p=>deepP p (k+1):=by simp[h6,deepL_any]
   rw[e]
   have hcl:=conFP qs (.clo 126 [.ptr (h.next+1) 1 0 0]) (fun p=>deepP p (k+1)) ⟨(h.next+1,.arr 1 [.d (.int .i64 (k:Int))])::h.objs,h.next+2⟩ (by omega) rfl (by
    intro p hp
    have hcp:=cntL_mem hp
    have hr:=fun h=>deep_ok p (k+1) (by omega) (by omega) h
    rw[cW_clo]
    simp only[Nat.reduceBEq,Bool.false_eq_true,if_false]
    refine call_wp (fn:=f126) rfl rfl ?_
    have hw:=wrap_succ (show k<2 ^ 62 by omega)
    have hrow:∀ (v:V) (nx:Nat),Hp.row ⟨(h.next+1+1,.arr 4 [v])::(h.next+1,.arr 1 [.d (.int .i64 (k:Int))])::h.objs,nx⟩ (h.next+1) 1=some (1,[.d (.int .i64 (k:Int))]):=fun v nx=>by
     unfold Hp.row Hp.get;simp[Zv.look]
    simp only[e126,pts,hrow,hw,hr,wz,opX,intBin,↓reduceIte,simprocAttr])
   simp only[e80,hk',hcl,wz,opX,intBin,↓reduceIte,simprocAttr]
termination_by p=>cntP p
decreasing_by
 have:=cntL_mem hp
 rw[cntP]
 omega
mutual
def fitsP (d:List Dt) (t:Int):Pt→Bool
 | .mk k c m qs=>if k=0 then decide (c=0) && decide (m=0) && decide (qs.length=0) else if k=2 then decide (t=0) && decide (c=0) && decide (qs.length=0) else if k=1 then
   (!(decide (t=0) || !decide (m=0) || decide (c<0) || decide (((consOf d t).length:Int)≤c))) && (match (consOf d t)[c.toNat]? with
    |some y=>decide (y.flds.length=qs.length) && fitsL d y.flds qs
    |none=>false) else false
def fitsL (d:List Dt):List Int→List Pt→Bool
 |f::fs,q::qs=>fitsP d f q && fitsL d fs qs
 |_,_=>true
end
theorem fld_isT27 {d:List Dt} (T:typedS d=true) {t f:Int} {c:Cn} (hc:c ∈ consOf d t) (hf:f ∈ c.flds):isT d f=true:=by
 rcases tcase d t with h0 | h0 | ⟨n,y,rfl,hy⟩
 ·rw[consOf_lo h0] at hc;cases hc
 ·rw[consOf_hi h0] at hc;cases hc
 ·rw[consOf_at hy] at hc
  unfold typedS at T
  rw[List.all_eq_true] at T
  have:=T y (List.mem_of_getElem? hy)
  rw[List.all_eq_true] at this
  have:=this c hc
  rw[List.all_eq_true] at this
  exact this f hf
def badF (d:List Dt) (x:Int × Pt):Bool := !fitsP d x.1 x.2
theorem fitsL_any (d:List Dt):∀ (fs:List Int) (qs:List Pt),fitsL d fs qs = !(fs.zip qs).any (badF d)
 | [],[]=>by simp[fitsL]
 | [],_::_=>by simp[fitsL]
 |_::_,[]=>by simp[fitsL]
 |f::fs,q::qs=>by
  rw[fitsL,fitsL_any d fs qs,List.zip_cons_cons,List.any_cons]
  simp[badF]
theorem zip_at {α β:Type} {l:List α} {r:List β} {n:Nat} {x:α × β} (h:(l.zip r)[n]? = some x):l[n]? = some x.1∧r[n]? = some x.2:=by
 rw[List.getElem?_zip_eq_some] at h
 exact h
theorem fits_ok {d:List Dt} (B:Bd d) (T:typedS d=true):∀ (p:Pt) (t:Int),isT d t=true→cntP p<2 ^ 60→∀ h,callW tab 81 [.d (eDs d),.d (eI t),.d (ePt p)] h=some (.d (.bool (fitsP d t p)),h)
 | .mk kd c m qs,t,hT,hc,h=>by
  have hlen:=cntL_len qs
  rw[cntP] at hc
  rw[fitsP,ePt_mk]
  refine call_wp (fn:=f81) rfl rfl ?_
  by_cases k0:kd=0
  ·subst k0
   rw[if_pos rfl]
   by_cases c0:c=0<;>by_cases m0:m=0<;>by_cases q0:qs.length=0<;>(have q0':((qs.length:Int) == 0)=decide (qs.length=0):=by simp[ibeq])<;>simp only[e81,ibeq,c0,m0,q0,q0',wz,opX,intBin,↓reduceIte,simprocAttr]
  ·rw[if_neg k0]
   by_cases k2:kd=2
   ·subst k2
    rw[if_pos rfl]
    by_cases c0:c=0<;>by_cases t0:t=0<;>by_cases q0:qs.length=0<;>(have q0':((qs.length:Int) == 0)=decide (qs.length=0):=by simp[ibeq])<;>simp only[e81,ibeq,c0,t0,q0,q0',wz,opX,intBin,↓reduceIte,simprocAttr]
   ·rw[if_neg k2]
    by_cases k1:kd=1
    ·subst k1
     rw[if_pos rfl]
     by_cases t0:t=0
     ·simp only[e81,ibeq,t0,wz,opX,intBin,↓reduceIte,simprocAttr]
      simp
     ·by_cases m0:m=0
      ·by_cases cn:c<0
       ·simp only[e81,ibeq,ibne,t0,m0,cn,wz,opX,intBin,↓reduceIte,simprocAttr]
        simp
       ·rcases tcase d t with h0 | h0 | ⟨j,y,rfl,hy⟩
        ·exfalso;simp only[isT,Bool.and_eq_true,decide_eq_true_eq] at hT;omega
        ·exfalso;simp only[isT,Bool.and_eq_true,decide_eq_true_eq] at hT;omega
        ·have b:=B.at hy
         have hw:=wrap_sub1 (n:=j) (by omega)
         rw[consOf_at hy]
         by_cases hge:(y.cons.length:Int)≤c
         ·simp only[e81,ibeq,ibne,t0,m0,cn,hw,iaD hy,hge,wz,opX,intBin,↓reduceIte,simprocAttr]
          simp
         ·obtain ⟨i,rfl⟩:∃ i:Nat,c=(i:Int):=⟨c.toNat,by omega⟩
          obtain ⟨z,hz⟩:=get_of_lt (l:=y.cons) (n:=i) (by omega)
          rw[Int.toNat_natCast,hz]
          simp only
          have hge':¬ y.cons.length≤i:=by omega
          have bc:=B.cat hy hz
          have e0:(decide (((j:Int)+1)=0) || !decide (m=0) || decide ((i:Int)<0) || decide ((y.cons.length:Int)≤(i:Int)))=false:=by
           have a1:¬ ((j:Int)+1=0):=by omega
           have a2:¬ ((i:Int)<0):=by omega
           have a3:¬ ((y.cons.length:Int)≤(i:Int)):=hge
           simp[a1,a2,a3,m0]
          rw[e0,Bool.not_false,Bool.true_and]
          by_cases hl:z.flds.length=qs.length
          ·rw[decide_eq_true hl,Bool.true_and,fitsL_any]
           have hl':((z.flds.length:Int) != (qs.length:Int))=false:=by simp[hl]
           have hzl:(z.flds.zip qs).length=qs.length:=by rw[List.length_zip];omega
           obtain ⟨hloopq,hloop⟩:=loop_anyq (T:=tab) (a:=f81l0) (l:=z.flds.zip qs) (p:=badF d) (f:=fun n=>[(0,.d (eDs d)),(7,.d (eIs z.flds)),(87,.d (ePs qs)),(88,.d (.int .i64 qs.length)),(89,int n)]) (h:=⟨h.objs,h.next+1⟩)
             (by intro q n x hx hlt hp;(have hxz:=zip_at hx);(have hcp:=cntL_mem (List.mem_of_getElem? hxz.2));(have hfT:=fld_isT27 T (t:=(j:Int)+1) (by rw[consOf_at hy];exact List.mem_of_getElem? hz) (List.mem_of_getElem? hxz.1));(have hr:=fun h=>fits_ok B T x.2 x.1 hfT (by omega) h);(have hlt':n<qs.length:=by omega);(have hpb:fitsP d x.1 x.2 = !(badF d x):=by simp[badF]);rw[hp] at hpb;all_goals (simp only[hlt,hp,e81,iaP hxz.2,iaI hxz.1,pts,hr,hlt',hpb,wrap_succ (show n<2 ^ 62 by omega),wz,opX,intBin,↓reduceIte,simprocAttr]<;>(first | exact⟨_,rfl⟩ | exact⟨_,rfl,rfl⟩ | exact⟨_,rfl,rfl,rfl⟩)))
             (by intro q n x hx hlt hp;(have hxz:=zip_at hx);(have hcp:=cntL_mem (List.mem_of_getElem? hxz.2));(have hfT:=fld_isT27 T (t:=(j:Int)+1) (by rw[consOf_at hy];exact List.mem_of_getElem? hz) (List.mem_of_getElem? hxz.1));(have hr:=fun h=>fits_ok B T x.2 x.1 hfT (by omega) h);(have hlt':n<qs.length:=by omega);(have hpb:fitsP d x.1 x.2 = !(badF d x):=by simp[badF]);rw[hp] at hpb;all_goals (simp only[hlt,hp,e81,iaP hxz.2,iaI hxz.1,pts,hr,hlt',hpb,wrap_succ (show n<2 ^ 62 by omega),wz,opX,intBin,↓reduceIte,simprocAttr]<;>(first | exact⟨_,rfl⟩ | exact⟨_,rfl,rfl⟩ | exact⟨_,rfl,rfl,rfl⟩)))
             (by intro q;simp only[e81,hzl,wz,opX,intBin,↓reduceIte,simprocAttr]<;>(first | exact⟨_,rfl⟩ | exact⟨_,rfl,rfl⟩ | exact⟨_,rfl,rfl,rfl⟩))
             (by simp) (by simp)
           simp only[int,Zv.bool,Int.cast_ofNat_Int] at hloop
           simp only[e81,ibeq,ibne,t0,m0,cn,hw,iaD hy,iaC hz,hge',hl',wq_of hloop,wz,opX,intBin,↓reduceIte,simprocAttr]
           cases (z.flds.zip qs).any (badF d)<;>simp only[e81,wz,opX,intBin,↓reduceIte,simprocAttr]
          ·rw[decide_eq_false hl,Bool.false_and]
           have hl':((z.flds.length:Int) != (qs.length:Int))=true:=by simp;omega
           simp only[e81,ibeq,ibne,t0,m0,cn,hw,iaD hy,iaC hz,hge',hl',wz,opX,intBin,↓reduceIte,simprocAttr]
      ·simp only[e81,ibeq,ibne,t0,m0,wz,opX,intBin,↓reduceIte,simprocAttr]
       simp[m0]
    ·rw[if_neg k1]
     simp only[e81,ibeq,k0,k1,k2,wz,opX,intBin,↓reduceIte,simprocAttr]
termination_by p=>cntP p
decreasing_by
 all_goals
  have:=cntL_mem (List.mem_of_getElem? (zip_at hx).2)
  rw[cntP]
  omega
end Zc28
end
section
set_option maxHeartbeats 4000000
namespace Zc28
open Go Zv Zs
def badT (d:List Dt) (t:Int):Bool := !isT d t
def deepR (r:List Pt):Bool:=r.any fun p=>deepP p 0
def badR (d:List Dt) (ts:List Int) (r:List Pt):Bool := !(decide (r.length=ts.length) && !(ts.zip r).any (badF d))
def chk27 (d:List Dt) (ts:List Int) (l:List (List Pt)):Int:=
 if checkS d≠0 then 3 else if 8<ts.length∨64<l.length then 6 else if ts.any (badT d)=true then 2 else if l.any deepR=true then 7 else if l.any (badR d ts)=true then 10 else 0
structure Rng (d:List Dt) (ts:List Int) (l:List (List Pt)):Prop where
 bd:Bd d
 nm:Nm d
 ts:ts.length<2 ^ 60
 rows:l.length<2 ^ 60
 cnt:∀ r,r ∈ l→cntL r<2 ^ 60
theorem tests (d:List Dt) (t:Int):badT d t=(decide (t<0) || decide ((d.length:Int)<t)):=by
 unfold badT isT
 by_cases h1:t<0<;>by_cases h2:(d.length:Int)<t<;>simp[h1,h2]<;>omega
theorem chk_ok {d:List Dt} {ts:List Int} {l:List (List Pt)} (R:Rng d ts l) (h:Hp):callW tab 35 [.d (eDs d),.d (eIs ts),.d (eRs l)] h=some (.d (eI (chk27 d ts l)),h):=by
 refine call_wp (fn:=f35) rfl rfl ?_
 have B:=R.bd
 have hts:=R.ts
 have hll:=R.rows
 have hbl:=B.len
 have hch:=fun hh=>pcheck_ok B R.nm hh
 unfold chk27
 by_cases hC:checkS d=0
 ·rw[if_neg (by simp[hC])]
  have T:=check_typed hC
  by_cases h8:8<ts.length
  ·rw[if_pos (.inl h8)]
   have h8':(8:Int)<(ts.length:Int):=by omega
   simp only[e35,hch,hC,h8',wz,opX,intBin,↓reduceIte,simprocAttr]
  ·have h8':¬ (8:Int)<(ts.length:Int):=by omega
   by_cases h64:64<l.length
   ·rw[if_pos (.inr h64)]
    have h64':(64:Int)<(l.length:Int):=by omega
    simp only[e35,hch,hC,h8',h64',wz,opX,intBin,↓reduceIte,simprocAttr]
   ·rw[if_neg (by simp[h8,h64])]
    have h64':¬ (64:Int)<(l.length:Int):=by omega
    have hcT:=conFT ts (.clo 77 [.ptr h.next 1 0 0]) (badT d) ⟨(h.next,.arr 1 [.d (eDs d)])::h.objs,h.next+1⟩ (by omega) rfl (by
     intro t ht
     rw[cW_clo]
     simp only[Nat.reduceBEq,Bool.false_eq_true,if_false]
     refine call_wp (fn:=f77) rfl rfl ?_
     rw[tests]
     by_cases t1:t<0
     ·simp only[e77,t1,Bool.true_or,wz,opX,intBin,↓reduceIte,simprocAttr]
     ·by_cases t2:(d.length:Int)<t<;>simp only[e77,t1,t2,Bool.false_or,wz,opX,intBin,↓reduceIte,simprocAttr])
    cases hbt:ts.any (badT d) with
    |true=>
     rw[if_pos rfl]
     simp only[e35,hch,hC,h8',h64',hcT,hbt,wz,opX,intBin,↓reduceIte,simprocAttr]
    |false=>
     rw[if_neg (by simp)]
     have hdp:∀ r,r ∈ l→∀ h,callW tab 78 [.d (ePs r),.clo 79 []] h=some (.d (.bool (deepR r)),h):=by
      intro r hr h
      have hcr:=R.cnt r hr
      have hlr:=cntL_len r
      refine conFP r (.clo 79 []) (fun p=>deepP p 0) h (by omega) rfl (fun p hp=>?_)
      have hcp:=cntL_mem hp
      have hd:=fun h=>deep_ok p 0 (by omega) (by omega) h
      rw[cW_clo]
      simp only[Nat.reduceBEq,Bool.false_eq_true,if_false]
      refine call_wp (fn:=f79) rfl rfl ?_
      simp only[Int.cast_ofNat_Int] at hd
      simp only[e79,pts,hd,wz,opX,intBin,↓reduceIte,simprocAttr]
     have hA:=loop_any (T:=tab) (a:=f35l0) (l:=l) (p:=deepR) (f:=fun n=>[(1,.d (eIs ts)),(2,.d (eRs l)),(3,.ptr h.next 1 0 0),(27,.d (eRs l)),(28,.d (.int .i64 l.length)),(29,int n)]) (h:=⟨(h.next,.arr 1 [.d (eDs d)])::h.objs,h.next+1⟩)
       (by intro n x hx hlt hp;(have hr:=hdp x (List.mem_of_getElem? hx));all_goals (apply wq_ex.1;simp only[hlt,hp,e35,iaR hx,hr,wrap_succ (show n<2 ^ 62 by omega),wz,opX,intBin,↓reduceIte,simprocAttr]))
       (by intro n x hx hlt hp;(have hr:=hdp x (List.mem_of_getElem? hx));all_goals (apply wq_ex.1;simp only[hlt,hp,e35,iaR hx,hr,wrap_succ (show n<2 ^ 62 by omega),wz,opX,intBin,↓reduceIte,simprocAttr]<;>rfl))
       (by apply wq_ex.1;simp only[e35,wz,opX,intBin,↓reduceIte,simprocAttr]<;>rfl)
       (by simp) (by simp)
     simp only[int,Zv.bool,Int.cast_ofNat_Int] at hA
     cases hdr:l.any deepR with
     |true=>
      rw[hdr] at hA
      rw[if_pos rfl]
      simp only[e35,hch,hC,h8',h64',hcT,hbt,wq_of hA,wz,opX,intBin,↓reduceIte,simprocAttr]
     |false=>
      rw[hdr] at hA
      rw[if_neg (by simp)]
      have tyT:∀ t,t ∈ ts→isT d t=true:=by
       intro t ht
       have:=List.any_eq_false.1 hbt t ht
       simpa [badT] using this
      have inner:∀ (j:Nat) (r:List Pt) (q:Nat),r ∈ l→r.length=ts.length→∃ q',ex tab (.loop f35l1) [(1,.d (eIs ts)),(3,.ptr h.next 1 0 0),(36,.d (eRs l)),(37,.d (.int .i64 l.length)),(38,.d (.int .i64 (j:Int))),(47,.d (ePs r)),(48,.d (.int .i64 r.length)),(49,.d (.int .i64 0))] ⟨(h.next,.arr 1 [.d (eDs d)])::h.objs,q⟩ =
        some (if (ts.zip r).any (badF d)=true then (.ret,[(6,.d (.int .i64 10))],⟨(h.next,.arr 1 [.d (eDs d)])::h.objs,q'⟩) else (.exit 4,[(1,.d (eIs ts)),(3,.ptr h.next 1 0 0),(36,.d (eRs l)),(37,.d (.int .i64 l.length)),(38,.d (.int .i64 (j:Int))),(47,.d (ePs r)),(48,.d (.int .i64 r.length)),(49,.d (.int .i64 r.length)),(50,.d (.bool false))],⟨(h.next,.arr 1 [.d (eDs d)])::h.objs,q'⟩)):=by
       intro j r q hr hrl
       have hcr:=R.cnt r hr
       have hzl:(ts.zip r).length=r.length:=by rw[List.length_zip];omega
       obtain ⟨hloopq,hloop⟩:=loop_anyq (T:=tab) (a:=f35l1) (l:=ts.zip r) (p:=badF d) (f:=fun n=>[(1,.d (eIs ts)),(3,.ptr h.next 1 0 0),(36,.d (eRs l)),(37,.d (.int .i64 l.length)),(38,.d (.int .i64 (j:Int))),(47,.d (ePs r)),(48,.d (.int .i64 r.length)),(49,int n)]) (h:=⟨(h.next,.arr 1 [.d (eDs d)])::h.objs,q⟩)
         (by intro q n x hx hlt hp;(have hxz:=zip_at hx);(have hcp:=cntL_mem (List.mem_of_getElem? hxz.2));(have hf:=fun h=>fits_ok B T x.2 x.1 (tyT _ (List.mem_of_getElem? hxz.1)) (by omega) h);(have hlt':n<r.length:=by omega);(have hpb:fitsP d x.1 x.2 = !(badF d x):=by simp[badF]);rw[hp] at hpb;all_goals (simp only[hlt,hp,e35,iaP hxz.2,iaI hxz.1,pts,hf,hlt',hpb,wrap_succ (show n<2 ^ 62 by omega),wz,opX,intBin,↓reduceIte,simprocAttr]<;>(first | exact⟨_,rfl⟩ | exact⟨_,rfl,rfl⟩ | exact⟨_,rfl,rfl,rfl⟩)))
         (by intro q n x hx hlt hp;(have hxz:=zip_at hx);(have hcp:=cntL_mem (List.mem_of_getElem? hxz.2));(have hf:=fun h=>fits_ok B T x.2 x.1 (tyT _ (List.mem_of_getElem? hxz.1)) (by omega) h);(have hlt':n<r.length:=by omega);(have hpb:fitsP d x.1 x.2 = !(badF d x):=by simp[badF]);rw[hp] at hpb;all_goals (simp only[hlt,hp,e35,iaP hxz.2,iaI hxz.1,pts,hf,hlt',hpb,wrap_succ (show n<2 ^ 62 by omega),wz,opX,intBin,↓reduceIte,simprocAttr]<;>(first | exact⟨_,rfl⟩ | exact⟨_,rfl,rfl⟩ | exact⟨_,rfl,rfl,rfl⟩)))
         (by intro q;simp only[e35,hzl,wz,opX,intBin,↓reduceIte,simprocAttr]<;>(first | exact⟨_,rfl⟩ | exact⟨_,rfl,rfl⟩ | exact⟨_,rfl,rfl,rfl⟩))
         (by simp) (by simp)
       simp only[int,Zv.bool,Int.cast_ofNat_Int] at hloop
       exact⟨hloopq,hloop⟩
      obtain ⟨q',hB⟩:=loop_anyq (T:=tab) (a:=f35l2) (l:=l) (p:=badR d ts) (f:=fun n=>[(1,.d (eIs ts)),(3,.ptr h.next 1 0 0),(36,.d (eRs l)),(37,.d (.int .i64 l.length)),(38,int n)]) (h:=⟨(h.next,.arr 1 [.d (eDs d)])::h.objs,h.next+1⟩)
       (x1:=.ret) (e1:=[(6,.d (.int .i64 10))]) (x2:=.exit 2) (e2:=[(1,.d (eIs ts)),(3,.ptr h.next 1 0 0),(36,.d (eRs l)),(37,.d (.int .i64 l.length)),(38,.d (.int .i64 l.length)),(39,.d (.bool false))])
       (by
        intro q n x hx hlt hp
        have hmem:=List.mem_of_getElem? hx
        unfold badR at hp
        simp only[Bool.not_eq_false',Bool.and_eq_true,decide_eq_true_eq,Bool.not_eq_true'] at hp
        obtain ⟨hrl,hany⟩:=hp
        have hne:((x.length:Int) != (ts.length:Int))=false:=by simp[hrl]
        obtain ⟨q',hin⟩:=inner n x q hmem hrl
        rw[hany,if_neg (by simp)] at hin
        simp only[e35,hlt,iaR hx,hne,wq_of hin,wrap_succ (show n<2 ^ 62 by omega),wz,opX,intBin,↓reduceIte,simprocAttr]
        exact⟨_,rfl⟩)
       (by
        intro q n x hx hlt hp
        have hmem:=List.mem_of_getElem? hx
        by_cases hrl:x.length=ts.length
        ·unfold badR at hp
         rw[decide_eq_true hrl,Bool.true_and,Bool.not_not] at hp
         have hne:((x.length:Int) != (ts.length:Int))=false:=by simp[hrl]
         obtain ⟨q',hin⟩:=inner n x q hmem hrl
         rw[hp,if_pos rfl] at hin
         simp only[e35,hlt,iaR hx,hne,wq_of hin,wz,opX,intBin,↓reduceIte,simprocAttr]
         exact⟨_,rfl⟩
        ·have hne:((x.length:Int) != (ts.length:Int))=true:=by simp;omega
         simp only[e35,hlt,iaR hx,hne,wz,opX,intBin,↓reduceIte,simprocAttr]
         exact⟨_,rfl⟩)
       (by intro q;simp only[e35,wz,opX,intBin,↓reduceIte,simprocAttr];exact⟨_,rfl⟩) (by simp) (by simp)
      simp only[int,Int.cast_ofNat_Int] at hB
      cases hbr:l.any (badR d ts) with
      |true=>
       rw[hbr,if_pos rfl] at hB
       rw[if_pos rfl]
       simp only[e35,hch,hC,h8',h64',hcT,hbt,wq_of hA,wq_of hB,wz,opX,intBin,↓reduceIte,simprocAttr]
      |false=>
       rw[hbr,if_neg (by simp)] at hB
       rw[if_neg (by simp)]
       simp only[e35,hch,hC,h8',h64',hcT,hbt,wq_of hA,wq_of hB,wz,opX,intBin,↓reduceIte,simprocAttr]
 ·rw[if_pos hC]
  have e:(checkS d != 0)=true:=by simp[hC]
  simp only[e35,hch,e,wz,opX,intBin,↓reduceIte,simprocAttr]
end Zc28
end
section
set_option maxHeartbeats 4000000
namespace Zc28
open Go Zv Zs
end Zc28
end
