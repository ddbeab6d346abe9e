/-
  Parts of the proof.
-/
import Derived.Test.YtmhbpocjmaacpaaZwCode
import Derived.ChangeArms
import Derived.WideShapes
import Derived.RowKit
import Derived.ChangeMaps5
import Derived.OpenShut
import Derived.ChangeOld
import Derived.Below
import Derived.Test.YtmhbpocjmaacpaaZwOpI
import Derived.Test.YtmhbpocjmaacpaaTab
import Derived.Test.YtmhbpocjmaacpaaChecked
import Derived.SizedLaws
set_option linter.unusedSimpArgs false
set_option linter.unusedVariables false
section
namespace Zv
open Go
section
variable {P:Program}
def G.back (g1:G) (n0:Nat) (new:Nat→Prop) [DecidablePred new] (w:World):G:=
 { φ:=fun b=>if new b then w.heap[b]? else g1.φ b,μ:=g1.μ,N:=n0,B:=g1.B,F:=g1.F,C:=g1.C }
theorem mapM_cons {α β:Type} {f:α→Option β} {a:α} {l:List α} {r:List β} (h:(a::l).mapM f=some r):∃ b s,f a=some b∧l.mapM f=some s∧r=b::s:=by
 rw[List.mapM_cons] at h
 cases hb:f a with
 |none=>rw[hb] at h;cases h
 |some b=>
  rw[hb] at h
  cases hs:l.mapM f with
  |none=>rw[hs] at h;cases h
  |some s=>rw[hs] at h;cases h;exact⟨b,s,rfl,rfl,rfl⟩
theorem mapM_length {α β:Type} {f:α→Option β}:∀ {l:List α} {r:List β},l.mapM f=some r→r.length=l.length
 | [],r,h=>by cases h;rfl
 |a::l,r,h=>by
  obtain ⟨b,s,_,h2,rfl⟩:=mapM_cons h
  simp[mapM_length h2]
section
variable {g1:G} {h:Hp} {w:World} {φ2:Nat→Option Obj} {n0:Nat}
theorem deep_ok (R:Rel g1 h w) (hφ:∀ b o,g1.φ b=some o→φ2 b=some o) (hnew:∀ n es els,n0≤n→h.get n=some (.arr es els)→φ2 (blk g1 n (.arr es els))=w.heap[blk g1 n (.arr es els)]?) :
  ∀ (k:Nat),(∀ (x:V) (y:D) (v:Value),deep h n0 k x=some y→Rep g1 x v→RepD φ2 y v) ∧
   (∀ (x:V) (y:D) (seg:List Value),deep h n0 k x=some y→Reps g1 x.cells seg→(∀ u,u ∈ seg→leaf u)→RepDs φ2 y.cells seg∧y.cells.length=x.cells.length)
 |0=>⟨fun x y v H=>by simp[deep] at H,fun x y seg H=>by simp[deep] at H⟩
 |k+1=>by
  obtain ⟨ih1,ih2⟩:=deep_ok R hφ hnew k
  have flat:∀ (l:List V) (ds:List D) (vs:List Value),l.mapM (deep h n0 k)=some ds→Reps g1 (l.flatMap V.cells) vs→(∀ u,u ∈ vs→leaf u)→RepDs φ2 (ds.flatMap D.cells) vs∧∀ es,(∀ x,x ∈ l→x.cells.length=es)→∀ y,y ∈ ds→y.cells.length=es:=by
   intro l
   induction l with
   |nil=>
    intro ds vs H hr hf
    cases H
    cases hr
    exact⟨.nil,fun _ _ y hy=>by cases hy⟩
   |cons x l ih=>
    intro ds vs H hr hf
    obtain ⟨y,s,h1,h2,rfl⟩:=mapM_cons H
    rw[List.flatMap_cons] at hr
    obtain ⟨r1,r2⟩:=hr.split
    obtain ⟨q1,q2⟩:=ih2 x y _ h1 r1 (fun u hu=>hf u (List.mem_of_mem_take hu))
    obtain ⟨q3,q4⟩:=ih s _ h2 r2 (fun u hu=>hf u (List.mem_of_mem_drop hu))
    refine ⟨?_,fun es hes z hz=>?_⟩
    ·rw[List.flatMap_cons,←List.take_append_drop x.cells.length vs]
     exact q1.app q3
    ·rcases List.mem_cons.1 hz with rfl | hz
     ·rw[q2];exact hes x (by simp)
     ·exact q4 es (fun u hu=>hes u (by simp[hu])) z hz
  have cells:∀ (l:List V) (ds:List D) (vs:List Value),l.mapM (deep h n0 k)=some ds→Reps g1 l vs→(∀ u,u ∈ vs→leaf u)→RepDs φ2 ds vs:=by
   intro l
   induction l with
   |nil=>intro ds vs H hr hf;cases H;cases hr;exact .nil
   |cons x l ih=>
    intro ds vs H hr hf
    obtain ⟨y,s,h1,h2,rfl⟩:=mapM_cons H
    cases hr with | cons _ _ v vs hx hs=>
    exact .cons y s v vs (ih1 x y v h1 hx) (ih s vs h2 hs (fun u hu=>hf u (List.mem_cons_of_mem _ hu))) (hf v List.mem_cons_self)
  have one:∀ (x:V) (y:D) (v:Value),deep h n0 (k+1) x=some y→Rep g1 x v→RepD φ2 y v:=by
   intro x y v H hx
   cases x with
   |d z=>simp only[deep] at H;cases H;exact hx.dI.mono hφ
   |tl l nl=>
    simp only[deep,Option.map_eq_some_iff] at H
    obtain ⟨ds,hds,rfl⟩:=H
    cases hx with | tl _ _ es a vs hes hr ha hn hf=>
    obtain ⟨q1,q2⟩:=flat l ds vs hds hr hf
    rw[show l.length=ds.length from (mapM_length hds).symm]
    refine .lst ds es ds.length a vs (q2 es hes) (Nat.le_refl _) q1 (ha.imp (fun e=>by subst e;cases hds;rfl) fun ⟨b,p,e,hat⟩=>⟨b,p,e,hat.mono hφ⟩)
   |agg l=>
    simp only[deep,Option.map_eq_some_iff] at H
    obtain ⟨ds,hds,rfl⟩:=H
    cases hx with | agg _ vs hr hf=>
    exact .agg ds vs (cells l ds vs hds hr hf)
   |own n e tot off len=>
    simp only[deep] at H
    split at H
    case isFalse=>cases H
    rename_i hn0
    simp only[Option.bind_eq_some_iff] at H
    obtain ⟨⟨es,els⟩,hrow,H⟩:=H
    obtain ⟨hn,rfl⟩:=row_get hrow
    simp only at H
    split at H
    case isFalse=>cases H
    rename_i hle
    simp only[Option.map_eq_some_iff] at H
    obtain ⟨ds,hds,rfl⟩:=H
    obtain ⟨hnN,hnB,c,ty,vs,h1,h2,h3,h4,h5,h6,h7⟩:=R.ob n _ hn
    have hblk:=hnew n es els hn0 hn
    rw[show w.heap[blk g1 n (.arr es els)]? = some (.cells c ty (0,0)) from h1] at hblk
    cases hx with | own _ _ _ _ _ cap q hes hN hB hz0 hl hto hc hsz=>
    have hl2:((els.drop off).take len).length=len:=by rw[List.length_take,List.length_drop];omega
    have hdl:ds.length=len:=by rw[mapM_length hds,hl2]
    have hr:Reps g1 (((els.drop off).take len).flatMap V.cells) ((vs.drop (off*es)).take (len*es)):=by
     rw[←flat_take len (fun x hx=>h4 x (List.mem_of_mem_drop hx)),←flat_drop off h4]
     exact (h5.drop _).take _
    obtain ⟨q1,q2⟩:=flat _ ds _ hds hr (fun u hu=>h6 u (List.mem_of_mem_drop (List.mem_of_mem_take hu)))
    rw[←hdl]
    refine .lst ds es cap (some q) ((vs.drop (off*es)).take (len*es)) (q2 es (fun y hy=>h4 y (List.mem_of_mem_drop (List.mem_of_mem_take hy)))) (by omega) q1 ?_
    rcases Nat.eq_zero_or_pos len with h0 | h0
    ·left;exact List.eq_nil_of_length_eq_zero (by omega)
    ·right
     rcases hz0 with hz0 | hz0
     ·omega
     ·refine ⟨_,_,congrArg some hz0,fun j v hj=>?_⟩
      rw[List.getElem?_take] at hj
      split at hj
      ·rw[List.getElem?_drop] at hj
       have:=h7 _ _ hj
       unfold cellφ
       rw[show φ2 (g1.μ n els.length).b=some (.cells c ty (0,0)) from hblk]
       rw[h3.1]
       show c[_]? = some v
       rw[←this]
       congr 1
       omega
      ·cases hj
   |_=>simp only[deep] at H;cases H
  refine ⟨one,fun x y seg H hr hf=>?_⟩
  cases x with
  |d z=>
   simp only[deep] at H
   cases H
   exact⟨(Reps.to_map_d hr hf).mono hφ,by simp[V.cells]⟩
  |agg l=>
   simp only[deep,Option.map_eq_some_iff] at H
   obtain ⟨ds,hds,rfl⟩:=H
   exact⟨cells l ds seg hds hr hf,mapM_length hds⟩
  |tl l nl=>
   have H':=H
   simp only[deep,Option.map_eq_some_iff] at H'
   obtain ⟨ds,hds,rfl⟩:=H'
   cases hr with | cons _ _ v vs hx hs=>
   cases hs
   exact⟨.cons _ _ _ _ (one _ _ v H hx) .nil (hf v List.mem_cons_self),rfl⟩
  |own n e tot off len=>
   have hy:∃ ds,y=.lst ds:=by
    have H':=H
    simp only[deep] at H'
    split at H'
    case isFalse=>cases H'
    simp only[Option.bind_eq_some_iff] at H'
    obtain ⟨r,_,H'⟩:=H'
    split at H'
    case isFalse=>cases H'
    simp only[Option.map_eq_some_iff] at H'
    obtain ⟨ds,_,rfl⟩:=H'
    exact⟨ds,rfl⟩
   obtain ⟨ds,rfl⟩:=hy
   cases hr with | cons _ _ v vs hx hs=>
   cases hs
   exact⟨.cons _ _ _ _ (one _ _ v H hx) .nil (hf v List.mem_cons_self),rfl⟩
  |_=>simp only[deep] at H;cases H
end
def mtRes (P:Program):List ResultVar→List (Nat × Option (Bool × Nat))→Bool
 | [],[]=>true
 | .tmp t::l,(u,none)::r=>t == u && mtRes P l r
 | .cell t ty::l,(u,some (ag,sz))::r=>t == u && (P.underlying ty).isSome && (P.info? ty).isSome && agOf P ty == ag && P.cellsOf ty == sz && mtRes P l r
 |_,_=>false
theorem as_sure {a:Value} {ty:TypeId} {w:World} (h:∃ q,a=.pointer (some q)):(do loadVar ty (←asAddr a):Sem Value).run P w=(Instr.loadAt ty a).run P w:=by
 obtain ⟨q,rfl⟩:=h
 simp[Instr.loadAt,asAddr,Instr.sureAddr,Sem.run_bind]
theorem ld_ptr {ag:Bool} {sz:Nat} {h:Hp} {x z:V} {g:G} {a:Value} (H:ld ag sz h x=some z) (hx:Rep g x a):∃ q,a=.pointer (some q):=by
 cases hx<;>simp only[ld] at H<;>first | exact⟨_,rfl⟩ | cases H
theorem results_run {fn:Func} {rs:List (Nat × Option (Bool × Nat))} (hr:mtRes P fn.results.toList rs=true) {g:G} {h:Hp} {e:Env} {a:Act} {w:World} {xs:List V} (he:EnvRep g e a) (R:Rel g h w) (hx:resL e h rs=some xs) :
  ∃ vs:List Value,(results fn a.tmps).run P w=.ok (if h:vs.toArray.size=1 then vs.toArray[0] else .tuple vs.toArray) w∧Reps g xs vs:=by
 have gen:∀ (f:ResultVar→Sem Value),(∀ t,f (.tmp t)=pure (a.tmps.getD t undef))→(∀ t ty,f (.cell t ty)=(do loadVar ty (←asAddr (a.tmps.getD t undef))))→∀ (l:List ResultVar) (rs:List (Nat × Option (Bool × Nat))) (xs:List V),mtRes P l rs=true→resL e h rs=some xs →
   ∃ vs:List Value,(l.mapM f).run P w=.ok vs w∧Reps g xs vs:=by
  intro f hf1 hf2 l
  induction l with
  |nil=>
   intro rs xs hm hx
   cases rs with
   |nil=>cases hx;exact⟨[],rfl,.nil⟩
   |cons r rs=>cases hm
  |cons v l ih=>
   intro rs xs hm hx
   cases rs with
   |nil=>cases v<;>cases hm
   |cons r rs=>
    obtain ⟨u,o⟩:=r
    cases v with
    |tmp t=>
     cases o with
     |some q=>simp[mtRes] at hm
     |none=>
      simp only[mtRes,Bool.and_eq_true,beq_iff_eq] at hm
      obtain ⟨rfl,hm⟩:=hm
      simp only[resL,Option.map_eq_some_iff] at hx
      obtain ⟨ys,hy,rfl⟩:=hx
      obtain ⟨vs,h1,h2⟩:=ih rs ys hm hy
      refine ⟨a.tmps.getD t undef::vs,?_,.cons _ _ _ _ (he t) h2⟩
      rw[List.mapM_cons]
      simp only[Sem.run_bind,hf1,Sem.run_pure,Result.andThen_ok,h1]
    |cell t ty=>
     cases o with
     |none=>simp[mtRes] at hm
     |some q=>
      obtain ⟨ag,sz⟩:=q
      simp only[mtRes,Bool.and_eq_true,beq_iff_eq] at hm
      obtain ⟨⟨⟨⟨⟨rfl,k1⟩,k2⟩,k3⟩,k4⟩,hm⟩:=hm
      simp only[resL,Option.bind_eq_some_iff,Option.map_eq_some_iff] at hx
      obtain ⟨z,hz,ys,hy,rfl⟩:=hx
      obtain ⟨vs,h1,h2⟩:=ih rs ys hm hy
      obtain ⟨v,q1,q2⟩:=ld_ok k1 k2 k3 k4 R hz (he t)
      refine ⟨v::vs,?_,.cons _ _ _ _ q2 h2⟩
      rw[List.mapM_cons]
      simp only[hf2]
      rw[Sem.run_bind,as_sure (ld_ptr hz (he t)),q1]
      simp only[Sem.run_bind,Sem.run_pure,Result.andThen_ok,h1]
 unfold results
 simp only[Sem.run_bind]
 have key:∀ (f:ResultVar→Sem Value),(∀ t,f (.tmp t)=pure (a.tmps.getD t undef))→(∀ t ty,f (.cell t ty)=(do loadVar ty (←asAddr (a.tmps.getD t undef))))→∃ vs:List Value,(fn.results.mapM f).run P w=.ok vs.toArray w∧Reps g xs vs:=by
  intro f h1 h2
  obtain ⟨vs,q1,q2⟩:=gen f h1 h2 _ rs xs hr hx
  refine ⟨vs,?_,q2⟩
  rw[←Array.toArray_toList (xs:=fn.results),List.mapM_toArray,Sem.run_map,q1]
  rfl
 obtain ⟨vs,q1,q2⟩:=key (fun x=>match x with
  | .tmp t=>pure (a.tmps.getD t undef)
  | .cell b t=>do loadVar t (←asAddr (a.tmps.getD b undef))) (fun t=>rfl) (fun t ty=>rfl)
 refine ⟨vs,?_,q2⟩
 refine Eq.trans (congrArg (fun r=>Result.andThen r _) q1) ?_
 rfl
theorem resV_ok {g:G}:∀ {l:List V} {vs:List Value},Reps g l vs→Rep g (resV l) (if h:vs.toArray.size=1 then vs.toArray[0] else .tuple vs.toArray)
 | [],_,.nil=>.tup [] [] .nil
 | [x],_,.cons _ _ v _ hx .nil=>by simpa [resV] using hx
 |x::y::l,_,.cons _ _ v _ hx (.cons _ _ u us hy hs)=>by
  rw[dif_neg (by simp)]
  exact .tup _ _ (.cons _ _ _ _ hx (.cons _ _ _ _ hy hs))
theorem look_suffix:∀ {new base:List (Nat × Ob)} {n:Nat} {o:Ob},((new++base).map (·.1)).Nodup→look base n=some o→look (new++base) n=some o:=by
 intro new base n o hd hb
 exact look_of_mem hd (List.mem_append_right _ (look_mem hb))
theorem finish_ok {fn:AF} {g0 g1:G} {h0 h1:Hp} {w0 w1:World} {e:Env} {x:V} {h':Hp} {xs:List V} {vs:List Value} (R0:Rel g0 h0 w0) (R1:Rel g1 h1 w1) (hle:Le g0 g1) (hx:resL e h1 fn.res=some xs) (H:finish fn h0 e h1=some (x,h'))
  (hr:Reps g1 xs vs):∃ g',Le g0 g'∧Rel g' h' w1∧Rep g' x (if h:vs.toArray.size=1 then vs.toArray[0] else .tuple vs.toArray):=by
 unfold finish at H
 rw[hx] at H
 simp only[Option.bind_some] at H
 split at H
 ·split at H
  case isFalse=>cases H
  rename_i hsuf
  simp only[Option.map_eq_some_iff] at H
  obtain ⟨l,hl,heq⟩:=H
  cases heq
  obtain ⟨new,hobjs⟩:∃ new,h1.objs=new++h0.objs:=by
   refine ⟨h1.objs.take (h1.objs.length - h0.objs.length),?_⟩
   have:=objsBeq_eq hsuf
   exact ((List.take_append_drop _ _).symm.trans (congrArg (h1.objs.take (h1.objs.length - h0.objs.length) ++ ·) this.symm))
  have hold:∀ n o,h0.get n=some o→h1.get n=some o:=by
   intro n o hn
   unfold Hp.get at hn ⊢
   rw[hobjs]
   exact look_suffix (by rw[←hobjs];exact R1.nd) hn
  have hnewN:∀ n o,h1.get n=some o→g0.N≤n→h0.get n=none:=by
   intro n o hn hge
   cases hq:h0.get n with
   |none=>rfl
   |some q=>have:=(R0.ob n q hq).1;omega
  classical
  let nb:Nat→Prop:=fun b=>∃ n o,h1.get n=some o∧g0.N≤n∧b=blk g1 n o
  let g2:G:=g1.back g0.N nb w1
  have hnbφ:∀ b,nb b→g1.φ b=none:=by
   rintro b ⟨n,o,hn,_,rfl⟩
   exact R1.out n o hn
  have hφ12:∀ b o,g1.φ b=some o→g2.φ b=some o:=by
   intro b o hb
   show (if nb b then w1.heap[b]? else g1.φ b)=some o
   rw[if_neg (fun hn=>by rw[hnbφ b hn] at hb;cases hb)]
   exact hb
  have hle2:Le g0 g2:=⟨fun b o hb=>hφ12 b o (hle.φ b o hb),Nat.le_refl _,hle.B,hle.μ,hle.F,hle.C⟩
  have hlt1:∀ n o,h0.get n=some o→n<g0.N:=fun n o hn=>(R0.ob n o hn).1
  have R2:Rel g2 h0 w1:=by
   refine ⟨R0.nx,fun b o hb=>?_,R0.nd,fun n o hn=>?_,fun n m o p hn hm hnm=>R1.sep n m o p (hold n o hn) (hold m p hm) hnm,fun n o hn=>?_,fun b o hb=>?_,fun n o hn=>R1.kpo n o (hold n o hn)⟩
   ·have hb':(if nb b then w1.heap[b]? else g1.φ b)=some o:=hb
    split at hb'
    ·exact hb'
    ·exact R1.fr b o hb'
   ·obtain ⟨a1,a2,a3⟩:=R0.ob n o hn
    obtain ⟨b1,b2,b3⟩:=R1.ob n o (hold n o hn)
    refine ⟨a1,b2,?_⟩
    cases o with
    |arr es els=>
     obtain ⟨c0,ty0,vs0,p1,p2,p3,p4,p5,p6,p7⟩:=a3
     obtain ⟨c,ty,vs,q1,q2,q3,q4,q5,q6,q7⟩:=b3
     exact⟨c,ty,vs,q1,q2,q3,q4,Reps.back (g0:=g0) (g1:=g1) (g2:=g2) (Nat.le_refl _) rfl rfl hφ12 p5 q5,q6,q7⟩
    |lp b0 ev s0=>
     obtain ⟨r0,p1,p2,p3,p4⟩:=a3
     obtain ⟨r1,q1,q2,q3,q4⟩:=b3
     exact⟨r1,q1,fun t=>Rep.back (g0:=g0) (g1:=g1) (g2:=g2) (Nat.le_refl _) rfl rfl hφ12 (p2 t) (q2 t),q3,q4⟩
    |mp kvs=>
     obtain ⟨es0,cl0,p1,p2⟩:=a3
     obtain ⟨es,cl,q1,q2⟩:=b3
     exact⟨es,cl,q1,RepKvs.back (g0:=g0) (g1:=g1) (g2:=g2) (Nat.le_refl _) rfl rfl hφ12 p2 q2⟩
   ·show (if nb (blk g1 n o) then w1.heap[blk g1 n o]? else g1.φ (blk g1 n o))=none
    rw[if_neg ?_]
    ·exact R1.out n o (hold n o hn)
    ·rintro ⟨m,p,hm,hge,he⟩
     exact R1.sep n m o p (hold n o hn) hm (by have:=hlt1 n o hn;omega) he
   ·refine ⟨(R1.kp b o hb).1,?_⟩
    show (if nb b then w1.heap[b]? else g1.φ b)=none
    rw[if_neg ?_]
    ·exact (R1.kp b o hb).2
    ·rintro ⟨m,p,hm,_,he⟩
     have hk:=R1.kpo m p hm
     rw[←he] at hk
     rw[show g2.F=g1.F from rfl,hk] at hb
     cases hb
  refine ⟨g2,hle2,R2,?_⟩
  have hdeep:=deep_ok (n0:=h0.next) (φ2:=g2.φ) R1 hφ12 (fun n es els hge hn=>by
   show (if nb (blk g1 n (.arr es els)) then w1.heap[blk g1 n (.arr es els)]? else g1.φ (blk g1 n (.arr es els)))=w1.heap[blk g1 n (.arr es els)]?
   rw[if_pos ⟨n,_,hn,by rw[←R0.nx];exact hge,rfl⟩]) 8
  have hback:∀ {y:V} {z:V} {u:Value},back1 h1 h0.next y=some z→Rep g1 y u→Rep g2 z u:=by
   intro y z u hb hy
   unfold back1 at hb
   split at hb
   ·rename_i q hq
    cases hb
    exact .d _ _ (hdeep.1 y q u hq hy)
   ·split at hb
    ·rename_i ho
     cases hb
     have hN2:g2.N=h0.next:=R0.nx.symm
     unfold old at ho
     split at ho<;>first | cases ho | skip
     ·have hn:=of_decide_eq_true ho
      cases hy with | ptr _ _ _ _ a1 a2=>exact Rep.ptr (g:=g2) _ _ _ _ (by rw[hN2];exact hn) a2
     ·have hn:=of_decide_eq_true ho
      cases hy with | own _ _ _ _ _ cap a he a1 a2 ha hl ht hc hs=>exact Rep.own (g:=g2) _ _ _ _ _ cap a he (by rw[hN2];exact hn) a2 ha hl ht hc hs
     ·have hn:=of_decide_eq_true ho
      cases hy with | map _ a1=>exact Rep.map (g:=g2) _ (by rw[hN2];exact hn)
     ·have hn:=of_decide_eq_true ho
      cases hy with | yld _ a1=>exact Rep.yld (g:=g2) _ (by rw[hN2];exact hn)
    ·cases hb
  have hall:∀ (ys:List V) (zs:List V) (us:List Value),ys.mapM (back1 h1 h0.next)=some zs→Reps g1 ys us→Reps g2 zs us:=by
   intro ys
   induction ys with
   |nil=>intro zs us h1 h2;cases h1;cases h2;exact .nil
   |cons y ys ih=>
    intro zs us hz hu
    obtain ⟨z,s,q1,q2,rfl⟩:=mapM_cons hz
    cases hu with | cons _ _ u us hy hs=>
    exact .cons _ _ _ _ (hback q1 hy) (ih s us q2 hs)
  exact resV_ok (hall _ l vs hl hr)
 ·cases H
  exact⟨g1,hle,R1,resV_ok hr⟩
inductive RepEs (φ:Nat→Option Obj):List D→List Value→Prop
 |nil:RepEs φ [] []
 |cons (x:D) (l:List D) (v:Value) (vs:List Value) (h:RepD φ x v) (hs:RepEs φ l vs):RepEs φ (x::l) (v::vs)
def fnOk (P:Program) (T:Tab) (f:Nat) (fn:AF):Bool:=
  match P.funcs[f]? with
  |some F=>match F.body with
    | some c => (isPr fn.body).isNone && mtC P T F.ntmps true c fn.body && mtRes P F.results.toList fn.res && decide (fn.np ≤ F.ntmps) && !(F.name == "runtime.NumGoroutine")
    |none=>false
  |none=>false
def PrimOk (P:Program) (f k:Nat):Prop:=
  (∃ fn, P.funcs[f]? = some fn ∧ fn.body.isSome = true ∧ (fn.name == "runtime.NumGoroutine") = false) ∧
  ∀ (ds:List D) (y:D),prim k ds=some y→∀ (φ:Nat→Option Obj) (w:World) (vals:List Value),(∀ b o,φ b=some o→w.heap[b]? = some o)→RepEs φ ds vals →
    Calls P f vals.toArray w fun e w'=>∃ v,e=.returned v∧(∀ ψ,RepD ψ y v)∧Fx w w'∧∀ b,b<w.heap.size→w'.heap[b]? = w.heap[b]?
def TabOk (P:Program) (T:Tab):Prop:=∀ f fn,f<RB→T f=some fn→fnOk P T f fn=true∨∃ k,fn.body=.exit k∧PrimOk P f k
theorem primC_ok {f k:Nat} (H:PrimOk P f k) {vs:List V} {h:Hp} {r:V} {h':Hp} (hc:primC k vs h=some (r,h')) {g:G} {w:World} {vals:List Value} (R:Rel g h w) (hr:Reps g vs vals) :
  Calls P f vals.toArray w fun e w'=>∃ v g',e=.returned v∧Le g g'∧Rel g' h' w'∧Rep g' r v∧Fx w w':=by
 unfold primC at hc
 simp only[Option.bind_eq_some_iff,Option.map_eq_some_iff] at hc
 obtain ⟨ds,hds,y,hy,hq⟩:=hc
 cases hq
 classical
 let nb:Nat→Prop:=fun b=>∃ n o,h.get n=some o∧b=blk g n o
 let φ2:Nat→Option Obj:=fun b=>if nb b then w.heap[b]? else g.φ b
 have hnbφ:∀ b,nb b→g.φ b=none:=by
  rintro b ⟨n,o,hn,rfl⟩
  exact R.out n o hn
 have hφ:∀ b o,g.φ b=some o→φ2 b=some o:=by
  intro b o hb
  show (if nb b then w.heap[b]? else g.φ b)=some o
  rw[if_neg (fun hn=>by rw[hnbφ b hn] at hb;cases hb)]
  exact hb
 have hw:∀ b o,φ2 b=some o→w.heap[b]? = some o:=by
  intro b o hb
  have hb':(if nb b then w.heap[b]? else g.φ b)=some o:=hb
  split at hb'
  ·exact hb'
  ·exact R.fr b o hb'
 have hdeep:=(deep_ok (n0:=0) (φ2:=φ2) R hφ (fun n es els _ hn=>by
   show (if nb (blk g n (.arr es els)) then w.heap[blk g n (.arr es els)]? else g.φ (blk g n (.arr es els)))=w.heap[blk g n (.arr es els)]?
   rw[if_pos ⟨n,_,hn,rfl⟩]) 8).1
 have hall:∀ (ys:List V) (zs:List D) (us:List Value),ys.mapM (deep h 0 8)=some zs→Reps g ys us→RepEs φ2 zs us:=by
  intro ys
  induction ys with
  |nil=>intro zs us h1 h2;cases h1;cases h2;exact .nil
  |cons y ys ih=>
   intro zs us hz hu
   obtain ⟨z,s,q1,q2,rfl⟩:=mapM_cons hz
   cases hu with | cons _ _ u us hy hs=>
   exact .cons _ _ _ _ (hdeep y z u q1 hy) (ih s us q2 hs)
 refine (H.2 ds y hy φ2 w vals hw (hall vs ds vals hds hr)).mono ?_
 rintro e w' ⟨v,rfl,hv,hf,hb⟩
 exact⟨v,g,rfl,Le.refl g,R.world hb,.d _ _ (hv _),hf⟩
theorem args_get:∀ (vs:List V) (i t:Nat),Env.get (args i vs) t=if i≤t then (vs[t - i]?).getD .undef else .undef
 | [],i,t=>by simp[args,Env.get]
 |v::vs,i,t=>by
  show (if t=i then v else Env.get (args (i+1) vs) t)=_
  rw[args_get vs (i+1) t]
  by_cases h:t=i
  ·subst h;simp
  ·rw[if_neg h]
   by_cases h2:i+1≤t
   ·rw[if_pos h2,if_pos (by omega),show t - i=(t - (i+1))+1 from by omega,List.getElem?_cons_succ]
   ·rw[if_neg h2,if_neg (by omega)]
theorem env_args {g:G} {vs:List V} {vals:List Value} (n:Nat) (hr:Reps g vs vals):EnvRep g (args 0 vs) { tmps:=vals.toArray++Array.replicate (n - vals.toArray.size) undef,defers:=[] }:=by
 intro t
 rw[args_get,if_pos (Nat.zero_le t),Nat.sub_zero]
 cases hv:vs[t]? with
 |none=>exact .undef _
 |some x=>
  obtain ⟨v,h1,h2⟩:=hr.get hv
  have:(vals.toArray++Array.replicate (n - vals.toArray.size) undef).getD t undef=v:=by
   rw[Array.getD_eq_getD_getElem?,Array.getElem?_append_left (by simpa using lt_of_get h1)]
   simp[h1]
  show Rep g x _
  rw[this]
  exact h2
theorem binds_get:∀ (ps:List Nat) (vs:List V) (vals:List Value) (e:Env) (tmps:Array Value) {g:G},(∀ t,t ∈ ps→t<tmps.size)→ps.length=vs.length→Reps g vs vals→(∀ t,Rep g (Env.get e t) (tmps.getD t undef)) →
  ∀ t,Rep g (Env.get (binds ps vs e) t) (((ps.zip vals).foldl (fun tmps (t,a)=>tmps.setIfInBounds t a) tmps).getD t undef)
 | [],vs,vals,e,tmps,g,_,_,_,he=>fun t=>by
  cases vs<;>simpa [binds] using he t
 |p::ps,[],vals,e,tmps,g,_,hl,_,_=>by simp at hl
 |p::ps,v::vs,_,e,tmps,g,hp,hl,.cons _ _ a vals hx hs,he=>by
  intro t
  simp only[binds,List.zip_cons_cons,List.foldl_cons]
  refine binds_get ps vs vals ((p,v)::e) (tmps.setIfInBounds p a) (fun u hu=>by rw[Array.size_setIfInBounds];exact hp u (List.mem_cons_of_mem _ hu)) (by simpa using hl) hs (fun u=>?_) t
  show Rep g (if u=p then v else Env.get e u) _
  rw[Array.getD_eq_getD_getElem?,Array.getElem?_setIfInBounds]
  by_cases hup:u=p
  ·subst hup;rw[if_pos rfl,if_pos rfl,if_pos (hp u List.mem_cons_self)];exact hx
  ·rw[if_neg hup,if_neg (fun e=>hup e.symm),←Array.getD_eq_getD_getElem?];exact he u
theorem Fx.put (w:World) (d:Nat) (o:Obj):Fx w (w.putObj d o):=⟨rfl,rfl,rfl,by rw[World.putObj_size];exact Nat.le_refl _⟩
theorem rnd_ok {T:Tab} {c:Cs} (HC:CallOk P (LpC P T) c) (k:Nat) {n:Nat} {vs:List V} {h:Hp} {r:V} {h':Hp} (H:rnd T (fun b=>loopN b k) (callee c) n vs h=some (r,h')) (g:G) (w:World) (vals:List Value) (R:Rel g h w) (hC:g.C=LpC P T) (hN:n<g.N) (hr:Reps g vs vals) :
  ∃ f tmps asg bdy,(Instr.yield (g.μ n 0).b vals.toArray).run P w=.ok (.round (g.μ n 0).b f tmps asg bdy) w ∧
   RoundIn (FR none) 0 P (g.μ n 0).b f tmps asg bdy w fun e w'=>∃ v,e=.returned v∧∃ g',Le g g'∧Rel g' h' w'∧Rep g' r v∧Fx w w':=by
 unfold rnd at H
 split at H
 case h_2=>cases H
 rename_i b e hget
 obtain ⟨k1,k2,r0,k3,k4,k5,k6,k7⟩:=R.ob _ _ hget
 rw[hC] at k5
 obtain ⟨fn,p,q,hT,hb,hsz,hps,hlt,hma,hmb⟩:=k5
 rw[hT] at H
 simp only[Option.bind_some] at H
 rw[hb] at H
 simp only at H
 split at H
 case isFalse=>cases H
 rename_i hlen
 simp only[Option.bind_eq_some_iff] at H
 obtain ⟨⟨x1,e1,h1⟩,hex1,H⟩:=H
 split at H
 case h_2=>cases H
 rename_i b1 e1' hx1 hget1
 simp only at hx1 hget1
 subst hx1
 simp only[Option.bind_eq_some_iff] at H
 obtain ⟨⟨x2,e2,h2⟩,hex2,hend⟩:=H
 have hvl:vals.length=r0.params.size:=by rw[hr.length,hlen,hsz]
 refine ⟨r0.fn,_,r0.assign,r0.body,run_yield k3 (by simpa using hvl),?_⟩
 refine roundIn_of_wpIn (F:=FR none) trivial ?_
 have htm:(r0.params.zip vals.toArray).foldl (fun tmps (x:Nat × Value)=>match x with | (t,a)=>tmps.setIfInBounds t a) r0.tmps=(r0.params.toList.zip vals).foldl (fun tmps (x:Nat × Value)=>match x with | (t,a)=>tmps.setIfInBounds t a) r0.tmps:=by
  rw[←Array.foldl_toList,Array.toList_zip]
 have hE:EnvRep g (binds (fn.res.map (·.1)) vs e) { tmps:=(r0.params.zip vals.toArray).foldl (fun tmps (x:Nat × Value)=>match x with | (t,a)=>tmps.setIfInBounds t a) r0.tmps,defers:=[] }:=by
  intro t
  show Rep g _ (((r0.params.zip vals.toArray).foldl _ r0.tmps).getD t undef)
  rw[htm,←hps]
  exact binds_get _ vs vals e r0.tmps hlt (by rw[Array.length_toList,←hvl,hr.length]) hr k4 t
 have hsize:∀ (l:List (Nat × Value)) (a:Array Value),(l.foldl (fun tmps (x:Nat × Value)=>match x with | (t,a)=>tmps.setIfInBounds t a) a).size=a.size:=by
  intro l
  induction l with
  |nil=>intro a;rfl
  |cons x l ih=>intro a;rw[List.foldl_cons,ih];exact Array.size_setIfInBounds ..
 refine exec_ok HC k false (ro:=some (g.μ n 0).b) (fun h=>by cases h) r0.assign p hma hex1 hE R hC (by rw[htm];exact hsize _ _) ?_
 intro a1 w1 g1 Ds l1 l2 l3 l4 l5 l6 l7
 show ∃ w₂,_∧_
 obtain ⟨_,_,r1,q3,q4,q5,q6⟩:=l2.ob _ _ hget1
 have hμ1:g1.μ n 0=g.μ n 0:=l1.μ _ _ hN (Nat.zero_le _)
 rw[hμ1] at q3
 refine ⟨_,run_beginRound q3 q6.1,?_⟩
 have hlt1:=(Array.getElem?_eq_some_iff.1 q3).1
 have R2:Rel g1 (h1.set n (.lp b1 e1' (some .norm))) (w1.putObj (g.μ n 0).b (.loop { r1 with state:=.busy })):=l2.set hget1 rfl (fun d hd hne=>World.putObj_heap_other (by rw[←hμ1];exact hne))
  ⟨{ r1 with state:=.busy },by rw[hμ1];exact World.putObj_heap_same hlt1,q4,q5,rfl,q6.2⟩
 refine exec_ok HC k false (ro:=some (g.μ n 0).b) (fun h=>by cases h) r0.body q hmb hex2 l3 R2 (l1.C.trans hC) l4 ?_
 intro a2 w2 g2 Es m1 m2 m3 m4 m5 m6 m7
 unfold rndEnd at hend
 simp only at hend
 split at hend
 case h_2=>cases hend
 rename_i b2 e2' hget2
 cases hend
 obtain ⟨_,_,r2,p3,p4,p5,p6⟩:=m2.ob _ _ hget2
 have hμ2:g2.μ n 0=g.μ n 0:=by rw[m1.μ n 0 (Nat.lt_of_lt_of_le hN l1.N) (Nat.zero_le _)];exact hμ1
 rw[hμ2] at p3
 have hlt2:=(Array.getElem?_eq_some_iff.1 p3).1
 have lF:=l1.trans m1
 have fin:∀ (s:Option Ex) (j:Option Code),(∀ q,s=some q→q≠.norm)→LpSt s (if j.isNone then .ready else .done) j→s=(if x2=.norm then none else some x2)→j.isNone=decide (x2=.norm) →
   ∃ v w',(Instr.endRound (g.μ n 0).b j).run P w2=.ok v w'∧∃ v',Ending.returned v=.returned v'∧∃ g',Le g g'∧Rel g' (h2.set n (.lp b2 e2' (if x2=.norm then none else some x2))) w'∧Rep g' (bool (decide (x2=.norm))) v'∧Fx w w':=by
  intro s j _ hs hse hj
  refine ⟨_,_,run_endRound j p3,_,rfl,g2.un g.F,lF.back,?_,?_,?_⟩
  ·rw[←hse]
   have R3:Rel g2 (h2.set n (.lp b2 e2' s)) (w2.putObj (g.μ n 0).b (.loop { r2 with state:=if j.isNone then .ready else .done,pending:=j })):=m2.set hget2 rfl (fun d hd hne=>World.putObj_heap_other (by rw[←hμ2];exact hne))
    ⟨{ r2 with state:=if j.isNone then .ready else .done,pending:=j },by rw[hμ2];exact World.putObj_heap_same hlt2,p4,p5,hs⟩
   exact R3.un (fun d o hd=>R3.kp d o (lF.F d o hd)) (fun m o hm=>by
    cases hq:g.F (blk g2 m o) with
    |none=>rfl
    |some y=>have:=lF.F _ _ hq;rw[R3.kpo m o hm] at this;cases this)
  ·rw[hj];exact .d _ _ (.bool _)
  ·exact (l7.trans (Fx.put ..)).trans (m7.trans (Fx.put ..))
 cases x2 with
 |norm=>exact fin none none (fun _ h=>by cases h) ⟨rfl,rfl⟩ rfl rfl
 |exit i=>exact fin (some (.exit i)) (some (.exit i)) (fun _ h=>by cases h;simp) ⟨rfl,rfl⟩ rfl rfl
 |ret=>exact fin (some .ret) (some .ret) (fun _ h=>by cases h;simp) ⟨rfl,rfl⟩ rfl rfl
theorem marks_ok {F:Func} {tmps:Array Value} {R:Ending→World→Prop} {g0:G} {h:Hp}:∀ (Ds:List Nat) {g1:G} {w:World},Rel (g1.un g0.F) h w→Ds.Nodup→(∀ D,D ∈ Ds→g0.F D=none∧g1.φ D=none∧w.heap[D]? = some (.deferred (some []))∧∀ n o,h.get n=some o→blk g1 n o≠D) →
  (∀ w',Rel (g1.un g0.F) h w'→Fx w w'→∃ v,(results F tmps).run P w'=.ok v w'∧R (.returned v) w')→LeavesInM (FR none) 0 P F tmps R (Ds.map markOf++[]) .returning w
 | [],g1,w,R1,_,_,K=>K w R1 (Fx.refl w)
 |D::Ds,g1,w,R1,hnd,hD,K=>by
  rw[List.nodup_cons] at hnd
  obtain ⟨d1,d2,d3,d4⟩:=hD D List.mem_cons_self
  refine ⟨by simp,.inl ⟨D,_,rfl,run_takeDeferred d3,?_⟩⟩
  have R2:Rel (g1.un g0.F) h (w.putObj D (.deferred none)):=R1.other D (fun b hb=>World.putObj_heap_other hb) d2 d1 (fun n o hn=>d4 n o hn)
  have f2:Fx w (w.putObj D (.deferred none)):=⟨rfl,rfl,rfl,by rw[World.putObj_size];exact Nat.le_refl _⟩
  refine marks_ok Ds (g1:=g1) R2 hnd.2 (fun E hE=>?_) (fun w' r f=>K w' r (f2.trans f))
  obtain ⟨e1,e2,e3,e4⟩:=hD E (List.mem_cons_of_mem _ hE)
  exact⟨e1,e2,by rw[World.putObj_heap_other (fun e=>hnd.1 (by rw[←e];exact hE))];exact e3,e4⟩
theorem callK_ok {T:Tab} (HT:TabOk P T):∀ k,CallOk P (LpC P T) (callK T k)
 |0=>⟨fun f vs h r h' _ H=>(by cases H),fun n vs h r h' H=>(by cases H)⟩
 |k+1=>by
  have ih:=callK_ok HT k
  refine ⟨fun f vs h r h' hy H=>?_,fun n vs h r h' H g w vals R hC hN hr=>?_⟩
  ·unfold callK body at H
   rw[if_neg hy] at H
   split at H
   case isFalse=>cases H
   rename_i hrb
   simp only[Option.bind_eq_some_iff] at H
   obtain ⟨fn,hfn,H⟩:=H
   rcases HT f fn hrb hfn with hok | ⟨q,hb,hok⟩
   rotate_left
   ·split at H
    case isFalse=>cases H
    rw[show isPr fn.body=some q from by rw[hb];rfl] at H
    exact⟨hok.1,fun g w vals R _ hr=>primC_ok hok H R hr⟩
   unfold fnOk at hok
   split at hok
   case h_2=>cases hok
   rename_i F hF
   split at hok
   case h_2=>cases hok
   rename_i c hc
   simp only[Bool.and_eq_true,decide_eq_true_eq,Bool.not_eq_true'] at hok
   obtain ⟨⟨⟨⟨hpr,hm⟩,hres⟩,hnp⟩,hname⟩:=hok
   have hpr:isPr fn.body=none:=by cases hq:isPr fn.body with
    |none=>rfl
    |some q=>rw[hq] at hpr;cases hpr
   split at H
   case isFalse=>cases H
   rename_i hlen
   rw[hpr] at H
   simp only[Option.bind_eq_some_iff] at H
   obtain ⟨⟨x,e1,h1⟩,hex,H⟩:=H
   refine ⟨⟨F,hF,by rw[hc];rfl,hname⟩,fun g w vals R hC hr=>?_⟩
   have hsz:vals.length=fn.np:=by rw[hr.length,hlen]
   refine callsIn_wide.1 (callsIn_of_wp_marks (F:=FR none) (n:=0) hF hc trivial ?_)
   refine exec_ok ih k true (fun _=>rfl) c fn.body hm hex (env_args F.ntmps hr) R hC (by simp;omega) ?_
   intro a' w' g' Ds l1 l2 l3 l4 l5 l6 l7
   have fin:∀ q:Option (V × Hp),q=some (r,h')→q=finish fn h e1 h1→LeavesInM (FR none) 0 P F a'.tmps (fun e w'=>∃ v g',e=.returned v∧Le g g'∧Rel g' h' w'∧Rep g' r v∧Fx w w') a'.defers .returning w':=by
    intro q hq1 hq2
    rw[hq1] at hq2
    have R2:Rel (g'.un g.F) h1 w':=l2.un (fun d o hd=>l2.kp d o (l1.F d o hd)) (fun m o hm=>by
     cases hq:g.F (blk g' m o) with
     |none=>rfl
     |some y=>have:=l1.F _ _ hq;rw[l2.kpo m o hm] at this;cases this)
    rw[l5]
    refine marks_ok Ds (g1:=g') (g0:=g) R2 l6.nd (fun D hD=>⟨l6.new D hD,(l2.kp D _ (l6.kept D hD)).2,(l2.kp D _ (l6.kept D hD)).1,fun n o hn he=>?_⟩) ?_
    ·have:=l2.kpo n o hn
     rw[he,l6.kept D hD] at this;cases this
    ·intro w2 R3 f2
     have hq3:=hq2.symm
     unfold finish at hq3
     simp only[Option.bind_eq_some_iff] at hq3
     obtain ⟨xs,hxs,_⟩:=hq3
     obtain ⟨vs,hrun,hrr⟩:=results_run (P:=P) hres (l3.un (F:=g.F)) R3 hxs
     obtain ⟨g2,m1,m2,m3⟩:=finish_ok R R3 l1.back hxs hq2.symm hrr
     exact⟨_,hrun,_,g2,rfl,m1,m2,m3,l7.trans f2⟩
   cases x with
   |norm=>exact fin _ H rfl
   |exit i=>cases H
   |ret=>exact fin _ H rfl
  ·unfold callK body at H
   rw[if_pos rfl] at H
   exact rnd_ok ih k H g w vals R hC hN hr
theorem callW_ok {T:Tab} (HT:TabOk P T) {f:Nat} {vs:List V} {h:Hp} {r:V} {h':Hp} (hy:f≠YF) (H:callW T f vs h=some (r,h')) {g:G} {w:World} {vals:List Value} (R:Rel g h w) (hC:g.C=LpC P T) (hr:Reps g vs vals) :
  Calls P f vals.toArray w fun e w'=>∃ v g',e=.returned v∧Le g g'∧Rel g' h' w'∧Rep g' r v∧Fx w w':=by
 obtain ⟨k,hk⟩:=callW_some.1 H
 exact ((callK_ok HT k).fn f vs h r h' hy hk).2 g w vals R hC hr
end
end Zv
end
section
namespace Zv
open Go
inductive CT where
 |b
 |i (k:IntKind)
 |s
 |l (e:Nat)
 deriving Inhabited
inductive ET where
 |one (c:CT)
 |st (cs:List CT)
 deriving Inhabited
mutual
def ok (E:Nat→ET):ET→D→Prop
 | .one .b,.bool _=>True
 | .one (.i k),.int k' n=>k'=k∧(Lit.int k n).wf=true
 | .one .s,.str s=>s.size≤maxLen
 | .one (.l e),.lst xs=>xs.length≤maxLen∧okEs E (E e) xs
 | .st cs,.agg ys=>okCs E cs ys
 |_,_=>False
def okEs (E:Nat→ET) (t:ET):List D→Prop
 | []=>True
 |x::r=>ok E t x∧okEs E t r
def okCs (E:Nat→ET):List CT→List D→Prop
 | [],[]=>True
 |c::cs,y::ys=>ok E (.one c) y∧okCs E cs ys
 |_,_=>False
end
theorem okEs_app {E:Nat→ET} {t:ET}:∀ {l r:List D},okEs E t l→okEs E t r→okEs E t (l++r)
 | [],_,_,h=>h
 |x::l,r,h,k=>by simp only[okEs] at h;exact (show ok E t x∧okEs E t (l++r) from ⟨h.1,okEs_app h.2 k⟩)
theorem ok_i {E:Nat→ET} {k:IntKind} {x:D} (h:ok E (.one (.i k)) x):∃ n,x=.int k n∧(Lit.int k n).wf=true:=by
 cases x<;>simp[ok] at h
 obtain ⟨rfl,h⟩:=h
 exact⟨_,rfl,h⟩
theorem ok_s {E:Nat→ET} {x:D} (h:ok E (.one .s) x):∃ s,x=.str s∧s.size≤maxLen:=by
 cases x<;>simp[ok] at h
 exact⟨_,rfl,h⟩
theorem ok_l {E:Nat→ET} {e:Nat} {x:D} (h:ok E (.one (.l e)) x):∃ l,x=.lst l∧l.length≤maxLen∧okEs E (E e) l:=by
 cases x<;>simp[ok] at h
 exact⟨_,rfl,h⟩
theorem ok_st {E:Nat→ET} {cs:List CT} {x:D} (h:ok E (.st cs) x):∃ l,x=.agg l∧okCs E cs l:=by
 cases x<;>simp[ok] at h
 exact⟨_,rfl,h⟩
theorem okCs_nil {E:Nat→ET} {l:List D} (h:okCs E [] l):l=[]:=by
 cases l<;>simp[okCs] at h
 rfl
theorem okCs_cons {E:Nat→ET} {c:CT} {cs:List CT} {l:List D} (h:okCs E (c::cs) l):∃ y r,l=y::r∧ok E (.one c) y∧okCs E cs r:=by
 cases l<;>simp[okCs] at h
 exact⟨_,_,rfl,h⟩
def flatF (P:Program) (g:TypeId→Option (List TypeId)):List Field→Nat→Option (List TypeId)
 | [],_=>some []
 |f::r,off=>if f.offset=off then (match g f.type with
  |some a=>if a.length=P.cellsOf f.type then (flatF P g r (off+a.length)).map fun q=>a++q else none
  |none=>none) else none
def flat (P:Program):Nat→TypeId→Option (List TypeId)
 |0,_=>none
 |n+1,t=>match P.underlying t with
  |some (.struct fs)=>match flatF P (flat P n) fs.toList 0 with
   |some tl=>if tl.length=P.cellsOf t then some tl else none
   |none=>none
  |some .bool | some (.int _) | some .string | some (.slice _)=>some [t]
  |_=>none
def mtCT (P:Program) (tys:List TypeId) (t:TypeId):CT→Bool
 | .b=>match P.underlying t with
  |some .bool=>true
  |_=>false
 | .i k=>match P.underlying t with
  |some (.int k')=>decide (k'=k)
  |_=>false
 | .s=>match P.underlying t with
  |some .string=>true
  |_=>false
 | .l j=>match P.underlying t with
  |some (.slice e)=>decide (tys[j]? = some e)
  |_=>false
def mtCTs (P:Program) (tys:List TypeId):List TypeId→List CT→Bool
 | [],[]=>true
 |t::ts,c::cs=>mtCT P tys t c && mtCTs P tys ts cs
 |_,_=>false
def mtET (P:Program) (tys:List TypeId) (t:TypeId):ET→Bool
 | .one c=>mtCT P tys t c
 | .st cs=>(match P.underlying t with
  |some (.struct _)=>true
  |_=>false) && (match flat P 12 t with
  |some tl=>mtCTs P tys tl cs
  |none=>false)
def mtEs (P:Program) (tys:List TypeId):List TypeId→List ET→Bool
 | [],[]=>true
 |t::ts,e::es=>mtET P tys t e && !(P.cellsOf t == 0) && mtEs P tys ts es
 |_,_=>false
section
variable {H:Type} {enc:TypeId × Value→H} {P:Program} {w:World} {base:Nat} {sp:Nat→Bool} {held:Bool}
theorem trod_leaf {t:TypeId} {n:Nat} {cs:List Value} {x:DataW H × List MemPlace} (ht:P.underlying t=some .bool∨(∃ k,P.underlying t=some (.int k))∨P.underlying t=some .string∨∃ e,P.underlying t=some (.slice e))
  (h:DataW.trod enc P w base sp held n t cs=some x):∃ v,cs=[v]:=by
 rcases ht with ht | ⟨k,ht⟩ | ht | ⟨e,ht⟩
 ·obtain ⟨b,h1,_⟩:=DataW.trod_bool ht h;exact⟨_,h1⟩
 ·obtain ⟨b,h1,_⟩:=DataW.trod_int ht h;exact⟨_,h1⟩
 ·obtain ⟨b,h1,_⟩:=DataW.trod_string ht h;exact⟨_,h1⟩
 ·rcases DataW.trod_slice ht h with ⟨h1,_⟩ | ⟨a,len,cap,elems,rest,n,_,h1,_⟩
  ·exact⟨_,h1⟩
  ·exact⟨_,h1⟩
theorem flat_ok:∀ (n:Nat) {t:TypeId} {tl:List TypeId},flat P n t=some tl→∀ (m:Nat) (cs:List Value) (x:DataW H × List MemPlace),DataW.trod enc P w base sp held m t cs=some x →
  cs.length=tl.length∧∀ (i:Nat) (ty:TypeId) (v:Value),tl[i]? = some ty→cs[i]? = some v→∃ m' x',m'≤m∧DataW.trod enc P w base sp held m' ty [v]=some x'
 |0,_,_,h=>by cases h
 |n+1,t,tl,hf=>by
  have leafCase:(P.underlying t=some .bool∨(∃ k,P.underlying t=some (.int k))∨P.underlying t=some .string∨∃ e,P.underlying t=some (.slice e))→tl=[t] →
    ∀ (m:Nat) (cs:List Value) (x:DataW H × List MemPlace),DataW.trod enc P w base sp held m t cs=some x →
    cs.length=tl.length∧∀ (i:Nat) (ty:TypeId) (v:Value),tl[i]? = some ty→cs[i]? = some v→∃ m' x',m'≤m∧DataW.trod enc P w base sp held m' ty [v]=some x':=by
   rintro hl rfl m cs x h
   obtain ⟨v,rfl⟩:=trod_leaf hl h
   refine ⟨rfl,fun i ty u h1 h2=>?_⟩
   cases i with
   |zero=>simp at h1 h2;subst h1;subst h2;exact⟨m,x,Nat.le_refl _,h⟩
   |succ i=>simp at h1
  unfold flat at hf
  split at hf
  ·rename_i fs ht
   split at hf
   ·rename_i tl' hff
    split at hf
    ·rename_i hlen
     cases hf
     intro m cs x h
     obtain ⟨xs,m',hm,_,hcl,hxl,hx⟩:=DataW.trod_struct ht h
     refine ⟨by rw[hcl,hlen],?_⟩
     have go:∀ (r:List Field) (k off:Nat) (q:List TypeId),fs.toList.drop k=r→flatF P (flat P n) r off=some q→∀ (i:Nat) (ty:TypeId) (v:Value),q[i]? = some ty→cs[off+i]? = some v→∃ m' x',m'≤m∧DataW.trod enc P w base sp held m' ty [v]=some x':=by
      intro r
      induction r with
      |nil=>intro k off q _ hq i ty v h1;cases hq;simp at h1
      |cons f r ih=>
       intro k off q hk hq i ty v h1 h2
       have hfk:fs[k]? = some f:=by
        have:(fs.toList.drop k)[0]? = some f:=by rw[hk];rfl
        rw[List.getElem?_drop,Nat.add_zero] at this
        rw[←Array.getElem?_toList];exact this
       have hklt:k<fs.size:=(Array.getElem?_eq_some_iff.1 hfk).1
       simp only[flatF] at hq
       split at hq
       ·rename_i hoff
        split at hq
        ·rename_i a ha
         split at hq
         ·rename_i hal
          simp only[Option.map_eq_some_iff] at hq
          obtain ⟨q',hq',rfl⟩:=hq
          have hxk:=hx k f hfk
          have hsome:xs[k]? = some (xs[k]'(by omega)):=by simp[show k<xs.length by omega]
          rw[hsome] at hxk
          obtain ⟨hl1,hl2⟩:=flat_ok n ha _ _ _ hxk
          by_cases hia:i<a.length
          ·rw[List.getElem?_append_left hia] at h1
           obtain ⟨m2,x2,hm2,hx2⟩:=hl2 i ty v h1 (by
            rw[List.getElem?_take_of_lt (by omega),List.getElem?_drop,hoff];exact h2)
           exact⟨m2,x2,by omega,hx2⟩
          ·rw[List.getElem?_append_right (by omega)] at h1
           exact ih (k+1) (off+a.length) q' (by rw[←List.drop_drop,hk];rfl) hq' (i - a.length) ty v h1 (by rw[show off+a.length+(i - a.length)=off+i by omega];exact h2)
         ·cases hq
        ·cases hq
       ·cases hq
     exact fun i ty v h1 h2=>go fs.toList 0 0 tl (by simp) hff i ty v h1 (by rw[Nat.zero_add];exact h2)
    ·cases hf
   ·cases hf
  ·rename_i ht;cases hf;exact leafCase (.inl ht) rfl
  ·rename_i k ht;cases hf;exact leafCase (.inr (.inl ⟨k,ht⟩)) rfl
  ·rename_i ht;cases hf;exact leafCase (.inr (.inr (.inl ht))) rfl
  ·rename_i e ht;cases hf;exact leafCase (.inr (.inr (.inr ⟨e,ht⟩))) rfl
  ·cases hf
theorem cells?_spec {a:Addr}:∀ {n:Nat} {cs:List Value},w.cells? base a n=some cs→cs.length=n∧∀ i,i<n→∃ v,cs[i]? = some v∧w.cell? (a.add i)=some v:=by
 intro n cs h
 unfold World.cells? at h
 split at h
 ·have hl:cs.length=n:=by have:=mapM_length h;simpa using this
  refine ⟨hl,fun i hi=>?_⟩
  have hget:∀ (l:List Nat) (r:List Value),l.mapM (fun i=>w.cell? (a.add i))=some r→∀ (i j:Nat),l[i]? = some j→∃ v,r[i]? = some v∧w.cell? (a.add j)=some v:=by
   intro l
   induction l with
   |nil=>intro r _ i j hj;simp at hj
   |cons x l ih=>
    intro r hr i j hj
    obtain ⟨b,s,h1,h2,rfl⟩:=mapM_cons hr
    cases i with
    |zero=>simp at hj;subst hj;exact⟨b,rfl,h1⟩
    |succ i=>exact ih s h2 i j (by simpa using hj)
  exact hget _ _ h i i (by simp[hi])
 ·cases h
theorem mtEs_at {tys:List TypeId}:∀ {ts:List TypeId} {es:List ET} {j:Nat} {e:TypeId},mtEs P tys ts es=true→ts[j]? = some e→∃ et,es[j]? = some et∧mtET P tys e et=true∧P.cellsOf e≠0
 | [],_,_,_,_,h=>by simp at h
 |t::ts,[],_,_,hm,_=>by cases hm
 |t::ts,x::es,j,e,hm,h=>by
  simp only[mtEs,Bool.and_eq_true] at hm
  cases j with
  |zero=>simp at h;subst h;exact⟨x,rfl,hm.1.1,by simpa using hm.1.2⟩
  |succ j=>
   obtain ⟨et,h1,h2⟩:=mtEs_at hm.2 (by simpa using h)
   exact⟨et,by simpa using h1,h2⟩
theorem mtCTs_at {tys:List TypeId}:∀ {tl:List TypeId} {cs:List CT},mtCTs P tys tl cs=true→cs.length=tl.length∧∀ (i:Nat) (c:CT),cs[i]? = some c→∃ ty,tl[i]? = some ty∧mtCT P tys ty c=true
 | [],[],_=>⟨rfl,fun i c h=>by simp at h⟩
 |t::ts,x::cs,hm=>by
  simp only[mtCTs,Bool.and_eq_true] at hm
  obtain ⟨h1,h2⟩:=mtCTs_at hm.2
  refine ⟨by simp[h1],fun i c hc=>?_⟩
  cases i with
  |zero=>simp at hc;subst hc;exact⟨t,rfl,hm.1⟩
  |succ i=>obtain ⟨ty,k1,k2⟩:=h2 i c (by simpa using hc);exact⟨ty,by simpa using k1,k2⟩
 | [],_::_,h=>by cases h
 |_::_,[],h=>by cases h
def EE (es:List ET) (j:Nat):ET:=es.getD j (.one .b)
theorem trod_rep {tys:List TypeId} {es:List ET} (hE:mtEs P tys tys es=true):∀ (n:Nat),
  (∀ (t:TypeId) (c:CT) (v:Value) (x:DataW H × List MemPlace),mtCT P tys t c=true→DataW.trod enc P w base sp held n t [v]=some x→∃ d,ok (EE es) (.one c) d∧RepD (fun b=>w.heap[b]?) d v∧leaf v∧d.cells=[d]) ∧
  (∀ (t:TypeId) (et:ET) (cs:List Value) (x:DataW H × List MemPlace),mtET P tys t et=true→DataW.trod enc P w base sp held n t cs=some x→∃ d,ok (EE es) et d∧RepDs (fun b=>w.heap[b]?) d.cells cs∧d.cells.length=cs.length∧(∀ c,et=.one c→∃ v,cs=[v]∧RepD (fun b=>w.heap[b]?) d v∧leaf v)):=by
 intro n
 induction n using Nat.strongRecOn with
 |_ n ih=>
  have hC:∀ (t:TypeId) (c:CT) (v:Value) (x:DataW H × List MemPlace),mtCT P tys t c=true→DataW.trod enc P w base sp held n t [v]=some x→∃ d,ok (EE es) (.one c) d∧RepD (fun b=>w.heap[b]?) d v∧leaf v∧d.cells=[d]:=by
   intro t c v x hm h
   cases c with
   |b=>
    simp only[mtCT] at hm
    split at hm
    ·rename_i ht
     obtain ⟨b,h1,_⟩:=DataW.trod_bool ht h
     cases h1
     exact⟨.bool b,by simp[ok],.bool b,trivial,rfl⟩
    ·cases hm
   |i k=>
    simp only[mtCT] at hm
    split at hm
    ·rename_i k' ht
     have:=of_decide_eq_true hm
     subst this
     obtain ⟨q,h1,_,h2⟩:=DataW.trod_int ht h
     cases h1
     exact⟨.int k' q,by simp[ok,h2],.int k' q,trivial,rfl⟩
    ·cases hm
   |s=>
    simp only[mtCT] at hm
    split at hm
    ·rename_i ht
     obtain ⟨s,h1,_,h2⟩:=DataW.trod_string ht h
     cases h1
     exact⟨.str s,by simpa [ok] using h2,.str s,trivial,rfl⟩
    ·cases hm
   |l j=>
    simp only[mtCT] at hm
    split at hm
    ·rename_i e ht
     have hj:=of_decide_eq_true hm
     obtain ⟨et,he1,he2,he3⟩:=mtEs_at hE hj
     rcases DataW.trod_slice ht h with ⟨h1,_⟩ | ⟨a,len,cap,elems,rest,m,hnm,h1,_,hb,hlc,hcm,hel,hat,_⟩
     ·cases h1
      exact⟨.lst [],by simp[ok,okEs],.lst [] 0 0 none [] (fun x hx=>by cases hx) (Nat.le_refl _) .nil (.inl rfl),trivial,rfl⟩
     ·cases h1
      have build:∀ k,k≤len→∃ (xs:List D) (vs:List Value),xs.length=k∧vs.length=k*P.cellsOf e∧okEs (EE es) et xs∧(∀ x,x ∈ xs→x.cells.length=P.cellsOf e)∧RepDs (fun b=>w.heap[b]?) (xs.flatMap D.cells) vs ∧
        ∀ j v,vs[j]? = some v→w.cell? ⟨a.block,a.off+j,none⟩=some v∧a.spot=none:=by
       intro k
       induction k with
       |zero=>intro _;exact⟨[],[],rfl,by simp,by simp[okEs],(fun x hx=>by cases hx),.nil,fun j v hj=>by simp at hj⟩
       |succ k ihk=>
        intro hk
        obtain ⟨xs,vs,b1,b2,b3,b4,b5,b6⟩:=ihk (by omega)
        have hak:=hat k (by omega)
        have hsome:elems[k]? = some (elems[k]'(by omega)):=by simp[show k<elems.length by omega]
        rw[hsome,Option.bind_eq_some_iff] at hak
        obtain ⟨cs,hcs,htr⟩:=hak
        obtain ⟨hcl,hcat⟩:=cells?_spec hcs
        obtain ⟨d,d1,d2,d3,_⟩:=(ih m (by omega)).2 e et cs _ he2 htr
        refine ⟨xs++[d],vs++cs,by simp[b1],by rw[List.length_append,b2,hcl,Nat.add_mul,Nat.one_mul],okEs_app b3 (by simp[okEs,d1]),fun x hx=>?_,?_,fun j v hj=>?_⟩
        ·rcases List.mem_append.1 hx with hx | hx
         ·exact b4 x hx
         ·simp at hx;subst hx;rw[d3,hcl]
        ·rw[List.flatMap_append]
         refine b5.app ?_
         simpa using d2
        ·by_cases hjl:j<vs.length
         ·rw[List.getElem?_append_left hjl] at hj;exact b6 j v hj
         ·rw[List.getElem?_append_right (by omega)] at hj
          have hlt:j - vs.length<P.cellsOf e:=by have:=(List.getElem?_eq_some_iff.1 hj).1;omega
          obtain ⟨u,u1,u2⟩:=hcat (j - vs.length) hlt
          rw[hj] at u1;cases u1
          have hspot:∀ b:Addr,w.cell? b=some v→b.spot=none:=by
           intro b hb'
           unfold World.cell? at hb'
           split at hb'
           ·split at hb'
            ·cases hb'
            ·rename_i hs;cases hq:b.spot with
             |none=>rfl
             |some q=>rw[hq] at hs;simp at hs
           ·cases hb'
          have haddr:(a.add (k*P.cellsOf e)).add (j - vs.length)=⟨a.block,a.off+j,none⟩:=by
           have hs:=hspot _ u2
           have hkj:k*P.cellsOf e+(j - vs.length)=j:=by omega
           obtain ⟨ab,ao,asp⟩:=a
           unfold Addr.add at hs ⊢
           by_cases hk0:k*P.cellsOf e=0
           ·simp only[hk0,if_true] at hs ⊢
            by_cases hj0:j - vs.length=0
            ·simp only[hj0,if_true] at hs ⊢
             subst hs
             simp only[Addr.mk.injEq,true_and,and_true];omega
            ·simp only[hj0,if_false]
             simp only[Addr.mk.injEq,true_and,and_true];omega
           ·simp only[hk0,if_false] at hs ⊢
            by_cases hj0:j - vs.length=0
            ·simp only[hj0,if_true] at hs ⊢
             simp only[Addr.mk.injEq,true_and,and_true];omega
            ·simp only[hj0,if_false]
             simp only[Addr.mk.injEq,true_and,and_true];omega
          rw[haddr] at u2
          refine ⟨u2,?_⟩
          by_cases hk0:k=0
          ·subst hk0
           obtain ⟨u',_,u2'⟩:=hcat 0 (by omega)
           have:(a.add (0*P.cellsOf e)).add 0=a:=by simp[Addr.add]
           rw[this] at u2'
           unfold World.cell? at u2'
           split at u2'
           ·split at u2'
            ·cases u2'
            ·rename_i hs;cases hq:a.spot with
             |none=>rfl
             |some q=>rw[hq] at hs;simp at hs
           ·cases u2'
          ·have hvl:0<vs.length:=by rw[b2];exact Nat.mul_pos (by omega) (by omega)
           obtain ⟨_,hs⟩:=b6 0 vs[0] (by simp[hvl])
           exact hs
      obtain ⟨xs,vs,b1,b2,b3,b4,b5,b6⟩:=build len (Nat.le_refl _)
      refine ⟨.lst xs,?_,?_,trivial,rfl⟩
      ·simp only[ok]
       refine ⟨by omega,?_⟩
       rw[show EE es j=et from by simp[EE,he1]]
       exact b3
      ·subst b1
       refine .lst xs (P.cellsOf e) cap (some a) vs b4 hlc b5 ?_
       by_cases hx:xs=[]
       ·exact .inl hx
       ·right
        have hxl:0<xs.length:=List.length_pos_iff.2 hx
        have hvl:0<vs.length:=by rw[b2];exact Nat.mul_pos hxl (by omega)
        obtain ⟨_,hs⟩:=b6 0 vs[0] (by simp[hvl])
        refine ⟨a.block,a.off,by rw[←hs],fun j v hj=>?_⟩
        obtain ⟨hc,_⟩:=b6 j v hj
        unfold World.cell? at hc
        unfold cellφ
        simp only at hc ⊢
        split at hc
        ·rename_i hh;rw[hh];simpa using hc
        ·cases hc
    ·cases hm
  refine ⟨hC,fun t et cs x hm h=>?_⟩
  cases et with
  |one c=>
   simp only[mtET] at hm
   have hleaf:P.underlying t=some .bool∨(∃ k,P.underlying t=some (.int k))∨P.underlying t=some .string∨∃ e,P.underlying t=some (.slice e):=by
    cases c<;>simp only[mtCT] at hm<;>split at hm<;>first | cases hm | skip
    ·exact .inl (by assumption)
    ·exact .inr (.inl ⟨_,by assumption⟩)
    ·exact .inr (.inr (.inl (by assumption)))
    ·exact .inr (.inr (.inr ⟨_,by assumption⟩))
   obtain ⟨v,rfl⟩:=trod_leaf hleaf h
   obtain ⟨d,d1,d2,d3,d4⟩:=hC t c v x hm h
   exact⟨d,d1,by rw[d4];exact .cons _ _ _ _ d2 .nil d3,by rw[d4];rfl,fun c' hc'=>⟨v,rfl,d2,d3⟩⟩
  |st ct=>
   simp only[mtET,Bool.and_eq_true] at hm
   obtain ⟨_,hm⟩:=hm
   split at hm
   ·rename_i tl htl
    obtain ⟨hl,hfl⟩:=flat_ok 12 htl _ _ _ h
    obtain ⟨hl2,hct⟩:=mtCTs_at hm
    have each:∀ (i:Nat) (c:CT) (v:Value),ct[i]? = some c→cs[i]? = some v→∃ d,ok (EE es) (.one c) d∧RepD (fun b=>w.heap[b]?) d v∧leaf v:=by
     intro i c v hc hv
     obtain ⟨ty,k1,k2⟩:=hct i c hc
     obtain ⟨m,x',hm',hx'⟩:=hfl i ty v k1 hv
     rcases Nat.lt_or_ge m n with hlt | hge
     ·obtain ⟨d,d1,d2,d3,_⟩:=(ih m hlt).1 ty c v x' k2 hx'
      exact⟨d,d1,d2,d3⟩
     ·have:m=n:=by omega
      subst this
      obtain ⟨d,d1,d2,d3,_⟩:=hC ty c v x' k2 hx'
      exact⟨d,d1,d2,d3⟩
    have all:∀ (ct:List CT) (cs:List Value),ct.length=cs.length→(∀ (i:Nat) (c:CT) (v:Value),ct[i]? = some c→cs[i]? = some v→∃ d,ok (EE es) (.one c) d∧RepD (fun b=>w.heap[b]?) d v∧leaf v) →
      ∃ ys,okCs (EE es) ct ys∧RepDs (fun b=>w.heap[b]?) ys cs∧ys.length=cs.length:=by
     intro ct
     induction ct with
     |nil=>intro cs hl _;cases cs with
      |nil=>exact⟨[],by simp[okCs],.nil,rfl⟩
      |cons _ _=>simp at hl
     |cons c ct ihc=>
      intro cs hl he
      cases cs with
      |nil=>simp at hl
      |cons v cs=>
       obtain ⟨d,d1,d2,d3⟩:=he 0 c v rfl rfl
       obtain ⟨ys,y1,y2,y3⟩:=ihc cs (by simpa using hl) (fun i c' v' h1 h2=>he (i+1) c' v' (by simpa using h1) (by simpa using h2))
       exact⟨d::ys,by simp only[okCs];exact⟨d1,y1⟩,.cons _ _ _ _ d2 y2 d3,by simp[y3]⟩
    obtain ⟨ys,y1,y2,y3⟩:=all ct cs (by omega) each
    exact⟨.agg ys,by simp only[ok];exact y1,y2,y3,fun c hc=>by cases hc⟩
   ·cases hm
theorem arg_rep {tys:List TypeId} {es:List ET} (hE:mtEs P tys tys es=true) {t:TypeId} {et:ET} {v:Value} {d:DataW H} {ps:List MemPlace} {r:Reach} {b0:Nat} (hm:mtET P tys t et=true) (hv:Value.okWide P w r b0 t v)
  (h:DataW.Trod enc P w base sp held t v d ps):∃ x,ok (EE es) et x∧RepD (fun b=>w.heap[b]?) x v:=by
 obtain ⟨n,hn⟩:=h
 obtain ⟨x,x1,x2,x3,x4⟩:=(trod_rep hE n).2 t et _ _ hm hn
 cases et with
 |one c=>
  obtain ⟨u,hu,hr,hl⟩:=x4 c rfl
  refine ⟨x,x1,?_⟩
  have:v=u:=by
   simp only[mtET] at hm
   cases c<;>simp only[mtCT] at hm<;>split at hm<;>first | cases hm | skip
   ·rename_i ht;obtain ⟨b,rfl⟩:=WideShapes.okWide_bool ht hv;simpa [Value.cells] using hu
   ·rename_i k' ht;obtain ⟨b,rfl⟩:=WideShapes.okWide_int ht hv;simpa [Value.cells] using hu
   ·rename_i ht;obtain ⟨b,rfl⟩:=WideShapes.okWide_string ht hv;simpa [Value.cells] using hu
   ·rename_i e ht;obtain ⟨a,l,c,rfl⟩:=WideShapes.okWide_slice ht hv;simpa [Value.cells] using hu
  rw[this];exact hr
 |st ct=>
  simp only[mtET,Bool.and_eq_true] at hm
  have hagg:∃ cs,v=.agg cs:=by
   have h1:=hm.1
   split at h1
   ·rename_i fs ht
    simp only[Value.okWide,ht] at hv
    obtain ⟨cs,rfl,_⟩:=hv
    exact⟨cs,rfl⟩
   ·cases h1
  obtain ⟨cs,rfl⟩:=hagg
  cases x with
  |agg ys=>
   refine ⟨.agg ys,x1,?_⟩
   have:=RepD.agg (φ:=fun b=>w.heap[b]?) ys cs.toList x2
   simpa using this
  |_=>simp[ok] at x1
end
def G.start (W:World) (C:CTy):G:={ φ:=fun b=>W.heap[b]?,μ:=fun _ _=>default,N:=0,B:=fun _=>0,F:=fun _=>none,C:=C }
theorem Rel.start (W:World) (C:CTy):Rel (G.start W C) ⟨[],0⟩ W where
 nx:=rfl
 fr:=fun _ _ h=>h
 nd:=List.nodup_nil
 ob:=fun _ _ h=>(by cases h)
 sep:=fun _ _ _ _ h=>(by cases h)
 out:=fun _ _ h=>(by cases h)
 kp:=fun _ _ h=>(by cases h)
 kpo:=fun _ _ h=>(by cases h)
theorem run_true {P:Program} {T:Tab} (HT:TabOk P T) {f:Nat} {xs:List D} {vals:List Value} {W:World} {h':Hp} (H:callW T f (xs.map .d) ⟨[],0⟩=some (.d (.bool true),h')) (hr:RepDs (fun b=>W.heap[b]?) xs vals∨∀ C,Reps (G.start W C) (xs.map .d) vals) (hy:f≠YF:=by decide) :
  Calls P f vals.toArray W fun e W'=>e=.returned (.bool true)∧RowKit.Below W.heap.size W W':=by
 have hr':Reps (G.start W (LpC P T)) (xs.map .d) vals:=by
  rcases hr with h | h
  ·exact Reps.of_map_d h
  ·exact h _
 refine (callW_ok HT hy H (Rel.start W _) rfl hr').mono ?_
 rintro e W' ⟨v,g',rfl,l1,l2,l3,l4⟩
 have hv:v=.bool true:=by
  cases l3 with | d _ _ h=>cases h;rfl
 subst hv
 refine ⟨rfl,l4.os,l4.tape,l4.output,l4.size,fun k hk=>?_⟩
 have h1:W.heap[k]? = some W.heap[k]:=by simp[hk]
 rw[h1]
 exact l2.fr k _ (l1.φ k _ h1)
end Zv
end
section
namespace Zv
open Go
section
variable {s:Nat}
end
section
variable {b:Hp} {h:Hp}
end
mutual
def clV:V→Bool
 | .d _ | .fp _ _ | .ub | .undef=>true
 | .tl l _ | .clo _ l | .agg l | .tup l=>clVs l
 | .own .. | .ptr .. | .map _ | .yld _=>false
def clVs:List V→Bool
 | []=>true
 |v::r=>clV v && clVs r
end
def clO:Opd→Bool
 | .t _=>true
 | .c v=>clV v
def clOo:Option Opd→Bool
 |none=>true
 |some x=>clO x
def clOp:AOp→Bool
 | .mv x | .box _ x | .ld _ _ x | .nilck x | .nilBin _ _ x | .un _ x | .conv _ x | .fa _ x | .fld _ _ _ x
 | .lenS x | .lenL x | .lenM x | .capT x | .ext _ x | .ldf _ _ x=>clO x
 | .mksl z _ _ x | .mkslT z _ x=>clV z && clO x
 | .appz z _ _ x y=>clV z && clO x && clO y
 | .pick c a b=>clO c && clO a && clO b
 | .alloc _ z=>clV z
 | .mkmap | .stuck=>true
 | .build z ps=>clVs z && ps.all fun p=>clO p.2.2
 | .bsl _ xs | .bslO _ xs | .mkf _ xs=>xs.all clO
 | .st _ x y | .bin _ x y | .binB _ x y | .aggBin _ _ x y | .ia _ x y | .ixS x y | .app _ _ x y | .appn _ _ x y | .appf _ _ x y | .appd _ _ x y | .cpy _ x y=>clO x && clO y
 | .lk _ z _ x y=>clV z && clO x && clO y
 | .slcS x lo hi | .slc _ x lo hi=>clO x && clOo lo && clOo hi
 | .slc3 _ x lo hi mx=>clO x && clOo lo && clOo hi && clOo mx
 | .mu _ m k x=>clO m && clO k && clO x
 | .ldk k _ _ x=>clO k && clO x
 | .callk k f _ xs | .callz k f _ xs=>clO k && (clO f && xs.all clO)
 | .call f _ xs | .calln f _ xs | .callf f _ xs=>clO f && xs.all clO
def clI:It→Bool
 | .o _ op _=>clOp op
 |_=>true
def clC:AC→Bool
 | .reg its _=>its.all clI
 | .seq a b=>clC a && clC b
 | .cond c a b=>clO c && clC a && clC b
 | .blk _ a | .loop a=>clC a
 | .rng g _=>clO g
 | .amb p c a b r=>clC p && clO c && clC a && clC b && clC r
 |_=>true
section
variable {b:Hp} {h:Hp} {e:Env} {cf:Cf}
end
def TabCl (T:Tab):Prop:=∀ f fn,T f=some fn→clC fn.body=true
end Zv
end
section
namespace Zs
open Go Zv
theorem ex_reg (T:Tab) (its:List It) (kp:Option (List Nat)) (e:Env) (h:Hp):ex T (.reg its kp) e h=(itsX (cW T) its e h).map fun r=>(.norm,keepE kp r.1,r.2):=rfl
theorem ex_seq (T:Tab) (a b:AC) (e:Env) (h:Hp):ex T (.seq a b) e h=(ex T a e h).bind (nxt (ex T b)):=rfl
theorem ex_cond (T:Tab) (c:Opd) (a b:AC) (e:Env) (h:Hp):ex T (.cond c a b) e h=(condB (e.ev c)).bind fun t=>if t=true then ex T a e h else ex T b e h:=rfl
theorem ex_blk (T:Tab) (id:Nat) (a:AC) (e:Env) (h:Hp):ex T (.blk id a) e h=(ex T a e h).map fun o=>(if o.1=.exit id then .norm else o.1,o.2):=rfl
theorem ex_loop (T:Tab) (a:AC) (e:Env) (h:Hp):ex T (.loop a) e h=(ex T a e h).bind (nxt (ex T (.loop a))):=loopW_eq _ e h
def done (fn:AF) (h:Hp) (o:Out):Option (V × Hp):=match o.1 with
 | .exit _=>none
 |_=>finish fn h o.2.1 o.2.2
theorem callW_fn {T:Tab} {f:Nat} {fn:AF} (hT:T f=some fn) {vs:List V} (hn:vs.length=fn.np) (h:Hp) (hp:isPr fn.body=none) (hf:f<RB:=by decide):callW T f vs h=(ex T fn.body (args 0 vs) h).bind (done fn h):=by
 rw[callW_eq]
 unfold body
 rw[if_neg (by unfold YF;unfold RB at hf;omega),if_pos hf,hT]
 simp only[Option.bind_some]
 rw[if_pos hn,hp]
 rfl
theorem cW_clo (T:Tab) (f:Nat) (caps vs:List V) (h:Hp):cW T (.clo f caps) vs h=if (f == 1000000000)=true then none else callW T f (vs++caps) h:=by
 show (if f=YF then none else callW T f (vs++caps) h)=_
 unfold YF
 by_cases hf:f=1000000000
 ·rw[if_pos hf,if_pos (by simpa using hf)]
 ·rw[if_neg hf,if_neg (by simpa using hf)]
theorem ex_rng {T:Tab} {g:Opd} {b:Nat} {e:Env} {h:Hp} {f:Nat} {caps:List V} {v:V} {h2:Hp} {o:Out} (hg:e.ev g=.clo f caps) (H:callW T f (.yld h.next::caps) (h.alloc (.lp b e none))=some (v,h2)) (hend:rngEnd e h2 h.next=some o) (hf:f<RB:=by decide):ex T (.rng g b) e h=some o:=by
 unfold ex exec
 rw[hg,show isClo (V.clo f caps)=true from rfl,if_pos rfl]
 show (Option.bind (if f=YF then none else callW T f ([.yld h.next]++caps) (h.alloc (.lp b e none))) fun r=>rngEnd e r.2 h.next)=some o
 rw[if_neg (by unfold YF;unfold RB at hf;omega)]
 show (Option.bind (callW T f (.yld h.next::caps) (h.alloc (.lp b e none))) fun r=>rngEnd e r.2 h.next)=some o
 rw[H]
 exact hend
theorem cW_yld {T:Tab} {n b:Nat} {e:Env} {vs:List V} {h:Hp} {fn:AF} {asg bdy:AC} {e1:Env} {h1:Hp} {b':Nat} {e':List (Nat × V)} {o:Out} (hg:h.get n=some (.lp b e none)) (hT:T (RB+b)=some fn) (hb:fn.body=.seq asg bdy) (hn:vs.length=fn.np)
  (h1':ex T asg (binds (fn.res.map (·.1)) vs e) h=some (.norm,e1,h1)) (hg1:h1.get n=some (.lp b' e' none)) (h2:ex T bdy e1 (h1.set n (.lp b' e' (some .norm)))=some o):cW T (.yld n) vs h=rndEnd n o:=by
 show callW T YF (.yld n::vs) h=_
 rw[callW_eq]
 unfold body
 rw[if_pos rfl]
 simp only
 unfold rnd
 rw[hg]
 simp only
 rw[hT]
 simp only[Option.bind_some]
 rw[hb]
 simp only
 rw[if_pos hn]
 show (Option.bind (ex T asg (binds (fn.res.map (·.1)) vs e) h) _)=_
 rw[h1']
 simp only[Option.bind_some]
 rw[hg1]
 simp only
 show (Option.bind (ex T bdy e1 (h1.set n (.lp b' e' (some .norm)))) _)=_
 rw[h2]
 rfl
theorem its_nil (cf:Cf) (e:Env) (h:Hp):itsX cf [] e h=some (e,h):=rfl
theorem its_cons (cf:Cf) (i:It) (r:List It) (e:Env) (h:Hp):itsX cf (i::r) e h=(itX cf e h i).bind fun s=>itsX cf r s.1 s.2:=rfl
theorem it_o (cf:Cf) (e:Env) (h:Hp) (dst:Option Nat) (op:AOp):itX cf e h (.o dst op none)=(opX cf e h op).map fun r=>(e.putO dst r.1,r.2):=rfl
theorem it_g (cf:Cf) (e:Env) (h:Hp) (dst:Option Nat) (op:AOp) (p:Nat × Bool):itX cf e h (.o dst op (some p))=(want e (some p)).bind fun w=>
   if w=true then (opX cf e h op).map fun r=>(e.putO dst r.1,r.2) else some (e.putO dst (.tup []),h):=rfl
theorem get_nil (n:Nat):Env.get [] n=.undef:=rfl
theorem get_cons (t:Nat) (v:V) (r:Env) (n:Nat):Env.get ((t,v)::r) n=if n=t then v else Env.get r n:=rfl
theorem ev_t (e:Env) (n:Nat):e.ev (.t n)=e.get n:=rfl
theorem ev_c (e:Env) (v:V):e.ev (.c v)=v:=rfl
theorem keep_nil (e:Env):Env.keep e []=[]:=rfl
theorem keep_cons (e:Env) (t:Nat) (l:List Nat):Env.keep e (t::l)=(t,e.get t)::Env.keep e l:=rfl
theorem args_nil (i:Nat):args i []=[]:=rfl
theorem args_cons (i:Nat) (v:V) (r:List V):args i (v::r)=(i,v)::args (i+1) r:=rfl
theorem nxt_n (k:Bf) (e:Env) (h:Hp):nxt k (.norm,e,h)=k e h:=rfl
theorem pv_some (h:Hp) (v:V):pureV h (some v)=some (v,h):=rfl
theorem condB_b (b:Bool):condB (.d (.bool b))=some b:=rfl
theorem bin_i (op:BinOp) (k:IntKind) (a b:Int):bin op (.d (.int k a)) (.d (.int k b))=intBin op k a b:=if_pos rfl
theorem suf_refl (l:List (Nat × Ob)):sufOk l l=true:=by
 unfold sufOk;rw[Nat.sub_self];exact objsBeq_refl l
theorem suf_app (n l:List (Nat × Ob)):sufOk l (n++l)=true:=by
 unfold sufOk
 rw[List.length_append,Nat.add_sub_cancel,List.drop_left];exact objsBeq_refl l
theorem suf_one (x:Nat × Ob) (l:List (Nat × Ob)):sufOk l (x::l)=true:=suf_app [x] l
theorem suf_two (x y:Nat × Ob) (l:List (Nat × Ob)):sufOk l (x::y::l)=true:=suf_app [x,y] l
theorem back_d (h:Hp) (n:Nat) (x:D):back1 h n (.d x)=some (.d x):=rfl
theorem quiet_refl (h:Hp) (v:V):quiet h (v,h)=some (v,h):=by
 unfold quiet;rw[if_pos ⟨objsBeq_refl _,rfl⟩]
theorem toDs_map:∀ l:List D,toDs (l.map V.d)=some l
 | []=>rfl
 |x::l=>by simp[toDs,toD,toDs_map l]
theorem norm_d (x:D):norm (.d x)=.d x:=rfl
theorem deep_ds (h:Hp) (n0 k:Nat):∀ l:List D,(l.map V.d).mapM (deep h n0 (k+1))=some l
 | []=>rfl
 |x::l=>by
  rw[List.map_cons,List.mapM_cons,deep_ds h n0 k l]
  rfl
theorem ixOf_nat (k:IntKind) (n:Nat):ixOf (.d (.int k (n:Int)))=some n:=by simp[ixOf]
theorem ia_at {es:Nat} {l:List D} {n:Nat} {x:D} (k:IntKind) (h:l[n]? = some x) (hc:x.cells.length=es):ia es (.d (.lst l)) (.d (.int k (n:Int)))=some (.fp x 0):=by
 simp[ia,ixOf_nat,h,hc]
theorem fa_fp (off:Nat) (x:D) (o:Nat):fa off (.fp x o)=some (.fp x (o+off)):=rfl
theorem ld_fp (ag:Bool) (sz:Nat) (h:Hp) (x:D) (o:Nat):ld ag sz h (.fp x o)=(partD ag o sz x.cells).map .d:=rfl
theorem ldf_fp (ag:Bool) (sz:Nat) (h:Hp) (x:D) (o:Nat):ldf ag sz h (.fp x o)=(partD ag o sz x.cells).map .d:=rfl
theorem cells_agg (l:List D):(D.agg l).cells=l:=rfl
theorem partD_one (o sz:Nat) (l:List D):partD false o sz l=l[o]? := rfl
theorem lenL_lst (l:List D):lenL (.d (.lst l))=some (.d (.int .i64 l.length)):=rfl
theorem wrap_ok {n:Int} (h1 : -(2 ^ 63)≤n) (h2:n<2 ^ 63):IntKind.i64.wrap n=n:=by
 simp[IntKind.wrap,IntKind.signed,IntKind.bits,IntKind.min,IntKind.max]
 omega
theorem wrap_succ {n:Nat} (h:n<2 ^ 62):IntKind.i64.wrap ((n:Int)+1)=((n+1:Nat):Int):=by
 rw[wrap_ok (by omega) (by omega)];rfl
theorem stor_d (x:D):stor (.d x)=true:=rfl
theorem stor_own (n es tot off len:Nat):stor (.own n es tot off len)=true:=rfl
theorem stor_ptr (n tot i off:Nat):stor (.ptr n tot i off)=true:=rfl
theorem stor_tl (l:List V) (nl:Option Bool):stor (.tl l nl)=true:=rfl
theorem stor_agg (l:List V):stor (.agg l)=true:=rfl
theorem stor_clo (f:Nat) (l:List V):stor (.clo f l)=true:=rfl
theorem stor_map (n:Nat):stor (.map n)=true:=rfl
theorem vcells_d (x:D):V.cells (.d x)=x.cells.map .d:=rfl
theorem vcells_agg (l:List V):V.cells (.agg l)=l:=rfl
theorem vcells_own (n es tot off len:Nat):V.cells (.own n es tot off len)=[.own n es tot off len]:=rfl
theorem vcells_ptr (n tot i off:Nat):V.cells (.ptr n tot i off)=[.ptr n tot i off]:=rfl
theorem vcells_tl (l:List V) (nl:Option Bool):V.cells (.tl l nl)=[.tl l nl]:=rfl
theorem vcells_clo (f:Nat) (l:List V):V.cells (.clo f l)=[.clo f l]:=rfl
theorem vcells_map (n:Nat):V.cells (.map n)=[.map n]:=rfl
theorem cells_int (k:IntKind) (n:Int):(D.int k n).cells=[.int k n]:=rfl
theorem cells_bool (b:Bool):(D.bool b).cells=[.bool b]:=rfl
theorem cells_str (s:ByteArray):(D.str s).cells=[.str s]:=rfl
theorem cells_lst (l:List D):(D.lst l).cells=[.lst l]:=rfl
theorem mkAgg1 (a:D):mkAgg [.d a]=.d (.agg [a]):=rfl
theorem mkAgg2 (a b:D):mkAgg [.d a,.d b]=.d (.agg [a,b]):=rfl
theorem mkAgg3 (a b c:D):mkAgg [.d a,.d b,.d c]=.d (.agg [a,b,c]):=rfl
theorem mkAgg4 (a b c d:D):mkAgg [.d a,.d b,.d c,.d d]=.d (.agg [a,b,c,d]):=rfl
theorem lay_nil (cs:List V):lay cs []=some cs:=rfl
theorem lay_cons (cs:List V) (off sz:Nat) (v:V) (r:List (Nat × Nat × V)):lay cs ((off,sz,v)::r)=if stor v=true∧v.cells.length=sz∧off+sz≤cs.length then lay (cs.take off++v.cells++cs.drop (off+sz)) r else none:=rfl
theorem row_cons (m es:Nat) (els:List V) (r:List (Nat × Ob)) (nx n tot:Nat):Hp.row ⟨(m,.arr es els)::r,nx⟩ n tot=if n=m then (if els.length=tot then some (es,els) else none) else Hp.row ⟨r,nx⟩ n tot:=by
 unfold Hp.row Hp.get
 show (match (if n=m then some (Ob.arr es els) else look r n) with
  |some (.arr es els)=>if els.length=tot then some (es,els) else none
  |_=>none)=_
 by_cases h:n=m
 ·rw[if_pos h,if_pos h]
 ·rw[if_neg h,if_neg h];rfl
theorem set_cons (m:Nat) (o:Ob) (r:List (Nat × Ob)) (nx n:Nat) (x:Ob):Hp.set ⟨(m,o)::r,nx⟩ n x=if n=m then ⟨(m,x)::r,nx⟩ else ⟨(m,o)::(Hp.set ⟨r,nx⟩ n x).objs,nx⟩:=by
 unfold Hp.set
 by_cases h:n=m
 ·simp[upd,h]
 ·simp[upd,h]
theorem alloc_mk (l:List (Nat × Ob)) (nx:Nat) (o:Ob):Hp.alloc ⟨l,nx⟩ o=⟨(nx,o)::l,nx+1⟩:=rfl
theorem nilck_ptr (n tot i off:Nat):nilck (.ptr n tot i off)=some (.ptr n tot i off):=rfl
theorem nilck_fp (x:D) (off:Nat):nilck (.fp x off)=some (.fp x off):=rfl
theorem fa_ptr (off n tot i o:Nat):fa off (.ptr n tot i o)=some (.ptr n tot i (o+off)):=rfl
theorem partV_one (o sz:Nat) (l:List V):partV false o sz l=l[o]? := rfl
theorem lenL_own (n es tot off len:Nat):lenL (.own n es tot off len)=some (.d (.int .i64 len)):=rfl
theorem lenL_tl (l:List V) (nl:Option Bool):lenL (.tl l nl)=some (.d (.int .i64 l.length)):=rfl
theorem mkAgg5 (a b c d e:D):mkAgg [.d a,.d b,.d c,.d d,.d e]=.d (.agg [a,b,c,d,e]):=rfl
theorem mkAgg6 (a b c d e f:D):mkAgg [.d a,.d b,.d c,.d d,.d e,.d f]=.d (.agg [a,b,c,d,e,f]):=rfl
theorem nilBin_ptr (op:BinOp) (n tot i off:Nat):nilBin .p op (.ptr n tot i off)=match op with
  | .eql=>some (.d (.bool false))
  | .neq=>some (.d (.bool true))
  |_=>none:=by cases op<;>rfl
theorem nilBin_nil (op:BinOp):nilBin .p op (.d .nilp)=match op with
  | .eql=>some (.d (.bool true))
  | .neq=>some (.d (.bool false))
  |_=>none:=by cases op<;>rfl
theorem ext_tup (i:Nat) (l:List V):ext i (.tup l)=l[i]? := rfl
theorem pick_b (c:Bool) (a b:V):pick (.d (.bool c)) a b=some (if c=true then a else b):=rfl
theorem resV_two (a b:V):resV [a,b]=.tup [a,b]:=rfl
theorem resV_one (a:V):resV [a]=a:=rfl
theorem resV_three (a b c:V):resV [a,b,c]=.tup [a,b,c]:=rfl
theorem mkAgg_own (n es tot off len:Nat) (r:List V):mkAgg (.own n es tot off len::r)=.agg (.own n es tot off len::r):=rfl
theorem mkAgg_ptr (n tot i off:Nat) (r:List V):mkAgg (.ptr n tot i off::r)=.agg (.ptr n tot i off::r):=rfl
theorem mkAgg_tl (l:List V) (nl:Option Bool) (r:List V):mkAgg (.tl l nl::r)=.agg (.tl l nl::r):=rfl
theorem mkAgg_map (n:Nat) (r:List V):mkAgg (.map n::r)=.agg (.map n::r):=rfl
theorem mkAgg_clo (f:Nat) (l:List V) (r:List V):mkAgg (.clo f l::r)=.agg (.clo f l::r):=rfl
theorem mkAgg_d_own (a:D) (n es tot off len:Nat) (r:List V):mkAgg (.d a::.own n es tot off len::r)=.agg (.d a::.own n es tot off len::r):=rfl
theorem mkAgg_dd_own (a b:D) (n es tot off len:Nat) (r:List V):mkAgg (.d a::.d b::.own n es tot off len::r)=.agg (.d a::.d b::.own n es tot off len::r):=rfl
theorem mkAgg_d_tl (a:D) (l:List V) (nl:Option Bool) (r:List V):mkAgg (.d a::.tl l nl::r)=.agg (.d a::.tl l nl::r):=rfl
theorem mkAgg_dd_tl (a b:D) (l:List V) (nl:Option Bool) (r:List V):mkAgg (.d a::.d b::.tl l nl::r)=.agg (.d a::.d b::.tl l nl::r):=rfl
theorem norm_ptr (n tot i off:Nat):norm (.ptr n tot i off)=.ptr n tot i off:=rfl
theorem norm_own (n es tot off len:Nat):norm (.own n es tot off len)=.own n es tot off len:=rfl
theorem norm_map (n:Nat):norm (.map n)=.map n:=rfl
def wantV (v:V) (b:Bool):Option Bool:=match v with
 | .d (.bool c)=>some (c == b)
 | .tup []=>some false
 |_=>none
theorem want_some (e:Env) (p:Nat × Bool):want e (some p)=wantV (e.get p.1) p.2:=rfl
theorem wantV_t (b:Bool):wantV (.tup []) b=some false:=rfl
theorem loop_from (T:Tab) (a:AC) (f:Nat→Env) (g:Nat→Hp) (N:Nat) (o:Out) (h:∀ n,n<N→ex T a (f n) (g n)=some (.norm,f (n+1),g (n+1))) (hN:ex T a (f N) (g N)=some o) (ho:o.1≠.norm) :
  ∀ k i,i+k=N→ex T (.loop a) (f i) (g i)=some o:=by
 intro k
 induction k with
 |zero=>
  intro i hi
  have:i=N:=by omega
  subst this
  rw[ex_loop,hN,Option.bind_some]
  obtain ⟨x,e,h'⟩:=o
  cases x with
  |norm=>exact absurd rfl ho
  |exit i=>rfl
  |ret=>rfl
 |succ k ih=>
  intro i hi
  rw[ex_loop,h i (by omega),Option.bind_some,nxt_n]
  exact ih (i+1) (by omega)
theorem it_frz (cf:Cf) (e:Env) (h:Hp) (t:Nat):itX cf e h (.frz t)=(Zv.frz h (e.get t)).map fun r=>((t,r.1)::e,r.2):=rfl
theorem it_fzd (cf:Cf) (e:Env) (h:Hp) (t:Nat):itX cf e h (.fzd t)=(Zv.fzd h (e.get t)).map fun r=>((t,r.1)::e,r.2):=rfl
def killX (t:Nat) (e:Env) (h:Hp) (v:V):Option (Env × Hp):=match v with
 | .ptr n _ _ _=>some ((t,.undef)::e,h.kill n)
 | .own n _ _ _ _=>some ((t,.undef)::e,h.kill n)
 |_=>some ((t,.undef)::e,h)
theorem it_kill (cf:Cf) (e:Env) (h:Hp) (t:Nat):itX cf e h (.kill t)=killX t e h (e.get t):=rfl
theorem killX_ptr (t:Nat) (e:Env) (h:Hp) (n tot i off:Nat):killX t e h (.ptr n tot i off)=some ((t,.undef)::e,h.kill n):=rfl
theorem killX_own (t:Nat) (e:Env) (h:Hp) (n es tot off len:Nat):killX t e h (.own n es tot off len)=some ((t,.undef)::e,h.kill n):=rfl
theorem killX_fp (t:Nat) (e:Env) (h:Hp) (x:D) (o:Nat):killX t e h (.fp x o)=some ((t,.undef)::e,h):=rfl
theorem killX_d (t:Nat) (e:Env) (h:Hp) (x:D):killX t e h (.d x)=some ((t,.undef)::e,h):=rfl
theorem killX_undef (t:Nat) (e:Env) (h:Hp):killX t e h .undef=some ((t,.undef)::e,h):=rfl
theorem killX_tup (t:Nat) (e:Env) (h:Hp) (l:List V):killX t e h (.tup l)=some ((t,.undef)::e,h):=rfl
theorem kill_hd (n:Nat) (o:Ob) (l:List (Nat × Ob)) (nx:Nat):Hp.kill ⟨(n,o)::l,nx⟩ n=⟨l,nx⟩:=by
 unfold Hp.kill;simp[del]
theorem frz_hd (n es nx:Nat) (x:D) (l:List (Nat × Ob)) (off:Nat):Zv.frz ⟨(n,.arr es [.d x])::l,nx⟩ (.ptr n 1 0 off)=some (.fp x off,⟨l,nx⟩):=by
 simp only[Zv.frz,row_cons,if_true,List.length_cons,List.length_nil,Option.bind_some,List.getElem?_cons_zero,Option.map_some,toD,kill_hd]
theorem norm_clo0 (f:Nat) (l:List V):norm (.clo f l)=.clo f l:=rfl
noncomputable def seqR (T:Tab) (b:AC):Option Out→Option Out
 |none=>none
 |some (.norm,e,h)=>ex T b e h
 |some o=>some o
noncomputable def conR (T:Tab) (a b:AC) (e:Env) (h:Hp):Option Bool→Option Out
 |none=>none
 |some true=>ex T a e h
 |some false=>ex T b e h
end Zs
end
section
namespace Zs
open Go Zv
def wp (T:Tab) (c:AC) (e:Env) (h:Hp) (Q:Out→Prop):Prop:=∃ o,ex T c e h=some o∧Q o
def seqQ (T:Tab) (b:AC) (Q:Out→Prop) (o:Out):Prop:=match o.1 with
 | .norm=>wp T b o.2.1 o.2.2 Q
 |_=>Q o
def blkQ (id:Nat) (Q:Out→Prop) (o:Out):Prop:=Q (if o.1=.exit id then .norm else o.1,o.2)
def donQ (fn:AF) (h:Hp) (R:Option (V × Hp)→Prop) (o:Out):Prop:=R (done fn h o)
def wpI (cf:Cf) (its:List It) (e:Env) (h:Hp) (K:Env→Hp→Prop):Prop:=∃ s,itsX cf its e h=some s∧K s.1 s.2
def regQ (kp:Option (List Nat)) (Q:Out→Prop) (e:Env) (h:Hp):Prop:=Q (.norm,keepE kp e,h)
def wpO (cf:Cf) (dst:Option Nat) (e:Env) (r:List It) (K:Env→Hp→Prop):Option (V × Hp)→Prop
 |none=>False
 |some s=>wpI cf r (e.putO dst s.1) s.2 K
def wpG (cf:Cf) (dst:Option Nat) (op:AOp) (e:Env) (h:Hp) (r:List It) (K:Env→Hp→Prop):Option Bool→Prop
 |none=>False
 |some true=>wpO cf dst e r K (opX cf e h op)
 |some false=>wpI cf r (e.putO dst (.tup [])) h K
def wpC (T:Tab) (a b:AC) (e:Env) (h:Hp) (Q:Out→Prop):Option Bool→Prop
 |none=>False
 |some true=>wp T a e h Q
 |some false=>wp T b e h Q
def wpE (cf:Cf) (r:List It) (K:Env→Hp→Prop):Option (Env × Hp)→Prop
 |none=>False
 |some s=>wpI cf r s.1 s.2 K
theorem call_wp {T:Tab} {f:Nat} {fn:AF} {vs:List V} {h:Hp} {r:V × Hp} (hT:T f=some fn) (hn:vs.length=fn.np) (H:wp T fn.body (args 0 vs) h (donQ fn h (· = some r))) (hf:f<RB:=by decide):callW T f vs h=some r:=by
 obtain ⟨o,h1,h2⟩:=H
 cases hp:isPr fn.body with
 |none=>rw[callW_fn hT hn h hp hf,h1];exact h2
 |some k=>
  have hb:fn.body=.exit k:=by unfold isPr at hp;split at hp<;>first | (cases hp;assumption) | cases hp
  rw[hb] at h1;cases h1;cases h2
theorem call_wpE {T:Tab} {f:Nat} {fn:AF} {vs:List V} {h:Hp} {R:V × Hp→Prop} (hT:T f=some fn) (hn:vs.length=fn.np) (H:wp T fn.body (args 0 vs) h (donQ fn h (fun q=>∃ r,q=some r∧R r))) (hf:f<RB:=by decide):∃ r,callW T f vs h=some r∧R r:=by
 obtain ⟨o,h1,r,h2,h3⟩:=H
 cases hp:isPr fn.body with
 |none=>exact⟨r,by rw[callW_fn hT hn h hp hf,h1];exact h2,h3⟩
 |some k=>
  have hb:fn.body=.exit k:=by unfold isPr at hp;split at hp<;>first | (cases hp;assumption) | cases hp
  rw[hb] at h1;cases h1;cases h2
theorem wq_of {T:Tab} {c:AC} {e:Env} {h:Hp} {o:Out} (H:ex T c e h=some o) (Q:Out→Prop):wp T c e h Q=Q o:=by
 apply propext
 constructor
 ·rintro ⟨o',h1,h2⟩;rw[H] at h1;cases h1;exact h2
 ·intro hq;exact⟨o,H,hq⟩
theorem wq_ex {T:Tab} {c:AC} {e:Env} {h:Hp} {o:Out}:wp T c e h (· = o) ↔ ex T c e h=some o:=
 ⟨fun ⟨_,h1,h2⟩=>h2▸h1,fun H=>⟨o,H,rfl⟩⟩
theorem wq_mono {T:Tab} {c:AC} {e:Env} {h:Hp} {P Q:Out→Prop} (H:wp T c e h P) (k:∀ o,P o→Q o):wp T c e h Q:=by
 obtain ⟨o,h1,h2⟩:=H;exact⟨o,h1,k o h2⟩
theorem wq_skip (T:Tab) (e:Env) (h:Hp) (Q:Out→Prop):wp T .skip e h Q=Q (.norm,e,h):=wq_of rfl Q
theorem wq_exit (T:Tab) (i:Nat) (e:Env) (h:Hp) (Q:Out→Prop):wp T (.exit i) e h Q=Q (.exit i,e,h):=wq_of rfl Q
theorem wq_ret (T:Tab) (e:Env) (h:Hp) (Q:Out→Prop):wp T .ret e h Q=Q (.ret,e,h):=wq_of rfl Q
theorem wq_seq (T:Tab) (a b:AC) (e:Env) (h:Hp) (Q:Out→Prop):wp T (.seq a b) e h Q=wp T a e h (seqQ T b Q):=by
 apply propext
 unfold wp
 rw[ex_seq]
 cases ex T a e h with
 |none=>simp
 |some o=>
  obtain ⟨x,e',h'⟩:=o
  cases x<;>simp[nxt,seqQ,wp]
theorem wq_blk (T:Tab) (id:Nat) (a:AC) (e:Env) (h:Hp) (Q:Out→Prop):wp T (.blk id a) e h Q=wp T a e h (blkQ id Q):=by
 apply propext
 unfold wp
 rw[ex_blk]
 cases ex T a e h with
 |none=>simp
 |some o=>simp[blkQ]
theorem wq_cond (T:Tab) (c:Opd) (a b:AC) (e:Env) (h:Hp) (Q:Out→Prop):wp T (.cond c a b) e h Q=wpC T a b e h Q (condB (e.ev c)):=by
 apply propext
 unfold wp
 rw[ex_cond]
 cases condB (e.ev c) with
 |none=>simp[wpC]
 |some t=>cases t<;>simp[wpC,wp]
theorem wpC_t (T:Tab) (a b:AC) (e:Env) (h:Hp) (Q:Out→Prop):wpC T a b e h Q (some true)=wp T a e h Q:=rfl
theorem wpC_f (T:Tab) (a b:AC) (e:Env) (h:Hp) (Q:Out→Prop):wpC T a b e h Q (some false)=wp T b e h Q:=rfl
theorem wq_reg (T:Tab) (its:List It) (kp:Option (List Nat)) (e:Env) (h:Hp) (Q:Out→Prop):wp T (.reg its kp) e h Q=wpI (cW T) its e h (regQ kp Q):=by
 apply propext
 unfold wp wpI
 rw[ex_reg]
 cases itsX (cW T) its e h with
 |none=>simp
 |some o=>simp[regQ]
theorem wpI_nil (cf:Cf) (e:Env) (h:Hp) (K:Env→Hp→Prop):wpI cf [] e h K=K e h:=by
 apply propext
 simp[wpI,its_nil]
theorem wpI_o (cf:Cf) (dst:Option Nat) (op:AOp) (r:List It) (e:Env) (h:Hp) (K:Env→Hp→Prop):wpI cf (.o dst op none::r) e h K=wpO cf dst e r K (opX cf e h op):=by
 apply propext
 unfold wpI
 rw[its_cons,it_o]
 cases opX cf e h op with
 |none=>simp[wpO]
 |some s=>simp[wpO,wpI]
theorem wpI_g (cf:Cf) (dst:Option Nat) (op:AOp) (t:Nat) (b:Bool) (r:List It) (e:Env) (h:Hp) (K:Env→Hp→Prop):wpI cf (.o dst op (some (t,b))::r) e h K=wpG cf dst op e h r K (wantV (e.get t) b):=by
 apply propext
 unfold wpI
 rw[its_cons,it_g,want_some]
 cases wantV (e.get t) b with
 |none=>simp[wpG]
 |some w=>
  cases w with
  |false=>simp[wpG,wpI]
  |true=>
   simp only[wpG]
   generalize opX cf e h op=q
   cases q with
   |none=>simp[wpO]
   |some s=>simp[wpO,wpI]
theorem wpI_frz (cf:Cf) (t:Nat) (r:List It) (e:Env) (h:Hp) (K:Env→Hp→Prop):wpI cf (.frz t::r) e h K=wpO cf (some t) e r K (Zv.frz h (e.get t)):=by
 apply propext
 unfold wpI
 rw[its_cons,it_frz]
 cases Zv.frz h (e.get t) with
 |none=>simp[wpO]
 |some s=>simp[wpO,wpI,Env.putO,Env.put]
theorem wpI_fzd (cf:Cf) (t:Nat) (r:List It) (e:Env) (h:Hp) (K:Env→Hp→Prop):wpI cf (.fzd t::r) e h K=wpO cf (some t) e r K (Zv.fzd h (e.get t)):=by
 apply propext
 unfold wpI
 rw[its_cons,it_fzd]
 cases Zv.fzd h (e.get t) with
 |none=>simp[wpO]
 |some s=>simp[wpO,wpI,Env.putO,Env.put]
theorem wpI_kill (cf:Cf) (t:Nat) (r:List It) (e:Env) (h:Hp) (K:Env→Hp→Prop):wpI cf (.kill t::r) e h K=wpE cf r K (killX t e h (e.get t)):=by
 apply propext
 unfold wpI
 rw[its_cons,it_kill]
 cases killX t e h (e.get t) with
 |none=>simp[wpE]
 |some s=>simp[wpE,wpI]
theorem wpE_some (cf:Cf) (r:List It) (K:Env→Hp→Prop) (e:Env) (h:Hp):wpE cf r K (some (e,h))=wpI cf r e h K:=rfl
theorem wpO_some (cf:Cf) (t:Nat) (e:Env) (r:List It) (K:Env→Hp→Prop) (v:V) (h:Hp):wpO cf (some t) e r K (some (v,h))=wpI cf r ((t,v)::e) h K:=rfl
theorem wpO_none (cf:Cf) (e:Env) (r:List It) (K:Env→Hp→Prop) (v:V) (h:Hp):wpO cf none e r K (some (v,h))=wpI cf r e h K:=rfl
theorem wpG_t (cf:Cf) (dst:Option Nat) (op:AOp) (e:Env) (h:Hp) (r:List It) (K:Env→Hp→Prop):wpG cf dst op e h r K (some true)=wpO cf dst e r K (opX cf e h op):=rfl
theorem wpG_f (cf:Cf) (t:Nat) (op:AOp) (e:Env) (h:Hp) (r:List It) (K:Env→Hp→Prop):wpG cf (some t) op e h r K (some false)=wpI cf r ((t,.tup [])::e) h K:=rfl
theorem wpG_fn (cf:Cf) (op:AOp) (e:Env) (h:Hp) (r:List It) (K:Env→Hp→Prop):wpG cf none op e h r K (some false)=wpI cf r e h K:=rfl
theorem wantV_bt (c:Bool):wantV (.d (.bool c)) true=some c:=by cases c<;>rfl
theorem wantV_bf (c:Bool):wantV (.d (.bool c)) false=some (!c):=by cases c<;>rfl
theorem regQ_eq (kp:List Nat) (Q:Out→Prop) (e:Env) (h:Hp):regQ (some kp) Q e h=Q (.norm,e.keep kp,h):=rfl
theorem seqQ_n (T:Tab) (b:AC) (Q:Out→Prop) (e:Env) (h:Hp):seqQ T b Q (.norm,e,h)=wp T b e h Q:=rfl
theorem seqQ_e (T:Tab) (b:AC) (Q:Out→Prop) (i:Nat) (e:Env) (h:Hp):seqQ T b Q (.exit i,e,h)=Q (.exit i,e,h):=rfl
theorem seqQ_r (T:Tab) (b:AC) (Q:Out→Prop) (e:Env) (h:Hp):seqQ T b Q (.ret,e,h)=Q (.ret,e,h):=rfl
theorem blkQ_n (id:Nat) (Q:Out→Prop) (e:Env) (h:Hp):blkQ id Q (.norm,e,h)=Q (.norm,e,h):=rfl
theorem blkQ_r (id:Nat) (Q:Out→Prop) (e:Env) (h:Hp):blkQ id Q (.ret,e,h)=Q (.ret,e,h):=rfl
theorem blkQ_e (id i:Nat) (Q:Out→Prop) (e:Env) (h:Hp):blkQ id Q (.exit i,e,h)=if i=id then Q (.norm,e,h) else Q (.exit i,e,h):=by
 unfold blkQ
 by_cases hi:i=id
 ·subst hi;simp
 ·rw[if_neg hi,if_neg (by simpa using hi)]
theorem donQ_n (fn:AF) (h:Hp) (R:Option (V × Hp)→Prop) (e:Env) (h':Hp):donQ fn h R (.norm,e,h')=R (finish fn h e h'):=rfl
theorem donQ_r (fn:AF) (h:Hp) (R:Option (V × Hp)→Prop) (e:Env) (h':Hp):donQ fn h R (.ret,e,h')=R (finish fn h e h'):=rfl
def finS (h:Hp) (h':Hp) (vs:List V):Option (V × Hp):=if sufOk h.objs h'.objs=true then (vs.mapM (back1 h' h.next)).map fun l=>(resV l,h) else none
theorem fin_s (np:Nat) (res:List (Nat × Option (Bool × Nat))) (b:AC) (h:Hp) (e:Env) (h':Hp):finish ⟨np,res,true,b⟩ h e h'=(resL e h' res).bind (finS h h'):=rfl
theorem fin_l (np:Nat) (res:List (Nat × Option (Bool × Nat))) (b:AC) (h:Hp) (e:Env) (h':Hp):finish ⟨np,res,false,b⟩ h e h'=(resL e h' res).bind fun vs=>some (resV vs,h'):=rfl
theorem resL_nil (e:Env) (h:Hp):resL e h []=some []:=rfl
theorem resL_t (e:Env) (h:Hp) (t:Nat) (r:List (Nat × Option (Bool × Nat))):resL e h ((t,none)::r)=(resL e h r).map (e.get t :: ·):=rfl
theorem resL_c (e:Env) (h:Hp) (t sz:Nat) (ag:Bool) (r:List (Nat × Option (Bool × Nat))):resL e h ((t,some (ag,sz))::r)=(ld ag sz h (e.get t)).bind fun v=>(resL e h r).map (v :: ·):=rfl
theorem finS_same {h h':Hp} (hh:h'.objs=h.objs) (vs:List D):finS h h' (vs.map .d)=some (resV (vs.map .d),h):=by
 unfold finS
 rw[if_pos (by rw[hh];exact suf_refl _)]
 have:(vs.map V.d).mapM (back1 h' h.next)=some (vs.map V.d):=by
  induction vs with
  |nil=>rfl
  |cons x l ih=>rw[List.map_cons,List.mapM_cons,back_d,ih];rfl
 rw[this];rfl
theorem finS1 (h:Hp) (x:D):finS h h [.d x]=some (.d x,h):=finS_same rfl [x]
theorem finS2 (h:Hp) (x y:D):finS h h [.d x,.d y]=some (.tup [.d x,.d y],h):=finS_same rfl [x,y]
theorem finS3 (h:Hp) (x y z:D):finS h h [.d x,.d y,.d z]=some (.tup [.d x,.d y,.d z],h):=finS_same rfl [x,y,z]
theorem finS1' (h:Hp) (n:Nat) (x:D):finS h ⟨h.objs,n⟩ [.d x]=some (.d x,h):=finS_same (h:=h) (h':=⟨h.objs,n⟩) rfl [x]
theorem finS2' (h:Hp) (n:Nat) (x y:D):finS h ⟨h.objs,n⟩ [.d x,.d y]=some (.tup [.d x,.d y],h):=finS_same (h:=h) (h':=⟨h.objs,n⟩) rfl [x,y]
theorem finS3' (h:Hp) (n:Nat) (x y z:D):finS h ⟨h.objs,n⟩ [.d x,.d y,.d z]=some (.tup [.d x,.d y,.d z],h):=finS_same (h:=h) (h':=⟨h.objs,n⟩) rfl [x,y,z]
theorem partD_t (o sz:Nat) (l:List D):partD true o sz l=if o+sz≤l.length then some (.agg ((l.drop o).take sz)) else none:=rfl
theorem un_not (b:Bool):un .not (.d (.bool b))=some (.d (.bool (!b))):=rfl
theorem na_t (bs:List Bool) (v:V) (vs:List V):normArgs (true::bs) (v::vs)=norm v::normArgs bs vs:=rfl
theorem na_f (bs:List Bool) (v:V) (vs:List V):normArgs (false::bs) (v::vs)=v::normArgs bs vs:=rfl
theorem na_n (vs:List V):normArgs [] vs=vs:=rfl
theorem nat_neg (n:Nat):((n:Int)<0)=False:=by simp
theorem nat_nn (n:Nat):((0:Int)≤(n:Int))=True:=by simp
theorem bin_s_eq (a b:ByteArray):bin .eql (.d (.str a)) (.d (.str b))=some (.d (.bool (decide (a=b)))):=rfl
theorem bin_s_ne (a b:ByteArray):bin .neq (.d (.str a)) (.d (.str b))=some (.d (.bool (!decide (a=b)))):=rfl
theorem lenS_str (s:ByteArray):lenS (.d (.str s))=some (.d (.int .i64 (s.size:Int))):=rfl
theorem ixS_at {s:ByteArray} {n:Nat} {c:UInt8} (k:IntKind) (h:s.data.toList[n]? = some c):ixS (.d (.str s)) (.d (.int k (n:Int)))=some (.d (.int .u8 c.toNat)):=by
 have hlt:n<s.size:=by
  have:=(List.getElem?_eq_some_iff.1 h).1
  simpa using this
 have hg:s[n]=c:=by
  have:=(List.getElem?_eq_some_iff.1 h).2
  rw[←this];rfl
 simp[ixS,ixOf_nat,hlt,hg]
theorem resV_nil:resV []=.tup []:=rfl
theorem conv_i (k j:IntKind) (n:Int):conv k (.d (.int j n))=some (.d (.int k (k.wrap n))):=rfl
theorem ibeq (a b:Int):(a == b)=decide (a=b):=rfl
theorem ibne (a b:Int):(a != b) = !decide (a=b):=rfl
theorem norm_tl0 (nl:Option Bool):norm (.tl [] nl)=.d (.lst []):=rfl
theorem un_neg (k:IntKind) (n:Int):un .neg (.d (.int k n))=some (.d (.int k (k.wrap (0 - n)))):=rfl
theorem binB_eq (a b:Bool):binB .eql (.d (.bool a)) (.d (.bool b))=some (.d (.bool (a == b))):=rfl
theorem binB_ne (a b:Bool):binB .neq (.d (.bool a)) (.d (.bool b))=some (.d (.bool (!(a == b)))):=rfl
theorem row_hd (n es:Nat) (els:List V) (r:List (Nat × Ob)) (nx tot:Nat):Hp.row ⟨(n,.arr es els)::r,nx⟩ n tot=if els.length=tot then some (es,els) else none:=by
 rw[row_cons,if_pos rfl]
theorem set_hd (n:Nat) (o:Ob) (r:List (Nat × Ob)) (nx:Nat) (x:Ob):Hp.set ⟨(n,o)::r,nx⟩ n x=⟨(n,x)::r,nx⟩:=by
 rw[set_cons,if_pos rfl]
theorem alloc_eq (h:Hp) (o:Ob):h.alloc o=⟨(h.next,o)::h.objs,h.next+1⟩:=rfl
theorem wpG_s {cf:Cf} {dst:Option Nat} {op:AOp} {e:Env} {h:Hp} {r:List It} {K:Env→Hp→Prop} {c:Bool} (h1:c=true→wpG cf dst op e h r K (some true)) (h2:c=false→wpG cf dst op e h r K (some false)):wpG cf dst op e h r K (some c):=by
 cases c
 ·exact h2 rfl
 ·exact h1 rfl
theorem wpC_s {T:Tab} {a b:AC} {e:Env} {h:Hp} {Q:Out→Prop} {c:Bool} (h1:c=true→wpC T a b e h Q (some true)) (h2:c=false→wpC T a b e h Q (some false)):wpC T a b e h Q (some c):=by
 cases c
 ·exact h2 rfl
 ·exact h1 rfl
theorem finS_nil (h:Hp) (nl:Option Bool):finS h h [.tl [] nl]=some (.d (.lst []),h):=by
 unfold finS;rw[if_pos (suf_refl _)];rfl
theorem nat1_0 (n:Nat):((n:Int)+1 == 0)=false:=by simp;omega
theorem nat1_lt1 (n:Nat):((n:Int)+1<1)=False:=by simp;omega
theorem nat1_lt0 (n:Nat):((n:Int)+1<0)=False:=by simp;omega
theorem nat1_ge0 (n:Nat):(0≤(n:Int)+1)=True:=by simp;omega
theorem nat1_ge1 (n:Nat):(1≤(n:Int)+1)=True:=by simp;omega
theorem ld_one (sz:Nat) (h:Hp) (n tot i off:Nat):ld false sz h (.ptr n tot i off)=(h.row n tot).bind fun r=>(r.2[i]?).bind fun e=>e.cells[off]? := by
 simp[ld,partV]
theorem st_hd (es n:Nat) (z:V) (l:List (Nat × Ob)) (nx:Nat) (x:V):st es ⟨(n,.arr es [z])::l,nx⟩ (.ptr n 1 0 0) x=if stor x=true∧x.cells.length=es then some ⟨(n,.arr es [x])::l,nx⟩ else none:=by
 simp[st,row_hd,set_hd]
theorem finS1m (l:List (Nat × Ob)) (n m:Nat) (x:D):finS ⟨l,n⟩ ⟨l,m⟩ [.d x]=some (.d x,⟨l,n⟩):=finS_same (h:=⟨l,n⟩) (h':=⟨l,m⟩) rfl [x]
theorem finS2m (l:List (Nat × Ob)) (n m:Nat) (x y:D):finS ⟨l,n⟩ ⟨l,m⟩ [.d x,.d y]=some (.tup [.d x,.d y],⟨l,n⟩):=finS_same (h:=⟨l,n⟩) (h':=⟨l,m⟩) rfl [x,y]
theorem finS3m (l:List (Nat × Ob)) (n m:Nat) (x y z:D):finS ⟨l,n⟩ ⟨l,m⟩ [.d x,.d y,.d z]=some (.tup [.d x,.d y,.d z],⟨l,n⟩):=finS_same (h:=⟨l,n⟩) (h':=⟨l,m⟩) rfl [x,y,z]
theorem finS_suf {h h':Hp} (hh:sufOk h.objs h'.objs=true) (vs:List D):finS h h' (vs.map .d)=some (resV (vs.map .d),h):=by
 unfold finS
 rw[if_pos hh]
 have:(vs.map V.d).mapM (back1 h' h.next)=some (vs.map V.d):=by
  induction vs with
  |nil=>rfl
  |cons x l ih=>rw[List.map_cons,List.mapM_cons,back_d,ih];rfl
 rw[this];rfl
theorem finS1c (h:Hp) (o:Nat × Ob) (m:Nat) (x:D):finS h ⟨o::h.objs,m⟩ [.d x]=some (.d x,h):=finS_suf (h':=⟨o::h.objs,m⟩) (suf_one _ _) [x]
theorem finS2c (h:Hp) (o:Nat × Ob) (m:Nat) (x y:D):finS h ⟨o::h.objs,m⟩ [.d x,.d y]=some (.tup [.d x,.d y],h):=finS_suf (h':=⟨o::h.objs,m⟩) (suf_one _ _) [x,y]
theorem finS3c (h:Hp) (o:Nat × Ob) (m:Nat) (x y z:D):finS h ⟨o::h.objs,m⟩ [.d x,.d y,.d z]=some (.tup [.d x,.d y,.d z],h):=finS_suf (h':=⟨o::h.objs,m⟩) (suf_one _ _) [x,y,z]
theorem finS1cc (h:Hp) (o q:Nat × Ob) (m:Nat) (x:D):finS h ⟨o::q::h.objs,m⟩ [.d x]=some (.d x,h):=finS_suf (h':=⟨o::q::h.objs,m⟩) (suf_two _ _ _) [x]
theorem st_2 (es n:Nat) (o:Ob) (z:V) (l:List (Nat × Ob)) (nx:Nat) (x:V):st es ⟨(n+1,o)::(n,.arr es [z])::l,nx⟩ (.ptr n 1 0 0) x=if stor x=true∧x.cells.length=es then some ⟨(n+1,o)::(n,.arr es [x])::l,nx⟩ else none:=by
 have hr:Hp.row ⟨(n+1,o)::(n,.arr es [z])::l,nx⟩ n 1=some (es,[z]):=by
  unfold Hp.row Hp.get;simp[Zv.look]
 have hs:∀ y,Hp.set ⟨(n+1,o)::(n,.arr es [z])::l,nx⟩ n y=⟨(n+1,o)::(n,y)::l,nx⟩:=by
  intro y;unfold Hp.set;simp[upd]
 simp[st,hr,hs]
theorem frz_2 (n es nx:Nat) (o:Ob) (x:D) (l:List (Nat × Ob)) (off:Nat):Zv.frz ⟨(n+1,o)::(n,.arr es [.d x])::l,nx⟩ (.ptr n 1 0 off)=some (.fp x off,⟨(n+1,o)::l,nx⟩):=by
 have hr:Hp.row ⟨(n+1,o)::(n,.arr es [.d x])::l,nx⟩ n 1=some (es,[.d x]):=by
  unfold Hp.row Hp.get;simp[Zv.look]
 simp only[Zv.frz,hr,Option.bind_some,List.getElem?_cons_zero,Option.map_some,toD]
 simp[Hp.kill,del]
theorem kill_2 (n:Nat) (o p:Ob) (l:List (Nat × Ob)) (nx:Nat):Hp.kill ⟨(n+1,o)::(n,p)::l,nx⟩ n=⟨(n+1,o)::l,nx⟩:=by
 unfold Hp.kill;simp[del]
theorem ld_whole (es n:Nat) (l:List D) (r:List (Nat × Ob)) (nx:Nat):ld true es ⟨(n,.arr es [.d (.agg l)])::r,nx⟩ (.ptr n 1 0 0)=some (.d (.agg l)):=by
 simp[ld,row_hd]
theorem ld_whole2 (es n:Nat) (o:Ob) (l:List D) (r:List (Nat × Ob)) (nx:Nat):ld true es ⟨(n+1,o)::(n,.arr es [.d (.agg l)])::r,nx⟩ (.ptr n 1 0 0)=some (.d (.agg l)):=by
 have hr:Hp.row ⟨(n+1,o)::(n,.arr es [.d (.agg l)])::r,nx⟩ n 1=some (es,[.d (.agg l)]):=by
  unfold Hp.row Hp.get;simp[Zv.look]
 simp[ld,hr]
theorem wsl:(type_of% @List.map_cons.{0,0})∧(type_of% @List.map_nil.{0,0})∧(type_of% @List.cons_append.{0})∧(type_of% @List.nil_append.{0})∧(type_of% @List.append_nil.{0})∧(type_of% @List.getElem?_cons_zero.{0})∧(type_of% @List.getElem?_cons_succ.{0})∧(type_of% @List.length_cons.{0})∧(type_of% @List.length_nil.{0})∧(type_of% @List.length_map.{0,0})∧(type_of% @List.length_append.{0})∧(type_of% @List.all_cons.{0})∧(type_of% @List.all_nil.{0})∧(type_of% @List.take_zero.{0})∧(type_of% @List.take_succ_cons.{0})∧(type_of% @List.drop_zero.{0})∧(type_of% @List.drop_succ_cons.{0})∧(type_of% @Option.map_some.{0,0})∧(type_of% @Option.bind_some.{0,0})∧(type_of% @Option.map_none.{0,0})∧(type_of% @Option.bind_none.{0,0})∧(type_of% @beq_self_eq_true.{0})∧(type_of% @bne_self_eq_false.{0})∧(type_of% @Option.some.injEq.{0})∧(type_of% @Prod.mk.injEq.{0,0})∧(type_of% @gt_iff_lt.{0})∧(type_of% @ge_iff_le.{0})∧(type_of% @if_true.{1})∧(type_of% @if_false.{1})∧(type_of% @ite_self.{1})∧(type_of% @ne_eq.{1})∧(type_of% @eq_self.{1})∧(type_of% @Bool.and_self)∧(type_of% @and_self)∧(type_of% @true_and)∧(type_of% @and_true)∧(type_of% @Bool.not_true)∧(type_of% @Bool.not_false)∧(type_of% @Bool.not_eq_true')∧(type_of% @decide_eq_true_eq)∧(type_of% @decide_eq_false_iff_not)∧(type_of% @Nat.zero_add)∧(type_of% @Nat.add_zero)∧(type_of% @Nat.succ_ne_zero)∧(type_of% @Bool.false_eq_true)∧(type_of% @not_true_eq_false)∧(type_of% @not_false_eq_true)∧(type_of% @Bool.false_and)∧(type_of% @Bool.true_and)∧(type_of% @and_false)∧(type_of% @false_and)∧(type_of% @Bool.true_eq_false)∧(type_of% @or_false)∧(type_of% @false_or)∧(type_of% @true_or)∧(type_of% @or_true)∧(type_of% @Int.cast_ofNat_Int)∧(type_of% @Int.ofNat_lt)∧(type_of% @Int.ofNat_le)∧(type_of% @Nat.lt_irrefl)∧(type_of% @decide_true)∧(type_of% @decide_false):=
 ⟨@List.map_cons.{0,0},@List.map_nil.{0,0},@List.cons_append.{0},@List.nil_append.{0},@List.append_nil.{0},@List.getElem?_cons_zero.{0},@List.getElem?_cons_succ.{0},@List.length_cons.{0},@List.length_nil.{0},@List.length_map.{0,0},@List.length_append.{0},@List.all_cons.{0},@List.all_nil.{0},@List.take_zero.{0},@List.take_succ_cons.{0},@List.drop_zero.{0},@List.drop_succ_cons.{0},@Option.map_some.{0,0},@Option.bind_some.{0,0},@Option.map_none.{0,0},@Option.bind_none.{0,0},@beq_self_eq_true.{0},@bne_self_eq_false.{0},@Option.some.injEq.{0},@Prod.mk.injEq.{0,0},@gt_iff_lt.{0},@ge_iff_le.{0},@if_true.{1},@if_false.{1},@ite_self.{1},@ne_eq.{1},@eq_self.{1},@Bool.and_self,@and_self,@true_and,@and_true,@Bool.not_true,@Bool.not_false,@Bool.not_eq_true',@decide_eq_true_eq,@decide_eq_false_iff_not,@Nat.zero_add,@Nat.add_zero,@Nat.succ_ne_zero,@Bool.false_eq_true,@not_true_eq_false,@not_false_eq_true,@Bool.false_and,@Bool.true_and,@and_false,@false_and,@Bool.true_eq_false,@or_false,@false_or,@true_or,@or_true,@Int.cast_ofNat_Int,@Int.ofNat_lt,@Int.ofNat_le,@Nat.lt_irrefl,@decide_true,@decide_false⟩
theorem ws:(type_of% @wq_seq)∧(type_of% @wq_blk)∧(type_of% @wq_cond)∧(type_of% @wpC_t)∧(type_of% @wpC_f)∧(type_of% @wq_skip)∧(type_of% @wq_exit)∧(type_of% @wq_ret)∧(type_of% @wpI_nil)∧(type_of% @wpI_o)∧(type_of% @wpI_g)∧(type_of% @wpI_frz)∧(type_of% @wpI_fzd)∧(type_of% @wpI_kill)∧(type_of% @wpE_some)∧(type_of% @wpO_some)∧(type_of% @wpO_none)∧(type_of% @wpG_t)∧(type_of% @wpG_f)∧(type_of% @wpG_fn)∧(type_of% @wantV_bt)∧(type_of% @wantV_bf)∧(type_of% @wantV_t)∧(type_of% @regQ_eq)∧(type_of% @seqQ_n)∧(type_of% @seqQ_e)∧(type_of% @seqQ_r)∧(type_of% @blkQ_n)∧(type_of% @blkQ_r)∧(type_of% @blkQ_e)∧(type_of% @donQ_n)∧(type_of% @donQ_r)∧(type_of% @fin_s)∧(type_of% @finS1)∧(type_of% @finS2)∧(type_of% @finS3)∧(type_of% @finS1')∧(type_of% @finS2')∧(type_of% @finS3')∧(type_of% @fin_l)∧(type_of% @resL_nil)∧(type_of% @resL_t)∧(type_of% @resL_c)∧(type_of% @resV_one)∧(type_of% @resV_two)∧(type_of% @resV_three)∧(type_of% @ev_t)∧(type_of% @ev_c)∧(type_of% @get_cons)∧(type_of% @get_nil)∧(type_of% @pv_some)∧(type_of% @bin_i)∧(type_of% @condB_b)∧(type_of% @keep_cons)∧(type_of% @keep_nil)∧(type_of% @args_cons)∧(type_of% @args_nil)∧(type_of% @na_t)∧(type_of% @na_f)∧(type_of% @na_n)∧(type_of% @norm_d)∧(type_of% @norm_ptr)∧(type_of% @norm_own)∧(type_of% @norm_map)∧(type_of% @norm_clo0)∧(type_of% @cW_clo)∧(type_of% @fa_fp)∧(type_of% @ld_fp)∧(type_of% @ldf_fp)∧(type_of% @partD_one)∧(type_of% @partD_t)∧(type_of% @cells_agg)∧(type_of% @cells_int)∧(type_of% @cells_bool)∧(type_of% @cells_str)∧(type_of% @cells_lst)∧(type_of% @lenL_lst)∧(type_of% @lenL_own)∧(type_of% @lenL_tl)∧(type_of% @ext_tup)∧(type_of% @pick_b)∧(type_of% @un_not)∧(type_of% @norm_tl0)∧(type_of% @conv_i)∧(type_of% @quiet_refl)∧(type_of% @st_2)∧(type_of% @frz_2)∧(type_of% @kill_2)∧(type_of% @resV_nil)∧(type_of% @nat1_0)∧(type_of% @nat1_lt1)∧(type_of% @nat1_lt0)∧(type_of% @nat1_ge0)∧(type_of% @nat1_ge1)∧(type_of% @ld_one)∧(type_of% @ld_whole)∧(type_of% @ld_whole2)∧(type_of% @st_hd)∧(type_of% @finS1m)∧(type_of% @finS2m)∧(type_of% @finS3m)∧(type_of% @finS1c)∧(type_of% @finS2c)∧(type_of% @finS3c)∧(type_of% @finS1cc)∧(type_of% @finS_nil)∧(type_of% @bin_s_eq)∧(type_of% @bin_s_ne)∧(type_of% @lenS_str)∧(type_of% @un_neg)∧(type_of% @nat_neg)∧(type_of% @nat_nn)∧(type_of% @binB_eq)∧(type_of% @binB_ne)∧(type_of% @nilck_ptr)∧(type_of% @nilck_fp)∧(type_of% @fa_ptr)∧(type_of% @partV_one)∧(type_of% @stor_d)∧(type_of% @stor_own)∧(type_of% @stor_ptr)∧(type_of% @stor_tl)∧(type_of% @stor_agg)∧(type_of% @stor_clo)∧(type_of% @stor_map)∧(type_of% @vcells_d)∧(type_of% @vcells_agg)∧(type_of% @vcells_own)∧(type_of% @vcells_ptr)∧(type_of% @vcells_tl)∧(type_of% @vcells_clo)∧(type_of% @vcells_map)∧(type_of% @lay_nil)∧(type_of% @lay_cons)∧(type_of% @mkAgg1)∧(type_of% @mkAgg2)∧(type_of% @mkAgg3)∧(type_of% @mkAgg4)∧(type_of% @mkAgg5)∧(type_of% @mkAgg6)∧(type_of% @mkAgg_own)∧(type_of% @mkAgg_ptr)∧(type_of% @mkAgg_tl)∧(type_of% @mkAgg_map)∧(type_of% @mkAgg_clo)∧(type_of% @mkAgg_d_own)∧(type_of% @mkAgg_dd_own)∧(type_of% @mkAgg_d_tl)∧(type_of% @mkAgg_dd_tl)∧(type_of% @killX_ptr)∧(type_of% @killX_own)∧(type_of% @killX_fp)∧(type_of% @killX_d)∧(type_of% @killX_undef)∧(type_of% @killX_tup)∧(type_of% @kill_hd)∧(type_of% @frz_hd)∧(type_of% @set_hd)∧(type_of% @row_hd)∧(type_of% @alloc_mk)∧(type_of% @alloc_eq)∧(type_of% @nilBin_ptr)∧(type_of% @nilBin_nil)∧(type_of% @V.d.injEq)∧(type_of% @D.bool.injEq)∧(type_of% @D.int.injEq)∧(type_of% @D.lst.injEq)∧(type_of% @D.agg.injEq)∧(type_of% @D.str.injEq):=
 ⟨@wq_seq,@wq_blk,@wq_cond,@wpC_t,@wpC_f,@wq_skip,@wq_exit,@wq_ret,@wpI_nil,@wpI_o,@wpI_g,@wpI_frz,@wpI_fzd,@wpI_kill,@wpE_some,@wpO_some,@wpO_none,@wpG_t,@wpG_f,@wpG_fn,@wantV_bt,@wantV_bf,@wantV_t,@regQ_eq,@seqQ_n,@seqQ_e,@seqQ_r,@blkQ_n,@blkQ_r,@blkQ_e,@donQ_n,@donQ_r,@fin_s,@finS1,@finS2,@finS3,@finS1',@finS2',@finS3',@fin_l,@resL_nil,@resL_t,@resL_c,@resV_one,@resV_two,@resV_three,@ev_t,@ev_c,@get_cons,@get_nil,@pv_some,@bin_i,@condB_b,@keep_cons,@keep_nil,@args_cons,@args_nil,@na_t,@na_f,@na_n,@norm_d,@norm_ptr,@norm_own,@norm_map,@norm_clo0,@cW_clo,@fa_fp,@ld_fp,@ldf_fp,@partD_one,@partD_t,@cells_agg,@cells_int,@cells_bool,@cells_str,@cells_lst,@lenL_lst,@lenL_own,@lenL_tl,@ext_tup,@pick_b,@un_not,@norm_tl0,@conv_i,@quiet_refl,@st_2,@frz_2,@kill_2,@resV_nil,@nat1_0,@nat1_lt1,@nat1_lt0,@nat1_ge0,@nat1_ge1,@ld_one,@ld_whole,@ld_whole2,@st_hd,@finS1m,@finS2m,@finS3m,@finS1c,@finS2c,@finS3c,@finS1cc,@finS_nil,@bin_s_eq,@bin_s_ne,@lenS_str,@un_neg,@nat_neg,@nat_nn,@binB_eq,@binB_ne,@nilck_ptr,@nilck_fp,@fa_ptr,@partV_one,@stor_d,@stor_own,@stor_ptr,@stor_tl,@stor_agg,@stor_clo,@stor_map,@vcells_d,@vcells_agg,@vcells_own,@vcells_ptr,@vcells_tl,@vcells_clo,@vcells_map,@lay_nil,@lay_cons,@mkAgg1,@mkAgg2,@mkAgg3,@mkAgg4,@mkAgg5,@mkAgg6,@mkAgg_own,@mkAgg_ptr,@mkAgg_tl,@mkAgg_map,@mkAgg_clo,@mkAgg_d_own,@mkAgg_dd_own,@mkAgg_d_tl,@mkAgg_dd_tl,@killX_ptr,@killX_own,@killX_fp,@killX_d,@killX_undef,@killX_tup,@kill_hd,@frz_hd,@set_hd,@row_hd,@alloc_mk,@alloc_eq,@nilBin_ptr,@nilBin_nil,@V.d.injEq,@D.bool.injEq,@D.int.injEq,@D.lst.injEq,@D.agg.injEq,@D.str.injEq⟩
def runL {α S:Type} (stp:Nat→S→α→Out ⊕ S) (fin:S→Out):Nat→List α→S→Out
 |_,[],s=>fin s
 |n,x::l,s=>match stp n s x with
  | .inl o=>o
  | .inr s'=>runL stp fin (n+1) l s'
theorem loop_gen {T:Tab} {a:AC} {α S:Type} (l:List α) (env:Nat→S→Env) (hp:Nat→S→Hp) (I:Nat→S→Prop) (stp:Nat→S→α→Out ⊕ S) (fin:S→Out)
  (h1:∀ n s x,l[n]? = some x→I n s→match stp n s x with
   | .inl o=>ex T a (env n s) (hp n s)=some o∧o.1≠.norm
   | .inr s'=>ex T a (env n s) (hp n s)=some (.norm,env (n+1) s',hp (n+1) s')∧I (n+1) s')
  (h2:∀ s,I l.length s→ex T a (env l.length s) (hp l.length s)=some (fin s)∧(fin s).1≠.norm) :
  ∀ (k n:Nat) (s:S),n+k=l.length→I n s→ex T (.loop a) (env n s) (hp n s)=some (runL stp fin n (l.drop n) s):=by
 have stop:∀ {e:Env} {h:Hp} {o:Out},ex T a e h=some o→o.1≠.norm→ex T (.loop a) e h=some o:=by
  intro e h o H ho
  rw[ex_loop,H,Option.bind_some]
  obtain ⟨x,e',h'⟩:=o
  cases x with
  |norm=>exact absurd rfl ho
  |exit i=>rfl
  |ret=>rfl
 intro k
 induction k with
 |zero=>
  intro n s hn hI
  have:n=l.length:=by omega
  subst this
  rw[List.drop_length]
  exact stop (h2 s hI).1 (h2 s hI).2
 |succ k ih=>
  intro n s hn hI
  have hlt:n<l.length:=by omega
  have hd:l.drop n=l[n]::l.drop (n+1):=List.drop_eq_getElem_cons hlt
  rw[hd]
  have hs:=h1 n s l[n] (List.getElem?_eq_getElem hlt) hI
  show _=some (match stp n s l[n] with | .inl o=>o | .inr s'=>runL stp fin (n+1) (l.drop (n+1)) s')
  cases hq:stp n s l[n] with
  |inl o=>rw[hq] at hs;exact stop hs.1 hs.2
  |inr s'=>
   rw[hq] at hs
   rw[ex_loop,hs.1,Option.bind_some,nxt_n]
   exact ih (n+1) s' (by omega) hs.2
theorem loop_any {T:Tab} {a:AC} {α:Type} {l:List α} {p:α→Bool} {f:Nat→Env} {h:Hp} {o oN:Out}
  (hs:∀ n x,l[n]? = some x→n<l.length→p x=false→ex T a (f n) h=some (.norm,f (n+1),h))
  (hx:∀ n x,l[n]? = some x→n<l.length→p x=true→ex T a (f n) h=some o)
  (hN:ex T a (f l.length) h=some oN) (ho:o.1≠.norm) (hoN:oN.1≠.norm) :
  ex T (.loop a) (f 0) h=some (if l.any p=true then o else oN):=by
 have:=loop_gen (T:=T) (a:=a) l (fun n (_:Unit)=>f n) (fun _ _=>h) (fun _ _=>True) (fun _ _ x=>if p x=true then .inl o else .inr ()) (fun _=>oN)
  (by
   intro n s x hn _
   have hlt:n<l.length:=by
    rw[List.getElem?_eq_some_iff] at hn;exact hn.1
   cases hp:p x with
   |true=>exact⟨hx n x hn hlt hp,ho⟩
   |false=>exact⟨hs n x hn hlt hp,trivial⟩)
  (fun _ _=>⟨hN,hoN⟩) l.length 0 () (by omega) trivial
 rw[this,List.drop_zero]
 congr 1
 clear this hs hx hN
 have:∀ (m:List α) (n:Nat),runL (fun _ (_:Unit) x=>if p x=true then .inl o else .inr ()) (fun _=>oN) n m ()=if m.any p=true then o else oN:=by
  intro m
  induction m with
  |nil=>intro n;rfl
  |cons x m ih=>
   intro n
   cases hp:p x with
   |true=>simp[runL,hp]
   |false=>simp only[runL,hp,Bool.false_eq_true,if_false,List.any_cons,Bool.false_or];exact ih _
 exact this l 0
def fst? {α:Type} (p:α→Bool):Nat→List α→Option (Nat × α)
 |_,[]=>none
 |n,x::l=>if p x=true then some (n,x) else fst? p (n+1) l
theorem fst_some {α:Type} {p:α→Bool}:∀ {l:List α} {k n:Nat} {x:α},fst? p k l=some (n,x)→k≤n∧l[n - k]? = some x∧p x=true∧∀ m y,k≤m→m<n→l[m - k]? = some y→p y=false
 | [],_,_,_,h=>by cases h
 |a::l,k,n,x,h=>by
  unfold fst? at h
  by_cases hp:p a=true
  ·rw[if_pos hp] at h
   cases h
   exact⟨Nat.le_refl _,by simp,hp,fun m y h1 h2=>by omega⟩
  ·rw[if_neg hp] at h
   obtain ⟨h1,h2,h3,h4⟩:=fst_some h
   have e:n - k=(n - (k+1))+1:=by omega
   refine ⟨by omega,by rw[e];exact h2,h3,fun m y k1 k2 k3=>?_⟩
   by_cases hm:m=k
   ·subst hm
    simp at k3
    subst k3
    simpa using hp
   ·refine h4 m y (by omega) k2 ?_
    have e:m - k=(m - (k+1))+1:=by omega
    rw[e] at k3
    simpa using k3
theorem fst_none {α:Type} {p:α→Bool}:∀ {l:List α} {k:Nat},fst? p k l=none ↔ l.any p=false
 | [],_=>by simp[fst?]
 |a::l,k=>by
  unfold fst?
  by_cases hp:p a=true
  ·rw[if_pos hp];simp[hp]
  ·rw[if_neg hp,fst_none];simp[hp]
theorem loop_find {T:Tab} {a:AC} {α:Type} {l:List α} {p:α→Bool} {f:Nat→Env} {h:Hp} {o:Nat→α→Out} {oN:Out}
  (hs:∀ n x,l[n]? = some x→n<l.length→p x=false→ex T a (f n) h=some (.norm,f (n+1),h))
  (hx:∀ n x,l[n]? = some x→n<l.length→p x=true→ex T a (f n) h=some (o n x))
  (hN:ex T a (f l.length) h=some oN) (ho:∀ n x,(o n x).1≠.norm) (hoN:oN.1≠.norm) :
  ex T (.loop a) (f 0) h=some (match fst? p 0 l with | some (n,x)=>o n x | none=>oN):=by
 have:=loop_gen (T:=T) (a:=a) l (fun n (_:Unit)=>f n) (fun _ _=>h) (fun _ _=>True) (fun n _ x=>if p x=true then .inl (o n x) else .inr ()) (fun _=>oN)
  (by
   intro n s x hn _
   have hlt:n<l.length:=by
    rw[List.getElem?_eq_some_iff] at hn;exact hn.1
   cases hp:p x with
   |true=>exact⟨hx n x hn hlt hp,ho n x⟩
   |false=>exact⟨hs n x hn hlt hp,trivial⟩)
  (fun _ _=>⟨hN,hoN⟩) l.length 0 () (by omega) trivial
 rw[this,List.drop_zero]
 congr 1
 clear this hs hx hN
 have:∀ (m:List α) (n:Nat),runL (fun n (_:Unit) x=>if p x=true then .inl (o n x) else .inr ()) (fun _=>oN) n m ()=match fst? p n m with | some (n,x)=>o n x | none=>oN:=by
  intro m
  induction m with
  |nil=>intro n;rfl
  |cons x m ih=>
   intro n
   cases hp:p x with
   |true=>simp[runL,fst?,hp]
   |false=>
    simp only[runL,fst?,hp,Bool.false_eq_true,if_false]
    exact ih _
 exact this l 0
theorem loop_fold {T:Tab} {a:AC} {α S:Type} {l:List α} (env:Nat→S→Env) (hp:Nat→S→Hp) (I:Nat→S→Prop) (stp:S→α→S) (fin:S→Out)
  (h1:∀ n s x,l[n]? = some x→n<l.length→I n s→ex T a (env n s) (hp n s)=some (.norm,env (n+1) (stp s x),hp (n+1) (stp s x))∧I (n+1) (stp s x))
  (h2:∀ s,I l.length s→ex T a (env l.length s) (hp l.length s)=some (fin s)) (h3:∀ s,(fin s).1≠.norm) (s:S) (hI:I 0 s) :
  ex T (.loop a) (env 0 s) (hp 0 s)=some (fin (l.foldl stp s)):=by
 have:=loop_gen (T:=T) (a:=a) l env hp I (fun _ s x=>.inr (stp s x)) fin
  (by
   intro n s x hn hI
   have hlt:n<l.length:=by
    rw[List.getElem?_eq_some_iff] at hn;exact hn.1
   exact h1 n s x hn hlt hI)
  (fun s hs=>⟨h2 s hs,h3 s⟩) l.length 0 s (by omega) hI
 rw[this,List.drop_zero]
 congr 1
 clear this h1 h2 hI
 have:∀ (m:List α) (n:Nat) (s:S),runL (fun _ s x=>.inr (stp s x)) fin n m s=fin (m.foldl stp s):=by
  intro m
  induction m with
  |nil=>intro n s;rfl
  |cons x m ih=>intro n s;exact ih (n+1) (stp s x)
 exact this l 0 s
theorem ia_map {α:Type} {f:α→D} {es:Nat} {l:List α} {n:Nat} {x:α} (k:IntKind) (hx:l[n]? = some x) (hc:(f x).cells.length=es):ia es (.d (.lst (l.map f))) (.d (.int k (n:Int)))=some (.fp (f x) 0):=
 ia_at k (by rw[List.getElem?_map,hx];rfl) hc
def idxZ {α:Type} (p:α→Bool) (l:List α):Int:=match fst? p 0 l with
 |some (n,_)=>n
 |none => -1
theorem idxZ_nn {α:Type} (p:α→Bool) (l:List α):(0≤idxZ p l)=(l.any p=true):=by
 unfold idxZ
 cases hq:fst? p 0 l with
 |none=>
  rw[fst_none] at hq
  simp only[hq,Bool.false_eq_true]
  simp
 |some y=>
  obtain ⟨n,x⟩:=y
  have:l.any p=true:=by
   by_cases ha:l.any p=true
   ·exact ha
   ·rw[fst_none.2 (by simpa using ha)] at hq;cases hq
  simp only[this]
  simp
theorem look_hd (n:Nat) (o:Ob) (r:List (Nat × Ob)):look ((n,o)::r) n=some o:=if_pos rfl
theorem look_tl {m n:Nat} (o:Ob) (r:List (Nat × Ob)) (h:n≠m):look ((m,o)::r) n=look r n:=if_neg h
theorem row_look {h:Hp} {n es tot:Nat} {els:List V} (H:look h.objs n=some (.arr es els)) (hl:els.length=tot):h.row n tot=some (es,els):=by
 unfold Hp.row Hp.get
 rw[H]
 simp[hl]
theorem loop_wp {T:Tab} {a:AC} (N:Nat) (J:Nat→Env→Hp→Prop) (Q:Out→Prop)
  (hs:∀ n e h,n<N→J n e h→wp T a e h (fun o=>(o.1=.norm∧J (n+1) o.2.1 o.2.2)∨(o.1≠.norm∧Q o)))
  (hN:∀ e h,J N e h→wp T a e h (fun o=>o.1≠.norm∧Q o)) :
  ∀ (k n:Nat) (e:Env) (h:Hp),n+k=N→J n e h→wp T (.loop a) e h Q:=by
 intro k
 induction k with
 |zero=>
  intro n e h hn hJ
  have:n=N:=by omega
  subst this
  obtain ⟨o,h1,h2,h3⟩:=hN e h hJ
  refine ⟨o,?_,h3⟩
  rw[ex_loop,h1,Option.bind_some]
  obtain ⟨x,e',h'⟩:=o
  cases x with
  |norm=>exact absurd rfl h2
  |exit i=>rfl
  |ret=>rfl
 |succ k ih=>
  intro n e h hn hJ
  obtain ⟨o,h1,h2⟩:=hs n e h (by omega) hJ
  obtain ⟨x,e',h'⟩:=o
  rcases h2 with ⟨h2,h3⟩ | ⟨h2,h3⟩
  ·cases h2
   obtain ⟨q,k1,k2⟩:=ih (n+1) e' h' (by omega) h3
   refine ⟨q,?_,k2⟩
   rw[ex_loop,h1,Option.bind_some,nxt_n]
   exact k1
  ·refine ⟨(x,e',h'),?_,h3⟩
   rw[ex_loop,h1,Option.bind_some]
   cases x with
   |norm=>exact absurd rfl h2
   |exit i=>rfl
   |ret=>rfl
theorem loop_anyq {T:Tab} {a:AC} {α:Type} {l:List α} {p:α→Bool} {f:Nat→Env} {h:Hp} {x1 x2:Ex} {e1 e2:Env}
  (hs:∀ q n x,l[n]? = some x→n<l.length→p x=false→wp T a (f n) ⟨h.objs,q⟩ (fun o=>∃ q',o=(.norm,f (n+1),⟨h.objs,q'⟩)))
  (hx:∀ q n x,l[n]? = some x→n<l.length→p x=true→wp T a (f n) ⟨h.objs,q⟩ (fun o=>∃ q',o=(x1,e1,⟨h.objs,q'⟩)))
  (hN:∀ q,wp T a (f l.length) ⟨h.objs,q⟩ (fun o=>∃ q',o=(x2,e2,⟨h.objs,q'⟩))) (ho:x1≠.norm) (hoN:x2≠.norm) :
  ∃ q',ex T (.loop a) (f 0) h=some (if l.any p=true then (x1,e1,⟨h.objs,q'⟩) else (x2,e2,⟨h.objs,q'⟩)):=by
 obtain ⟨o,h1,q,h2⟩:wp T (.loop a) (f 0) h (fun o=>∃ q',o=if l.any p=true then (x1,e1,⟨h.objs,q'⟩) else (x2,e2,⟨h.objs,q'⟩)):=by
  refine loop_wp l.length (fun n e h'=>(∃ q,h'=⟨h.objs,q⟩)∧e=f n∧∀ i x,i<n→l[i]? = some x→p x=false) _ ?_ ?_ l.length 0 _ _ (by omega) ⟨⟨h.next,rfl⟩,rfl,fun i x hi=>by omega⟩
  ·rintro n e h' hn ⟨⟨q,rfl⟩,rfl,hk⟩
   have hx':l[n]? = some l[n]:=List.getElem?_eq_getElem hn
   cases hp:p l[n] with
   |true=>
    obtain ⟨o,hq,q',rfl⟩:=hx q n _ hx' hn hp
    have:l.any p=true:=List.any_eq_true.2 ⟨_,List.getElem_mem hn,hp⟩
    rw[this]
    exact⟨_,hq,.inr ⟨ho,q',rfl⟩⟩
   |false=>
    obtain ⟨o,hq,q',rfl⟩:=hs q n _ hx' hn hp
    refine ⟨_,hq,.inl ⟨rfl,⟨q',rfl⟩,rfl,fun i x hi hxi=>?_⟩⟩
    by_cases hij:i=n
    ·subst hij;rw[hx'] at hxi;cases hxi;exact hp
    ·exact hk i x (by omega) hxi
  ·rintro e h' ⟨⟨q,rfl⟩,rfl,hk⟩
   have:l.any p=false:=by
    rw[←Bool.not_eq_true,List.any_eq_true]
    rintro ⟨x,hx,hp⟩
    obtain ⟨i,hi1,hi2⟩:=List.getElem_of_mem hx
    rw[hk i x hi1 (by rw[List.getElem?_eq_getElem hi1,hi2])] at hp
    cases hp
   rw[this]
   obtain ⟨o,hq,q',rfl⟩:=hN q
   exact⟨_,hq,hoN,q',rfl⟩
 exact⟨q,by rw[h1,h2]⟩
theorem wq_loop (T:Tab) (a:AC) (e:Env) (h:Hp) (Q:Out→Prop):wp T (.loop a) e h Q=wp T a e h (seqQ T (.loop a) Q):=by
 rw[←wq_seq]
 apply propext
 unfold wp
 rw[ex_loop,ex_seq]
theorem an {a b:Prop} (x:a) (y:b):a∧b:=⟨x,y⟩
def qz:=PLift.up (an ws (an wsl (an int.eq_1 Zv.bool.eq_1)))
theorem wz:type_of% qz.down:=qz.down
def qq:=PLift.up (an @decide_eq_true_eq (an @decide_eq_false_iff_not (an @Bool.not_eq_true' @Bool.not_eq_false')))
theorem dq:type_of% qq.down:=qq.down
def qi:=PLift.up (an It.m.eq_1 (an It.u.eq_1 (an It.g.eq_1 (an Opd.f.eq_1 (an Opd.i.eq_1 Opd.b.eq_1)))))
theorem itE:type_of% qi.down:=qi.down
theorem rgE {f:AC} {i:List It} {k:Option (List Nat)} (hf:f=.reg i k) (T:Tab) (e:Env) (h:Hp) (Q:Out→Prop):wp T f e h Q=wpI (cW T) i e h (regQ k Q):=by subst hf;exact wq_reg ..
theorem bdE {f g:AC} (hf:f=g) (T:Tab) (e:Env) (h:Hp) (Q:Out→Prop):wp T f e h Q=wp T g e h Q:=by subst hf;rfl
end Zs
end
section
namespace Zc28
open Go Zv Zs
variable (T:Tab) (e:Env) (h:Hp) (Q:Out→Prop)
def q3:=PLift.up <| an f3.eq_1 <| an (bdE b3.eq_1) <| an (rgE f3r0.eq_1) <| an (rgE f3r1.eq_1) <| an (rgE f3r2.eq_1) <| an (rgE f3r3.eq_1) <| an (rgE f3r4.eq_1) <| an (rgE f3r5.eq_1) <| an i3r0.eq_1 <| an i3r1.eq_1 <| an i3r2.eq_1 <| an i3r3.eq_1 <| an i3r4.eq_1 <| an i3r5.eq_1 <| itE
theorem e3:type_of% q3.down:=q3.down
def q4:=PLift.up <| an f4.eq_1 <| an (bdE b4.eq_1) <| an (rgE f4r0.eq_1) <| an (rgE f4r1.eq_1) <| an (rgE f4r2.eq_1) <| an (rgE f4r3.eq_1) <| an (rgE f4r4.eq_1) <| an i4r0.eq_1 <| an i4r1.eq_1 <| an i4r2.eq_1 <| an i4r3.eq_1 <| an i4r4.eq_1 <| itE
theorem e4:type_of% q4.down:=q4.down
def q5:=PLift.up <| an f5.eq_1 <| an (bdE b5.eq_1) <| an (rgE f5r0.eq_1) <| an (rgE f5r1.eq_1) <| an (rgE f5r2.eq_1) <| an (rgE f5r3.eq_1) <| an (rgE f5r4.eq_1) <| an (rgE f5r5.eq_1) <| an (rgE f5r6.eq_1) <| an (rgE f5r7.eq_1) <| an (rgE f5r8.eq_1) <| an (rgE f5r9.eq_1) <| an (rgE f5r10.eq_1) <| an (rgE f5r11.eq_1) <| an (rgE f5r12.eq_1) <| an (rgE f5r13.eq_1) <| an (rgE f5r14.eq_1) <| an (rgE f5r15.eq_1) <| an (rgE f5r16.eq_1) <| an (rgE f5r17.eq_1) <| an (rgE f5r18.eq_1) <| an (rgE f5r19.eq_1) <| an (rgE f5r20.eq_1) <| an (rgE f5r21.eq_1) <| an (rgE f5r22.eq_1) <| an (rgE f5r23.eq_1) <| an (rgE f5r24.eq_1) <| an (rgE f5r25.eq_1) <| an (rgE f5r26.eq_1) <| an (rgE f5r27.eq_1) <| an (bdE f5l0.eq_1) <| an (rgE f5r28.eq_1) <| an (bdE f5l1.eq_1) <| an (rgE f5r29.eq_1) <| an (bdE f5l2.eq_1) <| an (rgE f5r30.eq_1) <| an (rgE f5r31.eq_1) <| an (rgE f5r32.eq_1) <| an (rgE f5r33.eq_1) <| an (rgE f5r34.eq_1) <| an (rgE f5r35.eq_1) <| an (bdE f5l3.eq_1) <| an (rgE f5r36.eq_1) <| an i5r0.eq_1 <| an i5r1.eq_1 <| an i5r2.eq_1 <| an i5r3.eq_1 <| an i5r4.eq_1 <| an i5r5.eq_1 <| an i5r6.eq_1 <| an i5r7.eq_1 <| an i5r8.eq_1 <| an i5r9.eq_1 <| an i5r10.eq_1 <| an i5r11.eq_1 <| an i5r12.eq_1 <| an i5r13.eq_1 <| an i5r14.eq_1 <| an i5r15.eq_1 <| an i5r16.eq_1 <| an i5r17.eq_1 <| an i5r18.eq_1 <| an i5r19.eq_1 <| an i5r20.eq_1 <| an i5r21.eq_1 <| an i5r22.eq_1 <| an i5r23.eq_1 <| an i5r24.eq_1 <| an i5r25.eq_1 <| an i5r26.eq_1 <| an i5r27.eq_1 <| an i5r28.eq_1 <| an i5r29.eq_1 <| an i5r30.eq_1 <| an i5r31.eq_1 <| an i5r32.eq_1 <| an i5r33.eq_1 <| an i5r34.eq_1 <| an i5r35.eq_1 <| an i5r36.eq_1 <| itE
theorem e5:type_of% q5.down:=q5.down
def q6:=PLift.up <| an f6.eq_1 <| an (bdE b6.eq_1) <| an (rgE f6r0.eq_1) <| an (rgE f6r1.eq_1) <| an (rgE f6r2.eq_1) <| an (rgE f6r3.eq_1) <| an (rgE f6r4.eq_1) <| an (rgE f6r5.eq_1) <| an i6r0.eq_1 <| an i6r1.eq_1 <| an i6r2.eq_1 <| an i6r3.eq_1 <| an i6r4.eq_1 <| an i6r5.eq_1 <| itE
theorem e6:type_of% q6.down:=q6.down
def q9:=PLift.up <| an f9.eq_1 <| an (bdE b9.eq_1) <| an (rgE f9r0.eq_1) <| an (rgE f9r1.eq_1) <| an (rgE f9r2.eq_1) <| an (rgE f9r3.eq_1) <| an (rgE f9r4.eq_1) <| an (rgE f9r5.eq_1) <| an (rgE f9r6.eq_1) <| an (rgE f9r7.eq_1) <| an (rgE f9r8.eq_1) <| an (bdE f9l0.eq_1) <| an (rgE f9r9.eq_1) <| an i9r0.eq_1 <| an i9r1.eq_1 <| an i9r2.eq_1 <| an i9r3.eq_1 <| an i9r4.eq_1 <| an i9r5.eq_1 <| an i9r6.eq_1 <| an i9r7.eq_1 <| an i9r8.eq_1 <| an i9r9.eq_1 <| itE
theorem e9:type_of% q9.down:=q9.down
def q11:=PLift.up <| an f11.eq_1 <| an (bdE b11.eq_1) <| an (rgE f11r0.eq_1) <| an (rgE f11r1.eq_1) <| an (rgE f11r2.eq_1) <| an (rgE f11r3.eq_1) <| an (rgE f11r4.eq_1) <| an (rgE f11r5.eq_1) <| an (rgE f11r6.eq_1) <| an (rgE f11r7.eq_1) <| an (rgE f11r8.eq_1) <| an (rgE f11r9.eq_1) <| an (rgE f11r10.eq_1) <| an (rgE f11r11.eq_1) <| an (rgE f11r12.eq_1) <| an (rgE f11r13.eq_1) <| an (rgE f11r14.eq_1) <| an (rgE f11r15.eq_1) <| an (bdE f11l0.eq_1) <| an (rgE f11r16.eq_1) <| an (rgE f11r17.eq_1) <| an (rgE f11r18.eq_1) <| an (rgE f11r19.eq_1) <| an (rgE f11r20.eq_1) <| an (rgE f11r21.eq_1) <| an (bdE f11l1.eq_1) <| an (rgE f11r22.eq_1) <| an (rgE f11r23.eq_1) <| an (rgE f11r24.eq_1) <| an (rgE f11r25.eq_1) <| an i11r0.eq_1 <| an i11r1.eq_1 <| an i11r2.eq_1 <| an i11r3.eq_1 <| an i11r4.eq_1 <| an i11r5.eq_1 <| an i11r6.eq_1 <| an i11r7.eq_1 <| an i11r8.eq_1 <| an i11r9.eq_1 <| an i11r10.eq_1 <| an i11r11.eq_1 <| an i11r12.eq_1 <| an i11r13.eq_1 <| an i11r14.eq_1 <| an i11r15.eq_1 <| an i11r16.eq_1 <| an i11r17.eq_1 <| an i11r18.eq_1 <| an i11r19.eq_1 <| an i11r20.eq_1 <| an i11r21.eq_1 <| an i11r22.eq_1 <| an i11r23.eq_1 <| an i11r24.eq_1 <| an i11r25.eq_1 <| itE
theorem e11:type_of% q11.down:=q11.down
def q12:=PLift.up <| an f12.eq_1 <| an (bdE b12.eq_1) <| an (rgE f12r0.eq_1) <| an (rgE f12r1.eq_1) <| an (rgE f12r2.eq_1) <| an (rgE f12r3.eq_1) <| an (rgE f12r4.eq_1) <| an (rgE f12r5.eq_1) <| an (rgE f12r6.eq_1) <| an (rgE f12r7.eq_1) <| an (rgE f12r8.eq_1) <| an (rgE f12r9.eq_1) <| an (rgE f12r10.eq_1) <| an (bdE f12l0.eq_1) <| an (rgE f12r11.eq_1) <| an (rgE f12r12.eq_1) <| an (bdE f12l1.eq_1) <| an (rgE f12r13.eq_1) <| an i12r0.eq_1 <| an i12r1.eq_1 <| an i12r2.eq_1 <| an i12r3.eq_1 <| an i12r4.eq_1 <| an i12r5.eq_1 <| an i12r6.eq_1 <| an i12r7.eq_1 <| an i12r8.eq_1 <| an i12r9.eq_1 <| an i12r10.eq_1 <| an i12r11.eq_1 <| an i12r12.eq_1 <| an i12r13.eq_1 <| itE
theorem e12:type_of% q12.down:=q12.down
def q13:=PLift.up <| an f13.eq_1 <| an (bdE b13.eq_1) <| an (rgE f13r0.eq_1) <| an (rgE f13r1.eq_1) <| an (rgE f13r2.eq_1) <| an (rgE f13r3.eq_1) <| an (rgE f13r4.eq_1) <| an (rgE f13r5.eq_1) <| an (rgE f13r6.eq_1) <| an (rgE f13r7.eq_1) <| an (rgE f13r8.eq_1) <| an (rgE f13r9.eq_1) <| an (rgE f13r10.eq_1) <| an (rgE f13r11.eq_1) <| an (bdE f13l0.eq_1) <| an (rgE f13r12.eq_1) <| an (rgE f13r13.eq_1) <| an (rgE f13r14.eq_1) <| an (rgE f13r15.eq_1) <| an (rgE f13r16.eq_1) <| an (bdE f13l1.eq_1) <| an (rgE f13r17.eq_1) <| an (rgE f13r18.eq_1) <| an (rgE f13r19.eq_1) <| an (rgE f13r20.eq_1) <| an i13r0.eq_1 <| an i13r1.eq_1 <| an i13r2.eq_1 <| an i13r3.eq_1 <| an i13r4.eq_1 <| an i13r5.eq_1 <| an i13r6.eq_1 <| an i13r7.eq_1 <| an i13r8.eq_1 <| an i13r9.eq_1 <| an i13r10.eq_1 <| an i13r11.eq_1 <| an i13r12.eq_1 <| an i13r13.eq_1 <| an i13r14.eq_1 <| an i13r15.eq_1 <| an i13r16.eq_1 <| an i13r17.eq_1 <| an i13r18.eq_1 <| an i13r19.eq_1 <| an i13r20.eq_1 <| itE
theorem e13:type_of% q13.down:=q13.down
def q14:=PLift.up <| an f14.eq_1 <| an (bdE b14.eq_1) <| an (rgE f14r0.eq_1) <| an (rgE f14r1.eq_1) <| an i14r0.eq_1 <| an i14r1.eq_1 <| itE
theorem e14:type_of% q14.down:=q14.down
def q21:=PLift.up <| an f21.eq_1 <| an (bdE b21.eq_1) <| an (rgE f21r0.eq_1) <| an (rgE f21r1.eq_1) <| an (rgE f21r2.eq_1) <| an (rgE f21r3.eq_1) <| an (rgE f21r4.eq_1) <| an (rgE f21r5.eq_1) <| an (rgE f21r6.eq_1) <| an (rgE f21r7.eq_1) <| an (rgE f21r8.eq_1) <| an (bdE f21l0.eq_1) <| an (rgE f21r9.eq_1) <| an i21r0.eq_1 <| an i21r1.eq_1 <| an i21r2.eq_1 <| an i21r3.eq_1 <| an i21r4.eq_1 <| an i21r5.eq_1 <| an i21r6.eq_1 <| an i21r7.eq_1 <| an i21r8.eq_1 <| an i21r9.eq_1 <| itE
theorem e21:type_of% q21.down:=q21.down
def q22:=PLift.up <| an f22.eq_1 <| an (bdE b22.eq_1) <| an (rgE f22r0.eq_1) <| an (rgE f22r1.eq_1) <| an (rgE f22r2.eq_1) <| an (rgE f22r3.eq_1) <| an (rgE f22r4.eq_1) <| an (rgE f22r5.eq_1) <| an (rgE f22r6.eq_1) <| an (rgE f22r7.eq_1) <| an (rgE f22r8.eq_1) <| an (rgE f22r9.eq_1) <| an (rgE f22r10.eq_1) <| an (rgE f22r11.eq_1) <| an (rgE f22r12.eq_1) <| an (rgE f22r13.eq_1) <| an (rgE f22r14.eq_1) <| an (rgE f22r15.eq_1) <| an (bdE f22l0.eq_1) <| an (rgE f22r16.eq_1) <| an (bdE f22l1.eq_1) <| an (rgE f22r17.eq_1) <| an (rgE f22r18.eq_1) <| an (rgE f22r19.eq_1) <| an i22r0.eq_1 <| an i22r1.eq_1 <| an i22r2.eq_1 <| an i22r3.eq_1 <| an i22r4.eq_1 <| an i22r5.eq_1 <| an i22r6.eq_1 <| an i22r7.eq_1 <| an i22r8.eq_1 <| an i22r9.eq_1 <| an i22r10.eq_1 <| an i22r11.eq_1 <| an i22r12.eq_1 <| an i22r13.eq_1 <| an i22r14.eq_1 <| an i22r15.eq_1 <| an i22r16.eq_1 <| an i22r17.eq_1 <| an i22r18.eq_1 <| an i22r19.eq_1 <| itE
theorem e22:type_of% q22.down:=q22.down
def q27:=PLift.up <| an f27.eq_1 <| an (bdE b27.eq_1) <| an (rgE f27r0.eq_1) <| an (rgE f27r1.eq_1) <| an (rgE f27r2.eq_1) <| an (rgE f27r3.eq_1) <| an (rgE f27r4.eq_1) <| an (rgE f27r5.eq_1) <| an (rgE f27r6.eq_1) <| an (rgE f27r7.eq_1) <| an (rgE f27r8.eq_1) <| an (rgE f27r9.eq_1) <| an (bdE f27l0.eq_1) <| an (rgE f27r10.eq_1) <| an (bdE f27l1.eq_1) <| an (rgE f27r11.eq_1) <| an i27r0.eq_1 <| an i27r1.eq_1 <| an i27r2.eq_1 <| an i27r3.eq_1 <| an i27r4.eq_1 <| an i27r5.eq_1 <| an i27r6.eq_1 <| an i27r7.eq_1 <| an i27r8.eq_1 <| an i27r9.eq_1 <| an i27r10.eq_1 <| an i27r11.eq_1 <| itE
theorem e27:type_of% q27.down:=q27.down
def q32:=PLift.up <| an f32.eq_1 <| an (bdE b32.eq_1) <| an (rgE f32r0.eq_1) <| an (rgE f32r1.eq_1) <| an (rgE f32r2.eq_1) <| an (rgE f32r3.eq_1) <| an (rgE f32r4.eq_1) <| an (rgE f32r5.eq_1) <| an (rgE f32r6.eq_1) <| an (rgE f32r7.eq_1) <| an (rgE f32r8.eq_1) <| an (bdE f32l0.eq_1) <| an (rgE f32r9.eq_1) <| an i32r0.eq_1 <| an i32r1.eq_1 <| an i32r2.eq_1 <| an i32r3.eq_1 <| an i32r4.eq_1 <| an i32r5.eq_1 <| an i32r6.eq_1 <| an i32r7.eq_1 <| an i32r8.eq_1 <| an i32r9.eq_1 <| itE
theorem e32:type_of% q32.down:=q32.down
def q35:=PLift.up <| an f35.eq_1 <| an (bdE b35.eq_1) <| an (rgE f35r0.eq_1) <| an (rgE f35r1.eq_1) <| an (rgE f35r2.eq_1) <| an (rgE f35r3.eq_1) <| an (rgE f35r4.eq_1) <| an (rgE f35r5.eq_1) <| an (rgE f35r6.eq_1) <| an (rgE f35r7.eq_1) <| an (rgE f35r8.eq_1) <| an (rgE f35r9.eq_1) <| an (rgE f35r10.eq_1) <| an (rgE f35r11.eq_1) <| an (rgE f35r12.eq_1) <| an (bdE f35l0.eq_1) <| an (rgE f35r13.eq_1) <| an (rgE f35r14.eq_1) <| an (rgE f35r15.eq_1) <| an (rgE f35r16.eq_1) <| an (rgE f35r17.eq_1) <| an (rgE f35r18.eq_1) <| an (rgE f35r19.eq_1) <| an (rgE f35r20.eq_1) <| an (rgE f35r21.eq_1) <| an (rgE f35r22.eq_1) <| an (rgE f35r23.eq_1) <| an (bdE f35l1.eq_1) <| an (rgE f35r24.eq_1) <| an (bdE f35l2.eq_1) <| an (rgE f35r25.eq_1) <| an i35r0.eq_1 <| an i35r1.eq_1 <| an i35r2.eq_1 <| an i35r3.eq_1 <| an i35r4.eq_1 <| an i35r5.eq_1 <| an i35r6.eq_1 <| an i35r7.eq_1 <| an i35r8.eq_1 <| an i35r9.eq_1 <| an i35r10.eq_1 <| an i35r11.eq_1 <| an i35r12.eq_1 <| an i35r13.eq_1 <| an i35r14.eq_1 <| an i35r15.eq_1 <| an i35r16.eq_1 <| an i35r17.eq_1 <| an i35r18.eq_1 <| an i35r19.eq_1 <| an i35r20.eq_1 <| an i35r21.eq_1 <| an i35r22.eq_1 <| an i35r23.eq_1 <| an i35r24.eq_1 <| an i35r25.eq_1 <| itE
theorem e35:type_of% q35.down:=q35.down
def q36:=PLift.up <| an f36.eq_1 <| an (bdE b36.eq_1) <| an (rgE f36r0.eq_1) <| an (rgE f36r1.eq_1) <| an (rgE f36r2.eq_1) <| an (rgE f36r3.eq_1) <| an (rgE f36r4.eq_1) <| an (rgE f36r5.eq_1) <| an i36r0.eq_1 <| an i36r1.eq_1 <| an i36r2.eq_1 <| an i36r3.eq_1 <| an i36r4.eq_1 <| an i36r5.eq_1 <| itE
theorem e36:type_of% q36.down:=q36.down
def q37:=PLift.up <| an f37.eq_1 <| an (bdE b37.eq_1) <| an (rgE f37r0.eq_1) <| an (rgE f37r1.eq_1) <| an (rgE f37r2.eq_1) <| an (rgE f37r3.eq_1) <| an (rgE f37r4.eq_1) <| an (rgE f37r5.eq_1) <| an (rgE f37r6.eq_1) <| an (rgE f37r7.eq_1) <| an (rgE f37r8.eq_1) <| an (rgE f37r9.eq_1) <| an (rgE f37r10.eq_1) <| an (rgE f37r11.eq_1) <| an (rgE f37r12.eq_1) <| an (rgE f37r13.eq_1) <| an (rgE f37r14.eq_1) <| an (rgE f37r15.eq_1) <| an (rgE f37r16.eq_1) <| an (rgE f37r17.eq_1) <| an (rgE f37r18.eq_1) <| an (rgE f37r19.eq_1) <| an (bdE f37l0.eq_1) <| an (rgE f37r20.eq_1) <| an (rgE f37r21.eq_1) <| an (rgE f37r22.eq_1) <| an (rgE f37r23.eq_1) <| an (rgE f37r24.eq_1) <| an (rgE f37r25.eq_1) <| an (rgE f37r26.eq_1) <| an (rgE f37r27.eq_1) <| an (bdE f37l1.eq_1) <| an (rgE f37r28.eq_1) <| an (rgE f37r29.eq_1) <| an (bdE f37l2.eq_1) <| an (rgE f37r30.eq_1) <| an (rgE f37r31.eq_1) <| an (rgE f37r32.eq_1) <| an (rgE f37r33.eq_1) <| an (rgE f37r34.eq_1) <| an (rgE f37r35.eq_1) <| an (rgE f37r36.eq_1) <| an (rgE f37r37.eq_1) <| an (rgE f37r38.eq_1) <| an (rgE f37r39.eq_1) <| an (rgE f37r40.eq_1) <| an (bdE f37l3.eq_1) <| an (rgE f37r41.eq_1) <| an (rgE f37r42.eq_1) <| an (rgE f37r43.eq_1) <| an (rgE f37r44.eq_1) <| an i37r0.eq_1 <| an i37r1.eq_1 <| an i37r2.eq_1 <| an i37r3.eq_1 <| an i37r4.eq_1 <| an i37r5.eq_1 <| an i37r6.eq_1 <| an i37r7.eq_1 <| an i37r8.eq_1 <| an i37r9.eq_1 <| an i37r10.eq_1 <| an i37r11.eq_1 <| an i37r12.eq_1 <| an i37r13.eq_1 <| an i37r14.eq_1 <| an i37r15.eq_1 <| an i37r16.eq_1 <| an i37r17.eq_1 <| an i37r18.eq_1 <| an i37r19.eq_1 <| an i37r20.eq_1 <| an i37r21.eq_1 <| an i37r22.eq_1 <| an i37r23.eq_1 <| an i37r24.eq_1 <| an i37r25.eq_1 <| an i37r26.eq_1 <| an i37r27.eq_1 <| an i37r28.eq_1 <| an i37r29.eq_1 <| an i37r30.eq_1 <| an i37r31.eq_1 <| an i37r32.eq_1 <| an i37r33.eq_1 <| an i37r34.eq_1 <| an i37r35.eq_1 <| an i37r36.eq_1 <| an i37r37.eq_1 <| an i37r38.eq_1 <| an i37r39.eq_1 <| an i37r40.eq_1 <| an i37r41.eq_1 <| an i37r42.eq_1 <| an i37r43.eq_1 <| an i37r44.eq_1 <| itE
theorem e37:type_of% q37.down:=q37.down
def q38:=PLift.up <| an f38.eq_1 <| an (bdE b38.eq_1) <| an (rgE f38r0.eq_1) <| an (rgE f38r1.eq_1) <| an (rgE f38r2.eq_1) <| an (rgE f38r3.eq_1) <| an (rgE f38r4.eq_1) <| an (rgE f38r5.eq_1) <| an (rgE f38r6.eq_1) <| an (bdE f38l0.eq_1) <| an (rgE f38r7.eq_1) <| an i38r0.eq_1 <| an i38r1.eq_1 <| an i38r2.eq_1 <| an i38r3.eq_1 <| an i38r4.eq_1 <| an i38r5.eq_1 <| an i38r6.eq_1 <| an i38r7.eq_1 <| itE
theorem e38:type_of% q38.down:=q38.down
def q39:=PLift.up <| an f39.eq_1 <| an (bdE b39.eq_1) <| an (rgE f39r0.eq_1) <| an (rgE f39r1.eq_1) <| an i39r0.eq_1 <| an i39r1.eq_1 <| itE
theorem e39:type_of% q39.down:=q39.down
def q40:=PLift.up <| an f40.eq_1 <| an (bdE b40.eq_1) <| an (rgE f40r0.eq_1) <| an (rgE f40r1.eq_1) <| an (rgE f40r2.eq_1) <| an (rgE f40r3.eq_1) <| an i40r0.eq_1 <| an i40r1.eq_1 <| an i40r2.eq_1 <| an i40r3.eq_1 <| itE
theorem e40:type_of% q40.down:=q40.down
def q41:=PLift.up <| an f41.eq_1 <| an (bdE b41.eq_1) <| an (rgE f41r0.eq_1) <| an (rgE f41r1.eq_1) <| an i41r0.eq_1 <| an i41r1.eq_1 <| itE
theorem e41:type_of% q41.down:=q41.down
def q42:=PLift.up <| an f42.eq_1 <| an (bdE b42.eq_1) <| an (rgE f42r0.eq_1) <| an (rgE f42r1.eq_1) <| an (rgE f42r2.eq_1) <| an (rgE f42r3.eq_1) <| an (rgE f42r4.eq_1) <| an (rgE f42r5.eq_1) <| an i42r0.eq_1 <| an i42r1.eq_1 <| an i42r2.eq_1 <| an i42r3.eq_1 <| an i42r4.eq_1 <| an i42r5.eq_1 <| itE
theorem e42:type_of% q42.down:=q42.down
def q43:=PLift.up <| an f43.eq_1 <| an (bdE b43.eq_1) <| an (rgE f43r0.eq_1) <| an (rgE f43r1.eq_1) <| an i43r0.eq_1 <| an i43r1.eq_1 <| itE
theorem e43:type_of% q43.down:=q43.down
def q44:=PLift.up <| an f44.eq_1 <| an (bdE b44.eq_1) <| an (rgE f44r0.eq_1) <| an (rgE f44r1.eq_1) <| an i44r0.eq_1 <| an i44r1.eq_1 <| itE
theorem e44:type_of% q44.down:=q44.down
def q45:=PLift.up <| an f45.eq_1 <| an (bdE b45.eq_1) <| an (rgE f45r0.eq_1) <| an (rgE f45r1.eq_1) <| an (rgE f45r2.eq_1) <| an (rgE f45r3.eq_1) <| an (rgE f45r4.eq_1) <| an (rgE f45r5.eq_1) <| an (rgE f45r6.eq_1) <| an (bdE f45l0.eq_1) <| an (rgE f45r7.eq_1) <| an i45r0.eq_1 <| an i45r1.eq_1 <| an i45r2.eq_1 <| an i45r3.eq_1 <| an i45r4.eq_1 <| an i45r5.eq_1 <| an i45r6.eq_1 <| an i45r7.eq_1 <| itE
theorem e45:type_of% q45.down:=q45.down
def q46:=PLift.up <| an f46.eq_1 <| an (bdE b46.eq_1) <| an (rgE f46r0.eq_1) <| an (rgE f46r1.eq_1) <| an (rgE f46r2.eq_1) <| an (rgE f46r3.eq_1) <| an (rgE f46r4.eq_1) <| an (rgE f46r5.eq_1) <| an (rgE f46r6.eq_1) <| an (rgE f46r7.eq_1) <| an (rgE f46r8.eq_1) <| an (rgE f46r9.eq_1) <| an (bdE f46l0.eq_1) <| an (rgE f46r10.eq_1) <| an (rgE f46r11.eq_1) <| an (rgE f46r12.eq_1) <| an (rgE f46r13.eq_1) <| an (rgE f46r14.eq_1) <| an (rgE f46r15.eq_1) <| an (rgE f46r16.eq_1) <| an (bdE f46l1.eq_1) <| an (rgE f46r17.eq_1) <| an (bdE f46l2.eq_1) <| an (rgE f46r18.eq_1) <| an (rgE f46r19.eq_1) <| an (rgE f46r20.eq_1) <| an (rgE f46r21.eq_1) <| an (rgE f46r22.eq_1) <| an (rgE f46r23.eq_1) <| an (rgE f46r24.eq_1) <| an (rgE f46r25.eq_1) <| an (rgE f46r26.eq_1) <| an (bdE f46l3.eq_1) <| an (rgE f46r27.eq_1) <| an (bdE f46l4.eq_1) <| an (rgE f46r28.eq_1) <| an i46r0.eq_1 <| an i46r1.eq_1 <| an i46r2.eq_1 <| an i46r3.eq_1 <| an i46r4.eq_1 <| an i46r5.eq_1 <| an i46r6.eq_1 <| an i46r7.eq_1 <| an i46r8.eq_1 <| an i46r9.eq_1 <| an i46r10.eq_1 <| an i46r11.eq_1 <| an i46r12.eq_1 <| an i46r13.eq_1 <| an i46r14.eq_1 <| an i46r15.eq_1 <| an i46r16.eq_1 <| an i46r17.eq_1 <| an i46r18.eq_1 <| an i46r19.eq_1 <| an i46r20.eq_1 <| an i46r21.eq_1 <| an i46r22.eq_1 <| an i46r23.eq_1 <| an i46r24.eq_1 <| an i46r25.eq_1 <| an i46r26.eq_1 <| an i46r27.eq_1 <| an i46r28.eq_1 <| itE
theorem e46:type_of% q46.down:=q46.down
def q47:=PLift.up <| an f47.eq_1 <| an (bdE b47.eq_1) <| an (rgE f47r0.eq_1) <| an (rgE f47r1.eq_1) <| an (rgE f47r2.eq_1) <| an (rgE f47r3.eq_1) <| an (rgE f47r4.eq_1) <| an (rgE f47r5.eq_1) <| an (rgE f47r6.eq_1) <| an (rgE f47r7.eq_1) <| an (rgE f47r8.eq_1) <| an (rgE f47r9.eq_1) <| an (rgE f47r10.eq_1) <| an (rgE f47r11.eq_1) <| an (rgE f47r12.eq_1) <| an (rgE f47r13.eq_1) <| an (bdE f47l0.eq_1) <| an (rgE f47r14.eq_1) <| an (rgE f47r15.eq_1) <| an (rgE f47r16.eq_1) <| an (rgE f47r17.eq_1) <| an (rgE f47r18.eq_1) <| an i47r0.eq_1 <| an i47r1.eq_1 <| an i47r2.eq_1 <| an i47r3.eq_1 <| an i47r4.eq_1 <| an i47r5.eq_1 <| an i47r6.eq_1 <| an i47r7.eq_1 <| an i47r8.eq_1 <| an i47r9.eq_1 <| an i47r10.eq_1 <| an i47r11.eq_1 <| an i47r12.eq_1 <| an i47r13.eq_1 <| an i47r14.eq_1 <| an i47r15.eq_1 <| an i47r16.eq_1 <| an i47r17.eq_1 <| an i47r18.eq_1 <| itE
theorem e47:type_of% q47.down:=q47.down
def q48:=PLift.up <| an f48.eq_1 <| an (bdE b48.eq_1) <| an (rgE f48r0.eq_1) <| an (rgE f48r1.eq_1) <| an (rgE f48r2.eq_1) <| an (rgE f48r3.eq_1) <| an (rgE f48r4.eq_1) <| an (rgE f48r5.eq_1) <| an (rgE f48r6.eq_1) <| an (rgE f48r7.eq_1) <| an (bdE f48l0.eq_1) <| an (rgE f48r8.eq_1) <| an (rgE f48r9.eq_1) <| an (rgE f48r10.eq_1) <| an (rgE f48r11.eq_1) <| an (rgE f48r12.eq_1) <| an (rgE f48r13.eq_1) <| an (rgE f48r14.eq_1) <| an (rgE f48r15.eq_1) <| an (rgE f48r16.eq_1) <| an (rgE f48r17.eq_1) <| an (rgE f48r18.eq_1) <| an (rgE f48r19.eq_1) <| an (rgE f48r20.eq_1) <| an (rgE f48r21.eq_1) <| an (rgE f48r22.eq_1) <| an (rgE f48r23.eq_1) <| an (rgE f48r24.eq_1) <| an (rgE f48r25.eq_1) <| an (rgE f48r26.eq_1) <| an (rgE f48r27.eq_1) <| an (rgE f48r28.eq_1) <| an (rgE f48r29.eq_1) <| an (rgE f48r30.eq_1) <| an (rgE f48r31.eq_1) <| an (rgE f48r32.eq_1) <| an (bdE f48l1.eq_1) <| an (rgE f48r33.eq_1) <| an (rgE f48r34.eq_1) <| an (rgE f48r35.eq_1) <| an (rgE f48r36.eq_1) <| an (bdE f48l2.eq_1) <| an (rgE f48r37.eq_1) <| an (rgE f48r38.eq_1) <| an (rgE f48r39.eq_1) <| an (rgE f48r40.eq_1) <| an (rgE f48r41.eq_1) <| an (rgE f48r42.eq_1) <| an (rgE f48r43.eq_1) <| an (rgE f48r44.eq_1) <| an (rgE f48r45.eq_1) <| an (rgE f48r46.eq_1) <| an (rgE f48r47.eq_1) <| an (bdE f48l3.eq_1) <| an (rgE f48r48.eq_1) <| an (rgE f48r49.eq_1) <| an (rgE f48r50.eq_1) <| an (rgE f48r51.eq_1) <| an (rgE f48r52.eq_1) <| an (rgE f48r53.eq_1) <| an (rgE f48r54.eq_1) <| an (rgE f48r55.eq_1) <| an (rgE f48r56.eq_1) <| an (rgE f48r57.eq_1) <| an (rgE f48r58.eq_1) <| an (rgE f48r59.eq_1) <| an (rgE f48r60.eq_1) <| an (rgE f48r61.eq_1) <| an (rgE f48r62.eq_1) <| an (bdE f48l4.eq_1) <| an (rgE f48r63.eq_1) <| an (rgE f48r64.eq_1) <| an (rgE f48r65.eq_1) <| an (bdE f48l5.eq_1) <| an (rgE f48r66.eq_1) <| an (rgE f48r67.eq_1) <| an (rgE f48r68.eq_1) <| an (rgE f48r69.eq_1) <| an (bdE f48l6.eq_1) <| an (rgE f48r70.eq_1) <| an (rgE f48r71.eq_1) <| an i48r0.eq_1 <| an i48r1.eq_1 <| an i48r2.eq_1 <| an i48r3.eq_1 <| an i48r4.eq_1 <| an i48r5.eq_1 <| an i48r6.eq_1 <| an i48r7.eq_1 <| an i48r8.eq_1 <| an i48r9.eq_1 <| an i48r10.eq_1 <| an i48r11.eq_1 <| an i48r12.eq_1 <| an i48r13.eq_1 <| an i48r14.eq_1 <| an i48r15.eq_1 <| an i48r16.eq_1 <| an i48r17.eq_1 <| an i48r18.eq_1 <| an i48r19.eq_1 <| an i48r20.eq_1 <| an i48r21.eq_1 <| an i48r22.eq_1 <| an i48r23.eq_1 <| an i48r24.eq_1 <| an i48r25.eq_1 <| an i48r26.eq_1 <| an i48r27.eq_1 <| an i48r28.eq_1 <| an i48r29.eq_1 <| an i48r30.eq_1 <| an i48r31.eq_1 <| an i48r32.eq_1 <| an i48r33.eq_1 <| an i48r34.eq_1 <| an i48r35.eq_1 <| an i48r36.eq_1 <| an i48r37.eq_1 <| an i48r38.eq_1 <| an i48r39.eq_1 <| an i48r40.eq_1 <| an i48r41.eq_1 <| an i48r42.eq_1 <| an i48r43.eq_1 <| an i48r44.eq_1 <| an i48r45.eq_1 <| an i48r46.eq_1 <| an i48r47.eq_1 <| an i48r48.eq_1 <| an i48r49.eq_1 <| an i48r50.eq_1 <| an i48r51.eq_1 <| an i48r52.eq_1 <| an i48r53.eq_1 <| an i48r54.eq_1 <| an i48r55.eq_1 <| an i48r56.eq_1 <| an i48r57.eq_1 <| an i48r58.eq_1 <| an i48r59.eq_1 <| an i48r60.eq_1 <| an i48r61.eq_1 <| an i48r62.eq_1 <| an i48r63.eq_1 <| an i48r64.eq_1 <| an i48r65.eq_1 <| an i48r66.eq_1 <| an i48r67.eq_1 <| an i48r68.eq_1 <| an i48r69.eq_1 <| an i48r70.eq_1 <| an i48r71.eq_1 <| itE
theorem e48:type_of% q48.down:=q48.down
def q49:=PLift.up <| an f49.eq_1 <| an (bdE b49.eq_1) <| an (rgE f49r0.eq_1) <| an (rgE f49r1.eq_1) <| an (rgE f49r2.eq_1) <| an (rgE f49r3.eq_1) <| an (rgE f49r4.eq_1) <| an (rgE f49r5.eq_1) <| an (rgE f49r6.eq_1) <| an (rgE f49r7.eq_1) <| an (rgE f49r8.eq_1) <| an (rgE f49r9.eq_1) <| an (bdE f49l0.eq_1) <| an (rgE f49r10.eq_1) <| an i49r0.eq_1 <| an i49r1.eq_1 <| an i49r2.eq_1 <| an i49r3.eq_1 <| an i49r4.eq_1 <| an i49r5.eq_1 <| an i49r6.eq_1 <| an i49r7.eq_1 <| an i49r8.eq_1 <| an i49r9.eq_1 <| an i49r10.eq_1 <| itE
theorem e49:type_of% q49.down:=q49.down
def q50:=PLift.up <| an f50.eq_1 <| an (bdE b50.eq_1) <| an (rgE f50r0.eq_1) <| an (rgE f50r1.eq_1) <| an i50r0.eq_1 <| an i50r1.eq_1 <| itE
theorem e50:type_of% q50.down:=q50.down
def q53:=PLift.up <| an f53.eq_1 <| an (bdE b53.eq_1) <| an (rgE f53r0.eq_1) <| an (rgE f53r1.eq_1) <| an (rgE f53r2.eq_1) <| an (rgE f53r3.eq_1) <| an (rgE f53r4.eq_1) <| an (rgE f53r5.eq_1) <| an (rgE f53r6.eq_1) <| an (rgE f53r7.eq_1) <| an (rgE f53r8.eq_1) <| an (bdE f53l0.eq_1) <| an (rgE f53r9.eq_1) <| an i53r0.eq_1 <| an i53r1.eq_1 <| an i53r2.eq_1 <| an i53r3.eq_1 <| an i53r4.eq_1 <| an i53r5.eq_1 <| an i53r6.eq_1 <| an i53r7.eq_1 <| an i53r8.eq_1 <| an i53r9.eq_1 <| itE
theorem e53:type_of% q53.down:=q53.down
def q54:=PLift.up <| an f54.eq_1 <| an (bdE b54.eq_1) <| an (rgE f54r0.eq_1) <| an (rgE f54r1.eq_1) <| an (rgE f54r2.eq_1) <| an (rgE f54r3.eq_1) <| an (rgE f54r4.eq_1) <| an (rgE f54r5.eq_1) <| an (rgE f54r6.eq_1) <| an (rgE f54r7.eq_1) <| an (rgE f54r8.eq_1) <| an (rgE f54r9.eq_1) <| an (rgE f54r10.eq_1) <| an (rgE f54r11.eq_1) <| an (bdE f54l0.eq_1) <| an (rgE f54r12.eq_1) <| an i54r0.eq_1 <| an i54r1.eq_1 <| an i54r2.eq_1 <| an i54r3.eq_1 <| an i54r4.eq_1 <| an i54r5.eq_1 <| an i54r6.eq_1 <| an i54r7.eq_1 <| an i54r8.eq_1 <| an i54r9.eq_1 <| an i54r10.eq_1 <| an i54r11.eq_1 <| an i54r12.eq_1 <| itE
theorem e54:type_of% q54.down:=q54.down
def q55:=PLift.up <| an f55.eq_1 <| an (bdE b55.eq_1) <| an (rgE f55r0.eq_1) <| an (rgE f55r1.eq_1) <| an (rgE f55r2.eq_1) <| an (rgE f55r3.eq_1) <| an (rgE f55r4.eq_1) <| an (rgE f55r5.eq_1) <| an (rgE f55r6.eq_1) <| an (rgE f55r7.eq_1) <| an (rgE f55r8.eq_1) <| an (rgE f55r9.eq_1) <| an (rgE f55r10.eq_1) <| an (rgE f55r11.eq_1) <| an (rgE f55r12.eq_1) <| an (rgE f55r13.eq_1) <| an (rgE f55r14.eq_1) <| an (bdE f55l0.eq_1) <| an (rgE f55r15.eq_1) <| an (bdE f55l1.eq_1) <| an (rgE f55r16.eq_1) <| an i55r0.eq_1 <| an i55r1.eq_1 <| an i55r2.eq_1 <| an i55r3.eq_1 <| an i55r4.eq_1 <| an i55r5.eq_1 <| an i55r6.eq_1 <| an i55r7.eq_1 <| an i55r8.eq_1 <| an i55r9.eq_1 <| an i55r10.eq_1 <| an i55r11.eq_1 <| an i55r12.eq_1 <| an i55r13.eq_1 <| an i55r14.eq_1 <| an i55r15.eq_1 <| an i55r16.eq_1 <| itE
theorem e55:type_of% q55.down:=q55.down
def q56:=PLift.up <| an f56.eq_1 <| an (bdE b56.eq_1) <| an (rgE f56r0.eq_1) <| an (rgE f56r1.eq_1) <| an i56r0.eq_1 <| an i56r1.eq_1 <| itE
theorem e56:type_of% q56.down:=q56.down
def q57:=PLift.up <| an f57.eq_1 <| an (bdE b57.eq_1) <| an (rgE f57r0.eq_1) <| an (rgE f57r1.eq_1) <| an i57r0.eq_1 <| an i57r1.eq_1 <| itE
theorem e57:type_of% q57.down:=q57.down
def q58:=PLift.up <| an f58.eq_1 <| an (bdE b58.eq_1) <| an (rgE f58r0.eq_1) <| an (rgE f58r1.eq_1) <| an i58r0.eq_1 <| an i58r1.eq_1 <| itE
theorem e58:type_of% q58.down:=q58.down
def q59:=PLift.up <| an f59.eq_1 <| an (bdE b59.eq_1) <| an (rgE f59r0.eq_1) <| an (rgE f59r1.eq_1) <| an (rgE f59r2.eq_1) <| an (rgE f59r3.eq_1) <| an (rgE f59r4.eq_1) <| an (rgE f59r5.eq_1) <| an (rgE f59r6.eq_1) <| an (rgE f59r7.eq_1) <| an (rgE f59r8.eq_1) <| an (rgE f59r9.eq_1) <| an (rgE f59r10.eq_1) <| an (rgE f59r11.eq_1) <| an (rgE f59r12.eq_1) <| an (bdE f59l0.eq_1) <| an (bdE f59l1.eq_1) <| an (rgE f59r13.eq_1) <| an i59r0.eq_1 <| an i59r1.eq_1 <| an i59r2.eq_1 <| an i59r3.eq_1 <| an i59r4.eq_1 <| an i59r5.eq_1 <| an i59r6.eq_1 <| an i59r7.eq_1 <| an i59r8.eq_1 <| an i59r9.eq_1 <| an i59r10.eq_1 <| an i59r11.eq_1 <| an i59r12.eq_1 <| an i59r13.eq_1 <| itE
theorem e59:type_of% q59.down:=q59.down
def q60:=PLift.up <| an f60.eq_1 <| an (bdE b60.eq_1) <| an (rgE f60r0.eq_1) <| an (rgE f60r1.eq_1) <| an (rgE f60r2.eq_1) <| an (rgE f60r3.eq_1) <| an (rgE f60r4.eq_1) <| an (rgE f60r5.eq_1) <| an (rgE f60r6.eq_1) <| an (rgE f60r7.eq_1) <| an (rgE f60r8.eq_1) <| an (rgE f60r9.eq_1) <| an (rgE f60r10.eq_1) <| an (rgE f60r11.eq_1) <| an (rgE f60r12.eq_1) <| an (rgE f60r13.eq_1) <| an (rgE f60r14.eq_1) <| an (rgE f60r15.eq_1) <| an (rgE f60r16.eq_1) <| an (bdE a60q0.eq_1) <| an (bdE d60q0.eq_1) <| an (rgE f60r17.eq_1) <| an i60r0.eq_1 <| an i60r1.eq_1 <| an i60r2.eq_1 <| an i60r3.eq_1 <| an i60r4.eq_1 <| an i60r5.eq_1 <| an i60r6.eq_1 <| an i60r7.eq_1 <| an i60r8.eq_1 <| an i60r9.eq_1 <| an i60r10.eq_1 <| an i60r11.eq_1 <| an i60r12.eq_1 <| an i60r13.eq_1 <| an i60r14.eq_1 <| an i60r15.eq_1 <| an i60r16.eq_1 <| an i60r17.eq_1 <| itE
theorem e60:type_of% q60.down:=q60.down
def q70:=PLift.up <| an f70.eq_1 <| an (bdE b70.eq_1) <| an (rgE f70r0.eq_1) <| an (rgE f70r1.eq_1) <| an i70r0.eq_1 <| an i70r1.eq_1 <| itE
theorem e70:type_of% q70.down:=q70.down
def q71:=PLift.up <| an f71.eq_1 <| an (bdE b71.eq_1) <| an (rgE f71r0.eq_1) <| an (rgE f71r1.eq_1) <| an (rgE f71r2.eq_1) <| an (rgE f71r3.eq_1) <| an (rgE f71r4.eq_1) <| an (rgE f71r5.eq_1) <| an (rgE f71r6.eq_1) <| an (rgE f71r7.eq_1) <| an (rgE f71r8.eq_1) <| an (rgE f71r9.eq_1) <| an (rgE f71r10.eq_1) <| an (rgE f71r11.eq_1) <| an i71r0.eq_1 <| an i71r1.eq_1 <| an i71r2.eq_1 <| an i71r3.eq_1 <| an i71r4.eq_1 <| an i71r5.eq_1 <| an i71r6.eq_1 <| an i71r7.eq_1 <| an i71r8.eq_1 <| an i71r9.eq_1 <| an i71r10.eq_1 <| an i71r11.eq_1 <| itE
theorem e71:type_of% q71.down:=q71.down
def q77:=PLift.up <| an f77.eq_1 <| an (bdE b77.eq_1) <| an (rgE f77r0.eq_1) <| an (rgE f77r1.eq_1) <| an i77r0.eq_1 <| an i77r1.eq_1 <| itE
theorem e77:type_of% q77.down:=q77.down
def q78:=PLift.up <| an f78.eq_1 <| an (bdE b78.eq_1) <| an (rgE f78r0.eq_1) <| an (rgE f78r1.eq_1) <| an i78r0.eq_1 <| an i78r1.eq_1 <| itE
theorem e78:type_of% q78.down:=q78.down
def q79:=PLift.up <| an f79.eq_1 <| an (bdE b79.eq_1) <| an (rgE f79r0.eq_1) <| an (rgE f79r1.eq_1) <| an i79r0.eq_1 <| an i79r1.eq_1 <| itE
theorem e79:type_of% q79.down:=q79.down
def q80:=PLift.up <| an f80.eq_1 <| an (bdE b80.eq_1) <| an (rgE f80r0.eq_1) <| an (rgE f80r1.eq_1) <| an i80r0.eq_1 <| an i80r1.eq_1 <| itE
theorem e80:type_of% q80.down:=q80.down
def q81:=PLift.up <| an f81.eq_1 <| an (bdE b81.eq_1) <| an (rgE f81r0.eq_1) <| an (rgE f81r1.eq_1) <| an (rgE f81r2.eq_1) <| an (rgE f81r3.eq_1) <| an (rgE f81r4.eq_1) <| an (rgE f81r5.eq_1) <| an (rgE f81r6.eq_1) <| an (rgE f81r7.eq_1) <| an (rgE f81r8.eq_1) <| an (rgE f81r9.eq_1) <| an (rgE f81r10.eq_1) <| an (rgE f81r11.eq_1) <| an (rgE f81r12.eq_1) <| an (rgE f81r13.eq_1) <| an (rgE f81r14.eq_1) <| an (rgE f81r15.eq_1) <| an (rgE f81r16.eq_1) <| an (rgE f81r17.eq_1) <| an (bdE f81l0.eq_1) <| an (rgE f81r18.eq_1) <| an (rgE f81r19.eq_1) <| an i81r0.eq_1 <| an i81r1.eq_1 <| an i81r2.eq_1 <| an i81r3.eq_1 <| an i81r4.eq_1 <| an i81r5.eq_1 <| an i81r6.eq_1 <| an i81r7.eq_1 <| an i81r8.eq_1 <| an i81r9.eq_1 <| an i81r10.eq_1 <| an i81r11.eq_1 <| an i81r12.eq_1 <| an i81r13.eq_1 <| an i81r14.eq_1 <| an i81r15.eq_1 <| an i81r16.eq_1 <| an i81r17.eq_1 <| an i81r18.eq_1 <| an i81r19.eq_1 <| itE
theorem e81:type_of% q81.down:=q81.down
def q82:=PLift.up <| an f82.eq_1 <| an (bdE b82.eq_1) <| an (rgE f82r0.eq_1) <| an (rgE f82r1.eq_1) <| an (rgE f82r2.eq_1) <| an (rgE f82r3.eq_1) <| an (rgE f82r4.eq_1) <| an (rgE f82r5.eq_1) <| an (rgE f82r6.eq_1) <| an (rgE f82r7.eq_1) <| an (rgE f82r8.eq_1) <| an (rgE f82r9.eq_1) <| an (rgE f82r10.eq_1) <| an (rgE f82r11.eq_1) <| an (bdE a82q0.eq_1) <| an (bdE d82q0.eq_1) <| an (rgE f82r12.eq_1) <| an (rgE f82r13.eq_1) <| an (rgE f82r14.eq_1) <| an (rgE f82r15.eq_1) <| an (rgE f82r16.eq_1) <| an (rgE f82r17.eq_1) <| an (rgE f82r18.eq_1) <| an (rgE f82r19.eq_1) <| an (rgE f82r20.eq_1) <| an (bdE f82l0.eq_1) <| an (rgE f82r21.eq_1) <| an (rgE f82r22.eq_1) <| an (rgE f82r23.eq_1) <| an (rgE f82r24.eq_1) <| an (rgE f82r25.eq_1) <| an (bdE f82l1.eq_1) <| an (rgE f82r26.eq_1) <| an (rgE f82r27.eq_1) <| an i82r0.eq_1 <| an i82r1.eq_1 <| an i82r2.eq_1 <| an i82r3.eq_1 <| an i82r4.eq_1 <| an i82r5.eq_1 <| an i82r6.eq_1 <| an i82r7.eq_1 <| an i82r8.eq_1 <| an i82r9.eq_1 <| an i82r10.eq_1 <| an i82r11.eq_1 <| an i82r12.eq_1 <| an i82r13.eq_1 <| an i82r14.eq_1 <| an i82r15.eq_1 <| an i82r16.eq_1 <| an i82r17.eq_1 <| an i82r18.eq_1 <| an i82r19.eq_1 <| an i82r20.eq_1 <| an i82r21.eq_1 <| an i82r22.eq_1 <| an i82r23.eq_1 <| an i82r24.eq_1 <| an i82r25.eq_1 <| an i82r26.eq_1 <| an i82r27.eq_1 <| itE
theorem e82:type_of% q82.down:=q82.down
def q83:=PLift.up <| an f83.eq_1 <| an (bdE b83.eq_1) <| an (rgE f83r0.eq_1) <| an (rgE f83r1.eq_1) <| an (rgE f83r2.eq_1) <| an (rgE f83r3.eq_1) <| an (rgE f83r4.eq_1) <| an (rgE f83r5.eq_1) <| an (rgE f83r6.eq_1) <| an (rgE f83r7.eq_1) <| an (rgE f83r8.eq_1) <| an (bdE f83l0.eq_1) <| an (rgE f83r9.eq_1) <| an (rgE f83r10.eq_1) <| an (rgE f83r11.eq_1) <| an (rgE f83r12.eq_1) <| an (rgE f83r13.eq_1) <| an (rgE f83r14.eq_1) <| an (bdE f83l1.eq_1) <| an (rgE f83r15.eq_1) <| an i83r0.eq_1 <| an i83r1.eq_1 <| an i83r2.eq_1 <| an i83r3.eq_1 <| an i83r4.eq_1 <| an i83r5.eq_1 <| an i83r6.eq_1 <| an i83r7.eq_1 <| an i83r8.eq_1 <| an i83r9.eq_1 <| an i83r10.eq_1 <| an i83r11.eq_1 <| an i83r12.eq_1 <| an i83r13.eq_1 <| an i83r14.eq_1 <| an i83r15.eq_1 <| itE
theorem e83:type_of% q83.down:=q83.down
def q84:=PLift.up <| an f84.eq_1 <| an (bdE b84.eq_1) <| an (rgE f84r0.eq_1) <| an (rgE f84r1.eq_1) <| an (rgE f84r2.eq_1) <| an (rgE f84r3.eq_1) <| an (rgE f84r4.eq_1) <| an (rgE f84r5.eq_1) <| an (rgE f84r6.eq_1) <| an (rgE f84r7.eq_1) <| an (rgE f84r8.eq_1) <| an (bdE f84l0.eq_1) <| an (rgE f84r9.eq_1) <| an (rgE f84r10.eq_1) <| an (rgE f84r11.eq_1) <| an (rgE f84r12.eq_1) <| an (rgE f84r13.eq_1) <| an (rgE f84r14.eq_1) <| an (bdE f84l1.eq_1) <| an (rgE f84r15.eq_1) <| an i84r0.eq_1 <| an i84r1.eq_1 <| an i84r2.eq_1 <| an i84r3.eq_1 <| an i84r4.eq_1 <| an i84r5.eq_1 <| an i84r6.eq_1 <| an i84r7.eq_1 <| an i84r8.eq_1 <| an i84r9.eq_1 <| an i84r10.eq_1 <| an i84r11.eq_1 <| an i84r12.eq_1 <| an i84r13.eq_1 <| an i84r14.eq_1 <| an i84r15.eq_1 <| itE
theorem e84:type_of% q84.down:=q84.down
def q85:=PLift.up <| an f85.eq_1 <| an (bdE b85.eq_1) <| an (rgE f85r0.eq_1) <| an (rgE f85r1.eq_1) <| an (rgE f85r2.eq_1) <| an (rgE f85r3.eq_1) <| an (rgE f85r4.eq_1) <| an (rgE f85r5.eq_1) <| an (rgE f85r6.eq_1) <| an (rgE f85r7.eq_1) <| an (bdE f85l0.eq_1) <| an (rgE f85r8.eq_1) <| an i85r0.eq_1 <| an i85r1.eq_1 <| an i85r2.eq_1 <| an i85r3.eq_1 <| an i85r4.eq_1 <| an i85r5.eq_1 <| an i85r6.eq_1 <| an i85r7.eq_1 <| an i85r8.eq_1 <| itE
theorem e85:type_of% q85.down:=q85.down
def q86:=PLift.up <| an f86.eq_1 <| an (bdE b86.eq_1) <| an (rgE f86r0.eq_1) <| an (rgE f86r1.eq_1) <| an (rgE f86r2.eq_1) <| an (rgE f86r3.eq_1) <| an (rgE f86r4.eq_1) <| an (rgE f86r5.eq_1) <| an (rgE f86r6.eq_1) <| an (rgE f86r7.eq_1) <| an (rgE f86r8.eq_1) <| an (rgE f86r9.eq_1) <| an (rgE f86r10.eq_1) <| an (rgE f86r11.eq_1) <| an (rgE f86r12.eq_1) <| an (rgE f86r13.eq_1) <| an (rgE f86r14.eq_1) <| an (rgE f86r15.eq_1) <| an (rgE f86r16.eq_1) <| an (bdE f86l0.eq_1) <| an (rgE f86r17.eq_1) <| an (rgE f86r18.eq_1) <| an i86r0.eq_1 <| an i86r1.eq_1 <| an i86r2.eq_1 <| an i86r3.eq_1 <| an i86r4.eq_1 <| an i86r5.eq_1 <| an i86r6.eq_1 <| an i86r7.eq_1 <| an i86r8.eq_1 <| an i86r9.eq_1 <| an i86r10.eq_1 <| an i86r11.eq_1 <| an i86r12.eq_1 <| an i86r13.eq_1 <| an i86r14.eq_1 <| an i86r15.eq_1 <| an i86r16.eq_1 <| an i86r17.eq_1 <| an i86r18.eq_1 <| itE
theorem e86:type_of% q86.down:=q86.down
def q87:=PLift.up <| an f87.eq_1 <| an (bdE b87.eq_1) <| an (rgE f87r0.eq_1) <| an (rgE f87r1.eq_1) <| an (rgE f87r2.eq_1) <| an (rgE f87r3.eq_1) <| an (rgE f87r4.eq_1) <| an (rgE f87r5.eq_1) <| an (rgE f87r6.eq_1) <| an (rgE f87r7.eq_1) <| an (rgE f87r8.eq_1) <| an (rgE f87r9.eq_1) <| an (bdE f87l0.eq_1) <| an (rgE f87r10.eq_1) <| an (rgE f87r11.eq_1) <| an (rgE f87r12.eq_1) <| an (bdE f87l1.eq_1) <| an (rgE f87r13.eq_1) <| an i87r0.eq_1 <| an i87r1.eq_1 <| an i87r2.eq_1 <| an i87r3.eq_1 <| an i87r4.eq_1 <| an i87r5.eq_1 <| an i87r6.eq_1 <| an i87r7.eq_1 <| an i87r8.eq_1 <| an i87r9.eq_1 <| an i87r10.eq_1 <| an i87r11.eq_1 <| an i87r12.eq_1 <| an i87r13.eq_1 <| itE
theorem e87:type_of% q87.down:=q87.down
def q88:=PLift.up <| an f88.eq_1 <| an (bdE b88.eq_1) <| an (rgE f88r0.eq_1) <| an (rgE f88r1.eq_1) <| an i88r0.eq_1 <| an i88r1.eq_1 <| itE
theorem e88:type_of% q88.down:=q88.down
def q89:=PLift.up <| an f89.eq_1 <| an (bdE b89.eq_1) <| an (rgE f89r0.eq_1) <| an (rgE f89r1.eq_1) <| an (rgE f89r2.eq_1) <| an i89r0.eq_1 <| an i89r1.eq_1 <| an i89r2.eq_1 <| itE
theorem e89:type_of% q89.down:=q89.down
def q90:=PLift.up <| an f90.eq_1 <| an (bdE b90.eq_1) <| an (rgE f90r0.eq_1) <| an (rgE f90r1.eq_1) <| an (rgE f90r2.eq_1) <| an (rgE f90r3.eq_1) <| an (rgE f90r4.eq_1) <| an (rgE f90r5.eq_1) <| an (rgE f90r6.eq_1) <| an (rgE f90r7.eq_1) <| an (rgE f90r8.eq_1) <| an (rgE f90r9.eq_1) <| an (rgE f90r10.eq_1) <| an (rgE f90r11.eq_1) <| an (bdE f90l0.eq_1) <| an (rgE f90r12.eq_1) <| an i90r0.eq_1 <| an i90r1.eq_1 <| an i90r2.eq_1 <| an i90r3.eq_1 <| an i90r4.eq_1 <| an i90r5.eq_1 <| an i90r6.eq_1 <| an i90r7.eq_1 <| an i90r8.eq_1 <| an i90r9.eq_1 <| an i90r10.eq_1 <| an i90r11.eq_1 <| an i90r12.eq_1 <| itE
theorem e90:type_of% q90.down:=q90.down
def q91:=PLift.up <| an f91.eq_1 <| an (bdE b91.eq_1) <| an (rgE f91r0.eq_1) <| an (rgE f91r1.eq_1) <| an (rgE f91r2.eq_1) <| an (rgE f91r3.eq_1) <| an (rgE f91r4.eq_1) <| an (rgE f91r5.eq_1) <| an (rgE f91r6.eq_1) <| an (bdE f91l0.eq_1) <| an (rgE f91r7.eq_1) <| an i91r0.eq_1 <| an i91r1.eq_1 <| an i91r2.eq_1 <| an i91r3.eq_1 <| an i91r4.eq_1 <| an i91r5.eq_1 <| an i91r6.eq_1 <| an i91r7.eq_1 <| itE
theorem e91:type_of% q91.down:=q91.down
def q92:=PLift.up <| an f92.eq_1 <| an (bdE b92.eq_1) <| an (rgE f92r0.eq_1) <| an (rgE f92r1.eq_1) <| an (rgE f92r2.eq_1) <| an (rgE f92r3.eq_1) <| an (rgE f92r4.eq_1) <| an (rgE f92r5.eq_1) <| an (rgE f92r6.eq_1) <| an (bdE f92l0.eq_1) <| an (rgE f92r7.eq_1) <| an (rgE f92r8.eq_1) <| an (rgE f92r9.eq_1) <| an (rgE f92r10.eq_1) <| an (bdE f92l1.eq_1) <| an (rgE f92r11.eq_1) <| an i92r0.eq_1 <| an i92r1.eq_1 <| an i92r2.eq_1 <| an i92r3.eq_1 <| an i92r4.eq_1 <| an i92r5.eq_1 <| an i92r6.eq_1 <| an i92r7.eq_1 <| an i92r8.eq_1 <| an i92r9.eq_1 <| an i92r10.eq_1 <| an i92r11.eq_1 <| itE
theorem e92:type_of% q92.down:=q92.down
def q93:=PLift.up <| an f93.eq_1 <| an (bdE b93.eq_1) <| an (rgE f93r0.eq_1) <| an (rgE f93r1.eq_1) <| an (rgE f93r2.eq_1) <| an (rgE f93r3.eq_1) <| an i93r0.eq_1 <| an i93r1.eq_1 <| an i93r2.eq_1 <| an i93r3.eq_1 <| itE
theorem e93:type_of% q93.down:=q93.down
def q97:=PLift.up <| an f97.eq_1 <| an (bdE b97.eq_1) <| an (rgE f97r0.eq_1) <| an (rgE f97r1.eq_1) <| an i97r0.eq_1 <| an i97r1.eq_1 <| itE
theorem e97:type_of% q97.down:=q97.down
def q98:=PLift.up <| an f98.eq_1 <| an (bdE b98.eq_1) <| an (rgE f98r0.eq_1) <| an (rgE f98r1.eq_1) <| an i98r0.eq_1 <| an i98r1.eq_1 <| itE
theorem e98:type_of% q98.down:=q98.down
def q99:=PLift.up <| an f99.eq_1 <| an (bdE b99.eq_1) <| an (rgE f99r0.eq_1) <| an (rgE f99r1.eq_1) <| an (rgE f99r2.eq_1) <| an (rgE f99r3.eq_1) <| an (rgE f99r4.eq_1) <| an (rgE f99r5.eq_1) <| an (rgE f99r6.eq_1) <| an (rgE f99r7.eq_1) <| an (rgE f99r8.eq_1) <| an (rgE f99r9.eq_1) <| an (bdE f99l0.eq_1) <| an (rgE f99r10.eq_1) <| an i99r0.eq_1 <| an i99r1.eq_1 <| an i99r2.eq_1 <| an i99r3.eq_1 <| an i99r4.eq_1 <| an i99r5.eq_1 <| an i99r6.eq_1 <| an i99r7.eq_1 <| an i99r8.eq_1 <| an i99r9.eq_1 <| an i99r10.eq_1 <| itE
theorem e99:type_of% q99.down:=q99.down
def q100:=PLift.up <| an f100.eq_1 <| an (bdE b100.eq_1) <| an (rgE f100r0.eq_1) <| an (rgE f100r1.eq_1) <| an i100r0.eq_1 <| an i100r1.eq_1 <| itE
theorem e100:type_of% q100.down:=q100.down
def q101:=PLift.up <| an f101.eq_1 <| an (bdE b101.eq_1) <| an (rgE f101r0.eq_1) <| an (rgE f101r1.eq_1) <| an (rgE f101r2.eq_1) <| an (rgE f101r3.eq_1) <| an (rgE f101r4.eq_1) <| an (rgE f101r5.eq_1) <| an (rgE f101r6.eq_1) <| an (bdE f101l0.eq_1) <| an (rgE f101r7.eq_1) <| an i101r0.eq_1 <| an i101r1.eq_1 <| an i101r2.eq_1 <| an i101r3.eq_1 <| an i101r4.eq_1 <| an i101r5.eq_1 <| an i101r6.eq_1 <| an i101r7.eq_1 <| itE
theorem e101:type_of% q101.down:=q101.down
def q102:=PLift.up <| an f102.eq_1 <| an (bdE b102.eq_1) <| an (rgE f102r0.eq_1) <| an (rgE f102r1.eq_1) <| an i102r0.eq_1 <| an i102r1.eq_1 <| itE
theorem e102:type_of% q102.down:=q102.down
def q103:=PLift.up <| an f103.eq_1 <| an (bdE b103.eq_1) <| an (rgE f103r0.eq_1) <| an (rgE f103r1.eq_1) <| an i103r0.eq_1 <| an i103r1.eq_1 <| itE
theorem e103:type_of% q103.down:=q103.down
def q104:=PLift.up <| an f104.eq_1 <| an (bdE b104.eq_1) <| an (rgE f104r0.eq_1) <| an (rgE f104r1.eq_1) <| an i104r0.eq_1 <| an i104r1.eq_1 <| itE
theorem e104:type_of% q104.down:=q104.down
def q105:=PLift.up <| an f105.eq_1 <| an (bdE b105.eq_1) <| an (rgE f105r0.eq_1) <| an (rgE f105r1.eq_1) <| an (rgE f105r2.eq_1) <| an (rgE f105r3.eq_1) <| an (rgE f105r4.eq_1) <| an (rgE f105r5.eq_1) <| an (rgE f105r6.eq_1) <| an (rgE f105r7.eq_1) <| an (rgE f105r8.eq_1) <| an (rgE f105r9.eq_1) <| an (rgE f105r10.eq_1) <| an (bdE f105l0.eq_1) <| an (rgE f105r11.eq_1) <| an i105r0.eq_1 <| an i105r1.eq_1 <| an i105r2.eq_1 <| an i105r3.eq_1 <| an i105r4.eq_1 <| an i105r5.eq_1 <| an i105r6.eq_1 <| an i105r7.eq_1 <| an i105r8.eq_1 <| an i105r9.eq_1 <| an i105r10.eq_1 <| an i105r11.eq_1 <| itE
theorem e105:type_of% q105.down:=q105.down
def q106:=PLift.up <| an f106.eq_1 <| an (bdE b106.eq_1) <| an (rgE f106r0.eq_1) <| an (rgE f106r1.eq_1) <| an (rgE f106r2.eq_1) <| an (rgE f106r3.eq_1) <| an i106r0.eq_1 <| an i106r1.eq_1 <| an i106r2.eq_1 <| an i106r3.eq_1 <| itE
theorem e106:type_of% q106.down:=q106.down
def q107:=PLift.up <| an f107.eq_1 <| an (bdE b107.eq_1) <| an (rgE f107r0.eq_1) <| an (rgE f107r1.eq_1) <| an (rgE f107r2.eq_1) <| an (rgE f107r3.eq_1) <| an (rgE f107r4.eq_1) <| an (rgE f107r5.eq_1) <| an (rgE f107r6.eq_1) <| an (rgE f107r7.eq_1) <| an (bdE f107l0.eq_1) <| an (rgE f107r8.eq_1) <| an i107r0.eq_1 <| an i107r1.eq_1 <| an i107r2.eq_1 <| an i107r3.eq_1 <| an i107r4.eq_1 <| an i107r5.eq_1 <| an i107r6.eq_1 <| an i107r7.eq_1 <| an i107r8.eq_1 <| itE
theorem e107:type_of% q107.down:=q107.down
def q108:=PLift.up <| an f108.eq_1 <| an (bdE b108.eq_1) <| an (rgE f108r0.eq_1) <| an (rgE f108r1.eq_1) <| an i108r0.eq_1 <| an i108r1.eq_1 <| itE
theorem e108:type_of% q108.down:=q108.down
def q109:=PLift.up <| an f109.eq_1 <| an (bdE b109.eq_1) <| an (rgE f109r0.eq_1) <| an (rgE f109r1.eq_1) <| an i109r0.eq_1 <| an i109r1.eq_1 <| itE
theorem e109:type_of% q109.down:=q109.down
def q110:=PLift.up <| an f110.eq_1 <| an (bdE b110.eq_1) <| an (rgE f110r0.eq_1) <| an (rgE f110r1.eq_1) <| an (rgE f110r2.eq_1) <| an (rgE f110r3.eq_1) <| an (rgE f110r4.eq_1) <| an (rgE f110r5.eq_1) <| an (rgE f110r6.eq_1) <| an (rgE f110r7.eq_1) <| an (rgE f110r8.eq_1) <| an (rgE f110r9.eq_1) <| an (rgE f110r10.eq_1) <| an (bdE f110l0.eq_1) <| an (rgE f110r11.eq_1) <| an i110r0.eq_1 <| an i110r1.eq_1 <| an i110r2.eq_1 <| an i110r3.eq_1 <| an i110r4.eq_1 <| an i110r5.eq_1 <| an i110r6.eq_1 <| an i110r7.eq_1 <| an i110r8.eq_1 <| an i110r9.eq_1 <| an i110r10.eq_1 <| an i110r11.eq_1 <| itE
theorem e110:type_of% q110.down:=q110.down
def q111:=PLift.up <| an f111.eq_1 <| an (bdE b111.eq_1) <| an (rgE f111r0.eq_1) <| an (rgE f111r1.eq_1) <| an i111r0.eq_1 <| an i111r1.eq_1 <| itE
theorem e111:type_of% q111.down:=q111.down
def q114:=PLift.up <| an f114.eq_1 <| an (bdE b114.eq_1) <| an (rgE f114r0.eq_1) <| an (rgE f114r1.eq_1) <| an (rgE f114r2.eq_1) <| an (rgE f114r3.eq_1) <| an (rgE f114r4.eq_1) <| an (rgE f114r5.eq_1) <| an (rgE f114r6.eq_1) <| an (bdE f114l0.eq_1) <| an (rgE f114r7.eq_1) <| an i114r0.eq_1 <| an i114r1.eq_1 <| an i114r2.eq_1 <| an i114r3.eq_1 <| an i114r4.eq_1 <| an i114r5.eq_1 <| an i114r6.eq_1 <| an i114r7.eq_1 <| itE
theorem e114:type_of% q114.down:=q114.down
def q115:=PLift.up <| an f115.eq_1 <| an (bdE b115.eq_1) <| an (rgE f115r0.eq_1) <| an (rgE f115r1.eq_1) <| an (rgE f115r2.eq_1) <| an (rgE f115r3.eq_1) <| an (rgE f115r4.eq_1) <| an (rgE f115r5.eq_1) <| an (rgE f115r6.eq_1) <| an (rgE f115r7.eq_1) <| an (rgE f115r8.eq_1) <| an (rgE f115r9.eq_1) <| an (rgE f115r10.eq_1) <| an (rgE f115r11.eq_1) <| an (bdE f115l0.eq_1) <| an (rgE f115r12.eq_1) <| an (bdE f115l1.eq_1) <| an (rgE f115r13.eq_1) <| an i115r0.eq_1 <| an i115r1.eq_1 <| an i115r2.eq_1 <| an i115r3.eq_1 <| an i115r4.eq_1 <| an i115r5.eq_1 <| an i115r6.eq_1 <| an i115r7.eq_1 <| an i115r8.eq_1 <| an i115r9.eq_1 <| an i115r10.eq_1 <| an i115r11.eq_1 <| an i115r12.eq_1 <| an i115r13.eq_1 <| itE
theorem e115:type_of% q115.down:=q115.down
def q116:=PLift.up <| an f116.eq_1 <| an (bdE b116.eq_1) <| an (rgE f116r0.eq_1) <| an (rgE f116r1.eq_1) <| an (rgE f116r2.eq_1) <| an (rgE f116r3.eq_1) <| an (rgE f116r4.eq_1) <| an (rgE f116r5.eq_1) <| an (rgE f116r6.eq_1) <| an (rgE f116r7.eq_1) <| an (rgE f116r8.eq_1) <| an (rgE f116r9.eq_1) <| an (rgE f116r10.eq_1) <| an (rgE f116r11.eq_1) <| an (rgE f116r12.eq_1) <| an (rgE f116r13.eq_1) <| an (rgE f116r14.eq_1) <| an (bdE f116l0.eq_1) <| an (rgE f116r15.eq_1) <| an (bdE f116l1.eq_1) <| an (rgE f116r16.eq_1) <| an i116r0.eq_1 <| an i116r1.eq_1 <| an i116r2.eq_1 <| an i116r3.eq_1 <| an i116r4.eq_1 <| an i116r5.eq_1 <| an i116r6.eq_1 <| an i116r7.eq_1 <| an i116r8.eq_1 <| an i116r9.eq_1 <| an i116r10.eq_1 <| an i116r11.eq_1 <| an i116r12.eq_1 <| an i116r13.eq_1 <| an i116r14.eq_1 <| an i116r15.eq_1 <| an i116r16.eq_1 <| itE
theorem e116:type_of% q116.down:=q116.down
def q117:=PLift.up <| an f117.eq_1 <| an (bdE b117.eq_1) <| an (rgE f117r0.eq_1) <| an (rgE f117r1.eq_1) <| an (rgE f117r2.eq_1) <| an (rgE f117r3.eq_1) <| an (rgE f117r4.eq_1) <| an (rgE f117r5.eq_1) <| an (rgE f117r6.eq_1) <| an (rgE f117r7.eq_1) <| an (rgE f117r8.eq_1) <| an (rgE f117r9.eq_1) <| an (rgE f117r10.eq_1) <| an (rgE f117r11.eq_1) <| an (rgE f117r12.eq_1) <| an (rgE f117r13.eq_1) <| an (bdE f117l0.eq_1) <| an (rgE f117r14.eq_1) <| an (bdE f117l1.eq_1) <| an (rgE f117r15.eq_1) <| an i117r0.eq_1 <| an i117r1.eq_1 <| an i117r2.eq_1 <| an i117r3.eq_1 <| an i117r4.eq_1 <| an i117r5.eq_1 <| an i117r6.eq_1 <| an i117r7.eq_1 <| an i117r8.eq_1 <| an i117r9.eq_1 <| an i117r10.eq_1 <| an i117r11.eq_1 <| an i117r12.eq_1 <| an i117r13.eq_1 <| an i117r14.eq_1 <| an i117r15.eq_1 <| itE
theorem e117:type_of% q117.down:=q117.down
def q118:=PLift.up <| an f118.eq_1 <| an (bdE b118.eq_1) <| an (rgE f118r0.eq_1) <| an (rgE f118r1.eq_1) <| an (rgE f118r2.eq_1) <| an (rgE f118r3.eq_1) <| an (rgE f118r4.eq_1) <| an (rgE f118r5.eq_1) <| an (rgE f118r6.eq_1) <| an (rgE f118r7.eq_1) <| an (rgE f118r8.eq_1) <| an (rgE f118r9.eq_1) <| an (rgE f118r10.eq_1) <| an (bdE f118l0.eq_1) <| an (rgE f118r11.eq_1) <| an (bdE f118l1.eq_1) <| an (rgE f118r12.eq_1) <| an (bdE f118l2.eq_1) <| an (rgE f118r13.eq_1) <| an i118r0.eq_1 <| an i118r1.eq_1 <| an i118r2.eq_1 <| an i118r3.eq_1 <| an i118r4.eq_1 <| an i118r5.eq_1 <| an i118r6.eq_1 <| an i118r7.eq_1 <| an i118r8.eq_1 <| an i118r9.eq_1 <| an i118r10.eq_1 <| an i118r11.eq_1 <| an i118r12.eq_1 <| an i118r13.eq_1 <| itE
theorem e118:type_of% q118.down:=q118.down
def q119:=PLift.up <| an f119.eq_1 <| an (bdE b119.eq_1) <| an (rgE f119r0.eq_1) <| an (rgE f119r1.eq_1) <| an (rgE f119r2.eq_1) <| an (rgE f119r3.eq_1) <| an (rgE f119r4.eq_1) <| an (rgE f119r5.eq_1) <| an (rgE f119r6.eq_1) <| an (rgE f119r7.eq_1) <| an (rgE f119r8.eq_1) <| an (rgE f119r9.eq_1) <| an (rgE f119r10.eq_1) <| an (rgE f119r11.eq_1) <| an (rgE f119r12.eq_1) <| an (rgE f119r13.eq_1) <| an (rgE f119r14.eq_1) <| an (bdE f119l0.eq_1) <| an (rgE f119r15.eq_1) <| an (rgE f119r16.eq_1) <| an (bdE f119l1.eq_1) <| an (rgE f119r17.eq_1) <| an (bdE f119l2.eq_1) <| an (rgE f119r18.eq_1) <| an (bdE f119l3.eq_1) <| an (rgE f119r19.eq_1) <| an (rgE f119r20.eq_1) <| an (rgE f119r21.eq_1) <| an (rgE f119r22.eq_1) <| an (rgE f119r23.eq_1) <| an (bdE f119l4.eq_1) <| an (rgE f119r24.eq_1) <| an i119r0.eq_1 <| an i119r1.eq_1 <| an i119r2.eq_1 <| an i119r3.eq_1 <| an i119r4.eq_1 <| an i119r5.eq_1 <| an i119r6.eq_1 <| an i119r7.eq_1 <| an i119r8.eq_1 <| an i119r9.eq_1 <| an i119r10.eq_1 <| an i119r11.eq_1 <| an i119r12.eq_1 <| an i119r13.eq_1 <| an i119r14.eq_1 <| an i119r15.eq_1 <| an i119r16.eq_1 <| an i119r17.eq_1 <| an i119r18.eq_1 <| an i119r19.eq_1 <| an i119r20.eq_1 <| an i119r21.eq_1 <| an i119r22.eq_1 <| an i119r23.eq_1 <| an i119r24.eq_1 <| itE
theorem e119:type_of% q119.down:=q119.down
def q126:=PLift.up <| an f126.eq_1 <| an (bdE b126.eq_1) <| an (rgE f126r0.eq_1) <| an (rgE f126r1.eq_1) <| an i126r0.eq_1 <| an i126r1.eq_1 <| itE
theorem e126:type_of% q126.down:=q126.down
def q127:=PLift.up <| an f127.eq_1 <| an (bdE b127.eq_1) <| an (rgE f127r0.eq_1) <| an (rgE f127r1.eq_1) <| an (rgE f127r2.eq_1) <| an (rgE f127r3.eq_1) <| an (rgE f127r4.eq_1) <| an (rgE f127r5.eq_1) <| an (rgE f127r6.eq_1) <| an i127r0.eq_1 <| an i127r1.eq_1 <| an i127r2.eq_1 <| an i127r3.eq_1 <| an i127r4.eq_1 <| an i127r5.eq_1 <| an i127r6.eq_1 <| itE
theorem e127:type_of% q127.down:=q127.down
def q128:=PLift.up <| an f128.eq_1 <| an (bdE b128.eq_1) <| an (rgE f128r0.eq_1) <| an (rgE f128r1.eq_1) <| an (rgE f128r2.eq_1) <| an (rgE f128r3.eq_1) <| an (rgE f128r4.eq_1) <| an (rgE f128r5.eq_1) <| an (rgE f128r6.eq_1) <| an i128r0.eq_1 <| an i128r1.eq_1 <| an i128r2.eq_1 <| an i128r3.eq_1 <| an i128r4.eq_1 <| an i128r5.eq_1 <| an i128r6.eq_1 <| itE
theorem e128:type_of% q128.down:=q128.down
def q129:=PLift.up <| an f129.eq_1 <| an (bdE b129.eq_1) <| an (rgE f129r0.eq_1) <| an (rgE f129r1.eq_1) <| an i129r0.eq_1 <| an i129r1.eq_1 <| itE
theorem e129:type_of% q129.down:=q129.down
def q130:=PLift.up <| an f130.eq_1 <| an (bdE b130.eq_1) <| an (rgE f130r0.eq_1) <| an (rgE f130r1.eq_1) <| an (rgE f130r2.eq_1) <| an (rgE f130r3.eq_1) <| an (rgE f130r4.eq_1) <| an (rgE f130r5.eq_1) <| an (bdE f130l0.eq_1) <| an (rgE f130r6.eq_1) <| an i130r0.eq_1 <| an i130r1.eq_1 <| an i130r2.eq_1 <| an i130r3.eq_1 <| an i130r4.eq_1 <| an i130r5.eq_1 <| an i130r6.eq_1 <| itE
theorem e130:type_of% q130.down:=q130.down
def q132:=PLift.up <| an f132.eq_1 <| an (bdE b132.eq_1) <| an (rgE f132r0.eq_1) <| an (rgE f132r1.eq_1) <| an (rgE f132r2.eq_1) <| an (rgE f132r3.eq_1) <| an (rgE f132r4.eq_1) <| an (rgE f132r5.eq_1) <| an (rgE f132r6.eq_1) <| an (bdE f132l0.eq_1) <| an (rgE f132r7.eq_1) <| an i132r0.eq_1 <| an i132r1.eq_1 <| an i132r2.eq_1 <| an i132r3.eq_1 <| an i132r4.eq_1 <| an i132r5.eq_1 <| an i132r6.eq_1 <| an i132r7.eq_1 <| itE
theorem e132:type_of% q132.down:=q132.down
def q133:=PLift.up <| an f133.eq_1 <| an (bdE b133.eq_1) <| an (rgE f133r0.eq_1) <| an (rgE f133r1.eq_1) <| an (rgE f133r2.eq_1) <| an (rgE f133r3.eq_1) <| an i133r0.eq_1 <| an i133r1.eq_1 <| an i133r2.eq_1 <| an i133r3.eq_1 <| itE
theorem e133:type_of% q133.down:=q133.down
def q134:=PLift.up <| an f134.eq_1 <| an (bdE b134.eq_1) <| an (rgE f134r0.eq_1) <| an (rgE f134r1.eq_1) <| an (rgE f134r2.eq_1) <| an (rgE f134r3.eq_1) <| an (rgE f134r4.eq_1) <| an (bdE f134l0.eq_1) <| an i134r0.eq_1 <| an i134r1.eq_1 <| an i134r2.eq_1 <| an i134r3.eq_1 <| an i134r4.eq_1 <| itE
theorem e134:type_of% q134.down:=q134.down
def q136:=PLift.up <| an f136.eq_1 <| an (bdE b136.eq_1) <| an (rgE f136r0.eq_1) <| an (rgE f136r1.eq_1) <| an (rgE f136r2.eq_1) <| an (rgE f136r3.eq_1) <| an (rgE f136r4.eq_1) <| an (rgE f136r5.eq_1) <| an (rgE f136r6.eq_1) <| an (rgE f136r7.eq_1) <| an (bdE f136l0.eq_1) <| an (rgE f136r8.eq_1) <| an i136r0.eq_1 <| an i136r1.eq_1 <| an i136r2.eq_1 <| an i136r3.eq_1 <| an i136r4.eq_1 <| an i136r5.eq_1 <| an i136r6.eq_1 <| an i136r7.eq_1 <| an i136r8.eq_1 <| itE
theorem e136:type_of% q136.down:=q136.down
def q137:=PLift.up <| an f137.eq_1 <| an (bdE b137.eq_1) <| an (rgE f137r0.eq_1) <| an (rgE f137r1.eq_1) <| an (rgE f137r2.eq_1) <| an (rgE f137r3.eq_1) <| an (rgE f137r4.eq_1) <| an (rgE f137r5.eq_1) <| an (bdE f137l0.eq_1) <| an (rgE f137r6.eq_1) <| an i137r0.eq_1 <| an i137r1.eq_1 <| an i137r2.eq_1 <| an i137r3.eq_1 <| an i137r4.eq_1 <| an i137r5.eq_1 <| an i137r6.eq_1 <| itE
theorem e137:type_of% q137.down:=q137.down
def q138:=PLift.up <| an f138.eq_1 <| an (bdE b138.eq_1) <| an (rgE f138r0.eq_1) <| an (rgE f138r1.eq_1) <| an i138r0.eq_1 <| an i138r1.eq_1 <| itE
theorem e138:type_of% q138.down:=q138.down
end Zc28
end
section
namespace Zc28
open Go Zv
theorem k3:fnOk Go.Proofs.Try.prog tab 3 f3=true:=by kernel_rfl
theorem k4:fnOk Go.Proofs.Try.prog tab 4 f4=true:=by kernel_rfl
theorem k5:fnOk Go.Proofs.Try.prog tab 5 f5=true:=by kernel_rfl
theorem k6:fnOk Go.Proofs.Try.prog tab 6 f6=true:=by kernel_rfl
theorem k9:fnOk Go.Proofs.Try.prog tab 9 f9=true:=by kernel_rfl
theorem k10:fnOk Go.Proofs.Try.prog tab 10 f10=true:=by kernel_rfl
theorem k11:fnOk Go.Proofs.Try.prog tab 11 f11=true:=by kernel_rfl
theorem k12:fnOk Go.Proofs.Try.prog tab 12 f12=true:=by kernel_rfl
theorem k13:fnOk Go.Proofs.Try.prog tab 13 f13=true:=by kernel_rfl
theorem k14:fnOk Go.Proofs.Try.prog tab 14 f14=true:=by kernel_rfl
theorem k15:fnOk Go.Proofs.Try.prog tab 15 f15=true:=by kernel_rfl
theorem k16:fnOk Go.Proofs.Try.prog tab 16 f16=true:=by kernel_rfl
theorem k17:fnOk Go.Proofs.Try.prog tab 17 f17=true:=by kernel_rfl
theorem k18:fnOk Go.Proofs.Try.prog tab 18 f18=true:=by kernel_rfl
theorem k19:fnOk Go.Proofs.Try.prog tab 19 f19=true:=by kernel_rfl
theorem k20:fnOk Go.Proofs.Try.prog tab 20 f20=true:=by kernel_rfl
theorem k21:fnOk Go.Proofs.Try.prog tab 21 f21=true:=by kernel_rfl
theorem k22:fnOk Go.Proofs.Try.prog tab 22 f22=true:=by kernel_rfl
theorem k23:fnOk Go.Proofs.Try.prog tab 23 f23=true:=by kernel_rfl
theorem k24:fnOk Go.Proofs.Try.prog tab 24 f24=true:=by kernel_rfl
theorem k25:fnOk Go.Proofs.Try.prog tab 25 f25=true:=by kernel_rfl
theorem k26:fnOk Go.Proofs.Try.prog tab 26 f26=true:=by kernel_rfl
theorem k27:fnOk Go.Proofs.Try.prog tab 27 f27=true:=by kernel_rfl
theorem k28:fnOk Go.Proofs.Try.prog tab 28 f28=true:=by kernel_rfl
theorem k29:fnOk Go.Proofs.Try.prog tab 29 f29=true:=by kernel_rfl
theorem k31:fnOk Go.Proofs.Try.prog tab 31 f31=true:=by kernel_rfl
theorem k32:fnOk Go.Proofs.Try.prog tab 32 f32=true:=by kernel_rfl
theorem k33:fnOk Go.Proofs.Try.prog tab 33 f33=true:=by kernel_rfl
theorem k34:fnOk Go.Proofs.Try.prog tab 34 f34=true:=by kernel_rfl
theorem k35:fnOk Go.Proofs.Try.prog tab 35 f35=true:=by kernel_rfl
theorem k36:fnOk Go.Proofs.Try.prog tab 36 f36=true:=by kernel_rfl
theorem k37:fnOk Go.Proofs.Try.prog tab 37 f37=true:=by kernel_rfl
theorem k38:fnOk Go.Proofs.Try.prog tab 38 f38=true:=by kernel_rfl
theorem k39:fnOk Go.Proofs.Try.prog tab 39 f39=true:=by kernel_rfl
theorem k40:fnOk Go.Proofs.Try.prog tab 40 f40=true:=by kernel_rfl
theorem k41:fnOk Go.Proofs.Try.prog tab 41 f41=true:=by kernel_rfl
theorem k42:fnOk Go.Proofs.Try.prog tab 42 f42=true:=by kernel_rfl
theorem k43:fnOk Go.Proofs.Try.prog tab 43 f43=true:=by kernel_rfl
theorem k44:fnOk Go.Proofs.Try.prog tab 44 f44=true:=by kernel_rfl
theorem k45:fnOk Go.Proofs.Try.prog tab 45 f45=true:=by kernel_rfl
theorem k46:fnOk Go.Proofs.Try.prog tab 46 f46=true:=by kernel_rfl
theorem k47:fnOk Go.Proofs.Try.prog tab 47 f47=true:=by kernel_rfl
theorem k48:fnOk Go.Proofs.Try.prog tab 48 f48=true:=by kernel_rfl
theorem k49:fnOk Go.Proofs.Try.prog tab 49 f49=true:=by kernel_rfl
theorem k50:fnOk Go.Proofs.Try.prog tab 50 f50=true:=by kernel_rfl
theorem k51:fnOk Go.Proofs.Try.prog tab 51 f51=true:=by kernel_rfl
theorem k52:fnOk Go.Proofs.Try.prog tab 52 f52=true:=by kernel_rfl
theorem k53:fnOk Go.Proofs.Try.prog tab 53 f53=true:=by kernel_rfl
theorem k54:fnOk Go.Proofs.Try.prog tab 54 f54=true:=by kernel_rfl
theorem k55:fnOk Go.Proofs.Try.prog tab 55 f55=true:=by kernel_rfl
theorem k56:fnOk Go.Proofs.Try.prog tab 56 f56=true:=by kernel_rfl
theorem k57:fnOk Go.Proofs.Try.prog tab 57 f57=true:=by kernel_rfl
theorem k58:fnOk Go.Proofs.Try.prog tab 58 f58=true:=by kernel_rfl
theorem k59:fnOk Go.Proofs.Try.prog tab 59 f59=true:=by kernel_rfl
theorem k60:fnOk Go.Proofs.Try.prog tab 60 f60=true:=by kernel_rfl
theorem k61:fnOk Go.Proofs.Try.prog tab 61 f61=true:=by kernel_rfl
theorem k62:fnOk Go.Proofs.Try.prog tab 62 f62=true:=by kernel_rfl
theorem k63:fnOk Go.Proofs.Try.prog tab 63 f63=true:=by kernel_rfl
theorem k64:fnOk Go.Proofs.Try.prog tab 64 f64=true:=by kernel_rfl
theorem k65:fnOk Go.Proofs.Try.prog tab 65 f65=true:=by kernel_rfl
theorem k66:fnOk Go.Proofs.Try.prog tab 66 f66=true:=by kernel_rfl
theorem k67:fnOk Go.Proofs.Try.prog tab 67 f67=true:=by kernel_rfl
theorem k68:fnOk Go.Proofs.Try.prog tab 68 f68=true:=by kernel_rfl
theorem k69:fnOk Go.Proofs.Try.prog tab 69 f69=true:=by kernel_rfl
theorem k70:fnOk Go.Proofs.Try.prog tab 70 f70=true:=by kernel_rfl
theorem k71:fnOk Go.Proofs.Try.prog tab 71 f71=true:=by kernel_rfl
theorem k72:fnOk Go.Proofs.Try.prog tab 72 f72=true:=by kernel_rfl
theorem k74:fnOk Go.Proofs.Try.prog tab 74 f74=true:=by kernel_rfl
theorem k75:fnOk Go.Proofs.Try.prog tab 75 f75=true:=by kernel_rfl
theorem k76:fnOk Go.Proofs.Try.prog tab 76 f76=true:=by kernel_rfl
theorem k77:fnOk Go.Proofs.Try.prog tab 77 f77=true:=by kernel_rfl
theorem k78:fnOk Go.Proofs.Try.prog tab 78 f78=true:=by kernel_rfl
theorem k79:fnOk Go.Proofs.Try.prog tab 79 f79=true:=by kernel_rfl
theorem k80:fnOk Go.Proofs.Try.prog tab 80 f80=true:=by kernel_rfl
theorem k81:fnOk Go.Proofs.Try.prog tab 81 f81=true:=by kernel_rfl
theorem k82:fnOk Go.Proofs.Try.prog tab 82 f82=true:=by kernel_rfl
theorem k83:fnOk Go.Proofs.Try.prog tab 83 f83=true:=by kernel_rfl
theorem k84:fnOk Go.Proofs.Try.prog tab 84 f84=true:=by kernel_rfl
theorem k85:fnOk Go.Proofs.Try.prog tab 85 f85=true:=by kernel_rfl
theorem k86:fnOk Go.Proofs.Try.prog tab 86 f86=true:=by kernel_rfl
theorem k87:fnOk Go.Proofs.Try.prog tab 87 f87=true:=by kernel_rfl
theorem k88:fnOk Go.Proofs.Try.prog tab 88 f88=true:=by kernel_rfl
theorem k89:fnOk Go.Proofs.Try.prog tab 89 f89=true:=by kernel_rfl
theorem k90:fnOk Go.Proofs.Try.prog tab 90 f90=true:=by kernel_rfl
theorem k91:fnOk Go.Proofs.Try.prog tab 91 f91=true:=by kernel_rfl
theorem k92:fnOk Go.Proofs.Try.prog tab 92 f92=true:=by kernel_rfl
theorem k93:fnOk Go.Proofs.Try.prog tab 93 f93=true:=by kernel_rfl
theorem k94:fnOk Go.Proofs.Try.prog tab 94 f94=true:=by kernel_rfl
theorem k95:fnOk Go.Proofs.Try.prog tab 95 f95=true:=by kernel_rfl
theorem k96:fnOk Go.Proofs.Try.prog tab 96 f96=true:=by kernel_rfl
theorem k97:fnOk Go.Proofs.Try.prog tab 97 f97=true:=by kernel_rfl
theorem k98:fnOk Go.Proofs.Try.prog tab 98 f98=true:=by kernel_rfl
theorem k99:fnOk Go.Proofs.Try.prog tab 99 f99=true:=by kernel_rfl
theorem k100:fnOk Go.Proofs.Try.prog tab 100 f100=true:=by kernel_rfl
theorem k101:fnOk Go.Proofs.Try.prog tab 101 f101=true:=by kernel_rfl
theorem k102:fnOk Go.Proofs.Try.prog tab 102 f102=true:=by kernel_rfl
theorem k103:fnOk Go.Proofs.Try.prog tab 103 f103=true:=by kernel_rfl
theorem k104:fnOk Go.Proofs.Try.prog tab 104 f104=true:=by kernel_rfl
theorem k105:fnOk Go.Proofs.Try.prog tab 105 f105=true:=by kernel_rfl
theorem k106:fnOk Go.Proofs.Try.prog tab 106 f106=true:=by kernel_rfl
theorem k107:fnOk Go.Proofs.Try.prog tab 107 f107=true:=by kernel_rfl
theorem k108:fnOk Go.Proofs.Try.prog tab 108 f108=true:=by kernel_rfl
theorem k109:fnOk Go.Proofs.Try.prog tab 109 f109=true:=by kernel_rfl
theorem k110:fnOk Go.Proofs.Try.prog tab 110 f110=true:=by kernel_rfl
theorem k111:fnOk Go.Proofs.Try.prog tab 111 f111=true:=by kernel_rfl
theorem k112:fnOk Go.Proofs.Try.prog tab 112 f112=true:=by kernel_rfl
theorem k113:fnOk Go.Proofs.Try.prog tab 113 f113=true:=by kernel_rfl
theorem k114:fnOk Go.Proofs.Try.prog tab 114 f114=true:=by kernel_rfl
theorem k115:fnOk Go.Proofs.Try.prog tab 115 f115=true:=by kernel_rfl
theorem k116:fnOk Go.Proofs.Try.prog tab 116 f116=true:=by kernel_rfl
theorem k117:fnOk Go.Proofs.Try.prog tab 117 f117=true:=by kernel_rfl
theorem k118:fnOk Go.Proofs.Try.prog tab 118 f118=true:=by kernel_rfl
theorem k119:fnOk Go.Proofs.Try.prog tab 119 f119=true:=by kernel_rfl
theorem k120:fnOk Go.Proofs.Try.prog tab 120 f120=true:=by kernel_rfl
theorem k121:fnOk Go.Proofs.Try.prog tab 121 f121=true:=by kernel_rfl
theorem k125:fnOk Go.Proofs.Try.prog tab 125 f125=true:=by kernel_rfl
theorem k126:fnOk Go.Proofs.Try.prog tab 126 f126=true:=by kernel_rfl
theorem k127:fnOk Go.Proofs.Try.prog tab 127 f127=true:=by kernel_rfl
theorem k128:fnOk Go.Proofs.Try.prog tab 128 f128=true:=by kernel_rfl
theorem k129:fnOk Go.Proofs.Try.prog tab 129 f129=true:=by kernel_rfl
theorem k130:fnOk Go.Proofs.Try.prog tab 130 f130=true:=by kernel_rfl
theorem k131:fnOk Go.Proofs.Try.prog tab 131 f131=true:=by kernel_rfl
theorem k132:fnOk Go.Proofs.Try.prog tab 132 f132=true:=by kernel_rfl
theorem k133:fnOk Go.Proofs.Try.prog tab 133 f133=true:=by kernel_rfl
theorem k134:fnOk Go.Proofs.Try.prog tab 134 f134=true:=by kernel_rfl
theorem k135:fnOk Go.Proofs.Try.prog tab 135 f135=true:=by kernel_rfl
theorem k136:fnOk Go.Proofs.Try.prog tab 136 f136=true:=by kernel_rfl
theorem k137:fnOk Go.Proofs.Try.prog tab 137 f137=true:=by kernel_rfl
theorem k138:fnOk Go.Proofs.Try.prog tab 138 f138=true:=by kernel_rfl
theorem tabOk:TabOk Go.Proofs.Try.prog tab:=by
 intro n fn hlt h
 unfold tab at h
 split at h
 ·cases h;exact .inl k3
 ·cases h;exact .inl k4
 ·cases h;exact .inl k5
 ·cases h;exact .inl k6
 ·cases h;exact .inl k9
 ·cases h;exact .inl k10
 ·cases h;exact .inl k11
 ·cases h;exact .inl k12
 ·cases h;exact .inl k13
 ·cases h;exact .inl k14
 ·cases h;exact .inl k15
 ·cases h;exact .inl k16
 ·cases h;exact .inl k17
 ·cases h;exact .inl k18
 ·exact absurd hlt (by decide)
 ·cases h;exact .inl k19
 ·cases h;exact .inl k20
 ·cases h;exact .inl k21
 ·cases h;exact .inl k22
 ·cases h;exact .inl k23
 ·cases h;exact .inl k24
 ·cases h;exact .inl k25
 ·cases h;exact .inl k26
 ·cases h;exact .inl k27
 ·cases h;exact .inl k28
 ·cases h;exact .inl k29
 ·cases h;exact .inl k31
 ·cases h;exact .inl k32
 ·cases h;exact .inl k33
 ·cases h;exact .inl k34
 ·cases h;exact .inl k35
 ·cases h;exact .inl k36
 ·cases h;exact .inl k37
 ·cases h;exact .inl k38
 ·cases h;exact .inl k39
 ·cases h;exact .inl k40
 ·cases h;exact .inl k41
 ·cases h;exact .inl k42
 ·cases h;exact .inl k43
 ·cases h;exact .inl k44
 ·cases h;exact .inl k45
 ·cases h;exact .inl k46
 ·cases h;exact .inl k47
 ·cases h;exact .inl k48
 ·cases h;exact .inl k49
 ·cases h;exact .inl k50
 ·cases h;exact .inl k51
 ·cases h;exact .inl k52
 ·cases h;exact .inl k53
 ·cases h;exact .inl k54
 ·cases h;exact .inl k55
 ·cases h;exact .inl k56
 ·cases h;exact .inl k57
 ·cases h;exact .inl k58
 ·cases h;exact .inl k59
 ·cases h;exact .inl k60
 ·exact absurd hlt (by decide)
 ·cases h;exact .inl k61
 ·cases h;exact .inl k62
 ·cases h;exact .inl k63
 ·cases h;exact .inl k64
 ·cases h;exact .inl k65
 ·cases h;exact .inl k66
 ·cases h;exact .inl k67
 ·cases h;exact .inl k68
 ·cases h;exact .inl k69
 ·cases h;exact .inl k70
 ·cases h;exact .inl k71
 ·cases h;exact .inl k72
 ·cases h;exact .inl k74
 ·cases h;exact .inl k75
 ·cases h;exact .inl k76
 ·cases h;exact .inl k77
 ·cases h;exact .inl k78
 ·cases h;exact .inl k79
 ·cases h;exact .inl k80
 ·cases h;exact .inl k81
 ·cases h;exact .inl k82
 ·exact absurd hlt (by decide)
 ·cases h;exact .inl k83
 ·cases h;exact .inl k84
 ·cases h;exact .inl k85
 ·cases h;exact .inl k86
 ·cases h;exact .inl k87
 ·cases h;exact .inl k88
 ·cases h;exact .inl k89
 ·cases h;exact .inl k90
 ·cases h;exact .inl k91
 ·cases h;exact .inl k92
 ·cases h;exact .inl k93
 ·cases h;exact .inl k94
 ·cases h;exact .inl k95
 ·cases h;exact .inl k96
 ·cases h;exact .inl k97
 ·cases h;exact .inl k98
 ·cases h;exact .inl k99
 ·cases h;exact .inl k100
 ·cases h;exact .inl k101
 ·cases h;exact .inl k102
 ·cases h;exact .inl k103
 ·cases h;exact .inl k104
 ·cases h;exact .inl k105
 ·cases h;exact .inl k106
 ·cases h;exact .inl k107
 ·cases h;exact .inl k108
 ·cases h;exact .inl k109
 ·cases h;exact .inl k110
 ·cases h;exact .inl k111
 ·cases h;exact .inl k112
 ·cases h;exact .inl k113
 ·cases h;exact .inl k114
 ·cases h;exact .inl k115
 ·cases h;exact .inl k116
 ·cases h;exact .inl k117
 ·cases h;exact .inl k118
 ·cases h;exact .inl k119
 ·cases h;exact .inl k120
 ·cases h;exact .inl k121
 ·cases h;exact .inl k125
 ·cases h;exact .inl k126
 ·cases h;exact .inl k127
 ·cases h;exact .inl k128
 ·cases h;exact .inl k129
 ·cases h;exact .inl k130
 ·cases h;exact .inl k131
 ·cases h;exact .inl k132
 ·cases h;exact .inl k133
 ·cases h;exact .inl k134
 ·cases h;exact .inl k135
 ·cases h;exact .inl k136
 ·cases h;exact .inl k137
 ·cases h;exact .inl k138
 ·cases h
theorem c3:clC f3.body=true:=by kernel_rfl
theorem c4:clC f4.body=true:=by kernel_rfl
theorem c5:clC f5.body=true:=by kernel_rfl
theorem c6:clC f6.body=true:=by kernel_rfl
theorem c9:clC f9.body=true:=by kernel_rfl
theorem c10:clC f10.body=true:=by kernel_rfl
theorem c11:clC f11.body=true:=by kernel_rfl
theorem c12:clC f12.body=true:=by kernel_rfl
theorem c13:clC f13.body=true:=by kernel_rfl
theorem c14:clC f14.body=true:=by kernel_rfl
theorem c15:clC f15.body=true:=by kernel_rfl
theorem c16:clC f16.body=true:=by kernel_rfl
theorem c17:clC f17.body=true:=by kernel_rfl
theorem c18:clC f18.body=true:=by kernel_rfl
theorem c1000288:clC f1000288.body=true:=by kernel_rfl
theorem c19:clC f19.body=true:=by kernel_rfl
theorem c20:clC f20.body=true:=by kernel_rfl
theorem c21:clC f21.body=true:=by kernel_rfl
theorem c22:clC f22.body=true:=by kernel_rfl
theorem c23:clC f23.body=true:=by kernel_rfl
theorem c24:clC f24.body=true:=by kernel_rfl
theorem c25:clC f25.body=true:=by kernel_rfl
theorem c26:clC f26.body=true:=by kernel_rfl
theorem c27:clC f27.body=true:=by kernel_rfl
theorem c28:clC f28.body=true:=by kernel_rfl
theorem c29:clC f29.body=true:=by kernel_rfl
theorem c31:clC f31.body=true:=by kernel_rfl
theorem c32:clC f32.body=true:=by kernel_rfl
theorem c33:clC f33.body=true:=by kernel_rfl
theorem c34:clC f34.body=true:=by kernel_rfl
theorem c35:clC f35.body=true:=by kernel_rfl
theorem c36:clC f36.body=true:=by kernel_rfl
theorem c37:clC f37.body=true:=by kernel_rfl
theorem c38:clC f38.body=true:=by kernel_rfl
theorem c39:clC f39.body=true:=by kernel_rfl
theorem c40:clC f40.body=true:=by kernel_rfl
theorem c41:clC f41.body=true:=by kernel_rfl
theorem c42:clC f42.body=true:=by kernel_rfl
theorem c43:clC f43.body=true:=by kernel_rfl
theorem c44:clC f44.body=true:=by kernel_rfl
theorem c45:clC f45.body=true:=by kernel_rfl
theorem c46:clC f46.body=true:=by kernel_rfl
theorem c47:clC f47.body=true:=by kernel_rfl
theorem c48:clC f48.body=true:=by kernel_rfl
theorem c49:clC f49.body=true:=by kernel_rfl
theorem c50:clC f50.body=true:=by kernel_rfl
theorem c51:clC f51.body=true:=by kernel_rfl
theorem c52:clC f52.body=true:=by kernel_rfl
theorem c53:clC f53.body=true:=by kernel_rfl
theorem c54:clC f54.body=true:=by kernel_rfl
theorem c55:clC f55.body=true:=by kernel_rfl
theorem c56:clC f56.body=true:=by kernel_rfl
theorem c57:clC f57.body=true:=by kernel_rfl
theorem c58:clC f58.body=true:=by kernel_rfl
theorem c59:clC f59.body=true:=by kernel_rfl
theorem c60:clC f60.body=true:=by kernel_rfl
theorem c1000960:clC f1000960.body=true:=by kernel_rfl
theorem c61:clC f61.body=true:=by kernel_rfl
theorem c62:clC f62.body=true:=by kernel_rfl
theorem c63:clC f63.body=true:=by kernel_rfl
theorem c64:clC f64.body=true:=by kernel_rfl
theorem c65:clC f65.body=true:=by kernel_rfl
theorem c66:clC f66.body=true:=by kernel_rfl
theorem c67:clC f67.body=true:=by kernel_rfl
theorem c68:clC f68.body=true:=by kernel_rfl
theorem c69:clC f69.body=true:=by kernel_rfl
theorem c70:clC f70.body=true:=by kernel_rfl
theorem c71:clC f71.body=true:=by kernel_rfl
theorem c72:clC f72.body=true:=by kernel_rfl
theorem c74:clC f74.body=true:=by kernel_rfl
theorem c75:clC f75.body=true:=by kernel_rfl
theorem c76:clC f76.body=true:=by kernel_rfl
theorem c77:clC f77.body=true:=by kernel_rfl
theorem c78:clC f78.body=true:=by kernel_rfl
theorem c79:clC f79.body=true:=by kernel_rfl
theorem c80:clC f80.body=true:=by kernel_rfl
theorem c81:clC f81.body=true:=by kernel_rfl
theorem c82:clC f82.body=true:=by kernel_rfl
theorem c1001312:clC f1001312.body=true:=by kernel_rfl
theorem c83:clC f83.body=true:=by kernel_rfl
theorem c84:clC f84.body=true:=by kernel_rfl
theorem c85:clC f85.body=true:=by kernel_rfl
theorem c86:clC f86.body=true:=by kernel_rfl
theorem c87:clC f87.body=true:=by kernel_rfl
theorem c88:clC f88.body=true:=by kernel_rfl
theorem c89:clC f89.body=true:=by kernel_rfl
theorem c90:clC f90.body=true:=by kernel_rfl
theorem c91:clC f91.body=true:=by kernel_rfl
theorem c92:clC f92.body=true:=by kernel_rfl
theorem c93:clC f93.body=true:=by kernel_rfl
theorem c94:clC f94.body=true:=by kernel_rfl
theorem c95:clC f95.body=true:=by kernel_rfl
theorem c96:clC f96.body=true:=by kernel_rfl
theorem c97:clC f97.body=true:=by kernel_rfl
theorem c98:clC f98.body=true:=by kernel_rfl
theorem c99:clC f99.body=true:=by kernel_rfl
theorem c100:clC f100.body=true:=by kernel_rfl
theorem c101:clC f101.body=true:=by kernel_rfl
theorem c102:clC f102.body=true:=by kernel_rfl
theorem c103:clC f103.body=true:=by kernel_rfl
theorem c104:clC f104.body=true:=by kernel_rfl
theorem c105:clC f105.body=true:=by kernel_rfl
theorem c106:clC f106.body=true:=by kernel_rfl
theorem c107:clC f107.body=true:=by kernel_rfl
theorem c108:clC f108.body=true:=by kernel_rfl
theorem c109:clC f109.body=true:=by kernel_rfl
theorem c110:clC f110.body=true:=by kernel_rfl
theorem c111:clC f111.body=true:=by kernel_rfl
theorem c112:clC f112.body=true:=by kernel_rfl
theorem c113:clC f113.body=true:=by kernel_rfl
theorem c114:clC f114.body=true:=by kernel_rfl
theorem c115:clC f115.body=true:=by kernel_rfl
theorem c116:clC f116.body=true:=by kernel_rfl
theorem c117:clC f117.body=true:=by kernel_rfl
theorem c118:clC f118.body=true:=by kernel_rfl
theorem c119:clC f119.body=true:=by kernel_rfl
theorem c120:clC f120.body=true:=by kernel_rfl
theorem c121:clC f121.body=true:=by kernel_rfl
theorem c125:clC f125.body=true:=by kernel_rfl
theorem c126:clC f126.body=true:=by kernel_rfl
theorem c127:clC f127.body=true:=by kernel_rfl
theorem c128:clC f128.body=true:=by kernel_rfl
theorem c129:clC f129.body=true:=by kernel_rfl
theorem c130:clC f130.body=true:=by kernel_rfl
theorem c131:clC f131.body=true:=by kernel_rfl
theorem c132:clC f132.body=true:=by kernel_rfl
theorem c133:clC f133.body=true:=by kernel_rfl
theorem c134:clC f134.body=true:=by kernel_rfl
theorem c135:clC f135.body=true:=by kernel_rfl
theorem c136:clC f136.body=true:=by kernel_rfl
theorem c137:clC f137.body=true:=by kernel_rfl
theorem c138:clC f138.body=true:=by kernel_rfl
theorem tabCl:TabCl tab:=by
 intro n fn h
 unfold tab at h
 split at h
 ·cases h;exact c3
 ·cases h;exact c4
 ·cases h;exact c5
 ·cases h;exact c6
 ·cases h;exact c9
 ·cases h;exact c10
 ·cases h;exact c11
 ·cases h;exact c12
 ·cases h;exact c13
 ·cases h;exact c14
 ·cases h;exact c15
 ·cases h;exact c16
 ·cases h;exact c17
 ·cases h;exact c18
 ·cases h;exact c1000288
 ·cases h;exact c19
 ·cases h;exact c20
 ·cases h;exact c21
 ·cases h;exact c22
 ·cases h;exact c23
 ·cases h;exact c24
 ·cases h;exact c25
 ·cases h;exact c26
 ·cases h;exact c27
 ·cases h;exact c28
 ·cases h;exact c29
 ·cases h;exact c31
 ·cases h;exact c32
 ·cases h;exact c33
 ·cases h;exact c34
 ·cases h;exact c35
 ·cases h;exact c36
 ·cases h;exact c37
 ·cases h;exact c38
 ·cases h;exact c39
 ·cases h;exact c40
 ·cases h;exact c41
 ·cases h;exact c42
 ·cases h;exact c43
 ·cases h;exact c44
 ·cases h;exact c45
 ·cases h;exact c46
 ·cases h;exact c47
 ·cases h;exact c48
 ·cases h;exact c49
 ·cases h;exact c50
 ·cases h;exact c51
 ·cases h;exact c52
 ·cases h;exact c53
 ·cases h;exact c54
 ·cases h;exact c55
 ·cases h;exact c56
 ·cases h;exact c57
 ·cases h;exact c58
 ·cases h;exact c59
 ·cases h;exact c60
 ·cases h;exact c1000960
 ·cases h;exact c61
 ·cases h;exact c62
 ·cases h;exact c63
 ·cases h;exact c64
 ·cases h;exact c65
 ·cases h;exact c66
 ·cases h;exact c67
 ·cases h;exact c68
 ·cases h;exact c69
 ·cases h;exact c70
 ·cases h;exact c71
 ·cases h;exact c72
 ·cases h;exact c74
 ·cases h;exact c75
 ·cases h;exact c76
 ·cases h;exact c77
 ·cases h;exact c78
 ·cases h;exact c79
 ·cases h;exact c80
 ·cases h;exact c81
 ·cases h;exact c82
 ·cases h;exact c1001312
 ·cases h;exact c83
 ·cases h;exact c84
 ·cases h;exact c85
 ·cases h;exact c86
 ·cases h;exact c87
 ·cases h;exact c88
 ·cases h;exact c89
 ·cases h;exact c90
 ·cases h;exact c91
 ·cases h;exact c92
 ·cases h;exact c93
 ·cases h;exact c94
 ·cases h;exact c95
 ·cases h;exact c96
 ·cases h;exact c97
 ·cases h;exact c98
 ·cases h;exact c99
 ·cases h;exact c100
 ·cases h;exact c101
 ·cases h;exact c102
 ·cases h;exact c103
 ·cases h;exact c104
 ·cases h;exact c105
 ·cases h;exact c106
 ·cases h;exact c107
 ·cases h;exact c108
 ·cases h;exact c109
 ·cases h;exact c110
 ·cases h;exact c111
 ·cases h;exact c112
 ·cases h;exact c113
 ·cases h;exact c114
 ·cases h;exact c115
 ·cases h;exact c116
 ·cases h;exact c117
 ·cases h;exact c118
 ·cases h;exact c119
 ·cases h;exact c120
 ·cases h;exact c121
 ·cases h;exact c125
 ·cases h;exact c126
 ·cases h;exact c127
 ·cases h;exact c128
 ·cases h;exact c129
 ·cases h;exact c130
 ·cases h;exact c131
 ·cases h;exact c132
 ·cases h;exact c133
 ·cases h;exact c134
 ·cases h;exact c135
 ·cases h;exact c136
 ·cases h;exact c137
 ·cases h;exact c138
 ·cases h
end Zc28
end
section
namespace Zv
open Go
section
variable {H:Type} {enc:TypeId × Value→H} {P:Program} {w:World} {base:Nat} {sp:Nat→Bool} {held:Bool}
end
end Zv
end
section
namespace Zc28
open Go Zv
def tys:List TypeId:=[96,98,70,73,105,80,3,68]
def es:List ET:=[.st [.s,.l 1],.st [.s,.l 2],.one (.i .i64),.one (.l 4),.st [.i .i64,.i .i64,.i .i64,.l 4],.st [.l 6,.b,.i .i64,.l 6,.i .i64],.one (.i .i64),.st [.i .i64,.i .i64,.l 7]]
theorem typesOk:mtEs Go.Proofs.Try.prog tys tys es=true:=by kernel_rfl
def bys:List Nat:=[40,40,8,24,48,72,8,40]
theorem bysOk:tys.map Go.Proofs.Try.prog.bytesOf=bys:=by kernel_rfl
end Zc28
end
section
namespace Zs
open Go Zv
end Zs
end
section
namespace Zs
open Go Zv
def rowN (m es:Nat) (s:List D):V:=if s=[] then .tl [] (some true) else .own m es s.length 0 s.length
def rowQ (h:Hp) (m es:Nat) (s:List D) (q:Nat):Hp:=⟨if s=[] then h.objs else (m,.arr es (s.map .d))::h.objs,q⟩
theorem rowQ_next (h:Hp) (m es:Nat) (s:List D) (q:Nat):(rowQ h m es s q).next=q:=rfl
theorem rowQ_mk (h:Hp) (m es:Nat) (s:List D) (q n:Nat):(⟨(rowQ h m es s q).objs,n⟩:Hp)=rowQ h m es s n:=rfl
def nmQ (s:List D) (m q:Nat):Nat:=if s=[] then q else m
def nqQ (s:List D) (q:Nat):Nat:=if s=[] then q+1 else q
theorem nqQ_le (s:List D) (q:Nat):q≤nqQ s q:=by unfold nqQ;split<;>omega
theorem nmQ_lt {s:List D} {m q:Nat} (h:s≠[]→m<q):nmQ s m q<nqQ s q:=by
 unfold nmQ nqQ
 split
 ·omega
 ·rename_i hs;exact h hs
theorem rowQ_row (h:Hp) (m es:Nat) {s:List D} (hs:s≠[]) (q:Nat):(rowQ h m es s q).row m s.length=some (es,s.map .d):=by
 unfold rowQ Hp.row Hp.get
 rw[if_neg hs]
 simp only[Zv.look,if_true,List.length_map]
theorem rowQ_app (h:Hp) {m es b q:Nat} {s:List D} {x:D} {nl:Option Bool} (hx:x.cells.length=es) (hlen:(s.length+1)*b≤roomB) (hl:∀ y,y ∈ s→y.cells.length=es) :
  app es b (rowQ h m es s q) (rowN m es s) (.tl [.d x] nl)=some (rowN (nmQ s m q) es (s++[x]),rowQ h (nmQ s m q) es (s++[x]) (nqQ s q)):=by
 have hxs:allV es [V.d x]=true:=by simp[allV,V.cells,hx]
 have hne:s++[x]≠[]:=by simp
 unfold app
 simp only[elems,Option.bind_some,List.map_cons,List.map_nil,norm_d,hxs,if_true]
 by_cases h0:s=[]
 ·subst h0
  simp[rowN,rowQ,allV,nmQ,nqQ,Hp.alloc]
  simpa using hlen
 ·have hr:=rowQ_row h m es h0 q
  rw[show rowN m es s=.own m es s.length 0 s.length from if_neg h0]
  simp only[hr,Option.bind_some,List.length_map,Nat.zero_add,Nat.le_refl,and_self,if_true,List.isEmpty_cons,Bool.false_eq_true,if_false,List.length_cons,List.length_nil]
  rw[if_neg (by omega),if_pos hlen,List.take_of_length_le (by simp)]
  simp only[rowN,rowQ,nmQ,nqQ,hne,h0,if_false,List.length_append,List.length_cons,List.length_nil,List.map_append,List.map_cons,List.map_nil,Nat.zero_add,Hp.set,upd,if_true]
theorem rowQ_suf (h:Hp) (m es:Nat) (s:List D) (q:Nat):sufOk h.objs (rowQ h m es s q).objs=true:=by
 unfold rowQ
 split
 ·exact suf_refl _
 ·exact suf_one _ _
theorem rowQ_deep (h:Hp) {m es n0:Nat} (s:List D) (q:Nat) (hm:s≠[]→n0≤m):deep (rowQ h m es s q) n0 8 (rowN m es s)=some (.lst s):=by
 by_cases hl:s=[]
 ·subst hl;rfl
 ·have hr:=rowQ_row h m es hl q
  rw[show rowN m es s=.own m es s.length 0 s.length from if_neg hl]
  unfold deep
  simp only[hm hl,if_true,hr,Option.bind_some,List.length_map,Nat.zero_add,Nat.le_refl,List.drop_zero]
  rw[List.take_of_length_le (by simp),deep_ds]
  rfl
theorem finS_rowQ {h:Hp} {m es:Nat} {s:List D} {q:Nat} (hm:s≠[]→h.next≤m):finS h (rowQ h m es s q) [rowN m es s]=some (.d (.lst s),h):=by
 rw[finS,if_pos (rowQ_suf h m es s q)]
 simp only[List.mapM_cons,List.mapM_nil,back1,rowQ_deep h s q hm]
 rfl
theorem lenL_rowN (m es:Nat) (s:List D):lenL (rowN m es s)=some (.d (.int .i64 (s.length:Int))):=by
 unfold rowN
 split
 ·rename_i h;subst h;rfl
 ·rfl
theorem ia_rowN {m es n:Nat} {s:List D} {x:D} (hx:s[n]? = some x):ia es (rowN m es s) (.d (.int .i64 (n:Int)))=some (.ptr m s.length n 0):=by
 have hlt:=(List.getElem?_eq_some_iff.1 hx).1
 have hs:s≠[]:=by intro e;subst e;simp at hlt
 simp only[rowN,hs,if_false,ia,ixOf_nat,Option.bind_some,hlt,and_self,if_true,Nat.zero_add]
theorem ld_rowQ (h:Hp) {m es n q:Nat} {s:List D} {l:List D} (hx:s[n]? = some (.agg l)):ld true es (rowQ h m es s q) (.ptr m s.length n 0)=some (.d (.agg l)):=by
 have hlt:=(List.getElem?_eq_some_iff.1 hx).1
 have hs:s≠[]:=by intro e;subst e;simp at hlt
 simp[ld,rowQ_row h m es hs q,hx]
def accG {α β:Type} (G:List β→α→Option β) (s:List β) (x:α):List β:=match G s x with
 |none=>s
 |some y=>s++[y]
def accL {α β:Type} (G:List β→α→Option β) (l:List α):List β:=l.foldl (accG G) []
theorem accL_snoc {α β:Type} (G:List β→α→Option β) (l:List α) (x:α):accL G (l++[x])=accG G (accL G l) x:=by
 rw[accL,List.foldl_append];rfl
theorem accL_fm {α β:Type} (F:α→Option β) (l:List α):accL (fun _=>F) l=l.filterMap F:=by
 have:∀ (l:List α) (s:List β),l.foldl (accG fun _=>F) s=s++l.filterMap F:=by
  intro l
  induction l with
  |nil=>intro s;simp
  |cons x r ih=>
   intro s
   rw[List.foldl_cons,List.filterMap_cons]
   cases hf:F x with
   |none=>rw[ih];simp only[accG,hf]
   |some y=>rw[ih];simp only[accG,hf,List.append_assoc,List.singleton_append]
 exact (this l []).trans (List.nil_append _)
theorem loop_acc {T:Tab} {a:AC} {α β:Type} {l:List α} (G:List β→α→Option β) (enc:β→D) (es b:Nat) (env:Nat→V→Env) {h:Hp} {n0:Nat} {x1:Ex} {e1:V→Env} (hn0:n0≤h.next)
  (hc:∀ y,(enc y).cells.length=es) (hb:l.length*b≤roomB)
  (h0:∀ n x s m q,l[n]? = some x→n<l.length→s=accL G (l.take n)→s.length≤n→G s x=none→wp T a (env n (rowN m es (s.map enc))) (rowQ h m es (s.map enc) q) (fun o=>∃ q',o=(.norm,env (n+1) (rowN m es (s.map enc)),rowQ h m es (s.map enc) q')∧q≤q'))
  (h1:∀ n x y s m q,l[n]? = some x→n<l.length→s=accL G (l.take n)→s.length≤n→G s x=some y→(∀ q,app es b (rowQ h m es (s.map enc) q) (rowN m es (s.map enc)) (.tl [.d (enc y)] (some false))=some (rowN (nmQ (s.map enc) m q) es (s.map enc++[enc y]),rowQ h (nmQ (s.map enc) m q) es (s.map enc++[enc y]) (nqQ (s.map enc) q))) →
   wp T a (env n (rowN m es (s.map enc))) (rowQ h m es (s.map enc) q) (fun o=>∃ q' q'',o=(.norm,env (n+1) (rowN (nmQ (s.map enc) m q') es (s.map enc++[enc y])),rowQ h (nmQ (s.map enc) m q') es (s.map enc++[enc y]) q'')∧q≤q'∧nqQ (s.map enc) q'≤q''))
  (h2:∀ m q,wp T a (env l.length (rowN m es ((accL G l).map enc))) (rowQ h m es ((accL G l).map enc) q) (fun o=>∃ q',o=(x1,e1 (rowN m es ((accL G l).map enc)),rowQ h m es ((accL G l).map enc) q')∧q≤q')) (ho:x1≠.norm) :
  ∃ m q,((accL G l).map enc≠[]→n0≤m∧m<q)∧h.next≤q∧ex T (.loop a) (env 0 (.tl [] (some true))) h=some (x1,e1 (rowN m es ((accL G l).map enc)),rowQ h m es ((accL G l).map enc) q):=by
 obtain ⟨o,g1,m,q,g2,g3,g4⟩:wp T (.loop a) (env 0 (.tl [] (some true))) h (fun o=>∃ m q,((accL G l).map enc≠[]→n0≤m∧m<q)∧h.next≤q∧o=(x1,e1 (rowN m es ((accL G l).map enc)),rowQ h m es ((accL G l).map enc) q)):=by
  refine loop_wp l.length (fun n e h'=>∃ s m q,s=accL G (l.take n)∧s.length≤n∧(s.map enc≠[]→n0≤m∧m<q)∧h.next≤q∧h'=rowQ h m es (s.map enc) q∧e=env n (rowN m es (s.map enc))) _ ?_ ?_ l.length 0 _ _ (by omega) ⟨[],0,h.next,by simp[accL],by simp,by simp,Nat.le_refl _,rfl,rfl⟩
  ·rintro n e h' hn ⟨s,m,q,hs,hsl,hm,hq,rfl,rfl⟩
   have hx':l[n]? = some l[n]:=List.getElem?_eq_getElem hn
   have hstep:accL G (l.take (n+1))=accG G s l[n]:=by
    rw[hs,List.take_add_one,hx'];exact accL_snoc G _ _
   cases hg:G s l[n] with
   |none=>
    obtain ⟨o,hw,q',rfl,hle⟩:=h0 n _ s m q hx' hn hs hsl hg
    exact⟨_,hw,.inl ⟨rfl,s,m,q',by rw[hstep,accG,hg],by omega,fun h=>⟨(hm h).1,by have:=(hm h).2;omega⟩,by omega,rfl,rfl⟩⟩
   |some y=>
    have hroom:((s.map enc).length+1)*b≤roomB:=Nat.le_trans (Nat.mul_le_mul_right b (by rw[List.length_map];omega)) hb
    obtain ⟨o,hw,q',q'',rfl,hle,hle2⟩:=h1 n _ y s m q hx' hn hs hsl hg (fun q=>rowQ_app h (hc y) hroom (fun z hz=>by obtain ⟨w,_,rfl⟩:=List.mem_map.1 hz;exact hc w))
    refine ⟨_,hw,.inl ⟨rfl,s++[y],nmQ (s.map enc) m q',q'',by rw[hstep,accG,hg],by simp;omega,fun _=>⟨?_,?_⟩,?_,by simp only[List.map_append,List.map_cons,List.map_nil],by simp only[List.map_append,List.map_cons,List.map_nil]⟩⟩
    ·unfold nmQ
     split
     ·omega
     ·rename_i h;exact (hm h).1
    ·have:=nmQ_lt (s:=s.map enc) (m:=m) (q:=q') (fun h=>by have:=(hm h).2;omega)
     omega
    ·have:=nqQ_le (s.map enc) q';omega
  ·rintro e h' ⟨s,m,q,hs,hsl,hm,hq,rfl,rfl⟩
   rw[List.take_length] at hs
   subst hs
   obtain ⟨o,hw,q',rfl,hle⟩:=h2 m q
   exact⟨_,hw,ho,m,q',fun h=>⟨(hm h).1,by have:=(hm h).2;omega⟩,by omega,rfl⟩
 exact⟨m,q,g2,g3,by rw[g1,g4]⟩
theorem norm_map_d (l:List D):(l.map V.d).map norm=l.map V.d:=by
 rw[List.map_map];rfl
theorem allV_d {es:Nat} {l:List D} (hl:∀ y,y ∈ l→y.cells.length=es):allV es (l.map .d)=true:=by
 unfold allV
 refine List.all_eq_true.2 fun x hx=>?_
 obtain ⟨y,hy,rfl⟩:=List.mem_map.1 hx
 simp[V.cells,hl y hy]
theorem own_app {es b m q:Nat} {o:List (Nat × Ob)} {l r:List D} (hr:∀ y,y ∈ r→y.cells.length=es) (hb:(l.length+r.length)*b≤roomB) :
  app es b ⟨(m,.arr es (l.map .d))::o,q⟩ (.own m es l.length 0 l.length) (.d (.lst r))=some (.own m es (l++r).length 0 (l++r).length,⟨(m,.arr es ((l++r).map .d))::o,q⟩):=by
 have hrow:(⟨(m,.arr es (l.map V.d))::o,q⟩:Hp).row m l.length=some (es,l.map .d):=by rw[row_cons];simp
 unfold app
 simp only[elems,Option.bind_some,norm_map_d,allV_d hr,if_true,hrow,List.length_map,Nat.zero_add,Nat.le_refl,and_self]
 by_cases h0:r=[]
 ·subst h0;simp
 ·have hp:0<r.length:=List.length_pos_iff.2 h0
  have he:(r.map V.d).isEmpty=false:=by cases r with | nil=>exact absurd rfl h0 | cons=>rfl
  rw[he]
  simp only[Bool.false_eq_true,if_false]
  rw[if_neg (by omega),if_pos hb]
  simp only[if_true,List.take_of_length_le (show (l.map V.d).length≤l.length by simp),List.length_append,List.map_append,Hp.set,upd]
theorem own_frz {es m q:Nat} {o:List (Nat × Ob)} {l:List D}:frz ⟨(m,.arr es (l.map .d))::o,q⟩ (.own m es l.length 0 l.length)=some (.d (.lst l),⟨o,q⟩):=by
 have hrow:(⟨(m,.arr es (l.map V.d))::o,q⟩:Hp).row m l.length=some (es,l.map .d):=by rw[row_cons];simp
 unfold frz
 simp only[hrow,Option.bind_some,List.length_map,Nat.zero_add,Nat.le_refl,if_true,List.drop_zero,List.take_of_length_le (show (l.map V.d).length≤l.length by simp),toDs_map,Option.map_some,Hp.kill,del]
def cloV (nl:Option Bool) (n es:Nat) (l:List D):V:=if l=[] then .tl [] nl else .own n es l.length 0 l.length
def cloO (o:List (Nat × Ob)) (n es:Nat) (l:List D):Hp:=⟨if l=[] then o else (n,.arr es (l.map .d))::o,if l=[] then n else n+1⟩
theorem cloO_nil (o:List (Nat × Ob)) (n es:Nat):cloO o n es []=⟨o,n⟩:=rfl
theorem clo_app {nl:Option Bool} {es b n:Nat} {o:List (Nat × Ob)} {l r:List D} (hl:∀ y,y ∈ l→y.cells.length=es) (hr:∀ y,y ∈ r→y.cells.length=es) (hb:(l.length+r.length)*b≤roomB) :
  app es b (cloO o n es l) (cloV nl n es l) (.d (.lst r))=some (cloV nl n es (l++r),cloO o n es (l++r)):=by
 by_cases h0:l=[]
 ·subst h0
  by_cases h1:r=[]
  ·subst h1;rfl
  ·have hp:0<r.length:=List.length_pos_iff.2 h1
   have he:(r.map V.d).isEmpty=false:=by cases r with | nil=>exact absurd rfl h1 | cons=>rfl
   simp only[cloV,cloO,if_true,List.nil_append,h1,if_false]
   unfold app
   simp only[elems,Option.bind_some,norm_map_d,allV_d hr,if_true,he,Bool.false_eq_true,if_false,List.length_nil,Nat.zero_add,List.length_map,List.nil_append]
   rw[if_pos ⟨by simpa using hb,rfl⟩]
   rfl
 ·have hlr:l++r≠[]:=by simp[h0]
  simp only[cloV,cloO,h0,hlr,if_false]
  exact own_app hr hb
theorem tl_app {nl:Option Bool} {es b:Nat} {h:Hp} {r:List D} (hr:∀ y,y ∈ r→y.cells.length=es) (hb:r.length*b≤roomB) :
  app es b h (.tl [] nl) (.d (.lst r))=some (cloV nl h.next es r,cloO h.objs h.next es r):=
 clo_app (o:=h.objs) (n:=h.next) (l:=[]) (by simp) hr (by simpa using hb)
theorem clo_frz {nl:Option Bool} {es n:Nat} {o:List (Nat × Ob)} {l:List D}:frz (cloO o n es l) (cloV nl n es l)=some (.d (.lst l),⟨o,if l=[] then n else n+1⟩):=by
 by_cases h0:l=[]
 ·subst h0;rfl
 ·simp only[cloV,cloO,h0,if_false]
  exact own_frz
theorem finS_clo {h:Hp} {nl:Option Bool} {es n:Nat} {l:List D} (hn:h.next≤n):finS h (cloO h.objs n es l) [cloV nl n es l]=some (.d (.lst l),h):=by
 by_cases h0:l=[]
 ·subst h0
  rw[cloO_nil,finS,if_pos (suf_refl _)]
  rfl
 ·have:=finS_rowQ (h:=h) (m:=n) (es:=es) (s:=l) (q:=n+1) (fun _=>hn)
  unfold rowQ rowN at this
  unfold cloV cloO
  simp only[h0,if_false] at this ⊢
  exact this
theorem ex_ambU {T:Tab} {p a b r:AC} {c:Opd} {e e1:Env} {h h1:Hp} {o q z:Out} (hp:ex T p e h=some (.norm,e1,h1)) (hc:e1.ev c=.ub) (ho:ex T (.seq a r) e1 h1=some o) (hq:ex T (.seq b r) e1 h1=some q)
  (hz:outJoin o q=some z):ex T (.amb p c a b r) e h=some z:=by
 show (ex T p e h).bind (nxt (ambB c (ex T a) (ex T b) (ex T r)))=some z
 rw[hp,Option.bind_some,nxt_n]
 unfold ambB
 rw[hc]
 rw[ex_seq] at ho hq
 simp only[ho,hq,Option.bind_some,hz]
theorem ex_ambD {T:Tab} {p a b r:AC} {c:Opd} {e e1:Env} {h h1:Hp} {o:Out} (t:Bool) (hp:ex T p e h=some (.norm,e1,h1)) (hc:e1.ev c=.d (.bool t)) (ho:ex T (.seq (if t=true then a else b) r) e1 h1=some o):ex T (.amb p c a b r) e h=some o:=by
 show (ex T p e h).bind (nxt (ambB c (ex T a) (ex T b) (ex T r)))=some o
 rw[hp,Option.bind_some,nxt_n]
 unfold ambB
 rw[hc]
 rw[ex_seq] at ho
 cases t<;>exact ho
theorem loop_anyO {T:Tab} {a:AC} {K:Nat} {p:Nat→Bool} {f:Nat→Env} {O O2:List (Nat × Ob)} {x1 x2:Ex} {e2:Env} {q0:Nat}
  (hs:∀ q n,n<K→p n=false→wp T a (f n) ⟨O,q⟩ (fun o=>∃ q',o=(.norm,f (n+1),⟨O,q'⟩)∧q≤q'))
  (hx:∀ q n,n<K→p n=true→wp T a (f n) ⟨O,q⟩ (fun o=>∃ e q',o=(x1,e,⟨O2,q'⟩)∧q≤q'))
  (hN:∀ q,wp T a (f K) ⟨O,q⟩ (fun o=>∃ q',o=(x2,e2,⟨O,q'⟩)∧q≤q')) (ho:x1≠.norm) (hoN:x2≠.norm) :
  ∃ e q',q0≤q'∧ex T (.loop a) (f 0) ⟨O,q0⟩=some (if (List.range K).any p=true then (x1,e,⟨O2,q'⟩) else (x2,e2,⟨O,q'⟩)):=by
 obtain ⟨o,h1,e,q,hqq,h2⟩:wp T (.loop a) (f 0) ⟨O,q0⟩ (fun o=>∃ e q',q0≤q'∧o=if (List.range K).any p=true then (x1,e,⟨O2,q'⟩) else (x2,e2,⟨O,q'⟩)):=by
  refine loop_wp K (fun n e h'=>(∃ q,q0≤q∧h'=⟨O,q⟩)∧e=f n∧∀ i,i<n→p i=false) _ ?_ ?_ K 0 _ _ (by omega) ⟨⟨q0,Nat.le_refl _,rfl⟩,rfl,fun i hi=>by omega⟩
  ·rintro n e h' hn ⟨⟨q,hqn,rfl⟩,rfl,hk⟩
   cases hp:p n with
   |true=>
    obtain ⟨o,hq,e,q',rfl,hle⟩:=hx q n hn hp
    have:(List.range K).any p=true:=List.any_eq_true.2 ⟨n,List.mem_range.2 hn,hp⟩
    rw[this]
    exact⟨_,hq,.inr ⟨ho,e,q',Nat.le_trans hqn hle,rfl⟩⟩
   |false=>
    obtain ⟨o,hq,q',rfl,hle⟩:=hs q n hn hp
    refine ⟨_,hq,.inl ⟨rfl,⟨q',Nat.le_trans hqn hle,rfl⟩,rfl,fun i hi=>?_⟩⟩
    by_cases hij:i=n
    ·subst hij;exact hp
    ·exact hk i (by omega)
  ·rintro e h' ⟨⟨q,hqn,rfl⟩,rfl,hk⟩
   have:(List.range K).any p=false:=by
    rw[←Bool.not_eq_true,List.any_eq_true]
    rintro ⟨x,hx,hp⟩
    rw[hk x (List.mem_range.1 hx)] at hp
    cases hp
   rw[this]
   obtain ⟨o,hq,q',rfl,hle⟩:=hN q
   exact⟨_,hq,hoN,f 0,q',Nat.le_trans hqn hle,rfl⟩
 exact⟨e,q,hqq,by rw[h1,h2]⟩
end Zs
end
section
set_option maxHeartbeats 4000000
namespace Zc28
open Go Zv Zs
theorem awake:callW tab 10 [] ⟨[],0⟩=some (.d (.bool true),⟨[],0⟩):=callW_of tab 200 (by kernel_rfl)
theorem awake1:callW tab 10 [] ⟨[],1⟩=some (.d (.bool true),⟨[],1⟩):=callW_of tab 200 (by kernel_rfl)
end Zc28
end
section
set_option maxHeartbeats 4000000
namespace Zc28
open Go Zv Zs
abbrev eI (n:Int):D:=.int .i64 n
abbrev eIs (l:List Int):D:=.lst (l.map eI)
theorem iaI {l:List Int} {n:Nat} {x:Int} (hx:l[n]? = some x):ia 1 (.d (.lst (l.map eI))) (.d (.int .i64 (n:Int)))=some (.fp (eI x) 0):=ia_map (f:=eI) .i64 hx rfl
theorem get_of_lt {α:Type} {l:List α} {n:Nat} (h:n<l.length):∃ x,l[n]? = some x:=⟨l[n],List.getElem?_eq_getElem h⟩
theorem okEs_map {α:Type} {E:Nat→ET} {t:ET} {enc:α→D} (H:∀ x,ok E t x→∃ a,x=enc a):∀ {l:List D},okEs E t l→∃ xs:List α,l=xs.map enc
 | [],_=>⟨[],rfl⟩
 |x::l,h=>by
  simp only[okEs] at h
  obtain ⟨a,rfl⟩:=H x h.1
  obtain ⟨xs,rfl⟩:=okEs_map H h.2
  exact⟨a::xs,rfl⟩
theorem okI {x:D} (h:ok (EE es) (.one (.i .i64)) x):∃ a,x=eI a:=by
 obtain ⟨n,rfl,_⟩:=ok_i h;exact⟨n,rfl⟩
structure Ts where
 path:List Int
 con:Bool
 num:Int
 next:List Int
 row:Int
abbrev eT (t:Ts):D:=.agg [eIs t.path,.bool t.con,eI t.num,eIs t.next,eI t.row]
abbrev eTs (l:List Ts):D:=.lst (l.map eT)
theorem iaT {l:List Ts} {n:Nat} {x:Ts} (hx:l[n]? = some x):ia 5 (.d (.lst (l.map eT))) (.d (.int .i64 (n:Int)))=some (.fp (eT x) 0):=ia_map (f:=eT) .i64 hx rfl
inductive Vl where
 |mk (m c:Int) (qs:List Vl)
mutual
def eV:Vl→D
 | .mk m c qs=>.agg [.int .i64 m,.int .i64 c,.lst (eVL qs)]
def eVL:List Vl→List D
 | []=>[]
 |p::r=>eV p::eVL r
end
def argV:Vl→List Vl | .mk _ _ qs=>qs
structure Light (l:List Ts):Prop where
 len:l.length≤4096
 ts:∀ t,t ∈ l→t.path.length≤110∧t.next.length≤40
end Zc28
end
section
set_option maxHeartbeats 4000000
namespace Zc28
open Go Zv Zs
def getI {α:Type} (l:List α) (i:Int):Option α:=if 0≤i then l[i.toNat]? else none
theorem getI_nat {α:Type} (l:List α) (n:Nat):getI l (n:Int)=l[n]? := by
 unfold getI
 rw[if_pos (by omega)];rfl
def atG:List Int→Vl→List Vl→Option Vl
 | [],x,_=>some x
 |i::p,_,v=>match getI v i with
  |none=>none
  |some y=>atG p y (argV y)
def atR (p:List Int) (v:List Vl):Option Vl:=match p with
 | []=>none
 |i::p=>match getI v i with
  |none=>none
  |some y=>atG p y (argV y)
theorem drop_at {α:Type} {l:List α} {n:Nat} {x:α} (h:l[n]? = some x):l.drop n=x::l.drop (n+1):=by
 obtain ⟨hn,rfl⟩:=List.getElem?_eq_some_iff.1 h
 exact List.drop_eq_getElem_cons hn
structure ZX (x:Vl) (X:V):Prop where
 ld1:∀ n r nx,ld true 3 ⟨(n,.arr 3 [X])::r,nx⟩ (.ptr n 1 0 0)=some X
 st1:stor X=true
 cl1:X.cells.length=3
 fin:∀ (h:Hp) (o:Nat × Ob) (m:Nat) (b:Bool),finS h ⟨o::h.objs,m⟩ [X,.d (.bool b)]=some (.tup [.d (eV x),.d (.bool b)],h)
end Zc28
end
section
set_option maxHeartbeats 4000000
namespace Zc28
open Go Zv Zs
inductive Sp where
 |R (row:Int)
 |E
 |G (n:Int)
end Zc28
end
section
set_option maxHeartbeats 4000000
namespace Zc28
open Go Zv Zs
def cnt (M:List Bool):Nat:=M.countP id
theorem set_grow:∀ {M:List Bool} {k:Nat},M[k]? = some false→cnt M+1=cnt (M.set k true)
 | [],k,h=>by cases h
 |b::M,0,h=>by
  have hb:b=false:=by simpa using h
  subst hb;simp[cnt]
 |b::M,k+1,h=>by
  have ih:=set_grow (M:=M) (k:=k) (by simpa using h)
  unfold cnt at ih ⊢
  rw[List.set_cons_succ,List.countP_cons,List.countP_cons];omega
abbrev bV (b:Bool):V:=.d (.bool b)
theorem ia_own {es n tot len j:Nat} (k:IntKind) (h:j<len):ia es (.own n es tot 0 len) (.d (.int k (j:Int)))=some (.ptr n tot j 0):=by
 simp[ia,ixOf_nat,h]
theorem ld_bit {H:Hp} {a:Nat} {M:List Bool} {j L:Nat} {b:Bool} (hr:H.row a L=some (1,M.map bV)) (hb:M[j]? = some b):ld false 1 H (.ptr a L j 0)=some (bV b):=by
 rw[ld_one,hr]
 simp[hb,V.cells,D.cells]
section
variable (l:List (Nat × Ob)) (a q:Nat)
end
end Zc28
end
section
set_option maxHeartbeats 4000000
namespace Zc28
open Go Zv Zs
end Zc28
end
section
set_option maxHeartbeats 4000000
namespace Zc28
open Go Zv Zs
abbrev zC:V:=.agg [.tl [] (some true)]
def hC (h:Hp) (s:List Ts) (q:Nat):Hp:=if s=[] then ⟨(h.next+1,.arr 1 [zC])::(h.next,.arr 1 [zC])::h.objs,h.next+1+1⟩ else
 ⟨(h.next+3,.arr 5 ((s.map eT).map .d))::(h.next+1,.arr 1 [.own (h.next+3) 5 s.length 0 s.length])::(h.next,.arr 1 [zC])::h.objs,q⟩
theorem app_0 (x:D) (hx:x.cells.length=5) (r:List (Nat × Ob)) (q:Nat) (nl:Option Bool):app 5 72 ⟨r,q⟩ (.tl [] nl) (.tl [.d x] (some false))=some (.own q 5 1 0 1,⟨(q,.arr 5 [.d x])::r,q+1⟩):=by
 simp[app,elems,allV,roomB,Hp.alloc,stor,V.cells,hx,norm_d]
theorem ld_z (n:Nat) (r:List (Nat × Ob)) (q:Nat):ld true 1 ⟨(n,.arr 1 [zC])::r,q⟩ (.ptr n 1 0 0)=some zC:=by simp[ld,row_hd]
section
variable (h:Hp) (o:Ob) (n q:Nat) (z:V)
end
end Zc28
end
section
set_option maxHeartbeats 4000000
namespace Zc28
open Go Zv Zs
end Zc28
end
section
set_option maxHeartbeats 4000000
namespace Zc28
open Go Zv Zs
end Zc28
end
section
set_option maxHeartbeats 4000000
namespace Zc28
open Go Zv Zs
end Zc28
end
section
set_option maxHeartbeats 4000000
namespace Zc28
open Go Zv Zs
end Zc28
end
section
set_option maxHeartbeats 4000000
namespace Zc28
open Go Zv Zs
end Zc28
end
section
set_option maxHeartbeats 4000000
namespace Zc28
open Go Zv Zs
section
variable (a:Nat) (L0:List (Nat × Ob)) (clo:V) (n:Nat)
def hW (M:List Bool):Option (List V × Nat)→Hp
 |none=>⟨(a+3,.arr 1 [clo])::(a+2,.arr 1 [.tl [] (some true)])::(a+1,.arr 1 [.own a 1 n 0 n])::(a,.arr 1 (M.map bV))::L0,a+4⟩
 |some (els,k)=>⟨(a+4,.arr 5 els)::(a+3,.arr 1 [clo])::(a+2,.arr 1 [.own (a+4) 5 els.length 0 k])::(a+1,.arr 1 [.own a 1 n 0 n])::(a,.arr 1 (M.map bV))::L0,a+5⟩
end
end Zc28
end
section
set_option maxHeartbeats 4000000
namespace Zc28
open Go Zv Zs
end Zc28
end
section
set_option maxHeartbeats 4000000
namespace Zc28
open Go Zv Zs
end Zc28
end
section
set_option maxHeartbeats 4000000
namespace Zc28
open Go Zv Zs
end Zc28
end
