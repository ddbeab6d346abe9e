/-
  Parts of the proof.
-/
import Derived.Test.YtmhbpocjmaacpaaZwOpA
import Derived.Laws.World
import Derived.ChangeKeysEq
import Derived.Laws.Tables
import Derived.Laws.MakeOwn
import Derived.Laws.Append
import Derived.Tactics
import Derived.Orders
set_option linter.unusedSimpArgs false
set_option linter.unusedVariables false
section
namespace Zv
open Go
section
variable {P:Program} {g:G} {w:World}
theorem add_none (b p n:Nat):(⟨b,p,none⟩:Addr).add n=⟨b,p+n,none⟩:=by
 unfold Addr.add
 split
 ·rename_i h;subst h;rfl
 ·rfl
theorem flat_len {α β:Type} {f:α→List β} {es:Nat}:∀ {l:List α},(∀ x,x ∈ l→(f x).length=es)→(l.flatMap f).length=l.length*es
 | [],_=>by simp
 |x::l,h=>by
  rw[List.flatMap_cons,List.length_append,flat_len (fun y hy=>h y (by simp[hy])),h x (by simp),List.length_cons,Nat.add_mul]
  omega
theorem flat_drop {α β:Type} {f:α→List β} {es:Nat}:∀ {l:List α} (k:Nat),(∀ x,x ∈ l→(f x).length=es)→(l.flatMap f).drop (k*es)=(l.drop k).flatMap f
 |l,0,_=>by simp
 | [],k+1,_=>by simp
 |x::l,k+1,h=>by
  rw[List.flatMap_cons,List.drop_succ_cons,←flat_drop k (fun y hy=>h y (by simp[hy])),List.drop_append]
  have e:(f x).length=es:=h x (by simp)
  rw[List.drop_of_length_le (by rw[e,Nat.add_mul];omega),List.nil_append,e]
  congr 1
  rw[Nat.add_mul];omega
theorem flat_take {α β:Type} {f:α→List β} {es:Nat}:∀ {l:List α} (k:Nat),(∀ x,x ∈ l→(f x).length=es)→(l.flatMap f).take (k*es)=(l.take k).flatMap f
 |l,0,_=>by simp
 | [],k+1,_=>by simp
 |x::l,k+1,h=>by
  rw[List.flatMap_cons,List.take_succ_cons,List.flatMap_cons,←flat_take k (fun y hy=>h y (by simp[hy])),List.take_append]
  have e:(f x).length=es:=h x (by simp)
  rw[List.take_of_length_le (by rw[e,Nat.add_mul];omega),e]
  congr 2
  rw[Nat.add_mul];omega
theorem flat_get {α β:Type} {f:α→List β} {es:Nat} {l:List α} {k:Nat} {x:α} (h:∀ x,x ∈ l→(f x).length=es) (hk:l[k]? = some x):((l.flatMap f).drop (k*es)).take es=f x:=by
 rw[flat_drop k h]
 have hd:l.drop k=x::l.drop (k+1):=by
  have hlt:k<l.length:=by
   rcases Nat.lt_or_ge k l.length with h' | h'
   ·exact h'
   ·rw[List.getElem?_eq_none h'] at hk;cases hk
  rw[List.drop_eq_getElem_cons hlt]
  rw[List.getElem?_eq_getElem hlt] at hk
  cases hk;rfl
 rw[hd,List.flatMap_cons]
 have e:(f x).length=es:=h x (List.mem_of_getElem? hk)
 rw[List.take_append,←e]
 simp
theorem At.drop {φ:Nat→Option Obj} {b p:Nat} {vs:List Value} (h:At φ b p vs) (k:Nat):At φ b (p+k) (vs.drop k):=by
 intro j v hj
 rw[List.getElem?_drop] at hj
 have:=h (k+j) v hj
 rwa [←Nat.add_assoc] at this
theorem At.take {φ:Nat→Option Obj} {b p:Nat} {vs:List Value} (h:At φ b p vs) (k:Nat):At φ b p (vs.take k):=by
 intro j v hj
 rw[List.getElem?_take] at hj
 split at hj
 ·exact h j v hj
 ·cases hj
theorem run_sizeOf' {t:TypeId} (h:(P.info? t).isSome=true):(Go.sizeOf t).run P w=.ok (P.cellsOf t) w:=by
 obtain ⟨i,hi⟩:=Option.isSome_iff_exists.mp h
 exact run_sizeOf w hi
theorem mem_of_get {α:Type} {l:List α} {k:Nat} {x:α} (h:l[k]? = some x):x ∈ l:=List.mem_of_getElem? h
theorem lt_of_get {α:Type} {l:List α} {k:Nat} {x:α} (h:l[k]? = some x):k<l.length:=by
 rcases Nat.lt_or_ge k l.length with h' | h'
 ·exact h'
 ·rw[List.getElem?_eq_none h'] at h;cases h
theorem indexAt_run {t e:TypeId} (ht:P.underlying t=some (.slice e)) (he:(P.info? e).isSome=true) (a:Addr) (len cap:Nat) (k:IntKind) (j:Nat) (hj:j<len) :
  (Instr.indexAt t (.slice (some a) len cap) (.int k (j:Int))).run P w=.ok (.pointer (some (a.add (j*P.cellsOf e)))) w:=by
 have h2:(0:Int)≤(j:Int)∧(j:Int)<(len:Int):=by omega
 simp[Instr.indexAt,asIntOf,run_underlying ht,run_sizeOf' he,h2,hj]
theorem ia_ok {t e:TypeId} {es:Nat} {x y z:V} {a b:Value} (ht:P.underlying t=some (.slice e)) (he:(P.info? e).isSome=true) (hs:P.cellsOf e=es)
  (h:ia es x y=some z) (ha:Rep g x a) (hb:Rep g y b):Gives P g w (Instr.indexAt t a b) z:=by
 unfold ia at h
 split at h
 ·rename_i l
  simp only[Option.bind_eq_some_iff] at h
  obtain ⟨j,hj,x,hx,h⟩:=h
  obtain ⟨k,rfl⟩:=ixOf_ok hj hb
  have hd:=ha.dI
  clear ha
  cases hd with | lst _ es0 cap q vs hes hc hr hz=>
  split at h
  ·rename_i hce
   cases h
   have h0:es0=es:=by rw[←hes x (mem_of_get hx),hce]
   subst h0
   rcases hz with hz | ⟨b',p,rfl,hat⟩
   ·subst hz;simp at hx
   ·refine ⟨_,indexAt_run ht he _ _ _ k j (lt_of_get hx),?_⟩
    rw[add_none,hs]
    refine .fp x 0 b' (p+j*es0) ((vs.drop (j*es0)).take es0) ?_ ((hat.drop _).take _)
    have hq:=(hr.drop (j*es0)).take es0
    rwa [flat_get hes hx] at hq
  ·cases h
 ·rename_i l nl
  simp only[Option.bind_eq_some_iff] at h
  obtain ⟨j,hj,x,hx,y',hy,h⟩:=h
  obtain ⟨k,rfl⟩:=ixOf_ok hj hb
  cases ha with | tl _ _ es0 q vs hes hr hz hn hf=>
  split at h
  ·rename_i hce
   cases h
   have h0:es0=es:=by rw[←hes x (mem_of_get hx),←toD_len hy,hce]
   subst h0
   rcases hz with hz | ⟨b',p,rfl,hat⟩
   ·subst hz;simp at hx
   ·refine ⟨_,indexAt_run ht he _ _ _ k j (lt_of_get hx),?_⟩
    rw[add_none,hs]
    refine .fp y' 0 b' (p+j*es0) ((vs.drop (j*es0)).take es0) ?_ ((hat.drop _).take _)
    have hq:=(hr.drop (j*es0)).take es0
    rw[flat_get hes hx] at hq
    exact hq.toDs (toD_cells hy) (fun u hu=>hf u (List.mem_of_mem_drop (List.mem_of_mem_take hu)))
  ·cases h
 ·rename_i n e' tot off len
  simp only[Option.bind_eq_some_iff] at h
  obtain ⟨j,hj,h⟩:=h
  obtain ⟨k,rfl⟩:=ixOf_ok hj hb
  split at h
  ·rename_i hlt
   cases h
   obtain ⟨hlt,hee⟩:=hlt
   cases ha with | own _ _ _ _ _ cap q hes hN hB hz hl hto hc hsz=>
   refine ⟨_,indexAt_run ht he _ _ _ k j hlt,?_⟩
   rcases hz with hz | rfl
   ·omega
   ·rw[add_none,hs,←hee,←hes]
    have e1:(g.μ n tot).o+off*(g.μ n tot).es+j*(g.μ n tot).es=(g.μ n tot).o+(off+j)*(g.μ n tot).es+0:=by rw[Nat.add_mul];omega
    rw[e1]
    exact .ptr n tot (off+j) 0 hN hB
  ·cases h
 ·cases h
theorem ixS_ok {t:TypeId} {x y z:V} {a b:Value} (ht:P.underlying t=some .string) (h:ixS x y=some z) (ha:Rep g x a) (hb:Rep g y b):Gives P g w (Instr.index t a b) z:=by
 unfold ixS at h
 split at h
 ·rename_i s
  obtain rfl:=ha.strI
  simp only[Option.bind_eq_some_iff] at h
  obtain ⟨j,hj,h⟩:=h
  obtain ⟨k,rfl⟩:=ixOf_ok hj hb
  split at h
  ·rename_i hlt
   cases h
   refine ⟨.int .u8 (s[j]'hlt).toNat,?_,.d _ _ (.int _ _)⟩
   simp[Instr.index,asIntOf,run_underlying ht,hlt]
  ·cases h
 ·cases h
theorem fa_ok {t:TypeId} {fs:Array Field} {f:Field} {i off:Nat} {x z:V} {a:Value} (ht:P.underlying t=some (.struct fs)) (hf:fs[i]? = some f) (ho:f.offset=off)
  (hi:(P.info? f.type).isSome=true) (hs:P.cellsOf f.type≠0) (h:fa off x=some z) (ha:Rep g x a):Gives P g w (Instr.fieldAt t a i) z:=by
 have run:∀ q:Addr,(Instr.fieldAt t (.pointer (some q)) i).run P w=.ok (.pointer (some (q.add off))) w:=by
  intro q
  simp[Instr.fieldAt,run_underlying ht,hf,Instr.sureAddr,fieldPlace,run_sizeOf' hi,hs,ho]
 unfold fa at h
 split at h
 ·rename_i x o
  cases h
  cases ha with | fp _ _ b p vs hr hat=>
  refine ⟨_,run _,?_⟩
  rw[add_none,Nat.add_assoc]
  exact .fp x (o+off) b p vs hr hat
 ·rename_i n tot j o
  cases h
  cases ha with | ptr _ _ _ _ hN hB=>
  refine ⟨_,run _,?_⟩
  rw[add_none,Nat.add_assoc]
  exact .ptr n tot j (o+off) hN hB
 ·cases h
theorem partD_ok {φ:Nat→Option Obj} {ag:Bool} {off sz:Nat} {l:List D} {vs:List Value} {y:D} (h:partD ag off sz l=some y) (hr:RepDs φ l vs) :
  ∃ v,RepD φ y v∧(if ag=true then v=.agg ((vs.drop off).take sz).toArray∧off+sz≤vs.length else vs[off]? = some v):=by
 unfold partD at h
 split at h
 ·rename_i hag
  split at h
  ·rename_i hle
   cases h
   exact⟨_,.agg _ _ ((hr.drop off).take sz),by rw[if_pos hag];exact⟨rfl,by rw[hr.length];exact hle⟩⟩
  ·cases h
 ·rename_i hag
  obtain ⟨v,hv,hy⟩:=hr.get h
  exact⟨v,hy,by rw[if_neg hag];exact hv⟩
theorem partV_ok {ag:Bool} {off sz:Nat} {l:List V} {vs:List Value} {y:V} (h:partV ag off sz l=some y) (hr:Reps g l vs) (hf:∀ u,u ∈ vs→leaf u) :
  ∃ v,Rep g y v∧(if ag=true then v=.agg ((vs.drop off).take sz).toArray∧off+sz≤vs.length else vs[off]? = some v):=by
 unfold partV at h
 split at h
 ·rename_i hag
  split at h
  ·rename_i hle
   cases h
   exact⟨_,Rep.mkAgg ((hr.drop off).take sz) (fun u hu=>hf u (List.mem_of_mem_drop (List.mem_of_mem_take hu))),by rw[if_pos hag];exact⟨rfl,by rw[hr.length];exact hle⟩⟩
  ·cases h
 ·rename_i hag
  obtain ⟨v,hv,hy⟩:=hr.get h
  exact⟨v,hy,by rw[if_neg hag];exact hv⟩
def agOf (P:Program) (t:TypeId):Bool:=match P.underlying t with
 |some (.struct _)=>true
 |some (.array _ _)=>true
 |_=>false
theorem run_isAgg' {t:TypeId} (h:(P.underlying t).isSome=true):(isAgg t).run P w=.ok (agOf P t) w:=by
 obtain ⟨d,hd⟩:=Option.isSome_iff_exists.mp h
 simp only[isAgg,Sem.run_bind,run_underlying hd,Result.andThen_ok,agOf,hd]
 cases d<;>rfl
theorem part_run {t:TypeId} {off:Nat} {vs:List Value} {v:Value} (hu:(P.underlying t).isSome=true) (hi:(P.info? t).isSome=true)
  (h:if agOf P t=true then v=.agg ((vs.drop off).take (P.cellsOf t)).toArray∧off+P.cellsOf t≤vs.length else vs[off]? = some v) :
  (part t vs.toArray off).run P w=.ok v w:=by
 simp only[part,Sem.run_bind,run_isAgg' hu,Result.andThen_ok]
 split at h
 ·rename_i hag
  obtain ⟨rfl,hle⟩:=h
  rw[if_pos hag]
  simp only[Sem.run_bind,run_sizeOf' hi,Result.andThen_ok,Sem.run_pure]
  congr 2
  apply Array.ext'
  simp[List.extract_eq_take_drop]
 ·rename_i hag
  rw[if_neg hag]
  simp[h]
theorem fld_ok {t:TypeId} {fs:Array Field} {f:Field} {i off sz:Nat} {ag:Bool} {x z:V} {a:Value} (ht:P.underlying t=some (.struct fs)) (hf:fs[i]? = some f) (ho:f.offset=off)
  (hu:(P.underlying f.type).isSome=true) (hi:(P.info? f.type).isSome=true) (hag:agOf P f.type=ag) (hs:P.cellsOf f.type=sz) (h:fld ag off sz x=some z) (ha:Rep g x a) :
  Gives P g w (Instr.field t a i) z:=by
 subst ho hag hs
 have run:∀ (vs:List Value) (v:Value),(if agOf P f.type=true then v=.agg ((vs.drop f.offset).take (P.cellsOf f.type)).toArray∧f.offset+P.cellsOf f.type≤vs.length else vs[f.offset]? = some v) →
   (Instr.field t (.agg vs.toArray) i).run P w=.ok v w:=by
  intro vs v hv
  simp only[Instr.field,Sem.run_bind,run_underlying ht,Result.andThen_ok,hf,asAgg,Sem.run_pure]
  exact part_run hu hi hv
 unfold fld at h
 split at h
 ·rename_i l
  simp only[Option.map_eq_some_iff] at h
  obtain ⟨y,hy,rfl⟩:=h
  have hd:=ha.dI
  clear ha
  cases hd with | agg _ vs hr=>
  obtain ⟨v,hv,he⟩:=partD_ok hy hr
  exact⟨v,run vs v he,.d _ _ hv⟩
 ·rename_i l
  cases ha with | agg _ vs hr hfl=>
  obtain ⟨v,hv,he⟩:=partV_ok h hr hfl
  exact⟨v,run vs v he,hv⟩
 ·cases h
end
end Zv
end
section
namespace Zv
open Go
section
variable {P:Program} {g:G} {w:World}
def RepO (g:G):Option V→Option Value→Prop
 |none,none=>True
 |some x,some a=>Rep g x a
 |_,_=>False
theorem bound_run {x:V} {a:Value} {n y:Nat} (code:BoundsCode) (h:ixOf x=some n) (ha:Rep g x a) (hn:n≤y):(Instr.sliceBound a y code).run P w=.ok n w:=by
 obtain ⟨k,rfl⟩:=ixOf_ok h ha
 have h2:(0:Int)≤(n:Int)∧(n:Int)≤(y:Int):=by omega
 simp[Instr.sliceBound,asIntOf,h2,hn]
theorem bounds_run (b:Bool) {len cap l h:Nat} {lo hi:Option V} {alo ahi:Option Value} (hh:bnd len hi=some h) (hl:bnd 0 lo=some l) (h1:l≤h) (h2:h≤cap)
  (rlo:RepO g lo alo) (rhi:RepO g hi ahi):(Instr.sliceBounds b len cap alo ahi none).run P w=.ok (l,h,cap) w:=by
 cases hi with
 |none=>
  cases ahi with
  |some _=>exact rhi.elim
  |none=>
   cases hh
   cases lo with
   |none=>cases alo with
    |some _=>exact rlo.elim
    |none=>cases hl;rfl
   |some x=>cases alo with
    |none=>exact rlo.elim
    |some a=>
     simp only[Instr.sliceBounds,Sem.run_bind,Sem.run_pure,Result.andThen_ok]
     rw[bound_run _ hl rlo h1]
     rfl
 |some y=>
  cases ahi with
  |none=>exact rhi.elim
  |some c=>
   have e:=bound_run (P:=P) (w:=w) (if b=true then .sliceAcap else .sliceAlen) hh rhi h2
   cases lo with
   |none=>cases alo with
    |some _=>exact rlo.elim
    |none=>
     cases hl
     simp only[Instr.sliceBounds,Sem.run_bind,Sem.run_pure,Result.andThen_ok,e]
   |some x=>cases alo with
    |none=>exact rlo.elim
    |some a=>
     simp only[Instr.sliceBounds,Sem.run_bind,Sem.run_pure,Result.andThen_ok,e]
     rw[bound_run _ hl rlo h1]
     rfl
theorem bounds3_run {len cap l h m:Nat} {lo hi mx:Option V} {alo ahi amx:Option Value} (hh:bnd len hi=some h) (hl:bnd 0 lo=some l) (hm:bnd len mx=some m) (hs:hi.isSome=true) (hs2:mx.isSome=true)
  (h1:l≤h) (h2:h≤m) (h3:m≤cap) (rlo:RepO g lo alo) (rhi:RepO g hi ahi) (rmx:RepO g mx amx):(Instr.sliceBounds true len cap alo ahi amx).run P w=.ok (l,h,m) w:=by
 cases mx with
 |none=>cases hs2
 |some z=>cases amx with
  |none=>exact rmx.elim
  |some c=>
   cases hi with
   |none=>cases hs
   |some y=>cases ahi with
    |none=>exact rhi.elim
    |some d=>
     have e1:=bound_run (P:=P) (w:=w) (y:=cap) .slice3Acap hm rmx h3
     have e2:=bound_run (P:=P) (w:=w) (y:=m) .slice3B hh rhi h2
     cases lo with
     |none=>cases alo with
      |some _=>exact rlo.elim
      |none=>
       cases hl
       simp[Instr.sliceBounds,e1,e2]
     |some x=>cases alo with
      |none=>exact rlo.elim
      |some a=>
       have e3:=bound_run (P:=P) (w:=w) (y:=h) .slice3C hl rlo h1
       simp[Instr.sliceBounds,e1,e2,e3]
theorem slcS_ok {t:TypeId} {x z:V} {lo hi:Option V} {a:Value} {alo ahi:Option Value} (ht:P.underlying t=some .string) (h:slcS x lo hi=some z) (ha:Rep g x a) (rlo:RepO g lo alo) (rhi:RepO g hi ahi) :
  Gives P g w (Instr.sliceAt t a alo ahi none) z:=by
 unfold slcS at h
 split at h
 ·rename_i s
  obtain rfl:=ha.strI
  simp only[Option.bind_eq_some_iff] at h
  obtain ⟨m,hm,l,hl,h⟩:=h
  split at h
  ·rename_i hle
   cases h
   have e:=bounds_run (P:=P) (w:=w) (g:=g) false hm hl hle.1 hle.2 rlo rhi
   refine ⟨.string (s.extract l m),?_,.d _ _ (.str _)⟩
   simp[Instr.sliceAt,Instr.slice,run_underlying ht,e]
  ·cases h
 ·cases h
theorem slice_run {t e:TypeId} (ht:P.underlying t=some (.slice e)) (he:(P.info? e).isSome=true) (q:Option Addr) {len cap l h m:Nat} {alo ahi amx:Option Value}
  (hb:(Instr.sliceBounds true len cap alo ahi amx).run P w=.ok (l,h,m) w) :
  (Instr.sliceAt t (.slice q len cap) alo ahi amx).run P w=.ok (.slice (if m=l then q else q.map (·.add (l*P.cellsOf e))) (h - l) (m - l)) w:=by
 simp[Instr.sliceAt,Instr.slice,run_underlying ht,hb,run_sizeOf' he]
theorem allD_iff {es:Nat} {l:List D} (h:allD es l=true):∀ x,x ∈ l→x.cells.length=es:=by
 unfold allD at h
 intro x hx
 have:=List.all_eq_true.1 h x hx
 simpa using this
theorem allV_iff {es:Nat} {l:List V} (h:allV es l=true):∀ x,x ∈ l→x.cells.length=es:=by
 unfold allV at h
 intro x hx
 have:=List.all_eq_true.1 h x hx
 simpa using this
theorem sub_mem {α:Type} {l:List α} {a b:Nat} {x:α} (h:x ∈ (l.take a).drop b):x ∈ l:=List.mem_of_mem_take (List.mem_of_mem_drop h)
theorem flat_sub {α β:Type} {f:α→List β} {es:Nat} {l:List α} (a b:Nat) (h:∀ x,x ∈ l→(f x).length=es):((l.take a).drop b).flatMap f=((l.flatMap f).take (a*es)).drop (b*es):=by
 rw[flat_take a h,flat_drop b (fun x hx=>h x (List.mem_of_mem_take hx))]
theorem flat_d (l:List D):(l.map V.d).flatMap V.cells=(l.flatMap D.cells).map V.d:=by
 induction l with
 |nil=>rfl
 |cons x l ih=>simp only[List.map_cons,List.flatMap_cons,ih,List.map_append];rfl
theorem len_sub {α:Type} {l:List α} {a b:Nat} (h:a≤l.length):((l.take a).drop b).length=a - b:=by
 rw[List.length_drop,List.length_take,Nat.min_eq_left h]
theorem slc_ok {t e:TypeId} {es:Nat} {x z:V} {lo hi:Option V} {a:Value} {alo ahi:Option Value} (ht:P.underlying t=some (.slice e)) (he:(P.info? e).isSome=true) (hs:P.cellsOf e=es)
  (h:slc es x lo hi=some z) (ha:Rep g x a) (rlo:RepO g lo alo) (rhi:RepO g hi ahi):Gives P g w (Instr.sliceAt t a alo ahi none) z:=by
 unfold slc at h
 split at h
 ·rename_i xs
  simp only[Option.bind_eq_some_iff] at h
  obtain ⟨m,hm,l,hl,h⟩:=h
  have hd:=ha.dI
  clear ha
  cases hd with | lst _ es0 cap q vs hes hc hr hz=>
  split at h
  ·rename_i hle
   obtain ⟨h1,h2,h3⟩:=hle
   cases h
   refine ⟨_,slice_run ht he q (bounds_run (P:=P) (w:=w) (g:=g) true hm hl h1 (Nat.le_trans h2 hc) rlo rhi),?_⟩
   rw[hs,show m - l=((xs.take m).drop l).length from (len_sub h2).symm]
   refine .d _ _ (.lst _ es (cap - l) _ ((vs.take (m*es)).drop (l*es)) (fun x hx=>allD_iff h3 x (sub_mem hx)) (by rw[len_sub h2];omega) ?_ ?_)
   ·rw[flat_sub m l (allD_iff h3)]
    exact (hr.take _).drop _
   ·by_cases hemp:(xs.take m).drop l=[]
    ·exact .inl hemp
    ·right
     have hpos:l<m:=by
      rcases Nat.lt_or_ge l m with h' | h'
      ·exact h'
      ·exact absurd (List.drop_of_length_le (by rw[List.length_take];omega)) hemp
     rcases hz with hz | ⟨b',p,rfl,hat⟩
     ·subst hz;simp at hemp
     ·refine ⟨b',p+l*es,?_,((hat.take _).drop _)⟩
      rw[if_neg (by omega)]
      simp[add_none]
  ·cases h
 ·rename_i xs nl
  simp only[Option.bind_eq_some_iff] at h
  obtain ⟨m,hm,l,hl,h⟩:=h
  cases ha with | tl _ _ es0 q vs hes hr hz hn hf=>
  split at h
  ·rename_i hle
   obtain ⟨h1,h2,h3⟩:=hle
   subst h2
   cases h
   refine ⟨_,slice_run ht he q (bounds_run (P:=P) (w:=w) (g:=g) true hm hl h1 (Nat.le_refl _) rlo rhi),?_⟩
   rw[hs,show xs.length - l=(xs.drop l).length from (List.length_drop).symm]
   refine .tl _ _ es _ (vs.drop (l*es)) (fun x hx=>allV_iff h3 x (List.mem_of_mem_drop hx)) ?_ ?_ ?_ (fun u hu=>hf u (List.mem_of_mem_drop hu))
   ·rw[←flat_drop l (allV_iff h3)]
    exact hr.drop _
   ·by_cases hemp:xs.drop l=[]
    ·exact .inl hemp
    ·right
     have hpos:l<xs.length:=by
      rcases Nat.lt_or_ge l xs.length with h' | h'
      ·exact h'
      ·exact absurd (List.drop_of_length_le h') hemp
     rcases hz with hz | ⟨b',p,rfl,hat⟩
     ·subst hz;simp at hemp
     ·refine ⟨b',p+l*es,?_,hat.drop _⟩
      rw[if_neg (by omega)]
      simp[add_none]
   ·intro b hb
    rw[hn b hb]
    split
    ·rfl
    ·simp
  ·cases h
 ·rename_i n e' tot off len
  simp only[Option.bind_eq_some_iff] at h
  obtain ⟨m,hm,l,hl,h⟩:=h
  split at h
  ·rename_i hle
   obtain ⟨h1,h2,h3⟩:=hle
   cases h
   cases ha with | own _ _ _ _ _ cap q hes hN hB hz hlc hto hc hsz=>
   refine ⟨_,slice_run ht he (some q) (bounds_run (P:=P) (w:=w) (g:=g) true hm hl h1 (Nat.le_trans h2 hlc) rlo rhi),?_⟩
   rw[hs]
   have hsome:(if cap=l then some q else (some q).map (·.add (l*es)))=some (if cap=l then q else q.add (l*es)):=by split<;>rfl
   rw[hsome]
   refine .own n e' tot (off+l) (m - l) (cap - l) _ hes hN hB ?_ (by omega) (by omega) (by omega) ?_
   ·by_cases hcl:cap=l
    ·left;omega
    ·right
     rcases hz with hz | rfl
     ·omega
     ·rw[if_neg hcl,add_none,hes,←h3,Nat.add_mul,Nat.add_assoc]
   ·rw[show off+l+(cap - l)=off+cap from by omega]
    exact hsz
  ·cases h
 ·cases h
theorem slc3_ok {t e:TypeId} {es:Nat} {x z:V} {lo hi mx:Option V} {a:Value} {alo ahi amx:Option Value} (ht:P.underlying t=some (.slice e)) (he:(P.info? e).isSome=true) (hs:P.cellsOf e=es)
  (hi1:hi.isSome=true) (mx1:mx.isSome=true)
  (h:slc3 es x lo hi mx=some z) (ha:Rep g x a) (rlo:RepO g lo alo) (rhi:RepO g hi ahi) (rmx:RepO g mx amx):Gives P g w (Instr.sliceAt t a alo ahi amx) z:=by
 unfold slc3 at h
 split at h
 ·rename_i xs
  simp only[Option.bind_eq_some_iff] at h
  obtain ⟨m,hm,l,hl,k,hk,h⟩:=h
  have hd:=ha.dI
  clear ha
  cases hd with | lst _ es0 cap q vs hes hc hr hz=>
  split at h
  ·rename_i hle
   obtain ⟨h1,h2,rfl,h3⟩:=hle
   cases h
   refine ⟨_,slice_run ht he q (bounds3_run (P:=P) (w:=w) (g:=g) hm hl hk hi1 mx1 h1 (Nat.le_refl _) (Nat.le_trans h2 hc) rlo rhi rmx),?_⟩
   rw[hs]
   have hlen:k - l=(((xs.take k).drop l).map V.d).length:=by rw[List.length_map,len_sub h2]
   rw[hlen]
   refine .tl _ _ es _ ((vs.take (k*es)).drop (l*es)) ?_ ?_ ?_ (fun q hq=>by cases hq) (fun u hu=>hr.leaf u (List.mem_of_mem_take (List.mem_of_mem_drop hu)))
   ·intro x hx
    obtain ⟨y,hy,rfl⟩:=List.mem_map.1 hx
    show (y.cells.map V.d).length=es
    rw[List.length_map]
    exact allD_iff h3 y (sub_mem hy)
   ·rw[flat_d,flat_sub k l (allD_iff h3)]
    exact Reps.of_map_d ((hr.take _).drop _)
   ·by_cases hemp:(xs.take k).drop l=[]
    ·exact .inl (by rw[hemp];rfl)
    ·right
     have hpos:l<k:=by
      rcases Nat.lt_or_ge l k with h' | h'
      ·exact h'
      ·exact absurd (List.drop_of_length_le (by rw[List.length_take];omega)) hemp
     rcases hz with hz | ⟨b',p,rfl,hat⟩
     ·subst hz;simp at hemp
     ·refine ⟨b',p+l*es,?_,((hat.take _).drop _)⟩
      rw[if_neg (by omega)]
      simp[add_none]
  ·cases h
 ·rename_i xs nl
  simp only[Option.bind_eq_some_iff] at h
  obtain ⟨m,hm,l,hl,k,hk,h⟩:=h
  cases ha with | tl _ _ es0 q vs hes hr hz hn hf=>
  split at h
  ·rename_i hle
   obtain ⟨h1,h2,rfl,h3⟩:=hle
   cases h
   refine ⟨_,slice_run ht he q (bounds3_run (P:=P) (w:=w) (g:=g) hm hl hk hi1 mx1 h1 (Nat.le_refl _) h2 rlo rhi rmx),?_⟩
   rw[hs]
   have hlen:k - l=((xs.take k).drop l).length:=(len_sub h2).symm
   rw[hlen]
   refine .tl _ _ es _ ((vs.take (k*es)).drop (l*es)) (fun x hx=>allV_iff h3 x (sub_mem hx)) ?_ ?_ ?_ (fun u hu=>hf u (List.mem_of_mem_take (List.mem_of_mem_drop hu)))
   ·rw[flat_sub k l (allV_iff h3)]
    exact (hr.take _).drop _
   ·by_cases hemp:(xs.take k).drop l=[]
    ·exact .inl hemp
    ·right
     have hpos:l<k:=by
      rcases Nat.lt_or_ge l k with h' | h'
      ·exact h'
      ·exact absurd (List.drop_of_length_le (by rw[List.length_take];omega)) hemp
     rcases hz with hz | ⟨b',p,rfl,hat⟩
     ·subst hz;simp at hemp
     ·refine ⟨b',p+l*es,?_,((hat.take _).drop _)⟩
      rw[if_neg (by omega)]
      simp[add_none]
   ·intro b hb
    rw[hn b hb]
    split
    ·rfl
    ·simp
  ·cases h
 ·cases h
theorem fold_set:∀ (v:List Value) (cs:Array Value) (off i:Nat),off+i+v.length≤cs.size →
  ((v.zipIdx i).foldl (fun cs (p:Value × Nat)=>cs.setIfInBounds (off+p.2) p.1) cs).toList=cs.toList.take (off+i)++v++cs.toList.drop (off+i+v.length)
 | [],cs,off,i,h=>by simp
 |c::v,cs,off,i,h=>by
  simp only[List.zipIdx_cons,List.foldl_cons]
  rw[fold_set v _ off (i+1) (by simp at h ⊢; omega)]
  have e:=list_seg_step cs.toList (off+i) c v (by simp at h ⊢; omega)
  simpa [Array.toList_setIfInBounds,Nat.add_assoc] using e
inductive RepParts (g:G) (place:Nat→Option (Nat × Nat)):List (Nat × Nat × V)→List (Nat × Value)→Prop
 |nil:RepParts g place [] []
 |cons (off sz i:Nat) (x:V) (a:Value) (l:List (Nat × Nat × V)) (m:List (Nat × Value)) (hp:place i=some (off,sz)) (h:Rep g x a) (r:RepParts g place l m) :
   RepParts g place ((off,sz,x)::l) ((i,a)::m)
theorem fill_ok {place:Nat→Option (Nat × Nat)}:∀ {l:List (Nat × Nat × V)} {m:List (Nat × Value)} {cs:List V} {vs:Array Value} {zs:List V},RepParts g place l m→Reps g cs vs.toList→(∀ u,u ∈ vs.toList→leaf u) →
  lay cs l=some zs→∃ us:Array Value,Instr.fill place vs m=some us∧Reps g zs us.toList∧∀ u,u ∈ us.toList→leaf u
 | [],_,cs,vs,zs,.nil,hr,hf,h=>by
  simp only[lay] at h;cases h;exact⟨vs,rfl,hr,hf⟩
 |_,_,cs,vs,zs,.cons off sz i x a l m hp hx r,hr,hf,h=>by
  simp only[lay] at h
  split at h
  ·rename_i hc
   obtain ⟨h1,h2,h3⟩:=hc
   obtain ⟨hcr,hcf⟩:=hx.cells h1
   have hsz:a.cells.size=sz:=by have:=hcr.length;rw[Array.length_toList] at this;omega
   have hvs:vs.size=cs.length:=by have:=hr.length;rw[Array.length_toList] at this;exact this
   simp only[Instr.fill,hp]
   have hno:¬ ((decide (a.cells.size≠sz) || decide (off+a.cells.size > vs.size))=true):=by
    simp only[hsz,hvs,ne_eq,not_true_eq_false,decide_false,Bool.false_or,decide_eq_true_eq]
    omega
   rw[if_neg hno]
   have e:(Array.foldl (fun (cs:Array Value) (p:Value × Nat)=>cs.setIfInBounds (off+p.2) p.1) vs a.cells.zipIdx)=(vs.toList.take off++a.cells.toList++vs.toList.drop (off+sz)).toArray:=by
    apply Array.ext'
    rw[←Array.foldl_toList,Array.toList_zipIdx]
    have hle:off+0+a.cells.toList.length≤vs.size:=by rw[Array.length_toList,hsz,hvs];omega
    have:=fold_set a.cells.toList vs off 0 hle
    simp only[Nat.add_zero] at this
    rw[this,Array.length_toList,hsz]
   have hgoal:=fill_ok (place:=place) (vs:=(vs.toList.take off++a.cells.toList++vs.toList.drop (off+sz)).toArray) r (((hr.take off).app hcr).app (hr.drop (off+sz))) (by
    intro u hu
    simp only[List.mem_append] at hu
    rcases hu with (hu | hu) | hu
    ·exact hf u (List.mem_of_mem_take hu)
    ·exact hcf u hu
    ·exact hf u (List.mem_of_mem_drop hu)) h
   rw[←e] at hgoal
   exact hgoal
  ·cases h
theorem build_ok {t:TypeId} {fs:Array Field} {zv:Value} {z:List V} {ps:List (Nat × Nat × V)} {as:Array (Nat × Value)} {y:V} {i:TypeInfo}
  (ht:P.underlying t=some (.struct fs)) (hi:P.info? t=some i) (hz:i.zero=some zv) (hzr:Reps g z zv.cells.toList) (hzf:∀ u,u ∈ zv.cells.toList→leaf u)
  (hfs:∀ f,f ∈ fs.toList→(P.info? f.type).isSome=true) (hp:RepParts g (fun j=>(fs[j]?).map fun f=>(f.offset,P.cellsOf f.type)) ps as.toList)
  (h:(lay z ps).map mkAgg=some y):Gives P g w (Instr.build t as) y:=by
 simp only[Option.map_eq_some_iff] at h
 obtain ⟨zs,hzs,rfl⟩:=h
 have hm:(fs.mapM (fun f:Field=>(do pure (f.offset,←Go.sizeOf f.type):Sem (Nat × Nat)))).run P w=.ok (fs.map fun f=>(f.offset,P.cellsOf f.type)) w:=by
  rw[←Array.toArray_toList (xs:=fs)]
  rw[List.mapM_toArray]
  have:∀ (l:List Field),(∀ f,f ∈ l→(P.info? f.type).isSome=true)→(l.mapM (fun f:Field=>(do pure (f.offset,←Go.sizeOf f.type):Sem (Nat × Nat)))).run P w=.ok (l.map fun f=>(f.offset,P.cellsOf f.type)) w:=by
   intro l
   induction l with
   |nil=>intro _;rfl
   |cons f l ih=>
    intro hl
    rw[List.mapM_cons]
    simp only[Sem.run_bind,run_sizeOf' (hl f (by simp)),Result.andThen_ok,Sem.run_pure,ih (fun q hq=>hl q (by simp[hq]))]
    rfl
  rw[Sem.run_map,this fs.toList hfs]
  simp only[Result.andThen_ok]
  congr 1
  apply Array.ext'
  simp
 obtain ⟨us,hus,hr,hf⟩:=fill_ok (place:=fun j=>(fs[j]?).map fun f=>(f.offset,P.cellsOf f.type)) (vs:=zv.cells) hp hzr hzf hzs
 have hpl:(fun j:Nat=>(fs.map (fun f:Field=>(f.offset,P.cellsOf f.type)))[j]?)=(fun j:Nat=>(fs[j]?).map (fun f:Field=>(f.offset,P.cellsOf f.type))):=by
  funext j
  simp
 have hg:Rep g (mkAgg zs) (.agg us):=by
  have:=Rep.mkAgg hr hf
  simpa using this
 refine ⟨.agg us,?_,hg⟩
 simp only[Instr.build,zeroValue,typeInfo,Sem.run_bind,run_program,Result.andThen_ok,hi,Sem.run_pure,hz,run_underlying ht,hm]
 rw[hpl,hus]
 rfl
def rcDL:D→Value→Bool
 | .bool a,.bool b=>a == b
 | .int k n,.int k' n'=>decide (k=k') && n == n'
 | .str a,.string b=>decide (a=b)
 | .nilp,.pointer none=>true
 | .nilf,.nilFunc=>true
 | .nilm,.map none=>true
 | .lst [],.slice none 0 0=>true
 |_,_=>false
def rcL:V→Value→Bool
 | .d x,v=>rcDL x v
 | .tl [] (some true),.slice none 0 0=>true
 | .clo f [],.func (.func f') a b=>f == f' && a.isEmpty && b.isEmpty
 |_,_=>false
def rcLs:List V→List Value→Bool
 | [],[]=>true
 |x::l,v::vs=>rcL x v && rcLs l vs
 |_,_=>false
def rcDLs:List D→List Value→Bool
 | [],[]=>true
 |x::l,v::vs=>rcDL x v && rcDLs l vs
 |_,_=>false
def rc:V→Value→Bool
 | .d (.agg l),.agg vs=>rcDLs l vs.toList
 | .agg l,.agg vs=>rcLs l vs.toList
 |x,v=>rcL x v
theorem rcDL_ok {φ:Nat→Option Obj} {x:D} {v:Value} (h:rcDL x v=true):RepD φ x v∧leaf v:=by
 unfold rcDL at h
 split at h
 ·simp at h;subst h;exact⟨.bool _,trivial⟩
 ·simp at h;obtain ⟨rfl,rfl⟩:=h;exact⟨.int _ _,trivial⟩
 ·simp at h;subst h;exact⟨.str _,trivial⟩
 ·exact⟨.nilp,trivial⟩
 ·exact⟨.nilf,trivial⟩
 ·exact⟨.nilm,trivial⟩
 ·exact⟨.lst [] 0 0 none [] (by simp) (by simp) .nil (.inl rfl),trivial⟩
 ·cases h
theorem rcL_ok {x:V} {v:Value} (h:rcL x v=true):Rep g x v∧leaf v:=by
 unfold rcL at h
 split at h
 ·exact⟨.d _ _ (rcDL_ok h).1,(rcDL_ok (φ:=g.φ) h).2⟩
 ·exact⟨.tl [] (some true) 0 none [] (by simp) .nil (.inl rfl) (fun q hq=>by cases hq;simp) (by simp),trivial⟩
 ·simp at h;obtain ⟨⟨rfl,rfl⟩,rfl⟩:=h;exact⟨.clo _ [] [] .nil,trivial⟩
 ·cases h
theorem rcDLs_ok {φ:Nat→Option Obj}:∀ {l:List D} {vs:List Value},rcDLs l vs=true→RepDs φ l vs
 | [],[],_=>.nil
 |x::l,v::vs,h=>by
  simp only[rcDLs,Bool.and_eq_true] at h
  exact .cons x l v vs (rcDL_ok h.1).1 (rcDLs_ok h.2) (rcDL_ok (φ:=φ) h.1).2
 | [],_::_,h=>by cases h
 |_::_,[],h=>by cases h
theorem rcLs_ok:∀ {l:List V} {vs:List Value},rcLs l vs=true→Reps g l vs∧∀ u,u ∈ vs→leaf u
 | [],[],_=>⟨.nil,by simp⟩
 |x::l,v::vs,h=>by
  simp only[rcLs,Bool.and_eq_true] at h
  have ih:=rcLs_ok h.2
  refine ⟨.cons x l v vs (rcL_ok h.1).1 ih.1,fun u hu=>?_⟩
  rcases List.mem_cons.1 hu with rfl | hu
  ·exact (rcL_ok (g:=g) h.1).2
  ·exact ih.2 u hu
 | [],_::_,h=>by cases h
 |_::_,[],h=>by cases h
theorem rc_ok {x:V} {v:Value} (h:rc x v=true):Rep g x v:=by
 unfold rc at h
 split at h
 ·have:=rcDLs_ok (φ:=g.φ) h
  exact .d _ _ (by simpa using RepD.agg _ _ this)
 ·have:=rcLs_ok (g:=g) h
  simpa using Rep.agg _ _ this.1 this.2
 ·exact (rcL_ok h).1
end
end Zv
end
section
namespace Zv
open Go
def G.put (g:G) (k tot:Nat) (pl:Pl):G:=
 { φ:=g.φ,μ:=fun n t=>if n=k∧t=tot then pl else g.μ n t,N:=max g.N (k+1),B:=fun n=>if n=k then tot else g.B n,F:=g.F,C:=g.C }
def G.fix (g:G) (b:Nat) (o:Obj):G:={ g with φ:=fun c=>if c=b then some o else g.φ c }
theorem Le.put {g:G} {k tot:Nat} {pl:Pl} (hk:(k<g.N∧(g.B k<tot∨(tot=g.B k∧pl=g.μ k tot)))∨k=g.N):Le g (g.put k tot pl):=by
 refine ⟨fun _ _ h=>h,Nat.le_max_left _ _,fun n hn=>?_,fun n t hn ht=>?_,rfl,rfl⟩
 ·show g.B n≤if n=k then tot else g.B n
  split
  ·rename_i e;subst e
   rcases hk with ⟨_,h | h⟩ | h
   ·omega
   ·omega
   ·omega
  ·exact Nat.le_refl _
 ·show (if n=k∧t=tot then pl else g.μ n t)=g.μ n t
  split
  ·rename_i e
   obtain ⟨rfl,rfl⟩:=e
   rcases hk with ⟨_,h | h⟩ | h
   ·omega
   ·exact h.2
   ·omega
  ·rfl
theorem Rel.put {g:G} {h h':Hp} {w w':World} (R:Rel g h w) (k:Nat) (O:Ob) (pl:Pl)
  (hk:(k<g.N∧(g.B k<O.tot∨(O.tot=g.B k∧pl=g.μ k O.tot)))∨k=g.N) (hnx:h'.next=max g.N (k+1)) (hnd:(h'.objs.map (·.1)).Nodup)
  (hob:∀ m o,h'.get m=some o→(m=k∧o=O)∨(m≠k∧h.get m=some o))
  (hblk:pl.b=w.heap.size∨(∃ n o,h.get n=some o∧pl.b=blk g n o∧∀ m o',h'.get m=some o'→m≠k→m≠n)∨(g.φ pl.b=none∧g.F pl.b=none∧∀ n o,h.get n=some o→blk g n o≠pl.b))
  (hw:∀ b,b<w.heap.size→b≠pl.b→w'.heap[b]? = w.heap[b]?) (hO:ObRep (g.put k O.tot pl) w' k O):Le g (g.put k O.tot pl)∧Rel (g.put k O.tot pl) h' w':=by
 have hle:=Le.put (pl:=pl) hk
 have hφ:g.φ pl.b=none:=by
  rcases hblk with e | ⟨n,o,hn,e,_⟩ | e
  ·cases hp:g.φ pl.b with
   |none=>rfl
   |some o=>
    have:=(Array.getElem?_eq_some_iff.1 (R.fr _ _ hp)).1
    omega
  ·rw[e];exact R.out n o hn
  ·exact e.1
 have hF:g.F pl.b=none:=by
  rcases hblk with e | ⟨n,o,hn,e,_⟩ | e
  ·cases hp:g.F pl.b with
   |none=>rfl
   |some o=>
    have:=(Array.getElem?_eq_some_iff.1 (R.kp _ _ hp).1).1
    omega
  ·rw[e];exact R.kpo n o hn
  ·exact e.2.1
 have hlt:∀ n o,h.get n=some o→blk g n o<w.heap.size:=by
  intro n o hn
  have:=(R.ob n o hn).2.2
  cases o with
  |arr es els=>obtain ⟨c,ty,vs,h1,_⟩:=this;exact (Array.getElem?_eq_some_iff.1 h1).1
  |mp kvs=>obtain ⟨es,cl,h1,_⟩:=this;exact (Array.getElem?_eq_some_iff.1 h1).1
  |lp b e s=>obtain ⟨r,h1,_⟩:=this;exact (Array.getElem?_eq_some_iff.1 h1).1
 have hbk:blk (g.put k O.tot pl) k O=pl.b:=by simp[blk,G.put]
 have hne:∀ m o,h'.get m=some o→m≠k→blk g m o≠pl.b:=by
  intro m o hm hmk
  rcases hob m o hm with ⟨e,_⟩ | ⟨_,hm'⟩
  ·exact absurd e hmk
  ·rcases hblk with e | ⟨n,p,hn,e,hx⟩ | e
   ·have:=hlt m o hm';omega
   ·rw[e];exact R.sep m n o p hm' hn (hx m o hm hmk)
   ·exact e.2.2 m o hm'
 refine ⟨hle,⟨hnx,fun b o hb=>?_,hnd,fun n o hn=>?_,fun n m o p hn hm hnm=>?_,fun n o hn=>?_,fun b o hb=>?_,fun n o hn=>?_⟩⟩
 ·have h1:=R.fr b o hb
  have h2:=(Array.getElem?_eq_some_iff.1 h1).1
  rw[hw b h2 (fun e=>by subst e;rw[show (g.put k O.tot pl).φ=g.φ from rfl,hφ] at hb;cases hb)]
  exact h1
 ·rcases hob n o hn with ⟨rfl,rfl⟩ | ⟨hnk,hn'⟩
  ·exact⟨Nat.lt_of_lt_of_le (Nat.lt_succ_self n) (Nat.le_max_right g.N (n+1)),by simp[G.put],hO⟩
  ·obtain ⟨h1,h2,h3⟩:=R.ob n o hn'
   refine ⟨Nat.lt_of_lt_of_le h1 hle.N,by simp[G.put,hnk,h2],?_⟩
   exact h3.mono hle h1 (by omega) (hw _ (hlt n o hn') (hne n o hn hnk))
 ·rcases hob n o hn with ⟨rfl,rfl⟩ | ⟨hnk,hn'⟩
  ·rcases hob m p hm with ⟨rfl,rfl⟩ | ⟨hmk,hm'⟩
   ·exact absurd rfl hnm
   ·rw[hbk,blk_mono hle (R.ob m p hm').1 (by rw[(R.ob m p hm').2.1];exact Nat.le_refl _)]
    exact fun e=>hne m p hm hmk e.symm
  ·rcases hob m p hm with ⟨rfl,rfl⟩ | ⟨hmk,hm'⟩
   ·rw[hbk,blk_mono hle (R.ob n o hn').1 (by rw[(R.ob n o hn').2.1];exact Nat.le_refl _)]
    exact hne n o hn hnk
   ·rw[blk_mono hle (R.ob n o hn').1 (by rw[(R.ob n o hn').2.1];exact Nat.le_refl _),blk_mono hle (R.ob m p hm').1 (by rw[(R.ob m p hm').2.1];exact Nat.le_refl _)]
    exact R.sep n m o p hn' hm' hnm
 ·rcases hob n o hn with ⟨rfl,rfl⟩ | ⟨hnk,hn'⟩
  ·rw[hbk];exact hφ
  ·rw[blk_mono hle (R.ob n o hn').1 (by rw[(R.ob n o hn').2.1];exact Nat.le_refl _)]
   exact R.out n o hn'
 ·have h1:=R.kp b o hb
  have h2:=(Array.getElem?_eq_some_iff.1 h1.1).1
  rw[hw b h2 (fun e=>by subst e;rw[show (g.put k O.tot pl).F=g.F from rfl,hF] at hb;cases hb)]
  exact h1
 ·rcases hob n o hn with ⟨rfl,rfl⟩ | ⟨hnk,hn'⟩
  ·rw[hbk];exact hF
  ·rw[blk_mono hle (R.ob n o hn').1 (by rw[(R.ob n o hn').2.1];exact Nat.le_refl _)]
   exact R.kpo n o hn'
theorem Rel.fix {g:G} {h:Hp} {w w':World} (R:Rel g h w) (o:Obj) (hb:w'.heap[w.heap.size]? = some o) (hw:∀ b,b<w.heap.size→w'.heap[b]? = w.heap[b]?) :
  Le g (g.fix w.heap.size o)∧Rel (g.fix w.heap.size o) h w':=by
 have hnew:g.φ w.heap.size=none:=by
  cases hp:g.φ w.heap.size with
  |none=>rfl
  |some q=>have:=(Array.getElem?_eq_some_iff.1 (R.fr _ _ hp)).1;omega
 have hle:Le g (g.fix w.heap.size o):=by
  refine ⟨fun b q hq=>?_,Nat.le_refl _,fun _ _=>Nat.le_refl _,fun _ _ _ _=>rfl,rfl,rfl⟩
  show (if b=w.heap.size then some o else g.φ b)=some q
  rw[if_neg (fun e=>by subst e;rw[hnew] at hq;cases hq)]
  exact hq
 have hlt:∀ n o,h.get n=some o→blk g n o<w.heap.size:=by
  intro n o hn
  have:=(R.ob n o hn).2.2
  cases o with
  |arr es els=>obtain ⟨c,ty,vs,h1,_⟩:=this;exact (Array.getElem?_eq_some_iff.1 h1).1
  |mp kvs=>obtain ⟨es,cl,h1,_⟩:=this;exact (Array.getElem?_eq_some_iff.1 h1).1
  |lp b e s=>obtain ⟨r,h1,_⟩:=this;exact (Array.getElem?_eq_some_iff.1 h1).1
 refine ⟨hle,⟨R.nx,fun b q hq=>?_,R.nd,fun n q hn=>?_,fun n m q p hn hm hnm=>R.sep n m q p hn hm hnm,fun n q hn=>?_,fun b q hq=>?_,R.kpo⟩⟩
 ·have hq':(if b=w.heap.size then some o else g.φ b)=some q:=hq
  split at hq'
  ·rename_i e;subst e;cases hq';exact hb
  ·have h1:=R.fr b q hq'
   rw[hw b (Array.getElem?_eq_some_iff.1 h1).1]
   exact h1
 ·obtain ⟨h1,h2,h3⟩:=R.ob n q hn
  exact⟨h1,h2,h3.mono hle h1 (by omega) (hw _ (hlt n q hn))⟩
 ·show (if blk g n q=w.heap.size then some o else g.φ (blk g n q))=none
  rw[if_neg (by have:=hlt n q hn;omega)]
  exact R.out n q hn
 ·have h1:=R.kp b q hq
  have h2:=(Array.getElem?_eq_some_iff.1 h1.1).1
  refine ⟨by rw[hw b h2];exact h1.1,?_⟩
  show (if b=w.heap.size then some o else g.φ b)=none
  rw[if_neg (by omega)]
  exact h1.2
theorem Rel.kill {g:G} {h:Hp} {w:World} (R:Rel g h w) (n:Nat):Rel g (h.kill n) w:=by
 have hg:∀ m o,(h.kill n).get m=some o→h.get m=some o:=by
  intro m o hm
  unfold Hp.get Hp.kill at hm
  rw[look_del m R.nd] at hm
  split at hm
  ·cases hm
  ·exact hm
 exact⟨R.nx,R.fr,(del_keys h.objs n).nodup R.nd,fun m o hm=>R.ob m o (hg m o hm),fun m k o p hm hk hmk=>R.sep m k o p (hg m o hm) (hg k p hk) hmk,fun m o hm=>R.out m o (hg m o hm),R.kp,fun m o hm=>R.kpo m o (hg m o hm)⟩
theorem Rel.world {g:G} {h:Hp} {w w':World} (R:Rel g h w) (hw:∀ b,b<w.heap.size→w'.heap[b]? = w.heap[b]?):Rel g h w':=by
 have hlt:∀ n o,h.get n=some o→blk g n o<w.heap.size:=by
  intro n o hn
  have:=(R.ob n o hn).2.2
  cases o with
  |arr es els=>obtain ⟨c,ty,vs,h1,_⟩:=this;exact (Array.getElem?_eq_some_iff.1 h1).1
  |mp kvs=>obtain ⟨es,cl,h1,_⟩:=this;exact (Array.getElem?_eq_some_iff.1 h1).1
  |lp b e s=>obtain ⟨r,h1,_⟩:=this;exact (Array.getElem?_eq_some_iff.1 h1).1
 refine ⟨R.nx,fun b q hq=>?_,R.nd,fun n q hn=>?_,R.sep,R.out,fun b q hq=>?_,R.kpo⟩
 ·have h1:=R.fr b q hq
  rw[hw b (Array.getElem?_eq_some_iff.1 h1).1];exact h1
 ·obtain ⟨h1,h2,h3⟩:=R.ob n q hn
  exact⟨h1,h2,h3.mono (Le.refl g) h1 (by omega) (hw _ (hlt n q hn))⟩
 ·have h1:=R.kp b q hq
  exact⟨by rw[hw b (Array.getElem?_eq_some_iff.1 h1.1).1];exact h1.1,h1.2⟩
theorem get_alloc {h:Hp} {O:Ob} (m:Nat):(h.alloc O).get m=if m=h.next then some O else h.get m:=rfl
theorem nodup_alloc {g:G} {h:Hp} {w:World} (R:Rel g h w) (O:Ob):((h.alloc O).objs.map (·.1)).Nodup:=by
 show (h.next::h.objs.map (·.1)).Nodup
 rw[List.nodup_cons]
 refine ⟨fun hm=>?_,R.nd⟩
 obtain ⟨⟨k,o⟩,hko,rfl⟩:=List.mem_map.1 hm
 have:=(R.ob h.next o (look_of_mem R.nd hko)).1
 rw[R.nx] at this
 omega
theorem get_set {h:Hp} {n:Nat} {O q:Ob} (hq:h.get n=some q) (m:Nat):(h.set n O).get m=if m=n then some O else h.get m:=look_upd m hq
theorem nodup_set {g:G} {h:Hp} {w:World} (R:Rel g h w) (n:Nat) (O:Ob):((h.set n O).objs.map (·.1)).Nodup:=by
 show ((upd h.objs n O).map (·.1)).Nodup
 rw[upd_keys];exact R.nd
theorem Rel.alloc {g:G} {h:Hp} {w w':World} (R:Rel g h w) (O:Ob) (pl:Pl) (hb:pl.b=w.heap.size) (hw:∀ b,b<w.heap.size→w'.heap[b]? = w.heap[b]?)
  (hO:ObRep (g.put h.next O.tot pl) w' h.next O):Le g (g.put h.next O.tot pl)∧Rel (g.put h.next O.tot pl) (h.alloc O) w':=by
 refine R.put h.next O pl (.inr R.nx) ?_ (nodup_alloc R O) (fun m o hm=>?_) (.inl hb) (fun b hb' _=>hw b hb') hO
 ·show h.next+1=max g.N (h.next+1)
  rw[R.nx];omega
 ·rw[get_alloc] at hm
  split at hm
  ·cases hm;exact .inl ⟨by assumption,rfl⟩
  ·exact .inr ⟨by assumption,hm⟩
theorem Rel.set {g:G} {h:Hp} {w w':World} (R:Rel g h w) {n:Nat} {O q:Ob} (hq:h.get n=some q) (ht:O.tot=q.tot)
  (hw:∀ b,b<w.heap.size→b≠blk g n q→w'.heap[b]? = w.heap[b]?) (hO:ObRep g w' n O):Rel g (h.set n O) w':=by
 obtain ⟨h1,h2,h3⟩:=R.ob n q hq
 have hpl:(g.put n O.tot (g.μ n O.tot)).φ=g.φ∧(g.put n O.tot (g.μ n O.tot))=g:=by
  refine ⟨rfl,?_⟩
  cases g with
  |mk φ μ N B F=>
   simp only[G.put,G.mk.injEq,true_and,and_true]
   refine ⟨?_,by simp at h1;omega,?_⟩
   ·funext a b
    split
    ·rename_i e;rw[e.1,e.2]
    ·rfl
   ·funext a
    split
    ·rename_i e;subst e;rw[ht];exact h2.symm
    ·rfl
 have:=R.put (h':=h.set n O) (w':=w') n O (g.μ n O.tot) (.inl ⟨h1,.inr ⟨by rw[ht,h2],rfl⟩⟩) (by show h.next=max g.N (n+1);rw[R.nx];omega) (nodup_set R n O)
  (fun m o hm=>by
   rw[get_set hq] at hm
   split at hm
   ·cases hm;exact .inl ⟨by assumption,rfl⟩
   ·exact .inr ⟨by assumption,hm⟩)
  (.inr (.inl ⟨n,q,hq,by rw[ht];rfl,fun m _ _ hmk=>hmk⟩)) (fun b hb hne=>hw b hb (by rw[ht] at hne;exact hne)) (by rw[hpl.2];exact hO)
 rw[hpl.2] at this
 exact this.2
def GivesH (P:Program) (g:G) (w:World) (s:Sem Value) (x:V) (h':Hp):Prop:=
 ∃ v w' g',s.run P w=.ok v w'∧Le g g'∧Rel g' h' w'∧Rep g' x v∧Fx w w'
def GivesU (P:Program) (g:G) (w:World) (s:Sem Unit) (h':Hp):Prop:=
 ∃ w' g',s.run P w=.ok () w'∧Le g g'∧Rel g' h' w'∧Fx w w'
theorem Gives.h {P:Program} {g:G} {h:Hp} {w:World} {s:Sem Value} {x:V} (R:Rel g h w) (hg:Gives P g w s x):GivesH P g w s x h:=by
 obtain ⟨v,hr,hx⟩:=hg
 exact⟨v,w,g,hr,Le.refl g,R,hx,Fx.refl w⟩
theorem heap_alloc (w:World) (o:Obj):(w.alloc o).heap[w.heap.size]? = some o∧(∀ b,b<w.heap.size→(w.alloc o).heap[b]? = w.heap[b]?)∧Fx w (w.alloc o):=by
 refine ⟨?_,fun b hb=>?_,⟨rfl,rfl,rfl,?_⟩⟩
 ·show (w.heap.push o)[w.heap.size]? = some o
  simp
 ·show (w.heap.push o)[b]? = w.heap[b]?
  rw[Array.getElem?_push,if_neg (by omega)]
 ·show w.heap.size≤(w.heap.push o).size
  simp
theorem heap_setRow {w:World} {b:Nat} {c c':Array Value} {ty:TypeId} (hb:w.heap[b]? = some (.cells c ty (0,0))) :
  (w.setRow b c').heap[b]? = some (.cells c' ty (0,0))∧(∀ d,d<w.heap.size→d≠b→(w.setRow b c').heap[d]? = w.heap[d]?)∧Fx w (w.setRow b c'):=by
 refine ⟨setRow_heap w b c c' ty (0,0) hb,fun d hd hne=>?_,⟨rfl,rfl,rfl,by simp[World.setRow]⟩⟩
 simp only[World.setRow,Array.getElem?_modify]
 rw[if_neg (fun e=>hne e.symm)]
end Zv
end
section
namespace Zv
open Go
section
variable {P:Program} {g:G} {h:Hp} {w:World}
theorem cell_of {b p:Nat} {v:Value} (R:Rel g h w) (hc:cellφ g.φ b p=some v):w.cell? ⟨b,p,none⟩=some v:=by
 unfold cellφ at hc
 split at hc
 ·rename_i c ty fr hb
  simp[World.cell?,R.fr _ _ hb,hc]
 ·cases hc
theorem cell_row {b p:Nat} {c:Array Value} {ty:TypeId} {v:Value} (hb:w.heap[b]? = some (.cells c ty (0,0))) (hc:c[p]? = some v):w.cell? ⟨b,p,none⟩=some v:=by
 simp[World.cell?,hb,hc]
theorem row_get {n tot es:Nat} {els:List V} (hr:h.row n tot=some (es,els)):h.get n=some (.arr es els)∧els.length=tot:=by
 unfold Hp.row at hr
 split at hr
 ·rename_i e l hg
  split at hr
  ·cases hr;exact⟨hg,by assumption⟩
  ·cases hr
 ·cases hr
theorem loadVar_run {t:TypeId} {b p:Nat} {v:Value} {vs:List Value} (hu:(P.underlying t).isSome=true) (hi:(P.info? t).isSome=true) (off:Nat)
  (hv:if agOf P t=true then v=.agg ((vs.drop off).take (P.cellsOf t)).toArray∧off+P.cellsOf t≤vs.length else vs[off]? = some v)
  (hc:∀ j u,vs[j]? = some u→w.cell? ⟨b,p+j,none⟩=some u):(loadVar t ⟨b,p+off,none⟩).run P w=.ok v w:=by
 simp only[loadVar,Sem.run_bind,run_isAgg' hu,Result.andThen_ok]
 split at hv
 ·rename_i hag
  obtain ⟨rfl,hle⟩:=hv
  rw[if_pos hag]
  have hl:((vs.drop off).take (P.cellsOf t)).length=P.cellsOf t:=by rw[List.length_take,List.length_drop];omega
  have:=run_loadCells_list (P:=P) w ⟨b,p+off,none⟩ ((vs.drop off).take (P.cellsOf t)) (fun j u hj=>by
   rw[add_none,Nat.add_assoc]
   refine hc (off+j) u ?_
   rw[List.getElem?_take] at hj
   split at hj
   ·rw[List.getElem?_drop] at hj;exact hj
   ·cases hj)
  rw[hl] at this
  simp only[Sem.run_bind,run_sizeOf' hi,Result.andThen_ok,this,Sem.run_pure]
 ·rename_i hag
  rw[if_neg hag]
  simp[hc off v hv]
theorem elem_seg {n i:Nat} {es:Nat} {els:List V} {e:V} (R:Rel g h w) (hn:h.get n=some (.arr es els)) (he:els[i]? = some e) :
  ∃ seg,Reps g e.cells seg∧(∀ u,u ∈ seg→leaf u)∧seg.length=es∧(∀ j u,seg[j]? = some u→w.cell? ⟨(g.μ n els.length).b,(g.μ n els.length).o+i*es+j,none⟩=some u) ∧
   (g.μ n els.length).es=es:=by
 obtain ⟨c,ty,vs,h1,h2,h3,h4,h5,h6,h7⟩:=(R.ob n _ hn).2.2
 have hr:=(h5.drop (i*es)).take es
 rw[flat_get h4 he] at hr
 refine ⟨(vs.drop (i*es)).take es,hr,fun u hu=>h6 u (List.mem_of_mem_drop (List.mem_of_mem_take hu)),?_,fun j u hj=>?_,h3.1⟩
 ·rw[hr.length];exact h4 e (mem_of_get he)
 ·rw[List.getElem?_take] at hj
  split at hj
  ·rw[List.getElem?_drop] at hj
   have:=h7 _ _ hj
   exact cell_row h1 (by rw[←this];congr 1;omega)
  ·cases hj
theorem ld_ok {t:TypeId} {ag:Bool} {sz:Nat} {x z:V} {a:Value} (hu:(P.underlying t).isSome=true) (hi:(P.info? t).isSome=true) (hag:agOf P t=ag) (hs:P.cellsOf t=sz)
  (R:Rel g h w) (hl:ld ag sz h x=some z) (ha:Rep g x a):Gives P g w (Instr.loadAt t a) z:=by
 subst hag hs
 unfold ld at hl
 split at hl
 ·rename_i x off
  simp only[Option.map_eq_some_iff] at hl
  obtain ⟨y,hy,rfl⟩:=hl
  cases ha with | fp _ _ b p vs hr hat=>
  obtain ⟨v,hv,he⟩:=partD_ok hy hr
  exact⟨v,loadVar_run hu hi off he (fun j u hj=>cell_of R (hat j u hj)),.d _ _ hv⟩
 ·rename_i n tot i off
  simp only[Option.bind_eq_some_iff] at hl
  obtain ⟨⟨es,els⟩,hrow,e,he,hl⟩:=hl
  obtain ⟨hn,rfl⟩:=row_get hrow
  simp only at he hl
  obtain ⟨seg,s1,s2,s3,s4,s5⟩:=elem_seg R hn he
  cases ha with | ptr _ _ _ _ hN hB=>
  rw[s5]
  split at hl
  ·rename_i hw
   obtain ⟨h1,rfl,h3⟩:=hw
   have hpart:partV (agOf P t) 0 (P.cellsOf t) e.cells=some z→Gives P g w (Instr.loadAt t (.pointer (some ⟨(g.μ n els.length).b,(g.μ n els.length).o+i*es+0,none⟩))) z:=by
    intro hl
    obtain ⟨v,hv,hq⟩:=partV_ok hl s1 s2
    exact⟨v,loadVar_run hu hi 0 hq s4,hv⟩
   have hrun:(Instr.loadAt t (.pointer (some ⟨(g.μ n els.length).b,(g.μ n els.length).o+i*es+0,none⟩))).run P w=.ok (.agg seg.toArray) w:=by
    refine loadVar_run (vs:=seg) hu hi 0 ?_ s4
    rw[if_pos h1]
    refine ⟨?_,by omega⟩
    rw[List.drop_zero,List.take_of_length_le (by omega)]
   split at hl
   ·cases hl;exact⟨_,hrun,.d _ _ (.agg _ _ (Reps.to_map_d s1 s2))⟩
   ·cases hl;exact⟨_,hrun,.agg _ _ s1 s2⟩
   ·exact hpart hl
  ·obtain ⟨v,hv,hq⟩:=partV_ok hl s1 s2
   exact⟨v,loadVar_run hu hi off hq s4,hv⟩
 ·cases hl
theorem leaf_one {v:Value} (h:leaf v):v.oneCell'=true:=by cases v<;>first | rfl | exact h.elim
theorem mkAgg_cells:∀ (l:List V),(mkAgg l).cells=l:=by
 have key:∀ (l:List V) (ds:List D),asD l=some ds→ds.map V.d=l:=by
  intro l
  induction l with
  |nil=>intro ds h;simp[asD] at h;subst h;rfl
  |cons x l ih=>
   intro ds h
   cases x<;>simp only[asD] at h<;>first | cases h | skip
   simp only[Option.map_eq_some_iff] at h
   obtain ⟨r,hr,rfl⟩:=h
   rw[List.map_cons,ih r hr]
 intro l
 unfold mkAgg
 split
 ·rename_i ds hds;exact key l ds hds
 ·rfl
theorem flat_split {α β:Type} {f:α→List β} {l:List α} {i:Nat} {x:α} (h:l[i]? = some x):l.flatMap f=(l.take i).flatMap f++f x++(l.drop (i+1)).flatMap f:=by
 have hlt:=lt_of_get h
 rw[List.getElem?_eq_getElem hlt] at h
 cases h
 have e:l=l.take i++(l[i]::l.drop (i+1)):=by rw[←List.drop_eq_getElem_cons hlt,List.take_append_drop]
 rw[show l.flatMap f=(l.take i++(l[i]::l.drop (i+1))).flatMap f by rw[←e]]
 rw[List.flatMap_append,List.flatMap_cons,List.append_assoc]
theorem flat_set {α β:Type} {f:α→List β} {l:List α} {i:Nat} {x y:α} (h:l[i]? = some x):(l.set i y).flatMap f=(l.take i).flatMap f++f y++(l.drop (i+1)).flatMap f:=by
 have hlt:=lt_of_get h
 have h':(l.set i y)[i]? = some y:=by simp[hlt]
 rw[flat_split h',List.take_set,List.drop_set,if_pos (by omega)]
 congr 2
 rw[List.set_eq_of_length_le (by rw[List.length_take];omega)]
theorem splice_at {c:Array Value} {o k:Nat} {vs xv:List Value} (hc:∀ j v,vs[j]? = some v→c[o+j]? = some v) (hk:k+xv.length≤vs.length) :
  ∀ j v,(vs.take k++xv++vs.drop (k+xv.length))[j]? = some v→(c.toList.take (o+k)++xv++c.toList.drop (o+k+xv.length)).toArray[o+j]? = some v:=by
 intro j v hj
 have hlast:vs.length=0∨o+vs.length≤c.size:=by
  rcases Nat.eq_zero_or_pos vs.length with h0 | h0
  ·exact .inl h0
  ·right
   have:=hc (vs.length - 1) vs[vs.length - 1] (by rw[List.getElem?_eq_getElem (by omega)])
   have h2:=(Array.getElem?_eq_some_iff.1 this).1
   omega
 have hs:o+k≤c.toList.length∨(k=0∧xv=[]∧vs=[]):=by
  rcases hlast with h0 | h0
  ·right
   refine ⟨by omega,List.eq_nil_of_length_eq_zero (by omega),List.eq_nil_of_length_eq_zero h0⟩
  ·left;rw[Array.length_toList];omega
 rcases hs with hs | ⟨rfl,rfl,rfl⟩
 ·have hget:∀ i,c.toList[i]? = c[i]? := fun i=>Array.getElem?_toList
  have hta:∀ (l:List Value) (i:Nat),l.toArray[i]? = l[i]? := fun l i=>by simp
  rw[hta]
  rw[List.append_assoc] at hj ⊢
  have l1:(vs.take k).length=k:=by rw[List.length_take];omega
  have l2:(c.toList.take (o+k)).length=o+k:=by rw[List.length_take];omega
  by_cases h1:j<k
  ·rw[List.getElem?_append_left (by omega),List.getElem?_take,if_pos h1] at hj
   rw[List.getElem?_append_left (by omega),List.getElem?_take,if_pos (by omega),hget]
   exact hc j v hj
  ·rw[List.getElem?_append_right (by omega),l1] at hj
   rw[List.getElem?_append_right (by omega),l2,show o+j - (o+k)=j - k from by omega]
   by_cases h2:j - k<xv.length
   ·rw[List.getElem?_append_left h2] at hj ⊢
    exact hj
   ·rw[List.getElem?_append_right (by omega),List.getElem?_drop] at hj ⊢
    rw[hget]
    have:=hc _ _ hj
    rw[←this]
    congr 1
    omega
 ·simp at hj
theorem storeVar_run {t:TypeId} {b p:Nat} {ty:TypeId} {c:Array Value} {v:Value} (hi:(P.info? t).isSome=true) (hs:v.cells.size=P.cellsOf t) (hb:w.heap[b]? = some (.cells c ty (0,0)))
  (hle:p+v.cells.size≤c.size) (hf:∀ u,u ∈ v.cells.toList→leaf u) :
  (storeVar t ⟨b,p,none⟩ v).run P w=.ok () (w.setRow b (c.toList.take p++v.cells.toList++c.toList.drop (p+v.cells.toList.length)).toArray):=by
 have:=run_storeCells_at P b p ty v.cells.toList 0 c w hb (by rw[Array.length_toList];omega) (fun u hu=>leaf_one (hf u hu))
 simp only[Nat.add_zero] at this
 simp only[storeVar,Sem.run_bind,run_sizeOf' hi,Result.andThen_ok]
 rw[if_neg (fun hh=>hh hs)]
 exact this
theorem st_ok {t:TypeId} {sz:Nat} {x y:V} {a b:Value} {h':Hp} (hi:(P.info? t).isSome=true) (hs:P.cellsOf t=sz)
  (R:Rel g h w) (hst:st sz h x y=some h') (ha:Rep g x a) (hb:Rep g y b):GivesU P g w (Instr.storeAt t a b) h':=by
 subst hs
 unfold st at hst
 split at hst
 ·rename_i n tot i off
  simp only[Option.bind_eq_some_iff] at hst
  obtain ⟨⟨es,els⟩,hrow,e,he,hst⟩:=hst
  obtain ⟨hn,rfl⟩:=row_get hrow
  simp only at he hst
  split at hst
  ·rename_i hy
   obtain ⟨hy1,hy2⟩:=hy
   obtain ⟨yr,yf⟩:=hb.cells hy1
   have hbs:b.cells.size=P.cellsOf t:=by have:=yr.length;rw[Array.length_toList] at this;omega
   obtain ⟨c,ty,vs,h1,h2,h3,h4,h5,h6,h7⟩:=(R.ob n _ hn).2.2
   have hes:e.cells.length=es:=h4 e (mem_of_get he)
   have hil:=lt_of_get he
   have hvl:vs.length=els.length*es:=by rw[h5.length,flat_len h4]
   have hi1:(i+1)*es≤els.length*es:=Nat.mul_le_mul_right es hil
   have hi2:(i+1)*es=i*es+es:=by rw[Nat.add_mul];omega
   cases ha with | ptr _ _ _ _ hN hB=>
   obtain ⟨e',he',hoff,hh⟩:∃ e',e'.cells=e.cells.take off++y.cells++e.cells.drop (off+P.cellsOf t)∧off+P.cellsOf t≤es∧h'=h.set n (.arr es (els.set i e')):=by
    split at hst
    ·rename_i hw
     obtain ⟨rfl,hw2⟩:=hw
     cases hst
     refine ⟨y,?_,by omega,rfl⟩
     rw[List.take_zero,List.nil_append,List.drop_of_length_le (by omega),List.append_nil]
    ·split at hst
     ·rename_i hw
      cases hst
      exact⟨_,mkAgg_cells _,by omega,rfl⟩
     ·cases hst
   subst hh
   have hk:i*es+off+b.cells.toList.length≤vs.length:=by rw[Array.length_toList,hbs,hvl];omega
   have hcs:(g.μ n els.length).o+(i*es+off)+b.cells.size≤c.size:=by
    rw[Array.length_toList] at hk
    have:=h3.2
    omega
   have hrun:=storeVar_run (P:=P) (t:=t) (p:=(g.μ n els.length).o+(i*es+off)) hi hbs h1 (by omega) yf
   obtain ⟨k1,k2,k3⟩:=heap_setRow (c':=(c.toList.take ((g.μ n els.length).o+(i*es+off))++b.cells.toList++c.toList.drop ((g.μ n els.length).o+(i*es+off)+b.cells.toList.length)).toArray) h1
   refine ⟨_,g,?_,Le.refl g,?_,k3⟩
   ·show (Instr.storeAt t (.pointer (some _)) b).run P w=_
    rw[h3.1,Nat.add_assoc]
    exact hrun
   ·refine R.set hn (by simp[Ob.tot]) (fun d hd hne=>k2 d hd hne) ?_
    simp only[ObRep]
    rw[List.length_set]
    refine ⟨_,ty,vs.take (i*es+off)++b.cells.toList++vs.drop (i*es+off+b.cells.toList.length),k1,?_,h3,?_,?_,?_,splice_at h7 hk⟩
    ·rw[←h2]
     simp only[List.size_toArray,List.length_append,List.length_take,List.length_drop,Array.length_toList]
     omega
    ·intro q hq
     rcases List.mem_or_eq_of_mem_set hq with hq | rfl
     ·exact h4 q hq
     ·rw[he']
      simp only[List.length_append,List.length_take,List.length_drop]
      omega
    ·have hflat:(els.set i e').flatMap V.cells=(els.flatMap V.cells).take (i*es+off)++y.cells++(els.flatMap V.cells).drop (i*es+off+P.cellsOf t):=by
      rw[flat_set he,flat_split he,he']
      have hA:((els.take i).flatMap V.cells).length=i*es:=by
       rw[flat_len (fun x hx=>h4 x (List.mem_of_mem_take hx)),List.length_take,Nat.min_eq_left (by omega)]
      have t1:((els.take i).flatMap V.cells++e.cells++(els.drop (i+1)).flatMap V.cells).take (i*es+off)=(els.take i).flatMap V.cells++e.cells.take off:=by
       rw[List.append_assoc,List.take_append,List.take_of_length_le (by omega),hA,show i*es+off - i*es=off from by omega,List.take_append_of_le_length (by omega)]
      have t2:((els.take i).flatMap V.cells++e.cells++(els.drop (i+1)).flatMap V.cells).drop (i*es+off+P.cellsOf t)=e.cells.drop (off+P.cellsOf t)++(els.drop (i+1)).flatMap V.cells:=by
       rw[List.append_assoc,List.drop_append,List.drop_of_length_le (by omega),hA,List.nil_append,show i*es+off+P.cellsOf t - i*es=off+P.cellsOf t from by omega,List.drop_append_of_le_length (by omega)]
      rw[t1,t2]
      simp only[List.append_assoc]
     rw[hflat,Array.length_toList,hbs]
     exact ((h5.take _).app yr).app (h5.drop _)
    ·intro u hu
     simp only[List.mem_append] at hu
     rcases hu with (hu | hu) | hu
     ·exact h6 u (List.mem_of_mem_take hu)
     ·exact yf u hu
     ·exact h6 u (List.mem_of_mem_drop hu)
  ·cases hst
 ·cases hst
end
end Zv
end
section
namespace Zv
open Go
section
variable {P:Program} {g:G} {h:Hp} {w:World}
theorem newRow_ok {es:Nat} {els:List V} {vs:List Value} {c:Array Value} {ty:TypeId} {w0:World} (R:Rel g h w) (hw0:w0.heap=w.heap)
  (hes:∀ x,x ∈ els→x.cells.length=es) (hr:Reps g (els.flatMap V.cells) vs) (hf:∀ u,u ∈ vs→leaf u) (hc:∀ (j:Nat) (v:Value),vs[j]? = some v→c[j]? = some v) (hle:els.length*es≤c.size) :
  Le g (g.put h.next els.length ⟨w.heap.size,0,es,c.size⟩)∧Rel (g.put h.next els.length ⟨w.heap.size,0,es,c.size⟩) (h.alloc (.arr es els)) (w0.alloc (.cells c ty)) ∧
   (g.put h.next els.length ⟨w.heap.size,0,es,c.size⟩).μ h.next els.length=⟨w.heap.size,0,es,c.size⟩:=by
 have hμ:(g.put h.next els.length ⟨w.heap.size,0,es,c.size⟩).μ h.next els.length=⟨w.heap.size,0,es,c.size⟩:=by simp[G.put]
 have hleq:=Le.put (g:=g) (k:=h.next) (tot:=els.length) (pl:=⟨w.heap.size,0,es,c.size⟩) (.inr R.nx)
 have hsz:w0.heap.size=w.heap.size:=by rw[hw0]
 obtain ⟨a1,a2,_⟩:=heap_alloc w0 (.cells c ty)
 have:=R.alloc (w':=w0.alloc (.cells c ty)) (.arr es els) ⟨w.heap.size,0,es,c.size⟩ rfl (fun b hb=>by rw[a2 b (by omega),hw0]) (by
  simp only[ObRep,Ob.tot]
  rw[hμ]
  rw[hsz] at a1
  exact⟨c,ty,vs,a1,rfl,⟨rfl,by simpa using hle⟩,hes,hr.mono hleq,hf,fun j v hj=>by rw[Nat.zero_add];exact hc j v hj⟩)
 exact⟨this.1,this.2,hμ⟩
theorem newVar_ok {t:TypeId} {es:Nat} {x:V} {v:Value} (R:Rel g h w) (hx:Rep g x v) (hs:stor x=true) (hl:x.cells.length=es) :
  GivesH P g w (do pure (.pointer (some (←newVar t v)))) (.ptr h.next 1 0 0) (h.alloc (.arr es [x])):=by
 obtain ⟨xr,xf⟩:=hx.cells hs
 have hvs:v.cells.size=es:=by have:=xr.length;rw[Array.length_toList] at this;omega
 obtain ⟨k1,k2,k3⟩:=newRow_ok (es:=es) (els:=[x]) (vs:=v.cells.toList) (c:=v.cells) (ty:=t) (w0:=w) R rfl (by simpa using hl) (by simpa using xr) xf (fun j u hj=>by rw[←Array.getElem?_toList];exact hj) (by simp[hvs])
 refine ⟨.pointer (some ⟨w.heap.size,0,none⟩),_,_,rfl,k1,k2,?_,(heap_alloc w (.cells v.cells t)).2.2⟩
 ·have:=Rep.ptr (g:=g.put h.next 1 ⟨w.heap.size,0,es,v.cells.size⟩) h.next 1 0 0 (by show h.next<max g.N (h.next+1);omega) (by simp[G.put])
  rw[show (g.put h.next 1 ⟨w.heap.size,0,es,v.cells.size⟩).μ h.next 1=⟨w.heap.size,0,es,v.cells.size⟩ from k3] at this
  simpa using this
theorem alloc_ok {t:TypeId} {i:TypeInfo} {zv:Value} {es:Nat} {z:V} (R:Rel g h w) (hi:P.info? t=some i) (hz:i.zero=some zv) (hr:Rep g z zv) (hs:stor z=true) (hl:z.cells.length=es) (old:Value) :
  GivesH P g w (Instr.alloc t true old) (.ptr h.next 1 0 0) (h.alloc (.arr es [z])):=by
 obtain ⟨v,w',g',h1,h2⟩:=newVar_ok (P:=P) (t:=t) R hr hs hl
 refine ⟨v,w',g',?_,h2⟩
 rw[←h1]
 cases old<;>simp[Instr.alloc,zeroValue,typeInfo,hi,hz]
theorem box_ok {t:TypeId} {es:Nat} {x:V} {v:Value} (R:Rel g h w) (hx:Rep g x v) (hs:stor x=true) (hl:x.cells.length=es) :
  GivesH P g w (Instr.box t v) (.ptr h.next 1 0 0) (h.alloc (.arr es [x])):=newVar_ok R hx hs hl
theorem fillAll {es:Nat}:∀ (vs:List Value) (k:Nat) (c:Array Value),c.size=(k+vs.length)*es→(∀ v,v ∈ vs→v.cells.size=es) →
  Instr.fill (fun i=>some (i*es,es)) c ((vs.zipIdx k).map fun p=>(p.2,p.1))=some (c.toList.take (k*es)++vs.flatMap (fun v=>v.cells.toList)).toArray
 | [],k,c,hc,_=>by
  simp only[List.zipIdx_nil,List.map_nil,Instr.fill,List.flatMap_nil,List.append_nil]
  rw[List.take_of_length_le (by rw[Array.length_toList];simp at hc;omega)]
 |v::vs,k,c,hc,hv=>by
  have hvs:v.cells.size=es:=hv v (by simp)
  have hmul:(k+(vs.length+1))*es=k*es+es+vs.length*es:=by rw[Nat.add_mul,Nat.add_mul];omega
  have hmul1:(k+1)*es=k*es+es:=by rw[Nat.add_mul];omega
  rw[List.length_cons] at hc
  have hle:k*es+0+v.cells.toList.length≤c.size:=by rw[Array.length_toList,hvs,hc,hmul];omega
  simp only[List.zipIdx_cons,List.map_cons,Instr.fill]
  have hno:¬ ((decide (v.cells.size≠es) || decide (k*es+v.cells.size > c.size))=true):=by
   simp only[hvs,ne_eq,not_true_eq_false,decide_false,Bool.false_or,decide_eq_true_eq]
   rw[hc,hmul];omega
  rw[if_neg hno]
  have e:(Array.foldl (fun (cs:Array Value) (p:Value × Nat)=>cs.setIfInBounds (k*es+p.2) p.1) c v.cells.zipIdx)=(c.toList.take (k*es)++v.cells.toList++c.toList.drop (k*es+es)).toArray:=by
   apply Array.ext'
   rw[←Array.foldl_toList,Array.toList_zipIdx]
   have:=fold_set v.cells.toList c (k*es) 0 hle
   simp only[Nat.add_zero] at this
   rw[this,Array.length_toList,hvs]
  have hgo:=fillAll vs (k+1) (c.toList.take (k*es)++v.cells.toList++c.toList.drop (k*es+es)).toArray (by
   simp only[List.size_toArray,List.length_append,List.length_take,List.length_drop,Array.length_toList,hvs,hc]
   rw[show k+1+vs.length=k+(vs.length+1) from by omega]
   rw[hmul];omega) (fun u hu=>hv u (by simp[hu]))
  rw[←e] at hgo
  refine hgo.trans ?_
  congr 2
  rw[e]
  simp only[List.flatMap_cons]
  rw[←List.append_assoc]
  congr 1
  have hl:(c.toList.take (k*es)++v.cells.toList).length=(k+1)*es:=by
   rw[List.length_append,List.length_take,Array.length_toList,Array.length_toList,hvs,hc,hmul,hmul1];omega
  rw[List.append_assoc,←List.append_assoc,←hl,List.take_left']
  rfl
theorem flat_reps {es:Nat}:∀ {xs:List V} {vs:List Value},Reps g xs vs→(∀ x,x ∈ xs→stor x=true∧x.cells.length=es) →
  Reps g (xs.flatMap V.cells) (vs.flatMap fun v=>v.cells.toList)∧(∀ u,u ∈ (vs.flatMap fun v=>v.cells.toList)→leaf u)∧∀ v,v ∈ vs→v.cells.size=es
 |_,_,.nil,_=>⟨.nil,by simp,by simp⟩
 |_,_,.cons x l v vs hx hs,hp=>by
  obtain ⟨i1,i2,i3⟩:=flat_reps hs (fun y hy=>hp y (by simp[hy]))
  obtain ⟨c1,c2⟩:=hx.cells (hp x (by simp)).1
  refine ⟨by simpa using c1.app i1,fun u hu=>?_,fun u hu=>?_⟩
  ·rw[List.flatMap_cons] at hu
   rcases List.mem_append.1 hu with hu | hu
   ·exact c2 u hu
   ·exact i2 u hu
  ·rcases List.mem_cons.1 hu with rfl | hu
   ·have:=c1.length;rw[Array.length_toList,(hp x (by simp)).2] at this;exact this
   ·exact i3 u hu
theorem Reps.normAll:∀ {xs:List V} {vs:List Value},Reps g xs vs→Reps g (xs.map Zv.norm) vs
 |_,_,.nil=>.nil
 |_,_,.cons x l v vs hx hs=>.cons _ _ v vs hx.norm (Reps.normAll hs)
theorem buildSlice_run {t e:TypeId} {i:TypeInfo} {zv:Value} {es:Nat} {vs:List Value} (ht:P.underlying t=some (.slice e)) (hi:P.info? e=some i) (hz:i.zero=some zv) (hs:P.cellsOf e=es)
  (hlen:vs.length*es≤2 ^ 24) (hv:∀ v,v ∈ vs→v.cells.size=es) :
  (Instr.buildSlice t vs.length ((vs.zipIdx 0).map fun p=>(p.2,p.1)).toArray).run P w =
   .ok (.slice (some ⟨w.heap.size,0,none⟩) vs.length vs.length) (w.alloc (.cells (vs.flatMap fun v=>v.cells.toList).toArray e)):=by
 have hsz:(Go.sizeOf e).run P w=.ok es w:=by rw[run_sizeOf' (by rw[hi];rfl),hs]
 have hfill:∀ c:Array Value,c.size=vs.length*es→Instr.fill (fun i=>some (i*es,es)) c ((vs.zipIdx 0).map fun p=>(p.2,p.1))=some (vs.flatMap (fun v=>v.cells.toList)).toArray:=by
  intro c hc
  have:=fillAll vs 0 c (by simpa using hc) hv
  simpa using this
 have hno:¬ (vs.length*es > 2 ^ 24):=by omega
 simp only[Instr.buildSlice,Sem.run_bind,run_underlying ht,Result.andThen_ok,hsz,if_neg hno,Sem.run_pure]
 by_cases h0:vs.length*es=0
 ·simp only[h0,if_true,Sem.run_pure,Result.andThen_ok]
  have:=hfill #[] (by simp[h0])
  have e0:∀ f:Nat→Value,Array.map f (Array.range 0) = #[]:=fun f=>by simp[Array.range_zero']
  simp only[e0,Sem.run_bind,Sem.run_pure,Result.andThen_ok,this]
  rfl
 ·simp only[h0,if_false,Sem.run_bind,zeroValue,typeInfo,run_program,Result.andThen_ok,hi,Sem.run_pure,hz]
  rw[hfill _ (by simp)]
  rfl
theorem bsl_ok {t e:TypeId} {i:TypeInfo} {zv:Value} {es:Nat} {xs:List V} {vs:List Value} (R:Rel g h w) (ht:P.underlying t=some (.slice e)) (hi:P.info? e=some i) (hz:i.zero=some zv) (hs:P.cellsOf e=es)
  (hlen:vs.length*es≤2 ^ 24) (hr:Reps g xs vs) (hp:∀ x,x ∈ xs→stor x=true∧x.cells.length=es) :
  GivesH P g w (Instr.buildSlice t vs.length ((vs.zipIdx 0).map fun p=>(p.2,p.1)).toArray) (.tl (xs.map norm) (some false)) h:=by
 have hp':∀ x,x ∈ xs.map norm→stor x=true∧x.cells.length=es:=by
  intro x hx
  obtain ⟨y,hy,rfl⟩:=List.mem_map.1 hx
  exact⟨stor_norm (hp y hy).1,by rw[norm_len];exact (hp y hy).2⟩
 obtain ⟨f1,f2,f3⟩:=flat_reps hr.normAll hp'
 obtain ⟨a1,a2,a3⟩:=heap_alloc w (.cells (vs.flatMap fun v=>v.cells.toList).toArray e)
 obtain ⟨b1,b2⟩:=R.fix _ a1 a2
 refine ⟨_,_,_,buildSlice_run ht hi hz hs hlen f3,b1,b2,?_,a3⟩
 have hl:vs.length=(xs.map norm).length:=by rw[List.length_map,hr.length]
 rw[hl]
 refine .tl _ _ es _ _ (fun x hx=>(hp' x hx).2) (f1.mono b1) (.inr ⟨w.heap.size,0,rfl,fun j v hj=>?_⟩) (fun q hq=>by cases hq;simp) f2
 show cellφ (fun c=>if c=w.heap.size then some _ else g.φ c) w.heap.size (0+j)=some v
 simp only[cellφ,if_true]
 rw[Nat.zero_add]
 simpa using hj
theorem bslO_ok {t e:TypeId} {i:TypeInfo} {zv:Value} {es:Nat} {xs:List V} {vs:List Value} (R:Rel g h w) (ht:P.underlying t=some (.slice e)) (hi:P.info? e=some i) (hz:i.zero=some zv) (hs:P.cellsOf e=es)
  (hlen:vs.length*es≤2 ^ 24) (hr:Reps g xs vs) (hp:∀ x,x ∈ xs→stor x=true∧x.cells.length=es) :
  GivesH P g w (Instr.buildSlice t vs.length ((vs.zipIdx 0).map fun p=>(p.2,p.1)).toArray) (.own h.next es xs.length 0 xs.length) (h.alloc (.arr es (xs.map norm))):=by
 have hp':∀ x,x ∈ xs.map norm→stor x=true∧x.cells.length=es:=by
  intro x hx
  obtain ⟨y,hy,rfl⟩:=List.mem_map.1 hx
  exact⟨stor_norm (hp y hy).1,by rw[norm_len];exact (hp y hy).2⟩
 obtain ⟨f1,f2,f3⟩:=flat_reps hr.normAll hp'
 have hl:vs.length=xs.length:=hr.length
 have hcs:((vs.flatMap fun v=>v.cells.toList).toArray).size=xs.length*es:=by
  rw[List.size_toArray,flat_len (fun v hv=>by rw[Array.length_toList];exact f3 v hv),hl]
 obtain ⟨k1,k2,k3⟩:=newRow_ok (es:=es) (els:=xs.map norm) (vs:=vs.flatMap fun v=>v.cells.toList) (c:=(vs.flatMap fun v=>v.cells.toList).toArray) (ty:=e) (w0:=w) R rfl (fun x hx=>(hp' x hx).2) f1 f2 (fun j u hj=>by simpa using hj) (by rw[hcs,List.length_map];exact Nat.le_refl _)
 rw[List.length_map] at k1 k2 k3
 refine ⟨_,_,_,buildSlice_run ht hi hz hs hlen f3,k1,k2,?_,(heap_alloc w _).2.2⟩
 rw[hl]
 refine .own h.next es xs.length 0 xs.length xs.length _ (by rw[k3]) (by show h.next<max g.N (h.next+1);omega) (by simp[G.put]) (.inr ?_) (Nat.le_refl _) (by omega) (by omega) ?_
 ·rw[k3];simp
 ·rw[k3];simp[hcs]
theorem made_reps {z:V} {zc:List Value} (hz:Reps g z.cells zc):∀ n,Reps g ((List.replicate n z).flatMap V.cells) ((List.replicate n zc).flatMap id)
 |0=>.nil
 |n+1=>by simpa [List.replicate_succ] using hz.app (made_reps hz n)
theorem madeCells_eq (zc:Array Value) (n:Nat):(madeCells zc (n*zc.size)).toList=(List.replicate n zc.toList).flatMap id:=by
 apply List.ext_getElem?
 intro j
 have hl:((List.replicate n zc.toList).flatMap id).length=n*zc.size:=by
  rw[flat_len (es:=zc.size) (fun x hx=>by rw[List.eq_of_mem_replicate hx];simp),List.length_replicate]
 by_cases hj:j<n*zc.size
 ·have hpos:0<zc.size:=by
   rcases Nat.eq_zero_or_pos zc.size with h0 | h0
   ·rw[h0] at hj;simp at hj
   ·exact h0
  have hd:j / zc.size<n:=Nat.div_lt_of_lt_mul (by rw[Nat.mul_comm];exact hj)
  have hm:j % zc.size<zc.size:=Nat.mod_lt _ hpos
  have e:=flat_get (f:=id) (es:=zc.size) (l:=List.replicate n zc.toList) (k:=j / zc.size) (x:=zc.toList) (fun x hx=>by rw[List.eq_of_mem_replicate hx];simp) (by simp[hd])
  have e2:((List.replicate n zc.toList).flatMap id)[j]? = zc.toList[j % zc.size]? := by
   have e3:zc.toList[j % zc.size]? = (List.take zc.size (List.drop (j / zc.size*zc.size) (List.flatMap id (List.replicate n zc.toList))))[j % zc.size]? := by rw[e];rfl
   rw[e3,List.getElem?_take,if_pos hm,List.getElem?_drop,Nat.mul_comm,Nat.div_add_mod]
  rw[e2]
  simp[madeCells,hj,hm]
 ·rw[List.getElem?_eq_none (by rw[Array.length_toList,size_madeCells];omega),List.getElem?_eq_none (by rw[hl];omega)]
theorem mksl_run {t e:TypeId} {i:TypeInfo} {zv:Value} {es by_:Nat} {x:V} {a:Value} {k:Nat} (ht:P.underlying t=some (.slice e)) (hi:P.info? e=some i) (hz:i.zero=some zv) (hs:P.cellsOf e=es)
  (hb:i.bytes=by_) (hk:ixOf x=some k) (hroom:k*by_≤roomB) (h62:k<2 ^ 62) (ha:Rep g x a) :
  (Instr.makeSlice t a a).run P w=.ok (.slice (some ⟨w.heap.size,0,none⟩) k k) (w.alloc (.cells (madeCells zv.cells (k*es)) e)):=by
 obtain ⟨q,rfl⟩:=ixOf_ok hk ha
 have hs':i.size=es:=by rw[←hs];simp[Program.cellsOf,hi]
 have h1:((i.bytes*k:Nat):Int)≤281474976710656:=by
  have:k*by_≤140737488355328:=hroom
  rw[hb,Nat.mul_comm];omega
 rw[Int.natCast_mul] at h1
 have:=run_make (P:=P) w t e i zv ht hi hz q q k k (by omega) (Int.le_refl _) h1 (by omega)
 simpa [hs'] using this
theorem mkslO_ok {t e:TypeId} {i:TypeInfo} {zv:Value} {es by_:Nat} {z x y:V} {a:Value} {h':Hp} (R:Rel g h w) (ht:P.underlying t=some (.slice e)) (hi:P.info? e=some i) (hz:i.zero=some zv) (hs:P.cellsOf e=es)
  (hb:i.bytes=by_) (hzr:Rep g z zv) (hzs:stor z=true) (hzl:z.cells.length=es) (H:mkslO z es by_ h x=some (y,h')) (ha:Rep g x a):GivesH P g w (Instr.makeSlice t a a) y h':=by
 unfold mkslO at H
 simp only[Option.bind_eq_some_iff] at H
 obtain ⟨k,hk,H⟩:=H
 split at H
 ·rename_i hc
  cases H
  obtain ⟨zr,zf⟩:=hzr.cells hzs
  have hzc:zv.cells.size=es:=by have:=zr.length;rw[Array.length_toList,hzl] at this;exact this
  have hme:=madeCells_eq zv.cells k
  rw[hzc] at hme
  obtain ⟨k1,k2,k3⟩:=newRow_ok (es:=es) (els:=List.replicate k z) (vs:=(List.replicate k zv.cells.toList).flatMap id) (c:=madeCells zv.cells (k*es)) (ty:=e) (w0:=w) R rfl
   (fun x hx=>by rw[List.eq_of_mem_replicate hx];exact hzl) (made_reps zr k) (fun u hu=>by
    obtain ⟨l,hl,hu⟩:=List.mem_flatMap.1 hu
    rw[List.eq_of_mem_replicate hl] at hu
    exact zf u hu) (fun j u hj=>by rw[←hme] at hj;rw[←Array.getElem?_toList];exact hj) (by rw[List.length_replicate,size_madeCells];exact Nat.le_refl _)
  rw[List.length_replicate] at k1 k2 k3
  refine ⟨_,_,_,mksl_run ht hi hz hs hb hk hc.1 hc.2 ha,k1,k2,?_,(heap_alloc w _).2.2⟩
  refine .own h.next es k 0 k k _ (by rw[k3]) (by show h.next<max g.N (h.next+1);omega) (by simp[G.put]) (.inr ?_) (Nat.le_refl _) (by omega) (by omega) ?_
  ·rw[k3];simp
  ·rw[k3];simp[size_madeCells]
 ·cases H
theorem mkslT_ok {t e:TypeId} {i:TypeInfo} {zv:Value} {es by_:Nat} {z x y:V} {a:Value} (R:Rel g h w) (ht:P.underlying t=some (.slice e)) (hi:P.info? e=some i) (hz:i.zero=some zv) (hs:P.cellsOf e=es)
  (hb:i.bytes=by_) (hzr:Rep g z zv) (hzs:stor z=true) (hzl:z.cells.length=es) (H:mkslT z by_ x=some y) (ha:Rep g x a):GivesH P g w (Instr.makeSlice t a a) y h:=by
 unfold mkslT at H
 simp only[Option.bind_eq_some_iff] at H
 obtain ⟨k,hk,H⟩:=H
 split at H
 ·rename_i hc
  cases H
  obtain ⟨zr,zf⟩:=hzr.cells hzs
  have hzc:zv.cells.size=es:=by have:=zr.length;rw[Array.length_toList,hzl] at this;exact this
  have hme:=madeCells_eq zv.cells k
  rw[hzc] at hme
  obtain ⟨a1,a2,a3⟩:=heap_alloc w (.cells (madeCells zv.cells (k*es)) e)
  obtain ⟨b1,b2⟩:=R.fix _ a1 a2
  refine ⟨_,_,_,mksl_run ht hi hz hs hb hk hc.1 hc.2 ha,b1,b2,?_,a3⟩
  have:=Rep.tl (g:=g.fix w.heap.size (.cells (madeCells zv.cells (k*es)) e)) (List.replicate k z) (some false) es (some ⟨w.heap.size,0,none⟩) ((List.replicate k zv.cells.toList).flatMap id)
   (fun x hx=>by rw[List.eq_of_mem_replicate hx];exact hzl) ((made_reps zr k).mono b1) (.inr ⟨w.heap.size,0,rfl,fun j v hj=>by
    show cellφ (fun c=>if c=w.heap.size then some _ else g.φ c) w.heap.size (0+j)=some v
    simp only[cellφ,if_true]
    rw[Nat.zero_add,←Array.getElem?_toList,hme]
    exact hj⟩) (fun q hq=>by cases hq;simp) (fun u hu=>by
    obtain ⟨l,hl,hu⟩:=List.mem_flatMap.1 hu
    rw[List.eq_of_mem_replicate hl] at hu
    exact zf u hu)
  rw[List.length_replicate] at this
  exact this
 ·cases H
end
end Zv
end
section
namespace Zv
open Go
section
variable {P:Program} {g:G} {h:Hp} {w:World}
theorem elems_ok {x:V} {xs:List V} {a:Value} (R:Rel g h w) (H:elems h x=some xs) (ha:Rep g x a) :
  ∃ xa xc vs,a=.slice xa xs.length xc∧Reps g (xs.flatMap V.cells) vs∧(∀ u,u ∈ vs→leaf u) ∧
   (xs=[]∨∃ b p,xa=some ⟨b,p,none⟩∧∀ j v,vs[j]? = some v→w.cell? ⟨b,p+j,none⟩=some v):=by
 unfold elems at H
 split at H
 ·rename_i l
  cases H
  have hd:=ha.dI
  clear ha
  cases hd with | lst _ es0 cap q vs hes hc hr hz=>
  refine ⟨q,cap,vs,by rw[List.length_map],by rw[flat_d];exact Reps.of_map_d hr,hr.leaf,?_⟩
  rcases hz with hz | ⟨b,p,rfl,hat⟩
  ·left;rw[hz];rfl
  ·exact .inr ⟨b,p,rfl,fun j v hj=>cell_of R (hat j v hj)⟩
 ·rename_i l nl
  cases H
  cases ha with | tl _ _ es0 q vs hes hr hz hn hf=>
  refine ⟨q,_,vs,rfl,hr,hf,?_⟩
  rcases hz with hz | ⟨b,p,rfl,hat⟩
  ·exact .inl hz
  ·exact .inr ⟨b,p,rfl,fun j v hj=>cell_of R (hat j v hj)⟩
 ·rename_i n e tot off len
  simp only[Option.bind_eq_some_iff] at H
  obtain ⟨⟨es,els⟩,hrow,H⟩:=H
  obtain ⟨hn,rfl⟩:=row_get hrow
  simp only at H
  split at H
  ·rename_i hle
   cases H
   cases ha with | own _ _ _ _ _ cap q hes hN hB hz hl hto hc hsz=>
   obtain ⟨c,ty,vs,h1,h2,h3,h4,h5,h6,h7⟩:=(R.ob n _ hn).2.2
   have hlen:((els.drop off).take len).length=len:=by rw[List.length_take,List.length_drop];omega
   refine ⟨some q,cap,(vs.drop (off*es)).take (len*es),by rw[hlen],?_,fun u hu=>h6 u (List.mem_of_mem_drop (List.mem_of_mem_take hu)),?_⟩
   ·rw[←flat_take len (fun x hx=>h4 x (List.mem_of_mem_drop hx)),←flat_drop off h4]
    exact (h5.drop _).take _
   ·rcases Nat.eq_zero_or_pos len with h0 | h0
    ·left;subst h0;simp
    ·right
     rcases hz with hz | rfl
     ·omega
     ·refine ⟨_,_,rfl,fun j v hj=>?_⟩
      rw[List.getElem?_take] at hj
      split at hj
      ·rw[List.getElem?_drop] at hj
       rw[h3.1]
       exact cell_row h1 (by rw[←h7 _ _ hj];congr 1;omega)
      ·cases hj
  ·cases H
 ·cases H
theorem firstCells_run {w0:World} (hw:w0.heap=w.heap) {n m es:Nat} {xa:Option Addr} {xc:Nat} {vs:List Value} (hl:vs.length=n*es)
  (hz:n=0∨∃ b p,xa=some ⟨b,p,none⟩∧∀ j v,vs[j]? = some v→w.cell? ⟨b,p+j,none⟩=some v) :
  (Builtin.firstCells es n (.slice xa m xc)).run P w0=.ok vs.toArray w0:=by
 have hcell:∀ a,w0.cell? a=w.cell? a:=fun a=>by simp[World.cell?,hw]
 rcases hz with rfl | ⟨b,p,rfl,hc⟩
 ·have:vs=[]:=List.eq_nil_of_length_eq_zero (by simpa using hl)
  subst this
  cases xa with
  |none=>rfl
  |some a=>simp[Builtin.firstCells,loadCells,loadCellsFrom]
 ·have:=run_loadCells_list (P:=P) w0 ⟨b,p,none⟩ vs (fun j v hj=>by rw[add_none,hcell];exact hc j v hj)
  rw[hl] at this
  exact this
theorem norm_flat {es:Nat}:∀ {xs:List V} {vs:List Value},(∀ x,x ∈ xs→x.cells.length=es)→Reps g (xs.flatMap V.cells) vs→(∀ u,u ∈ vs→leaf u)→Reps g ((xs.map norm).flatMap V.cells) vs
 | [],_,_,hr,_=>hr
 |x::xs,vs,hes,hr,hf=>by
  rw[List.flatMap_cons] at hr
  obtain ⟨h1,h2⟩:=hr.split
  rw[List.map_cons,List.flatMap_cons,←List.take_append_drop x.cells.length vs]
  refine Reps.app ?_ (norm_flat (fun y hy=>hes y (by simp[hy])) h2 (fun u hu=>hf u (List.mem_of_mem_drop hu)))
  unfold norm
  split
  ·rename_i y hy
   exact Reps.of_map_d (h1.toDs (toD_cells hy) (fun u hu=>hf u (List.mem_of_mem_take hu)))
  ·exact h1
theorem normed_es {es:Nat} {xs:List V} (hes:∀ x,x ∈ xs→x.cells.length=es):∀ x,x ∈ xs.map norm→x.cells.length=es:=by
 intro x hx
 obtain ⟨y,hy,rfl⟩:=List.mem_map.1 hx
 rw[norm_len];exact hes y hy
theorem splice_end {c:Array Value} {o k:Nat} {vs xv:List Value} (hc:∀ (j:Nat) (v:Value),vs[j]? = some v→c[o+j]? = some v) (hk:k≤vs.length) (hs:o+k+xv.length≤c.size) :
  ∀ (j:Nat) (v:Value),(vs.take k++xv)[j]? = some v→(c.toList.take (o+k)++xv++c.toList.drop (o+k+xv.length)).toArray[o+j]? = some v:=by
 intro j v hj
 have hget:∀ i,c.toList[i]? = c[i]? := fun i=>Array.getElem?_toList
 have hta:∀ (l:List Value) (i:Nat),l.toArray[i]? = l[i]? := fun l i=>by simp
 rw[hta]
 rw[List.append_assoc]
 have l1:(vs.take k).length=k:=by rw[List.length_take];omega
 have l2:(c.toList.take (o+k)).length=o+k:=by rw[List.length_take,Array.length_toList];omega
 by_cases h1:j<k
 ·rw[List.getElem?_append_left (by omega),List.getElem?_take,if_pos h1] at hj
  rw[List.getElem?_append_left (by omega),List.getElem?_take,if_pos (by omega),hget]
  exact hc j v hj
 ·rw[List.getElem?_append_right (by omega),l1] at hj
  rw[List.getElem?_append_right (by omega),l2,show o+j - (o+k)=j - k from by omega]
  have h2:j - k<xv.length:=by
   rcases Nat.lt_or_ge (j - k) xv.length with h' | h'
   ·exact h'
   ·rw[List.getElem?_eq_none h'] at hj;cases hj
  rw[List.getElem?_append_left h2]
  exact hj
section
variable {t t2 ty e e2:TypeId} {i:TypeInfo} {zv:Value} {es:Nat}
theorem append_room (ht:P.underlying t=some (.slice e)) (ht2:P.underlying t2=some (.slice e2)) (hi:P.info? e=some i) (hs:P.cellsOf e=es)
  {base:Option Addr} {sLen sCap n xc:Nat} {xa:Option Addr} {news:List Value} {w':World} (hle:sLen+n≤sCap) (hf:(Builtin.firstCells es n (.slice xa n xc)).run P w=.ok news.toArray w)
  (hst:∀ a,base=some a→(storeCells (a.add (sLen*es)) news).run P w=.ok () w') (hno:base=none→w'=w) :
  (Builtin.append_ #[t,t2] ty #[.slice base sLen sCap,.slice xa n xc]).run P w=.ok (.slice base (sLen+n) sCap) w':=by
 have hs':i.size=es:=by rw[←hs];simp[Program.cellsOf,hi]
 cases base with
 |none=>
  obtain rfl:=hno rfl
  simp[Builtin.append_,run_underlying ht,run_underlying ht2,Go.sizeOf,typeInfo,hi,hs',Builtin.lenOf,hle,hf]
 |some a=>
  have:=hst a rfl
  simp[Builtin.append_,run_underlying ht,run_underlying ht2,Go.sizeOf,typeInfo,hi,hs',Builtin.lenOf,hle,hf,this]
theorem append_grow (ht:P.underlying t=some (.slice e)) (ht2:P.underlying t2=some (.slice e2)) (hi:P.info? e=some i) (hz:i.zero=some zv) (hs:P.cellsOf e=es)
  {base:Option Addr} {sLen sCap n xc:Nat} {xa:Option Addr} {olds news:List Value} (hgt:sCap<sLen+n)
  (ho:(Builtin.firstCells es sLen (.slice base sLen sCap)).run P w.drew=.ok olds.toArray w.drew) (hf:(Builtin.firstCells es n (.slice xa n xc)).run P w.drew=.ok news.toArray w.drew)
  (hb:(sLen+n)*i.bytes≤roomB) (hb1:1≤i.bytes) :
  (Builtin.append_ #[t,t2] ty #[.slice base sLen sCap,.slice xa n xc]).run P w =
   .ok (.slice (some ⟨w.heap.size,0,none⟩) (sLen+n) (grownCap w (sLen+n) sCap e))
    (w.drew.alloc (.cells (olds++news++(Builtin.zeroCells zv.cells (grownCap w (sLen+n) sCap e - (sLen+n))).toList).toArray e)):=by
 have hs':i.size=es:=by rw[←hs];simp[Program.cellsOf,hi]
 have hroom:(sLen+n)*i.bytes≤140737488355328:=hb
 have hle:sLen+n≤(sLen+n)*i.bytes:=Nat.le_mul_of_pos_right _ hb1
 have hn:¬ (sLen+n≤sCap):=by omega
 have hb0:¬ i.bytes=0:=by omega
 have hfit:Builtin.nextslicecap (sLen+n) sCap*i.bytes≤281474976710656:=by
  have h1:=nextslicecap_le hgt
  have h2:Builtin.nextslicecap (sLen+n) sCap*i.bytes≤2*(sLen+n)*i.bytes:=Nat.mul_le_mul_right _ h1
  rw[Nat.mul_assoc] at h2
  omega
 have h48':¬ (281474976710656<Builtin.nextslicecap (sLen+n) sCap*i.bytes):=by omega
 simp[Builtin.append_,run_underlying ht,run_underlying ht2,Go.sizeOf,typeInfo,zeroValue,hi,hz,hs',Builtin.lenOf,hn,hb0,h48',Question.forced,ho,hf,newRow,grownCap]
 congr 2
 apply Array.ext'
 simp[List.append_assoc]
theorem wrap_nat62 {n:Nat} (h:n≤2 ^ 62):IntKind.i64.wrap (n:Int)=(n:Int):=by
 simp[IntKind.wrap,IntKind.signed,IntKind.bits,IntKind.min,IntKind.max]
 omega
theorem append_zeros {k:IntKind} (hk:k=.i64) (ht:P.underlying t=some (.slice e)) (ht2:P.underlying t2=some (.int k)) (hi:P.info? e=some i) (hz:i.zero=some zv) (hs:P.cellsOf e=es)
  {base:Option Addr} {n:Nat} {q:IntKind} (hb:n*i.bytes≤roomB) (hb1:1≤i.bytes) (hes:zv.cells.size=es) :
  (Builtin.append_ #[t,t2] ty #[.slice base 0 0,.int q (n:Int)]).run P w =
   if n=0 then .ok (.slice base 0 0) w else .ok (.slice (some ⟨w.heap.size,0,none⟩) n (grownCap w n 0 e))
    (w.drew.alloc (.cells ((Builtin.zeroCells zv.cells n).toList++(Builtin.zeroCells zv.cells (grownCap w n 0 e - n)).toList).toArray e)):=by
 subst hk
 have hs':i.size=es:=by rw[←hs];simp[Program.cellsOf,hi]
 have hroom:n*i.bytes≤140737488355328:=hb
 have hle:n≤n*i.bytes:=Nat.le_mul_of_pos_right _ hb1
 have hw:IntKind.i64.wrap (n:Int)=(n:Int):=wrap_nat62 (by omega)
 have hneg:¬ ((n:Int)<0):=by omega
 have h48:¬ ((281474976710656:Int)<(n:Int)*(i.bytes:Int)):=by
  have:((n*i.bytes:Nat):Int)≤140737488355328:=by omega
  rw[Int.natCast_mul] at this
  omega
 by_cases h0:n=0
 ·subst h0
  rw[if_pos rfl]
  have hw0:IntKind.i64.wrap 0=0:=by decide
  cases base<;>simp[Builtin.append_,run_underlying ht,run_underlying ht2,Go.sizeOf,typeInfo,hi,hs',asInt,asIntOf,hw0,storeCells]
 ·rw[if_neg h0]
  have hgt:0<0+n:=by omega
  have hfit:Builtin.nextslicecap n 0*i.bytes≤281474976710656:=by
   have h1:=nextslicecap_le hgt
   rw[Nat.zero_add] at h1
   have h2:Builtin.nextslicecap n 0*i.bytes≤2*n*i.bytes:=Nat.mul_le_mul_right _ h1
   rw[Nat.mul_assoc] at h2
   omega
  have h48':¬ (281474976710656<Builtin.nextslicecap n 0*i.bytes):=by omega
  have hb0:¬ i.bytes=0:=by omega
  have hint:¬ ((9223372036854775807:Int)<(n:Int)):=by omega
  simp[Builtin.append_,run_underlying ht,run_underlying ht2,Go.sizeOf,typeInfo,zeroValue,hi,hz,hs',asInt,asIntOf,hw,hneg,h48,h0,h48',hb0,hint,Question.forced,newRow,grownCap]
  have hfc:=firstCells_run (P:=P) (w0:=w.drew) (w:=w) (n:=0) (es:=es) (vs:=[]) (m:=0) (xa:=base) (xc:=0) rfl (by simp) (.inl rfl)
  rw[hfc]
  have hze:n*es=0→Builtin.zeroCells zv.cells n = #[]:=by
   intro h
   simp[Builtin.zeroCells,hes,h]
  by_cases hn0:n*es=0
  ·simp[hn0,hze hn0]
  ·simp[hn0]
   congr 2
   apply Array.ext'
   simp
theorem grown_le {need old:Nat} {e:TypeId} (hn:need≤2 ^ 62):need≤grownCap w need old e:=by
 unfold grownCap
 simp only[Question.cut]
 omega
end
end
end Zv
end
section
namespace Zv
open Go
section
variable {P:Program} {g:G} {h:Hp} {w:World}
variable {t t2 ty e e2:TypeId} {i:TypeInfo} {zv:Value} {es by_:Nat}
theorem Fx.drewAlloc (w:World) (o:Obj):Fx w (w.drew.alloc o):=⟨rfl,rfl,rfl,(heap_alloc w.drew o).2.2.size⟩
theorem grow_cells {els xs:List V} {olds news:List Value} (hzc:zv.cells.size=es) (hor:Reps g (els.flatMap V.cells) olds) (hof:∀ u,u ∈ olds→leaf u) (hoe:∀ x,x ∈ els→x.cells.length=es)
  (hnr:Reps g (xs.flatMap V.cells) news) (hnf:∀ u,u ∈ news→leaf u) (hne:∀ x,x ∈ xs→x.cells.length=es) {cap:Nat} (hcap:els.length+xs.length≤cap) :
  let c:=(olds++news++(Builtin.zeroCells zv.cells (cap - (els.length+xs.length))).toList).toArray
  (∀ x,x ∈ els++xs.map norm→x.cells.length=es)∧Reps g ((els++xs.map norm).flatMap V.cells) (olds++news)∧(∀ u,u ∈ olds++news→leaf u) ∧
   (∀ (j:Nat) (v:Value),(olds++news)[j]? = some v→c[j]? = some v)∧c.size=cap*es∧(els++xs.map norm).length*es≤c.size:=by
 intro c
 have hol:olds.length=els.length*es:=by rw[hor.length,flat_len hoe]
 have hnl:news.length=xs.length*es:=by rw[hnr.length,flat_len hne]
 have hcs:c.size=cap*es:=by
  show ((olds++news++(Builtin.zeroCells zv.cells (cap - (els.length+xs.length))).toList).toArray).size=cap*es
  have:(Builtin.zeroCells zv.cells (cap - (els.length+xs.length))).toList.length=(cap - (els.length+xs.length))*es:=by simp[Builtin.zeroCells,hzc]
  rw[List.size_toArray,List.length_append,List.length_append,hol,hnl,this,←Nat.add_mul,←Nat.add_mul]
  congr 1;omega
 refine ⟨fun x hx=>?_,?_,fun u hu=>?_,fun j v hj=>?_,hcs,?_⟩
 ·rcases List.mem_append.1 hx with hx | hx
  ·exact hoe x hx
  ·exact normed_es hne x hx
 ·rw[List.flatMap_append]
  exact hor.app (norm_flat hne hnr hnf)
 ·rcases List.mem_append.1 hu with hu | hu
  ·exact hof u hu
  ·exact hnf u hu
 ·have hlt:=lt_of_get hj
  show ((olds++news++(Builtin.zeroCells zv.cells (cap - (els.length+xs.length))).toList).toArray)[j]? = some v
  simp only[List.getElem?_toArray]
  rw[List.getElem?_append_left hlt]
  exact hj
 ·rw[hcs,List.length_append,List.length_map]
  exact Nat.mul_le_mul_right _ hcap
theorem grow_fresh {els xs:List V} {olds news:List Value} {base xa:Option Addr} {sCap xc:Nat} (R:Rel g h w)
  (ht:P.underlying t=some (.slice e)) (ht2:P.underlying t2=some (.slice e2)) (hi:P.info? e=some i) (hz:i.zero=some zv) (hs:P.cellsOf e=es) (hzc:zv.cells.size=es) (hby:i.bytes=by_) (hb1:1≤by_)
  (hor:Reps g (els.flatMap V.cells) olds) (hof:∀ u,u ∈ olds→leaf u) (hoe:∀ x,x ∈ els→x.cells.length=es)
  (hoz:els.length=0∨∃ b p,base=some ⟨b,p,none⟩∧∀ (j:Nat) (v:Value),olds[j]? = some v→w.cell? ⟨b,p+j,none⟩=some v)
  (hnr:Reps g (xs.flatMap V.cells) news) (hnf:∀ u,u ∈ news→leaf u) (hne:∀ x,x ∈ xs→x.cells.length=es)
  (hnz:xs.length=0∨∃ b p,xa=some ⟨b,p,none⟩∧∀ (j:Nat) (v:Value),news[j]? = some v→w.cell? ⟨b,p+j,none⟩=some v)
  (hgt:sCap<els.length+xs.length) (hroom:(els.length+xs.length)*by_≤roomB) :
  GivesH P g w (Builtin.append_ #[t,t2] ty #[.slice base els.length sCap,.slice xa xs.length xc]) (.own h.next es (els.length+xs.length) 0 (els.length+xs.length)) (h.alloc (.arr es (els++xs.map norm))):=by
 subst hby
 have hol:olds.length=els.length*es:=by rw[hor.length,flat_len hoe]
 have hnl:news.length=xs.length*es:=by rw[hnr.length,flat_len hne]
 have hle:els.length+xs.length≤(els.length+xs.length)*i.bytes:=Nat.le_mul_of_pos_right _ hb1
 have hroom':(els.length+xs.length)*i.bytes≤140737488355328:=hroom
 have hcap:=grown_le (w:=w) (old:=sCap) (e:=e) (need:=els.length+xs.length) (by omega)
 have hrun:=append_grow (P:=P) (w:=w) (ty:=ty) ht ht2 hi hz hs hgt (firstCells_run (w0:=w.drew) (w:=w) rfl hol hoz) (firstCells_run (w0:=w.drew) (w:=w) (m:=xs.length) (xc:=xc) rfl hnl hnz) hroom hb1
 obtain ⟨c1,c2,c3,c4,c5,c6⟩:=grow_cells (g:=g) hzc hor hof hoe hnr hnf hne hcap
 obtain ⟨k1,k2,k3⟩:=newRow_ok (es:=es) (els:=els++xs.map norm) (vs:=olds++news) (ty:=e) (w0:=w.drew) R rfl c1 c2 c3 c4 c6
 have hlen:(els++xs.map norm).length=els.length+xs.length:=by rw[List.length_append,List.length_map]
 rw[hlen] at k1 k2 k3
 refine ⟨_,_,_,hrun,k1,k2,?_,Fx.drewAlloc w _⟩
 refine .own h.next es (els.length+xs.length) 0 (els.length+xs.length) _ _ (by rw[k3]) (by show h.next<max g.N (h.next+1);omega) (by simp[G.put]) (.inr ?_) hcap (by omega) (by omega) ?_
 ·rw[k3];simp
 ·rw[k3]
  show 0+(0+_)*es≤_
  rw[c5]
  simp
theorem app_ok {s x z:V} {a b:Value} {h':Hp} (R:Rel g h w)
  (ht:P.underlying t=some (.slice e)) (ht2:P.underlying t2=some (.slice e2)) (hi:P.info? e=some i) (hz:i.zero=some zv) (hs:P.cellsOf e=es) (hzc:zv.cells.size=es) (hby:i.bytes=by_) (hb1:1≤by_)
  (H:app es by_ h s x=some (z,h')) (ha:Rep g s a) (hb:Rep g x b):GivesH P g w (Builtin.append_ #[t,t2] ty #[a,b]) z h':=by
 unfold app at H
 simp only[Option.bind_eq_some_iff] at H
 obtain ⟨xs,hxs,H⟩:=H
 obtain ⟨xa,xc,news,rfl,hnr,hnf,hnz⟩:=elems_ok R hxs hb
 split at H
 case isFalse=>cases H
 rename_i hall
 have hne:=allV_iff hall
 have hnl:news.length=xs.length*es:=by rw[hnr.length,flat_len hne]
 have hnz':xs.length=0∨∃ b p,xa=some ⟨b,p,none⟩∧∀ (j:Nat) (v:Value),news[j]? = some v→w.cell? ⟨b,p+j,none⟩=some v:=hnz.imp (fun h=>by rw[h];rfl) id
 have hfc:=firstCells_run (P:=P) (w0:=w) (w:=w) (m:=xs.length) (xc:=xc) rfl hnl hnz'
 have hemp:(xs.map norm).isEmpty=true→xs=[]:=by simp
 have hlm:(xs.map norm).length=xs.length:=List.length_map ..
 have nothing:∀ (base:Option Addr) (sLen sCap:Nat),xs=[]→sLen≤sCap→(Builtin.append_ #[t,t2] ty #[.slice base sLen sCap,.slice xa xs.length xc]).run P w=.ok (.slice base sLen sCap) w:=by
  intro base sLen sCap h0 hle
  subst h0
  have hn0:news=[]:=List.eq_nil_of_length_eq_zero (by simpa using hnl)
  subst hn0
  exact append_room (P:=P) (ty:=ty) ht ht2 hi hs (n:=0) (by simpa using hle) hfc (fun a _=>rfl) (fun _=>rfl)
 split at H
 ·-- a tight row
  rename_i l nl
  have ha0:=ha
  cases ha with | tl _ _ es0 q vs hes hr hz0 hn hf=>
  split at H
  ·rename_i he
   cases H
   exact⟨_,w,g,nothing q _ _ (hemp he) (Nat.le_refl _),Le.refl g,R,ha0,Fx.refl w⟩
  ·rename_i he
   split at H
   ·rename_i hc
    obtain ⟨hc1,hc2⟩:=hc
    cases H
    rw[hlm] at hc1 ⊢
    have hpos:0<xs.length:=by
     rcases Nat.eq_zero_or_pos xs.length with h0 | h0
     ·exact absurd (by rw[List.eq_nil_of_length_eq_zero h0];rfl) he
     ·exact h0
    exact grow_fresh R ht ht2 hi hz hs hzc hby hb1 hr hf (allV_iff hc2) (hz0.imp (fun h=>by rw[h];rfl) fun ⟨b,p,e1,e2⟩=>⟨b,p,e1,fun j v hj=>cell_of R (e2 j v hj)⟩) hnr hnf hne hnz' (by omega) hc1
   ·cases H
 ·-- an owned row
  rename_i n e' tot off len
  simp only[Option.bind_eq_some_iff] at H
  obtain ⟨⟨es1,els⟩,hrow,H⟩:=H
  obtain ⟨hn,rfl⟩:=row_get hrow
  simp only at H
  split at H
  case isFalse=>cases H
  rename_i hcond
  obtain ⟨he1,he2,hle⟩:=hcond
  rw[he1] at hn
  have ha0:=ha
  obtain ⟨hnN,hnB,hob⟩:=R.ob n _ hn
  have hB':g.B n=els.length:=hnB
  obtain ⟨c,cty,vs,h1,h2,h3,h4,h5,h6,h7⟩:=hob
  cases ha with | own _ _ _ _ _ cap q hes hN hB hz0 hl hto hc hsz=>
  rw[h3.1] at hz0 hsz
  have hvl:vs.length=els.length*es:=by rw[h5.length,flat_len h4]
  have hcapsz:(g.μ n els.length).o+off*es+cap*es≤c.size:=by rw[h2,Nat.add_assoc,←Nat.add_mul];exact hsz
  have hmul:(off+len)*es=off*es+len*es:=Nat.add_mul ..
  split at H
  ·rename_i he
   cases H
   exact⟨_,w,g,nothing (some q) _ _ (hemp he) hl,Le.refl g,R,ha0,Fx.refl w⟩
  rename_i he
  have hpos:0<xs.length:=by
   rcases Nat.eq_zero_or_pos xs.length with h0 | h0
   ·exact absurd (by rw[List.eq_nil_of_length_eq_zero h0];rfl) he
   ·exact h0
  rw[hlm] at H
  have room:len+xs.length≤cap→q=⟨(g.μ n els.length).b,(g.μ n els.length).o+off*es,none⟩ ∧
    (Builtin.append_ #[t,t2] ty #[.slice (some q) len cap,.slice xa xs.length xc]).run P w =
     .ok (.slice (some q) (len+xs.length) cap) (w.setRow (g.μ n els.length).b (c.toList.take ((g.μ n els.length).o+(off+len)*es)++news++c.toList.drop ((g.μ n els.length).o+(off+len)*es+news.length)).toArray):=by
   intro hcp
   have hq:q=⟨(g.μ n els.length).b,(g.μ n els.length).o+off*es,none⟩:=by
    rcases hz0 with hz0 | hz0
    ·omega
    ·exact hz0
   refine ⟨hq,append_room (P:=P) (ty:=ty) ht ht2 hi hs hcp hfc (fun a hq'=>?_) (fun hq'=>by cases hq')⟩
   cases hq'
   rw[hq,add_none]
   have hm2:(len+xs.length)*es≤cap*es:=Nat.mul_le_mul_right _ hcp
   rw[Nat.add_mul] at hm2
   have hfit:(g.μ n els.length).o+(off+len)*es+0+news.length≤c.size:=by rw[hmul,hnl];omega
   have hst:=run_storeCells_at P (g.μ n els.length).b ((g.μ n els.length).o+(off+len)*es) cty news 0 c w h1 hfit (fun u hu=>leaf_one (hnf u hu))
   simp only[Nat.add_zero] at hst
   rw[Nat.add_assoc,←hmul]
   exact hst
  obtain ⟨k1,k2,k3⟩:=heap_setRow (c':=(c.toList.take ((g.μ n els.length).o+(off+len)*es)++news++c.toList.drop ((g.μ n els.length).o+(off+len)*es+news.length)).toArray) h1
  split at H
  ·-- over what lies behind
   rename_i hin
   cases H
   obtain ⟨hq,hrun⟩:=room (by omega)
   have hm3:(off+len+xs.length)*es≤els.length*es:=Nat.mul_le_mul_right _ hin
   have hm4:(off+len+xs.length)*es=(off+len)*es+xs.length*es:=Nat.add_mul ..
   have hlen:(els.take (off+len)++xs.map norm++els.drop (off+len+xs.length)).length=els.length:=by
    simp only[List.length_append,List.length_take,List.length_map,List.length_drop]
    omega
   refine ⟨_,_,g,hrun,Le.refl g,?_,?_,k3⟩
   ·refine R.set hn (by simp only[Ob.tot];exact hlen) (fun d hd hne=>k2 d hd hne) ?_
    simp only[ObRep]
    rw[hlen]
    refine ⟨_,cty,vs.take ((off+len)*es)++news++vs.drop ((off+len)*es+news.length),k1,?_,h3,?_,?_,?_,splice_at h7 (by omega)⟩
    ·rw[←h2]
     simp only[List.size_toArray,List.length_append,List.length_take,List.length_drop,Array.length_toList]
     have:=h3.2
     rw[←h2] at this
     omega
    ·intro y hy
     simp only[List.mem_append] at hy
     rcases hy with (hy | hy) | hy
     ·exact h4 y (List.mem_of_mem_take hy)
     ·exact normed_es hne y hy
     ·exact h4 y (List.mem_of_mem_drop hy)
    ·rw[List.flatMap_append,List.flatMap_append,←flat_take _ h4,←flat_drop _ h4,hm4,hnl]
     exact ((h5.take _).app (norm_flat hne hnr hnf)).app (h5.drop _)
    ·intro u hu
     simp only[List.mem_append] at hu
     rcases hu with (hu | hu) | hu
     ·exact h6 u (List.mem_of_mem_take hu)
     ·exact hnf u hu
     ·exact h6 u (List.mem_of_mem_drop hu)
   ·exact .own n es els.length off (len+xs.length) cap q h3.1 hN hB (by rw[h3.1];exact hz0) (by omega) (by omega) hc (by rw[h3.1];exact hsz)
  ·rename_i hin
   split at H
   case isFalse=>cases H
   rename_i hroom
   have hlt:len≤els.length - off:=by omega
   have olds:∃ olds,olds=(vs.drop (off*es)).take (len*es)∧Reps g (((els.drop off).take len).flatMap V.cells) olds∧(∀ u,u ∈ olds→leaf u) ∧
     (((els.drop off).take len).length=0∨∃ b p,some q=some ⟨b,p,none⟩∧∀ (j:Nat) (v:Value),olds[j]? = some v→w.cell? ⟨b,p+j,none⟩=some v):=by
    refine ⟨_,rfl,?_,fun u hu=>h6 u (List.mem_of_mem_drop (List.mem_of_mem_take hu)),?_⟩
    ·rw[←flat_take len (fun x hx=>h4 x (List.mem_of_mem_drop hx)),←flat_drop off h4]
     exact (h5.drop _).take _
    ·rcases Nat.eq_zero_or_pos len with h0 | h0
     ·left;subst h0;simp
     ·right
      rcases hz0 with hz0 | hz0
      ·omega
      ·refine ⟨_,_,congrArg some hz0,fun j v hj=>?_⟩
       rw[List.getElem?_take] at hj
       split at hj
       ·rw[List.getElem?_drop] at hj
        exact cell_row h1 (by rw[←h7 _ _ hj];congr 1;omega)
       ·cases hj
   obtain ⟨olds,holds,ho1,ho2,ho3⟩:=olds
   have hoe:∀ x,x ∈ (els.drop off).take len→x.cells.length=es:=fun x hx=>h4 x (List.mem_of_mem_drop (List.mem_of_mem_take hx))
   have hl2:((els.drop off).take len).length=len:=by rw[List.length_take,List.length_drop];omega
   have hol:olds.length=len*es:=by rw[ho1.length,flat_len hoe,hl2]
   have inRoom:∀ hcp:len+xs.length≤cap,∃ w',(Builtin.append_ #[t,t2] ty #[.slice (some q) len cap,.slice xa xs.length xc]).run P w=.ok (.slice (some q) (len+xs.length) cap) w'∧Fx w w' ∧
     (∀ d,d<w.heap.size→d≠(g.μ n els.length).b→w'.heap[d]? = w.heap[d]?) ∧
     ∃ c',w'.heap[(g.μ n els.length).b]? = some (.cells c' cty (0,0))∧c'.size=c.size∧(∀ (j:Nat) (v:Value),(olds++news)[j]? = some v→c'[(g.μ n els.length).o+off*es+j]? = some v) ∧
      (g.μ n els.length).o+off*es+(len+xs.length)*es≤c.size:=by
    intro hcp
    obtain ⟨hq,hrun⟩:=room hcp
    have hm2:(len+xs.length)*es≤cap*es:=Nat.mul_le_mul_right _ hcp
    have hm5:(len+xs.length)*es=len*es+xs.length*es:=Nat.add_mul ..
    have hm6:(off+len)*es≤els.length*es:=Nat.mul_le_mul_right _ hle
    refine ⟨_,hrun,k3,k2,_,k1,?_,?_,by omega⟩
    ·simp only[List.size_toArray,List.length_append,List.length_take,List.length_drop,Array.length_toList]
     omega
    ·have hsp:=splice_end (c:=c) (o:=(g.μ n els.length).o+off*es) (k:=len*es) (vs:=vs.drop (off*es)) (xv:=news) (fun j v hj=>by
      rw[List.getElem?_drop] at hj
      rw[Nat.add_assoc]
      exact h7 _ _ hj) (by rw[List.length_drop];omega) (by omega)
     rw[←holds] at hsp
     rw[hmul,←Nat.add_assoc]
     exact hsp
   have hallN:∀ x,x ∈ (els.drop off).take len++xs.map norm→x.cells.length=es:=by
    intro y hy
    rcases List.mem_append.1 hy with hy | hy
    ·exact hoe y hy
    ·exact normed_es hne y hy
   have hrepN:Reps g (((els.drop off).take len++xs.map norm).flatMap V.cells) (olds++news):=by
    rw[List.flatMap_append]
    exact ho1.app (norm_flat hne hnr hnf)
   have hleafN:∀ u,u ∈ olds++news→leaf u:=by
    intro u hu
    rcases List.mem_append.1 hu with hu | hu
    ·exact ho2 u hu
    ·exact hnf u hu
   have hlenN:((els.drop off).take len++xs.map norm).length=len+xs.length:=by rw[List.length_append,hl2,List.length_map]
   split at H
   ·rename_i hoff
    subst hoff
    cases H
    simp only[List.drop_zero] at ho1 ho3 hoe hl2 hallN hrepN hlenN
    have hnew:g.B n<len+xs.length:=by rw[hB'];omega
    have hobj:∀ m o,(h.set n (.arr es (els.take len++xs.map norm))).get m=some o→(m=n∧o=.arr es (els.take len++xs.map norm))∨(m≠n∧h.get m=some o):=by
     intro m o hm
     rw[get_set hn] at hm
     split at hm
     ·cases hm;exact .inl ⟨by assumption,rfl⟩
     ·exact .inr ⟨by assumption,hm⟩
    have hnx:(h.set n (.arr es (els.take len++xs.map norm))).next=max g.N (n+1):=by
     show h.next=max g.N (n+1)
     rw[R.nx];omega
    have htot:(Ob.arr es (els.take len++xs.map norm)).tot=len+xs.length:=hlenN
    by_cases hcp:len+xs.length≤cap
    ·obtain ⟨w',hrun,hfx,hw',c',hc1,hc2,hc3,hc4⟩:=inRoom hcp
     have hμ:(g.put n (len+xs.length) (g.μ n els.length)).μ n (len+xs.length)=g.μ n els.length:=by simp[G.put]
     have hput:=R.put (h':=h.set n (.arr es (els.take len++xs.map norm))) (w':=w') n (.arr es (els.take len++xs.map norm)) (g.μ n els.length) (.inl ⟨hN,.inl (by rw[htot];exact hnew)⟩) hnx (nodup_set R n _) hobj
      (.inr (.inl ⟨n,_,hn,rfl,fun m _ _ hmk=>hmk⟩)) hw' (by
       rw[htot]
       simp only[ObRep]
       rw[hlenN,hμ]
       refine ⟨c',cty,olds++news,hc1,by rw[hc2,h2],⟨h3.1,by omega⟩,hallN,hrepN.mono (Le.put (.inl ⟨hN,.inl hnew⟩)),hleafN,fun j v hj=>?_⟩
       have:=hc3 j v hj
       simpa using this)
     rw[htot] at hput
     refine ⟨_,w',_,hrun,hput.1,hput.2,?_,hfx⟩
     refine .own n es (len+xs.length) 0 (len+xs.length) cap q (by rw[hμ];exact h3.1) (by show n<max g.N (n+1);omega) (by simp[G.put]) ?_ hcp (by omega) (by omega) ?_
     ·rw[hμ,h3.1];exact hz0
     ·rw[hμ,h3.1];exact hsz
    ·have hcap:=grown_le (w:=w) (old:=cap) (e:=e) (need:=len+xs.length) (by
      have h5':len+xs.length≤(len+xs.length)*by_:=Nat.le_mul_of_pos_right _ hb1
      have h6':(len+xs.length)*by_≤140737488355328:=hroom
      omega)
     rw[hl2] at ho3
     have hrun:=append_grow (P:=P) (w:=w) (ty:=ty) (news:=news) (xa:=xa) (xc:=xc) (n:=xs.length) ht ht2 hi hz hs (Nat.lt_of_not_le hcp) (firstCells_run (w0:=w.drew) (w:=w) (m:=len) (xc:=cap) rfl hol ho3) (firstCells_run (w0:=w.drew) (w:=w) (m:=xs.length) (xc:=xc) rfl hnl hnz') (by rw[hby];exact hroom) (by rw[hby];exact hb1)
     obtain ⟨c1,c2,c3,c4,c5,c6⟩:=grow_cells (g:=g) (zv:=zv) (els:=els.take len) (cap:=grownCap w (len+xs.length) cap e) hzc ho1 ho2 hoe hnr hnf hne (by rw[hl2];exact hcap)
     rw[hl2] at c4 c5 c6
     obtain ⟨a1,a2,a3⟩:=heap_alloc w.drew (.cells (olds++news++(Builtin.zeroCells zv.cells (grownCap w (len+xs.length) cap e - (len+xs.length))).toList).toArray e)
     have hput:=R.put (h':=h.set n (.arr es (els.take len++xs.map norm))) (w':=w.drew.alloc (.cells (olds++news++(Builtin.zeroCells zv.cells (grownCap w (len+xs.length) cap e - (len+xs.length))).toList).toArray e)) n (.arr es (els.take len++xs.map norm))
      ⟨w.heap.size,0,es,(olds++news++(Builtin.zeroCells zv.cells (grownCap w (len+xs.length) cap e - (len+xs.length))).toList).toArray.size⟩ (.inl ⟨hN,.inl (by rw[htot];exact hnew)⟩) hnx (nodup_set R n _) hobj
      (.inl rfl) (fun b hb' _=>a2 b hb') (by
       rw[htot]
       simp only[ObRep]
       rw[hlenN]
       have hμ:∀ pl,(g.put n (len+xs.length) pl).μ n (len+xs.length)=pl:=fun pl=>by simp[G.put]
       rw[hμ]
       refine ⟨_,e,olds++news,a1,rfl,⟨rfl,?_⟩,hallN,hrepN.mono (Le.put (.inl ⟨hN,.inl hnew⟩)),hleafN,fun j v hj=>?_⟩
       ·rw[hlenN] at c6;rw[Nat.zero_add];exact c6
       ·rw[Nat.zero_add];exact c4 j v hj)
     rw[htot] at hput
     refine ⟨_,_,_,hrun,hput.1,hput.2,?_,Fx.drewAlloc w _⟩
     have hμ:∀ pl,(g.put n (len+xs.length) pl).μ n (len+xs.length)=pl:=fun pl=>by simp[G.put]
     refine .own n es (len+xs.length) 0 (len+xs.length) _ _ (by rw[hμ]) (by show n<max g.N (n+1);omega) (by simp[G.put]) (.inr ?_) hcap (by omega) (by omega) ?_
     ·rw[hμ];simp
     ·rw[hμ]
      show 0+(0+_)*es≤_
      rw[c5];simp
   ·rename_i hoff
    cases H
    have hkillget:∀ m o,(h.kill n).get m=some o→m≠n∧h.get m=some o:=by
     intro m o hm
     unfold Hp.get Hp.kill at hm
     rw[look_del m R.nd] at hm
     split at hm
     ·cases hm
     ·exact⟨by assumption,hm⟩
    by_cases hcp:len+xs.length≤cap
    ·obtain ⟨w',hrun,hfx,hw',c',hc1,hc2,hc3,hc4⟩:=inRoom hcp
     have hnewB:(Ob.arr es ((els.drop off).take len++xs.map norm)).tot=len+xs.length:=hlenN
     have hμ:∀ pl,(g.put h.next (len+xs.length) pl).μ h.next (len+xs.length)=pl:=fun pl=>by simp[G.put]
     have hput:=R.put (h':=(h.kill n).alloc (.arr es ((els.drop off).take len++xs.map norm))) (w':=w') h.next (.arr es ((els.drop off).take len++xs.map norm)) ⟨(g.μ n els.length).b,(g.μ n els.length).o+off*es,es,c.size⟩
      (.inr R.nx) (by show h.next+1=max g.N (h.next+1);rw[R.nx];omega) (nodup_alloc (R.kill n) _) (fun m o hm=>by
       rw[get_alloc] at hm
       split at hm
       ·cases hm;exact .inl ⟨by assumption,rfl⟩
       ·exact .inr ⟨by assumption,(hkillget m o hm).2⟩)
      (.inr (.inl ⟨n,_,hn,rfl,fun m o hm hmk=>by
       rw[get_alloc] at hm
       rw[if_neg (show ¬ m=(h.kill n).next from hmk)] at hm
       exact (hkillget m o hm).1⟩)) hw' (by
       rw[hnewB]
       simp only[ObRep]
       rw[hlenN,hμ]
       exact⟨c',cty,olds++news,hc1,hc2,⟨rfl,hc4⟩,hallN,hrepN.mono (Le.put (.inr R.nx)),hleafN,hc3⟩)
     rw[hnewB] at hput
     refine ⟨_,w',_,hrun,hput.1,hput.2,?_,hfx⟩
     refine .own h.next es (len+xs.length) 0 (len+xs.length) cap q (by rw[hμ]) (by show h.next<max g.N (h.next+1);omega) (by simp[G.put]) ?_ hcp (by omega) (by omega) ?_
     ·rw[hμ]
      simp only[Nat.zero_mul,Nat.add_zero]
      exact hz0
     ·rw[hμ]
      show (g.μ n els.length).o+off*es+(0+cap)*es≤c.size
      rw[Nat.zero_add]
      exact hcapsz
    ·have hgf:=grow_fresh (ty:=ty) (xa:=xa) (xc:=xc) (sCap:=cap) (base:=some q) (R.kill n) ht ht2 hi hz hs hzc hby hb1 ho1 ho2 hoe ho3 hnr hnf hne hnz' (by rw[hl2];omega) (by rw[hl2];exact hroom)
     rw[hl2] at hgf
     exact hgf
 ·-- nothing onto a slice that is only read
  rename_i l
  split at H
  ·rename_i he
   cases H
   have hd:=ha.dI
   cases hd with | lst _ es0 cap q vs hes hc hr hz1=>
   exact⟨_,w,g,nothing q _ _ (hemp he) hc,Le.refl g,R,ha,Fx.refl w⟩
  ·cases H
 ·cases H
theorem zero_made (zc:Array Value) (n:Nat):(Builtin.zeroCells zc n).toList=(List.replicate n zc.toList).flatMap id:=by
 rw[←madeCells_eq];rfl
theorem appz_ok {s x y z:V} {a b:Value} {h':Hp} (R:Rel g h w)
  (ht:P.underlying t=some (.slice e)) (ht2:P.underlying t2=some (.int .i64)) (hi:P.info? e=some i) (hz:i.zero=some zv) (hs:P.cellsOf e=es) (hby:i.bytes=by_) (hb1:1≤by_)
  (hzr:Rep g z zv) (hzs:stor z=true) (hzl:z.cells.length=es)
  (H:appz z es by_ h s x=some (y,h')) (ha:Rep g s a) (hb:Rep g x b):GivesH P g w (Builtin.append_ #[t,t2] ty #[a,b]) y h':=by
 unfold appz at H
 split at H
 case h_2=>cases H
 rename_i nl
 simp only[Option.bind_eq_some_iff] at H
 obtain ⟨k,hk,H⟩:=H
 split at H
 case isFalse=>cases H
 rename_i hc
 obtain ⟨hc1,hc2⟩:=hc
 obtain ⟨q,hbq⟩:∃ q,b=.int q (k:Int):=by
  unfold ixOf at hk
  split at hk
  ·rename_i q j
   split at hk
   ·rename_i hj
    cases hk
    cases hb with | d _ _ hd=>cases hd with | int=>exact⟨q,by rw[show ((j.toNat:Nat):Int)=j by omega]⟩
   ·cases hk
  ·cases hk
 subst hbq
 obtain ⟨zr,zf⟩:=hzr.cells hzs
 have hzc:zv.cells.size=es:=by have:=zr.length;rw[Array.length_toList,hzl] at this;exact this
 have ha0:=ha
 cases ha with | tl _ _ es0 p vs hes hr hz0 hn hf=>
 subst hby
 have hrun:=append_zeros (P:=P) (w:=w) (ty:=ty) (base:=p) (n:=k) (q:=q) rfl ht ht2 hi hz hs hc1 hb1 hzc
 by_cases h0:k=0
 ·subst h0
  rw[if_pos rfl] at H hrun
  cases H
  exact⟨_,w,g,hrun,Le.refl g,R,ha0,Fx.refl w⟩
 ·rw[if_neg h0] at H hrun
  cases H
  have hle:k≤k*i.bytes:=Nat.le_mul_of_pos_right _ hb1
  have hcap:=grown_le (w:=w) (old:=0) (e:=e) (need:=k) (by omega)
  have hcs:((Builtin.zeroCells zv.cells k).toList++(Builtin.zeroCells zv.cells (grownCap w k 0 e - k)).toList).toArray.size=grownCap w k 0 e*es:=by
   rw[List.size_toArray,List.length_append]
   simp only[Builtin.zeroCells,Array.length_toList,Array.size_map,Array.size_range,hzc]
   rw[←Nat.add_mul];congr 1;omega
  obtain ⟨k1,k2,k3⟩:=newRow_ok (es:=es) (els:=List.replicate k z) (vs:=(List.replicate k zv.cells.toList).flatMap id) (c:=((Builtin.zeroCells zv.cells k).toList++(Builtin.zeroCells zv.cells (grownCap w k 0 e - k)).toList).toArray) (ty:=e) (w0:=w.drew) R rfl
   (fun x hx=>by rw[List.eq_of_mem_replicate hx];exact hzl) (made_reps zr k) (fun u hu=>by
    obtain ⟨l,hl,hu⟩:=List.mem_flatMap.1 hu
    rw[List.eq_of_mem_replicate hl] at hu
    exact zf u hu) (fun j u hj=>by
    rw[←zero_made] at hj
    simp only[List.getElem?_toArray]
    rw[List.getElem?_append_left (lt_of_get hj)]
    exact hj) (by rw[List.length_replicate,hcs];exact Nat.mul_le_mul_right _ hcap)
  rw[List.length_replicate] at k1 k2 k3
  refine ⟨_,_,_,hrun,k1,k2,?_,Fx.drewAlloc w _⟩
  refine .own h.next es k 0 k _ _ (by rw[k3]) (by show h.next<max g.N (h.next+1);omega) (by simp[G.put]) (.inr ?_) hcap (by omega) (by omega) ?_
  ·rw[k3];simp
  ·rw[k3]
   show 0+(0+_)*es≤_
   rw[hcs]
   simp
theorem cpy_ok {s x z:V} {a b:Value} {h':Hp} (R:Rel g h w)
  (ht:P.underlying t=some (.slice e)) (hi:(P.info? e).isSome=true) (hs:P.cellsOf e=es)
  (H:cpy es h s x=some (z,h')) (ha:Rep g s a) (hb:Rep g x b):GivesH P g w (Builtin.copy_ #[t,t2] ty #[a,b]) z h':=by
 unfold cpy at H
 simp only[Option.bind_eq_some_iff] at H
 obtain ⟨xs,hxs,H⟩:=H
 obtain ⟨xa,xc,news,rfl,hnr,hnf,hnz⟩:=elems_ok R hxs hb
 split at H
 case isFalse=>cases H
 rename_i hall
 have hne:=allV_iff hall
 have hnl:news.length=xs.length*es:=by rw[hnr.length,flat_len hne]
 have run:∀ (base:Option Addr) (dLen dCap:Nat) (w':World),(∀ q,base=some q→(storeCells q (news.take (min xs.length dLen*es))).run P w=.ok () w')→(base=none→w'=w) →
   (Builtin.copy_ #[t,t2] ty #[.slice base dLen dCap,.slice xa xs.length xc]).run P w=.ok (goInt (min xs.length dLen:Nat)) w':=by
  intro base dLen dCap w' hst hno
  have hmul:min xs.length dLen*es≤xs.length*es:=Nat.mul_le_mul_right _ (Nat.min_le_left _ _)
  have hfc:=firstCells_run (P:=P) (w0:=w) (w:=w) (n:=min xs.length dLen) (m:=xs.length) (xc:=xc) (xa:=xa) (es:=es) (vs:=news.take (min xs.length dLen*es)) rfl (by rw[List.length_take];omega) (by
   rcases hnz with h0 | ⟨b,p,e1,e2⟩
   ·left;rw[h0];simp
   ·right
    refine ⟨b,p,e1,fun j v hj=>?_⟩
    rw[List.getElem?_take] at hj
    split at hj
    ·exact e2 j v hj
    ·cases hj)
  have hsz:(Go.sizeOf e).run P w=.ok es w:=by rw[run_sizeOf' hi,hs]
  cases base with
  |none=>
   obtain rfl:=hno rfl
   simp[Builtin.copy_,run_underlying ht,Builtin.lenOf,hsz,hfc]
  |some q=>simp[Builtin.copy_,run_underlying ht,Builtin.lenOf,hsz,hfc,hst q rfl]
 split at H
 ·rename_i n e' tot off len
  simp only[Option.bind_eq_some_iff] at H
  obtain ⟨⟨es1,els⟩,hrow,H⟩:=H
  obtain ⟨hn,rfl⟩:=row_get hrow
  simp only at H
  split at H
  case isFalse=>cases H
  rename_i hcond
  obtain ⟨hle,he1,he2⟩:=hcond
  rw[he1] at hn H
  cases H
  obtain ⟨hnN,hnB,hob⟩:=R.ob n _ hn
  obtain ⟨c,cty,vs,h1,h2,h3,h4,h5,h6,h7⟩:=hob
  cases ha with | own _ _ _ _ _ cap q hes hN hB hz0 hl hto hc hsz=>
  rw[h3.1] at hz0 hsz
  have hvl:vs.length=els.length*es:=by rw[h5.length,flat_len h4]
  have hkl:(news.take (min xs.length len*es)).length=min xs.length len*es:=by
   have hmul:min xs.length len*es≤xs.length*es:=Nat.mul_le_mul_right _ (Nat.min_le_left _ _)
   rw[List.length_take];omega
  have hm3:(off+min xs.length len)*es≤els.length*es:=Nat.mul_le_mul_right _ (by omega)
  have hm4:(off+min xs.length len)*es=off*es+min xs.length len*es:=Nat.add_mul ..
  have hsp:=splice_at (k:=off*es) (xv:=news.take (min xs.length len*es)) h7 (by omega)
  obtain ⟨k1,k2,k3⟩:=heap_setRow (c':=(c.toList.take ((g.μ n els.length).o+off*es)++news.take (min xs.length len*es)++c.toList.drop ((g.μ n els.length).o+off*es+(news.take (min xs.length len*es)).length)).toArray) h1
  have hb3:=h3.2
  rw[←h2] at hb3
  have hrun:∃ w',(Builtin.copy_ #[t,t2] ty #[.slice (some q) len cap,.slice xa xs.length xc]).run P w=.ok (goInt (min xs.length len:Nat)) w'∧Fx w w' ∧
    (∀ d,d<w.heap.size→d≠(g.μ n els.length).b→w'.heap[d]? = w.heap[d]?)∧∃ c',w'.heap[(g.μ n els.length).b]? = some (.cells c' cty (0,0))∧c'.size=c.size ∧
     ∀ (j:Nat) (v:Value),(vs.take (off*es)++news.take (min xs.length len*es)++vs.drop (off*es+(news.take (min xs.length len*es)).length))[j]? = some v→c'[(g.μ n els.length).o+j]? = some v:=by
   rcases hz0 with hz0 | hz0
   ·-- no cell is written
    have h0:min xs.length len=0:=by omega
    refine ⟨w,run (some q) len cap w (fun p hp=>by rw[h0];simp[storeCells]) (fun hp=>by cases hp),Fx.refl w,fun _ _ _=>rfl,c,h1,rfl,fun j v hj=>?_⟩
    rw[h0] at hj
    simp at hj
    exact h7 j v hj
   ·refine ⟨_,run (some q) len cap _ (fun p hp=>?_) (fun hp=>by cases hp),k3,k2,_,k1,?_,hsp⟩
    ·cases hp
     rw[hz0]
     have hst:=run_storeCells_at P (g.μ n els.length).b ((g.μ n els.length).o+off*es) cty (news.take (min xs.length len*es)) 0 c w h1 (by omega) (fun u hu=>leaf_one (hnf u (List.mem_of_mem_take hu)))
     simp only[Nat.add_zero] at hst
     exact hst
    ·simp only[List.size_toArray,List.length_append,List.length_take,List.length_drop,Array.length_toList]
     rw[List.length_take] at hkl
     omega
  obtain ⟨w',hr,hfx,hw',c',hc1,hc2,hc3⟩:=hrun
  have hlen:(els.take off++xs.take (min xs.length len)++els.drop (off+min xs.length len)).length=els.length:=by
   simp only[List.length_append,List.length_take,List.length_drop]
   omega
  refine ⟨_,w',g,hr,Le.refl g,?_,.d _ _ (.int _ _),hfx⟩
  refine R.set hn (by simp only[Ob.tot];exact hlen) (fun d hd hne=>hw' d hd hne) ?_
  simp only[ObRep]
  rw[hlen]
  refine ⟨c',cty,_,hc1,by rw[hc2,h2],h3,?_,?_,?_,hc3⟩
  ·intro y hy
   simp only[List.mem_append] at hy
   rcases hy with (hy | hy) | hy
   ·exact h4 y (List.mem_of_mem_take hy)
   ·exact hne y (List.mem_of_mem_take hy)
   ·exact h4 y (List.mem_of_mem_drop hy)
  ·rw[List.flatMap_append,List.flatMap_append,←flat_take _ h4,←flat_drop _ h4,←flat_take _ hne,hm4,hkl]
   exact ((h5.take _).app (hnr.take _)).app (h5.drop _)
  ·intro u hu
   simp only[List.mem_append] at hu
   rcases hu with (hu | hu) | hu
   ·exact h6 u (List.mem_of_mem_take hu)
   ·exact hnf u (List.mem_of_mem_take hu)
   ·exact h6 u (List.mem_of_mem_drop hu)
 ·cases H
  cases ha with | tl _ _ es0 q vs hes hr hz0 hn hf=>
  refine ⟨_,w,g,run q 0 0 w (fun p hp=>by simp[storeCells]) (fun _=>rfl),Le.refl g,R,?_,Fx.refl w⟩
  have:min xs.length 0=0:=Nat.min_zero _
  rw[this]
  exact .d _ _ (.int _ _)
 ·cases H
theorem elems0_eq {x:V} {l:List V} (H:elems0 x=some l):elems h x=some l:=by
 unfold elems0 at H
 split at H<;>first | (cases H;rfl) | cases H
theorem appd_ok {s x z:V} {a b:Value} (R:Rel g h w)
  (ht:P.underlying t=some (.slice e)) (ht2:P.underlying t2=some (.slice e2)) (hi:P.info? e=some i) (hz:i.zero=some zv) (hs:P.cellsOf e=es) (hzc:zv.cells.size=es) (hby:i.bytes=by_) (hb1:1≤by_)
  (H:appd es by_ s x=some z) (ha:Rep g s a) (hb:Rep g x b):GivesH P g w (Builtin.append_ #[t,t2] ty #[a,b]) z h:=by
 unfold appd at H
 split at H
 case h_2=>cases H
 rename_i l nl
 simp only[Option.bind_eq_some_iff] at H
 obtain ⟨xs,hxs,H⟩:=H
 obtain ⟨xa,xc,news,rfl,hnr,hnf,hnz⟩:=elems_ok R (elems0_eq hxs) hb
 split at H
 case isFalse=>cases H
 rename_i hall
 have hne:=allV_iff hall
 have hnl:news.length=xs.length*es:=by rw[hnr.length,flat_len hne]
 have hnz':xs.length=0∨∃ b p,xa=some ⟨b,p,none⟩∧∀ (j:Nat) (v:Value),news[j]? = some v→w.cell? ⟨b,p+j,none⟩=some v:=hnz.imp (fun h=>by rw[h];rfl) id
 have hfc:=firstCells_run (P:=P) (w0:=w) (w:=w) (m:=xs.length) (xc:=xc) rfl hnl hnz'
 have hemp:(xs.map norm).isEmpty=true→xs=[]:=by simp
 have hlm:(xs.map norm).length=xs.length:=List.length_map ..
 have ha0:=ha
 cases ha with | tl _ _ es0 q vs hes hr hz0 hn hf=>
 split at H
 ·rename_i he
  simp only[Option.map_eq_some_iff] at H
  obtain ⟨d,hd,rfl⟩:=H
  have h0:=hemp he
  subst h0
  have hn0:news=[]:=List.eq_nil_of_length_eq_zero (by simpa using hnl)
  subst hn0
  exact⟨_,w,g,append_room (P:=P) (ty:=ty) ht ht2 hi hs (n:=0) (by simp) hfc (fun a _=>rfl) (fun _=>rfl),Le.refl g,R,.d _ _ (ha0.toD hd),Fx.refl w⟩
 ·rename_i he
  split at H
  ·rename_i hc
   obtain ⟨hroom,hc2⟩:=hc
   simp only[Option.map_eq_some_iff] at H
   obtain ⟨ds,hds,rfl⟩:=H
   rw[hlm] at hroom
   have hoe:=allV_iff hc2
   have hpos:0<xs.length:=by
    rcases Nat.eq_zero_or_pos xs.length with h0 | h0
    ·exact absurd (by rw[List.eq_nil_of_length_eq_zero h0];rfl) he
    ·exact h0
   have hoz:l.length=0∨∃ b p,q=some ⟨b,p,none⟩∧∀ (j:Nat) (v:Value),vs[j]? = some v→w.cell? ⟨b,p+j,none⟩=some v:=hz0.imp (fun h=>by rw[h];rfl) fun ⟨b,p,e1,e2⟩=>⟨b,p,e1,fun j v hj=>cell_of R (e2 j v hj)⟩
   subst hby
   have hol:vs.length=l.length*es:=by rw[hr.length,flat_len hoe]
   have hle:l.length+xs.length≤(l.length+xs.length)*i.bytes:=Nat.le_mul_of_pos_right _ hb1
   have hroom':(l.length+xs.length)*i.bytes≤140737488355328:=hroom
   have hcap:=grown_le (w:=w) (old:=l.length) (e:=e) (need:=l.length+xs.length) (by omega)
   have hrun:=append_grow (P:=P) (w:=w) (ty:=ty) ht ht2 hi hz hs (show l.length<l.length+xs.length by omega) (firstCells_run (w0:=w.drew) (w:=w) rfl hol hoz) (firstCells_run (w0:=w.drew) (w:=w) (m:=xs.length) (xc:=xc) rfl hnl hnz') hroom hb1
   obtain ⟨c1,c2,c3,c4,c5,c6⟩:=grow_cells (g:=g) hzc hr hf hoe hnr hnf hne hcap
   obtain ⟨a1,a2,a3⟩:=heap_alloc w.drew (.cells (vs++news++(Builtin.zeroCells zv.cells (grownCap w (l.length+xs.length) l.length e - (l.length+xs.length))).toList).toArray e)
   obtain ⟨b1,b2⟩:=R.fix _ a1 a2
   refine ⟨_,_,_,hrun,b1,b2,?_,Fx.drewAlloc w _⟩
   have hlen:ds.length=l.length+xs.length:=by rw[←toDs_length hds,List.length_append,List.length_map]
   have key:=RepD.lst (φ:=(g.fix w.heap.size (.cells (vs++news++(Builtin.zeroCells zv.cells (grownCap w (l.length+xs.length) l.length e - (l.length+xs.length))).toList).toArray e)).φ) ds es (grownCap w (l.length+xs.length) l.length e) (some ⟨w.heap.size,0,none⟩) (vs++news)
    (toDs_es hds c1) (by rw[hlen];exact hcap) ((c2.mono b1).toDs (toDs_flat hds) c3) (.inr ⟨_,_,rfl,fun j v hj=>by
     show cellφ (fun c=>if c=w.heap.size then some _ else g.φ c) w.heap.size (0+j)=some v
     simp only[cellφ,if_true]
     rw[Nat.zero_add]
     exact c4 j v hj⟩)
   rw[hlen] at key
   exact .d _ _ key
  ·cases H
end
end Zv
end
section
namespace Zv
open Go
section
variable {P:Program} {g:G} {h:Hp} {w:World}
def kkOk (P:Program) (k:KK) (t:TypeId):Bool:=
 match k,P.underlying t with
 | .i,some (.int _)=>true
 | .s,some .string=>true
 | .b,some .bool=>true
 |_,_=>false
theorem kk_desc {k:KK} {t:TypeId} (hk:kkOk P k t=true):∃ d,P.underlying t=some d∧((k=.i∧∃ q,d=.int q)∨(k=.s∧d=.string)∨(k=.b∧d=.bool)):=by
 unfold kkOk at hk
 split at hk
 ·exact⟨_,by assumption,.inl ⟨rfl,_,rfl⟩⟩
 ·exact⟨_,by assumption,.inr (.inl ⟨rfl,rfl⟩)⟩
 ·exact⟨_,by assumption,.inr (.inr ⟨rfl,rfl⟩)⟩
 ·cases hk
theorem sameNow_ok {k:KK} {t:TypeId} {d:TypeDesc} (hk:kkOk P k t=true) (hd:P.underlying t=some d) {x y:D} {a b:Value} {r:Bool} (h:keyEq k x y=some r) (ha:RepD g.φ x a) (hb:RepD g.φ y b) :
  Instr.sameNow d a b=some r∧(r=true→Instr.sameBits 10000 b a=true):=by
 obtain ⟨d',hd',hc⟩:=kk_desc hk
 rw[hd] at hd'
 cases hd'
 unfold keyEq at h
 split at h
 ·cases ha;cases hb
  rcases hc with ⟨_,q,rfl⟩ | ⟨e,_⟩ | ⟨e,_⟩
  ·split at h
   ·rename_i e;subst e;cases h
    refine ⟨by simp[Instr.sameNow],fun hr=>?_⟩
    have:=eq_of_beq hr
    subst this
    simp[Instr.sameBits]
   ·cases h
  ·cases e
  ·cases e
 ·cases ha;cases hb
  rcases hc with ⟨e,_⟩ | ⟨_,rfl⟩ | ⟨e,_⟩
  ·cases e
  ·cases h
   refine ⟨by simp[Instr.sameNow,ba_beq],fun hr=>?_⟩
   have:=of_decide_eq_true hr
   subst this
   simp[Instr.sameBits,ba_beq]
  ·cases e
 ·cases ha;cases hb
  rcases hc with ⟨e,_⟩ | ⟨e,_⟩ | ⟨_,rfl⟩
  ·cases e
  ·cases e
  ·cases h
   refine ⟨by simp[Instr.sameNow],fun hr=>?_⟩
   have:=eq_of_beq hr
   subst this
   simp[Instr.sameBits]
 ·cases h
theorem findK_ok {kk:KK} {t:TypeId} {d:TypeDesc} (hk:kkOk P kk t=true) (hd:P.underlying t=some d) {k:D} {a:Value} (ha:RepD g.φ k a):∀ {kvs:List (D × V)} {es:List MapEntry} {r:Option V} (i:Nat),RepKvs g kvs es→findK kk k kvs=some r →
  ∃ q,Instr.findNow d a es i=some q∧((r=none∧q=none)∨∃ x j v,r=some x∧q=some (i+j,v)∧Rep g x v)
 |_,_,r,i,.nil,h=>by simp only[findK] at h;cases h;exact⟨none,rfl,.inl ⟨rfl,rfl⟩⟩
 |_,_,r,i,.cons k' x l e es hk' hx hs,h=>by
  simp only[findK] at h
  split at h
  ·rename_i hq
   cases h
   have:=(sameNow_ok hk hd hq ha hk').1
   exact⟨some (i,e.val),by simp[Instr.findNow,this],.inr ⟨x,0,e.val,rfl,rfl,hx⟩⟩
  ·rename_i hq
   have hsn:=(sameNow_ok hk hd hq ha hk').1
   obtain ⟨q,h1,h2⟩:=findK_ok hk hd ha (i+1) hs h
   refine ⟨q,by simp[Instr.findNow,hsn,h1],?_⟩
   rcases h2 with h2 | ⟨x',j,v,e1,e2,e3⟩
   ·exact .inl h2
   ·exact .inr ⟨x',j+1,v,e1,by rw[e2];congr 2;omega,e3⟩
  ·cases h
theorem checkKey_run {kk:KK} {t:TypeId} (hk:kkOk P kk t=true) (b:Bool) (a:Value):(Instr.checkKey b 10000 t a).run P w=.ok () w:=by
 obtain ⟨d,hd,hc⟩:=kk_desc hk
 have:∀ n,(Instr.checkKey b (n+1) t a).run P w=.ok () w:=by
  intro n
  rcases hc with ⟨_,q,rfl⟩ | ⟨_,rfl⟩ | ⟨_,rfl⟩<;>simp[Instr.checkKey,run_underlying hd]
 exact this 9999
theorem getObj_run {r:Nat} {es:Array MapEntry} {cl:Nat} (hb:w.heap[r]? = some (.map es cl)):(getObj r).run P w=.ok (.map es cl) w:=by
 simp[getObj,Sem.run,hb]
theorem entries_ok {x:V} {kvs:List (D × V)} {a:Value} (R:Rel g h w) (H:entries h x=some kvs) (ha:Rep g x a) :
  (a=.map none∧kvs=[])∨∃ n es cl,x=.map n∧h.get n=some (.mp kvs)∧a=.map (some (g.μ n 0).b)∧w.heap[(g.μ n 0).b]? = some (.map es cl)∧RepKvs g kvs es.toList:=by
 unfold entries at H
 split at H
 ·rename_i n
  split at H
  ·rename_i q hq
   cases H
   obtain ⟨es,cl,h1,h2⟩:=(R.ob n _ hq).2.2
   cases ha
   exact .inr ⟨n,es,cl,rfl,hq,rfl,h1,h2⟩
  ·cases H
 ·cases H
  cases ha.dI
  exact .inl ⟨rfl,rfl⟩
 ·cases H
theorem RepKvs.length:∀ {l:List (D × V)} {es:List MapEntry},RepKvs g l es→es.length=l.length
 |_,_,.nil=>rfl
 |_,_,.cons _ _ _ _ _ _ _ hs=>by simp[RepKvs.length hs]
theorem lenM_ok {t k e ty:TypeId} {x z:V} {a:Value} (R:Rel g h w) (ht:P.underlying t=some (.map k e)) (H:lenM h x=some z) (ha:Rep g x a):Gives P g w (Builtin.len_ #[t] ty #[a]) z:=by
 unfold lenM at H
 simp only[Option.map_eq_some_iff] at H
 obtain ⟨kvs,hk,rfl⟩:=H
 rcases entries_ok R hk ha with ⟨rfl,rfl⟩ | ⟨n,es,cl,rfl,h1,rfl,h2,h3⟩
 ·exact⟨goInt 0,by simp[Builtin.len_,run_underlying ht],.d _ _ (.int _ _)⟩
 ·refine ⟨goInt es.size,by simp[Builtin.len_,run_underlying ht,getObj_run h2],?_⟩
  have:=h3.length
  rw[Array.length_toList] at this
  rw[this]
  exact .d _ _ (.int _ _)
theorem lk_ok {t k e:TypeId} {i:TypeInfo} {zv:Value} {kk:KK} {z:V} {ok:Bool} {m x y:V} {a b:Value} (R:Rel g h w) (ht:P.underlying t=some (.map k e)) (hkk:kkOk P kk k=true)
  (hi:P.info? e=some i) (hz:i.zero=some zv) (hzr:Rep g z zv) (H:lk kk z ok h m x=some y) (ha:Rep g m a) (hb:Rep g x b):Gives P g w (Instr.lookup t a b ok) y:=by
 unfold lk at H
 split at H
 case h_2=>cases H
 rename_i q
 simp only[Option.bind_eq_some_iff,Option.map_eq_some_iff] at H
 obtain ⟨kvs,hkvs,r,hr,rfl⟩:=H
 obtain ⟨d,hd,_⟩:=kk_desc hkk
 have hzero:(zeroValue e).run P w=.ok zv w:=by simp[zeroValue,typeInfo,hi,hz]
 have fin:∀ v,(Instr.lookup t a b ok).run P w=.ok (if ok=true then .tuple #[v,.bool r.isSome] else v) w→Rep g (r.getD z) v→Gives P g w (Instr.lookup t a b ok) (if ok=true then .tup [r.getD z,.d (.bool r.isSome)] else r.getD z):=by
  intro v h5 h6
  refine ⟨_,h5,?_⟩
  cases ok
  ·exact h6
  ·exact .tup _ [v,.bool r.isSome] (.cons _ _ _ _ h6 (.cons _ _ _ _ (.d _ _ (.bool _)) .nil))
 rcases entries_ok R hkvs ha with ⟨rfl,rfl⟩ | ⟨n,es,cl,rfl,h1,rfl,h2,h3⟩
 ·simp only[findK] at hr
  cases hr
  refine fin zv ?_ hzr
  have hfind:(Instr.findKey k b []).run P w=.ok none w:=by
   simp only[Instr.findKey,Sem.run_bind,run_underlying hd,Result.andThen_ok,Instr.findNow,Sem.run_pure]
  simp only[Instr.lookup,Sem.run_bind,run_underlying ht,Result.andThen_ok,checkKey_run hkk,Sem.run_pure,hfind,hzero]
  cases ok<;>rfl
 ·obtain ⟨q',hq1,hq2⟩:=findK_ok hkk hd hb.dI 0 h3 hr
  have hfind:(Instr.findKey k b es.toList).run P w=.ok q' w:=by
   simp only[Instr.findKey,Sem.run_bind,run_underlying hd,Result.andThen_ok,hq1,Sem.run_pure]
  rcases hq2 with ⟨rfl,rfl⟩ | ⟨x',j,v,rfl,rfl,hv⟩
  ·refine fin zv ?_ hzr
   simp only[Instr.lookup,Sem.run_bind,run_underlying ht,Result.andThen_ok,getObj_run h2,checkKey_run hkk,Sem.run_pure,hfind,hzero]
   cases ok<;>rfl
  ·refine fin v ?_ hv
   simp only[Instr.lookup,Sem.run_bind,run_underlying ht,Result.andThen_ok,getObj_run h2,checkKey_run hkk,Sem.run_pure,hfind]
   cases ok<;>rfl
theorem putK_ok {kk:KK} {t:TypeId} {d:TypeDesc} (hk:kkOk P kk t=true) (hd:P.underlying t=some d) {k:D} {x:V} {a v:Value} (ha:RepD g.φ k a) (hv:Rep g x v):∀ {kvs s:List (D × V)} {es:List MapEntry} (i:Nat),RepKvs g kvs es→putK kk k x kvs=some s →
  (Instr.findNow d a es i=some none∧s=kvs++[(k,x)]) ∨
   ∃ j e u,Instr.findNow d a es i=some (some (i+j,u))∧es[j]? = some e∧Instr.sameBits 10000 e.key a=true∧RepKvs g s (es.set j { e with key:=a,val:=v })
 |_,s,_,i,.nil,h=>by simp only[putK] at h;cases h;exact .inl ⟨rfl,rfl⟩
 |_,s,_,i,.cons k' x' l e es hk' hx hs,h=>by
  simp only[putK] at h
  split at h
  ·rename_i hq
   cases h
   have:=sameNow_ok hk hd hq ha hk'
   refine .inr ⟨0,e,e.val,by simp[Instr.findNow,this.1],rfl,this.2 rfl,?_⟩
   exact .cons k x l _ es ha hv hs
  ·rename_i hq
   simp only[Option.map_eq_some_iff] at h
   obtain ⟨s',hs',rfl⟩:=h
   have hsn:=(sameNow_ok hk hd hq ha hk').1
   rcases putK_ok hk hd ha hv (i+1) hs hs' with ⟨h1,rfl⟩ | ⟨j,e',u,h1,h2,h3,h4⟩
   ·exact .inl ⟨by simp[Instr.findNow,hsn,h1],rfl⟩
   ·refine .inr ⟨j+1,e',u,by simp[Instr.findNow,hsn,h1];omega,by simpa using h2,h3,?_⟩
    exact .cons k' x' s' e _ hk' hx h4
  ·cases h
theorem RepKvs.snoc {k:D} {x:V} {e:MapEntry} (hk:RepD g.φ k e.key) (hx:Rep g x e.val):∀ {l:List (D × V)} {es:List MapEntry},RepKvs g l es→RepKvs g (l++[(k,x)]) (es++[e])
 |_,_,.nil=>.cons k x [] e [] hk hx .nil
 |_,_,.cons k' x' l e' es hk' hx' hs=>.cons k' x' _ e' _ hk' hx' (RepKvs.snoc hk hx hs)
theorem heap_setObj {r:Nat} {o o':Obj} (hb:w.heap[r]? = some o) :
  ({ w with heap:=w.heap.setIfInBounds r o' }:World).heap[r]? = some o'∧(∀ d,d<w.heap.size→d≠r→({ w with heap:=w.heap.setIfInBounds r o' }:World).heap[d]? = w.heap[d]?)∧Fx w { w with heap:=w.heap.setIfInBounds r o' }:=by
 have hlt:=(Array.getElem?_eq_some_iff.1 hb).1
 refine ⟨by simp[hlt],fun d hd hne=>?_,⟨rfl,rfl,rfl,by simp⟩⟩
 simp only[Array.getElem?_setIfInBounds]
 rw[if_neg (fun e=>hne e.symm)]
theorem mu_ok {t k e:TypeId} {kk:KK} {m x y:V} {a b c:Value} {h':Hp} (R:Rel g h w) (ht:P.underlying t=some (.map k e)) (hkk:kkOk P kk k=true)
  (H:mu kk h m x y=some h') (ha:Rep g m a) (hb:Rep g x b) (hc:Rep g y c):GivesU P g w (Instr.mapUpdate t a b c) h':=by
 unfold mu at H
 split at H
 case h_2=>cases H
 rename_i n q
 split at H
 case h_2=>cases H
 rename_i kvs hn
 split at H
 case isFalse=>cases H
 simp only[Option.map_eq_some_iff] at H
 obtain ⟨s,hs,rfl⟩:=H
 obtain ⟨d,hd,_⟩:=kk_desc hkk
 obtain ⟨es,cl,h1,h2⟩:=(R.ob n _ hn).2.2
 cases ha
 have hset:∀ o',(setObj (g.μ n 0).b o').run P w=.ok () { w with heap:=w.heap.setIfInBounds (g.μ n 0).b o' }:=fun o'=>by simp[setObj,Sem.run,h1]
 have fin:∀ (es':Array MapEntry) (cl':Nat),RepKvs g s es'.toList→(Instr.mapUpdate t (.map (some (g.μ n 0).b)) b c).run P w=.ok () { w with heap:=w.heap.setIfInBounds (g.μ n 0).b (.map es' cl') }→GivesU P g w (Instr.mapUpdate t (.map (some (g.μ n 0).b)) b c) (h.set n (.mp s)):=by
  intro es' cl' hr hrun
  obtain ⟨k1,k2,k3⟩:=heap_setObj (o':=.map es' cl') h1
  exact⟨_,g,hrun,Le.refl g,R.set hn rfl (fun d hd hne=>k2 d hd hne) ⟨es',cl',k1,hr⟩,k3⟩
 rcases putK_ok hkk hd hb.dI hc.norm 0 h2 hs with ⟨f1,rfl⟩ | ⟨j,e',u,f1,f2,f3,f4⟩
 ·refine fin (es.push { key:=b,val:=c,born:=cl }) (cl+1) (by rw[Array.toList_push];exact RepKvs.snoc hb.dI hc.norm h2) ?_
  have hfind:(Instr.findKey k b es.toList).run P w=.ok none w:=by
   simp only[Instr.findKey,Sem.run_bind,run_underlying hd,Result.andThen_ok,f1,Sem.run_pure]
  simp only[Instr.mapUpdate,Sem.run_bind,run_underlying ht,Result.andThen_ok,getObj_run h1,checkKey_run hkk,hfind,hset]
 ·have hfind:(Instr.findKey k b es.toList).run P w=.ok (some (0+j,u)) w:=by
   simp only[Instr.findKey,Sem.run_bind,run_underlying hd,Result.andThen_ok,f1,Sem.run_pure]
  rw[Nat.zero_add] at hfind
  have f2':es[j]? = some e':=by rw[←Array.getElem?_toList];exact f2
  have hm:(es.modify j fun e=>{ e with key:=b,val:=c }).toList=es.toList.set j { e' with key:=b,val:=c }:=by
   apply List.ext_getElem?
   intro l
   rw[Array.getElem?_toList,Array.getElem?_modify,List.getElem?_set]
   have hjl:j<es.toList.length:=lt_of_get f2
   by_cases hl:j=l
   ·subst hl
    rw[if_pos rfl,if_pos rfl,if_pos hjl,f2']
    rfl
   ·rw[if_neg hl,if_neg hl,Array.getElem?_toList]
  refine fin (es.modify j fun e=>{ e with key:=b,val:=c }) cl (by rw[hm];exact f4) ?_
  have hkey:(Instr.keyThatStays e'.key b).run P w=.ok b w:=by simp[Instr.keyThatStays,f3]
  simp only[Instr.mapUpdate,Sem.run_bind,run_underlying ht,Result.andThen_ok,getObj_run h1,checkKey_run hkk,hfind,f2',Option.map_some,Option.getD_some,hkey,hset]
theorem mkmap_ok {t:TypeId} (R:Rel g h w):GivesH P g w (Instr.makeMap t none) (.map h.next) (h.alloc (.mp [])):=by
 obtain ⟨a1,a2,a3⟩:=heap_alloc w (.map #[] 0)
 have hμ:(g.put h.next 0 ⟨w.heap.size,0,0,0⟩).μ h.next 0=⟨w.heap.size,0,0,0⟩:=by simp[G.put]
 have:=R.alloc (.mp []) ⟨w.heap.size,0,0,0⟩ rfl a2 (by
  simp only[Ob.tot,ObRep]
  rw[hμ]
  exact⟨#[],0,a1,.nil⟩)
 refine ⟨.map (some w.heap.size),w.alloc (.map #[] 0),_,rfl,this.1,this.2,?_,a3⟩
 have hr:=Rep.map (g:=g.put h.next 0 ⟨w.heap.size,0,0,0⟩) h.next (by show h.next<max g.N (h.next+1);omega)
 rw[hμ] at hr
 exact hr
theorem mkmapR_ok {t k e:TypeId} {q:IntKind} {n:Int} (R:Rel g h w) (ht:P.underlying t=some (.map k e)):GivesH P g w (Instr.makeMap t (some (.int q n))) (.map h.next) (h.alloc (.mp [])):=by
 obtain ⟨v,w',g',h1,h2⟩:=mkmap_ok (P:=P) (t:=t) R
 refine ⟨v,w',g',?_,h2⟩
 rw[←h1]
 simp[Instr.makeMap,run_underlying ht,asInt,asIntOf]
def fsOk (P:Program):Nat→List KK→List Field→Bool
  |_,[],[]=>true
  | i, k :: ks, f :: fs => f.offset == i && (f.name != "_") && kkOk P k f.type && fsOk P (i + 1) ks fs
  |_,_,_=>false
def eqTyOk (P:Program) (ks:List KK) (t:TypeId):Bool:=
 match P.underlying t with
 |some (.struct fs) => !P.stoodInHeld t && !P.eqGuardType P.depth t && fsOk P 0 ks fs.toList
 |_=>false
theorem eqIn_scalar {k:KK} {t:TypeId} (hk:kkOk P k t=true) (d:Nat) {x y:D} {a b:Value} {r:Bool} (h:keyEq k x y=some r) (ha:RepD g.φ x a) (hb:RepD g.φ y b) :
  (Op.equalIn (d+1) t a b).run P w=.ok r w:=by
 obtain ⟨q,hd,hc⟩:=kk_desc hk
 unfold keyEq at h
 split at h
 ·cases ha;cases hb
  rcases hc with ⟨_,q,rfl⟩ | ⟨e,_⟩ | ⟨e,_⟩
  ·split at h
   ·rename_i e;subst e;cases h
    simp[Op.equalIn,run_underlying hd]
   ·cases h
  ·cases e
  ·cases e
 ·cases ha;cases hb
  rcases hc with ⟨e,_⟩ | ⟨_,rfl⟩ | ⟨e,_⟩
  ·cases e
  ·cases h
   simp[Op.equalIn,run_underlying hd,ba_beq]
  ·cases e
 ·cases ha;cases hb
  rcases hc with ⟨e,_⟩ | ⟨e,_⟩ | ⟨_,rfl⟩
  ·cases e
  ·cases e
  ·cases h
   simp[Op.equalIn,run_underlying hd]
 ·cases h
theorem part_scalar {k:KK} {t:TypeId} (hk:kkOk P k t=true) {cs:Array Value} {off:Nat} {v:Value} (hv:cs[off]? = some v):(part t cs off).run P w=.ok v w:=by
 obtain ⟨q,hd,hc⟩:=kk_desc hk
 have hag:agOf P t=false:=by
  unfold agOf
  rw[hd]
  rcases hc with ⟨_,q,rfl⟩ | ⟨_,rfl⟩ | ⟨_,rfl⟩<;>rfl
 simp only[part,Sem.run_bind,run_isAgg' (by rw[hd];rfl),Result.andThen_ok,hag]
 simp[hv]
theorem forIn_eq (d:Nat) (xs ys:Array Value):∀ (fs:List Field) (ks:List KK) (i:Nat) (l m:List D) (r:Bool),fsOk P i ks fs=true→D.eqs ks l m=some r →
    (∀ j x,l[j]? = some x→∃ v,xs[i+j]? = some v∧RepD g.φ x v)→(∀ j x,m[j]? = some x→∃ v,ys[i+j]? = some v∧RepD g.φ x v) →
    ∃ s:Option Bool × Unit,(forIn fs (none,()) (fun (f:Field) (_:Option Bool × Unit)=>
        (if f.name ≠ "_" then do
          let a ←part f.type xs f.offset
          let b ←part f.type ys f.offset
          let c ←Op.equalIn (d+1) f.type a b
          if (!c)=true then pure (ForInStep.done (some false,())) else pure (ForInStep.yield (none,()))
        else pure (ForInStep.yield (none,())):Sem (ForInStep (Option Bool × Unit))))).run P w=.ok s w∧(s=(none,())∧r=true∨s=(some false,())∧r=false)
  | [],[],i,[],[],r,_,h,_,_=>by
    simp only[D.eqs] at h
    cases h
    exact⟨(none,()),rfl,.inl ⟨rfl,rfl⟩⟩
  |f::fs,k::ks,i,x::l,y::m,r,hf,h,hx,hy=>by
    simp only[fsOk,Bool.and_eq_true] at hf
    obtain ⟨⟨⟨ho,hn⟩,hk⟩,hf'⟩:=hf
    simp only[D.eqs] at h
    cases h1:keyEq k x y with
    |none=>rw[h1] at h;cases h
    |some b1=>
      cases h2:D.eqs ks l m with
      |none=>rw[h1,h2] at h;cases h
      |some b2=>
        rw[h1,h2] at h
        cases h
        obtain ⟨vx,hvx,rx⟩:=hx 0 x rfl
        obtain ⟨vy,hvy,ry⟩:=hy 0 y rfl
        have ho':f.offset=i:=by simpa using ho
        have hn' : f.name ≠ "_" := by simpa using hn
        have e:=eqIn_scalar (w:=w) hk d h1 rx ry
        rw[Nat.add_zero] at hvx hvy
        rw[List.forIn_cons]
        simp only[if_pos hn',Sem.run_bind,ho',part_scalar hk hvx,part_scalar hk hvy,Result.andThen_ok,e]
        cases b1
        · exact⟨(some false,()),rfl,.inr ⟨rfl,rfl⟩⟩
        · simp only[Bool.not_true,Bool.false_eq_true,if_false,Sem.run_pure,Result.andThen_ok,Bool.true_and]
          exact forIn_eq d xs ys fs ks (i+1) l m b2 hf' h2 (fun j z hz=>by
            have:=hx (j+1) z (by simpa using hz)
            rwa [show i+(j+1)=i+1+j from by omega] at this) (fun j z hz=>by
            have:=hy (j+1) z (by simpa using hz)
            rwa [show i+(j+1)=i+1+j from by omega] at this)
  | [],_::_,_,_,_,_,hf,_,_,_=>by cases hf
  |_::_,[],_,_,_,_,hf,_,_,_=>by cases hf
  | [],[],_,_::_,_,_,_,h,_,_=>by cases h
  | [],[],_,[],_::_,_,_,h,_,_=>by cases h
  |_::_,_::_,_,[],_,_,_,h,_,_=>by cases h
  |_::_,_::_,_,_::_,[],_,_,h,_,_=>by cases h
theorem aggEq_run {ks:List KK} {t:TypeId} (ht:eqTyOk P ks t=true) (d:Nat) {l m:List D} {r:Bool} {a b:Value} (h:D.eqs ks l m=some r) (ha:RepD g.φ (.agg l) a) (hb:RepD g.φ (.agg m) b) :
  (Op.equalIn (d+2) t a b).run P w=.ok r w:=by
 unfold eqTyOk at ht
 split at ht
 case h_2=>cases ht
 rename_i fs hu
 simp only[Bool.and_eq_true,Bool.not_eq_true'] at ht
 obtain ⟨⟨h1,_⟩,h3⟩:=ht
 cases ha with | agg _ vs hr=>
 cases hb with | agg _ us hq=>
 have hx:∀ (l:List D) (vs:List Value),RepDs g.φ l vs→∀ j x,l[j]? = some x→∃ v,vs.toArray[0+j]? = some v∧RepD g.φ x v:=by
  intro l vs hr j x hj
  obtain ⟨v,hv,hx⟩:=hr.get hj
  exact⟨v,by simpa using hv,hx⟩
 obtain ⟨s,hs,hsr⟩:=forIn_eq (P:=P) (w:=w) (g:=g) d vs.toArray us.toArray fs.toList ks 0 l m r h3 h (hx l vs hr) (hx m us hq)
 rw[Op.equalIn]
 simp only[Sem.run_bind,run_underlying hu,Result.andThen_ok,run_program,h1,Bool.false_eq_true,if_false]
 rw[←Array.forIn_toList,hs]
 rcases hsr with ⟨rfl,rfl⟩ | ⟨rfl,rfl⟩
 ·rfl
 ·rfl
theorem aggBin_ok {ks:List KK} {op:BinOp} {x y z:V} {a b:Value} {t:TypeId} (ht:eqTyOk P ks t=true) (h:aggBin ks op x y=some z) (ha:Rep g x a) (hb:Rep g y b) (ox oy:Operand) :
  Gives P g w (do eqGuard op t ox oy a b;binOp op t a b) z:=by
 unfold aggBin at h
 split at h
 case h_2=>cases h
 rename_i l m
 have hda:=ha.dI
 have hdb:=hb.dI
 have hguard:∀ op,(eqGuard op t ox oy a b).run P w=.ok () w:=by
  intro op
  cases hda with | agg _ vs hr=>
  cases hdb with | agg _ us hq=>
  have h2:P.eqGuardType P.depth t=false:=by
   unfold eqTyOk at ht
   split at ht
   ·simp only[Bool.and_eq_true,Bool.not_eq_true'] at ht;exact ht.1.2
   ·cases ht
  cases op<;>simp[eqGuard,h2]
 have hb2:∀ r,D.eqs ks l m=some r→(Op.equal t a b).run P w=.ok r w:=fun r hr=>aggEq_run ht 9998 hr hda hdb
 have e1:binOp .eql t a b=(do pure (.bool (←Op.equal t a b)))∧binOp .neq t a b=(do pure (.bool (!(←Op.equal t a b)))):=by
  cases hda with | agg _ vs hr=>
  cases hdb with | agg _ us hq=>
  exact⟨rfl,rfl⟩
 split at h
 ·rename_i r hr
  cases h
  refine ⟨.bool r,?_,.d _ _ (.bool _)⟩
  simp only[Sem.run_bind,hguard,Result.andThen_ok,e1.1,hb2 r hr,Sem.run_pure]
 ·rename_i r hr
  cases h
  refine ⟨.bool (!r),?_,.d _ _ (.bool _)⟩
  simp only[Sem.run_bind,hguard,Result.andThen_ok,e1.2,hb2 r hr,Sem.run_pure]
 ·cases h
end
end Zv
end
section
namespace Zv
open Go
mutual
theorem D.beq_eq:∀ {a b:D},D.beq a b=true→a=b
 | .bool a,.bool b,h=>by simp[D.beq] at h;rw[h]
 | .int k a,.int k' b,h=>by simp[D.beq] at h;rw[h.1,h.2]
 | .str a,.str b,h=>by simp[D.beq] at h;rw[h]
 | .nilp,.nilp,_=>rfl
 | .nilf,.nilf,_=>rfl
 | .nilm,.nilm,_=>rfl
 | .lst a,.lst b,h=>congrArg D.lst (D.beqs_eq (by simpa [D.beq] using h))
 | .agg a,.agg b,h=>congrArg D.agg (D.beqs_eq (by simpa [D.beq] using h))
 | .bool _,.int _ _,h | .bool _,.str _,h | .bool _,.nilp,h | .bool _,.nilf,h | .bool _,.nilm,h | .bool _,.lst _,h | .bool _,.agg _,h=>by simp[D.beq] at h
 | .int _ _,.bool _,h | .int _ _,.str _,h | .int _ _,.nilp,h | .int _ _,.nilf,h | .int _ _,.nilm,h | .int _ _,.lst _,h | .int _ _,.agg _,h=>by simp[D.beq] at h
 | .str _,.int _ _,h | .str _,.bool _,h | .str _,.nilp,h | .str _,.nilf,h | .str _,.nilm,h | .str _,.lst _,h | .str _,.agg _,h=>by simp[D.beq] at h
 | .nilp,.int _ _,h | .nilp,.str _,h | .nilp,.bool _,h | .nilp,.nilf,h | .nilp,.nilm,h | .nilp,.lst _,h | .nilp,.agg _,h=>by simp[D.beq] at h
 | .nilf,.int _ _,h | .nilf,.str _,h | .nilf,.bool _,h | .nilf,.nilp,h | .nilf,.nilm,h | .nilf,.lst _,h | .nilf,.agg _,h=>by simp[D.beq] at h
 | .nilm,.int _ _,h | .nilm,.str _,h | .nilm,.bool _,h | .nilm,.nilp,h | .nilm,.nilf,h | .nilm,.lst _,h | .nilm,.agg _,h=>by simp[D.beq] at h
 | .lst _,.int _ _,h | .lst _,.str _,h | .lst _,.bool _,h | .lst _,.nilp,h | .lst _,.nilf,h | .lst _,.nilm,h | .lst _,.agg _,h=>by simp[D.beq] at h
 | .agg _,.int _ _,h | .agg _,.str _,h | .agg _,.bool _,h | .agg _,.nilp,h | .agg _,.nilf,h | .agg _,.nilm,h | .agg _,.lst _,h=>by simp[D.beq] at h
theorem D.beqs_eq:∀ {a b:List D},D.beqs a b=true→a=b
 | [],[],_=>rfl
 |a::r,b::s,h=>by simp only[D.beqs,Bool.and_eq_true] at h;rw[D.beq_eq h.1,D.beqs_eq h.2]
 | [],_::_,h=>by simp[D.beqs] at h
 |_::_,[],h=>by simp[D.beqs] at h
end
mutual
theorem D.beq_refl:∀ a:D,D.beq a a=true
 | .bool _ | .int _ _ | .str _ | .nilp | .nilf | .nilm=>by simp[D.beq]
 | .lst a | .agg a=>by simp only[D.beq];exact D.beqs_refl a
theorem D.beqs_refl:∀ a:List D,D.beqs a a=true
 | []=>rfl
 |a::r=>by simp only[D.beqs,D.beq_refl a,D.beqs_refl r,Bool.and_self]
end
mutual
theorem V.beq_eq:∀ {a b:V},V.beq a b=true→a=b:=by
 intro a b h
 cases a<;>cases b<;>simp only[V.beq,Bool.and_eq_true,beq_iff_eq,Bool.false_eq_true] at h
 ·rw[D.beq_eq h]
 ·rw[V.beqs_eq h.1,h.2]
 ·obtain ⟨⟨⟨⟨rfl,rfl⟩,rfl⟩,rfl⟩,rfl⟩:=h;rfl
 ·obtain ⟨⟨⟨rfl,rfl⟩,rfl⟩,rfl⟩:=h;rfl
 ·rw[D.beq_eq h.1,h.2]
 ·rw[h.1,V.beqs_eq h.2]
 ·rw[V.beqs_eq h]
 ·rw[V.beqs_eq h]
 ·rw[h]
 ·rw[h]
 ·rfl
 ·rfl
theorem V.beqs_eq:∀ {a b:List V},V.beqs a b=true→a=b
 | [],[],_=>rfl
 |a::r,b::s,h=>by simp only[V.beqs,Bool.and_eq_true] at h;rw[V.beq_eq h.1,V.beqs_eq h.2]
 | [],_::_,h=>by simp[V.beqs] at h
 |_::_,[],h=>by simp[V.beqs] at h
end
mutual
theorem V.beq_refl:∀ a:V,V.beq a a=true
 | .d x=>by simp only[V.beq];exact D.beq_refl x
 | .tl a n=>by simp only[V.beq,V.beqs_refl a];simp
 | .own .. | .ptr .. | .map .. | .yld .. | .ub | .undef=>by simp[V.beq]
 | .fp x o=>by simp only[V.beq,D.beq_refl x];simp
 | .clo f a=>by simp only[V.beq,V.beqs_refl a];simp
 | .agg a | .tup a=>by simp only[V.beq];exact V.beqs_refl a
theorem V.beqs_refl:∀ a:List V,V.beqs a a=true
 | []=>rfl
 |a::r=>by simp only[V.beqs,V.beq_refl a,V.beqs_refl r,Bool.and_self]
end
theorem kvsBeq_eq:∀ {a b:List (D × V)},kvsBeq a b=true→a=b
 | [],[],_=>rfl
 | (a,v)::r,(b,u)::s,h=>by simp only[kvsBeq,Bool.and_eq_true] at h;rw[D.beq_eq h.1.1,V.beq_eq h.1.2,kvsBeq_eq h.2]
 | [],_::_,h=>by simp[kvsBeq] at h
 |_::_,[],h=>by simp[kvsBeq] at h
theorem kvsBeq_refl:∀ a:List (D × V),kvsBeq a a=true
 | []=>rfl
 | (a,v)::r=>by simp only[kvsBeq,D.beq_refl,V.beq_refl,kvsBeq_refl r,Bool.and_self]
theorem envBeq_eq:∀ {a b:List (Nat × V)},envBeq a b=true→a=b
 | [],[],_=>rfl
 | (a,v)::r,(b,u)::s,h=>by simp only[envBeq,Bool.and_eq_true,beq_iff_eq] at h;rw[h.1.1,V.beq_eq h.1.2,envBeq_eq h.2]
 | [],_::_,h=>by simp[envBeq] at h
 |_::_,[],h=>by simp[envBeq] at h
theorem envBeq_refl:∀ a:List (Nat × V),envBeq a a=true
 | []=>rfl
 | (a,v)::r=>by simp only[envBeq,V.beq_refl,envBeq_refl r,Bool.and_self,beq_self_eq_true]
theorem Ob.beq_eq:∀ {a b:Ob},Ob.beq a b=true→a=b
 | .arr e l,.arr f m,h=>by simp only[Ob.beq,Bool.and_eq_true,beq_iff_eq] at h;rw[h.1,V.beqs_eq h.2]
 | .mp a,.mp b,h=>congrArg Ob.mp (kvsBeq_eq (by simpa [Ob.beq] using h))
 | .lp a e s,.lp b f t,h=>by simp only[Ob.beq,Bool.and_eq_true,beq_iff_eq,decide_eq_true_eq] at h;rw[h.1.1,envBeq_eq h.1.2,h.2]
 | .lp _ _ _,.arr _ _,h=>by simp[Ob.beq] at h
 | .lp _ _ _,.mp _,h=>by simp[Ob.beq] at h
 | .arr _ _,.lp _ _ _,h=>by simp[Ob.beq] at h
 | .mp _,.lp _ _ _,h=>by simp[Ob.beq] at h
 | .arr _ _,.mp _,h=>by simp[Ob.beq] at h
 | .mp _,.arr _ _,h=>by simp[Ob.beq] at h
theorem Ob.beq_refl:∀ a:Ob,Ob.beq a a=true
 | .arr e l=>by simp[Ob.beq,V.beqs_refl]
 | .mp a=>by simp[Ob.beq,kvsBeq_refl]
 | .lp a e s=>by simp[Ob.beq,envBeq_refl]
theorem objsBeq_eq:∀ {a b:List (Nat × Ob)},objsBeq a b=true→a=b
 | [],[],_=>rfl
 | (n,a)::r,(m,b)::s,h=>by simp only[objsBeq,Bool.and_eq_true,beq_iff_eq] at h;rw[h.1.1,Ob.beq_eq h.1.2,objsBeq_eq h.2]
 | [],_::_,h=>by simp[objsBeq] at h
 |_::_,[],h=>by simp[objsBeq] at h
theorem objsBeq_refl:∀ a:List (Nat × Ob),objsBeq a a=true
 | []=>rfl
 | (n,a)::r=>by simp[objsBeq,Ob.beq_refl,objsBeq_refl r]
theorem ldk_ld {ag:Bool} {sz:Nat} {h:Hp} {k a v:V} (H:ldk ag sz h k a=some v):ld ag sz h a=some v:=by
 cases k<;>try cases H
 cases a<;>try cases H
 simp only[ldk] at H
 split at H
 ·exact H
 ·cases H
theorem quiet_eq {h:Hp} {r:V × Hp} {q:V × Hp} (H:quiet h r=some q):q=r∧r.2=h:=by
 unfold quiet at H
 split at H
 ·rename_i hc
  cases H
  obtain ⟨x,h2⟩:=r
  have:=objsBeq_eq hc.1
  have e:h=h2:=by cases h;cases h2;simp_all
  subst e
  exact⟨rfl,rfl⟩
 ·cases H
section
variable {P:Program} {g:G} {h:Hp} {w:World}
def mtOpd:Operand→Opd→Bool
 | .tmp t,.t n=>t == n
 | .const v,.c x=>rc x v
 | .func f,.c x=>rc x (.func (.func f) #[] #[])
 |_,_=>false
def mtOpds:List Operand→List Opd→Bool
 | [],[]=>true
 |x::l,y::m=>mtOpd x y && mtOpds l m
 |_,_=>false
def mtOpdO:Option Operand→Option Opd→Bool
 |none,none=>true
 |some x,some y=>mtOpd x y
 |_,_=>false
def EnvRep (g:G) (e:Env) (a:Act):Prop:=∀ t,Rep g (e.get t) (a.tmps.getD t undef)
theorem opd_ok {o:Operand} {x:Opd} {e:Env} {a:Act} (hm:mtOpd o x=true) (he:EnvRep g e a):Rep g (e.ev x) (a.eval o):=by
 cases o<;>cases x<;>simp only[mtOpd,Bool.false_eq_true] at hm
 ·have:=eq_of_beq hm;subst this;exact he _
 ·exact rc_ok hm
 ·exact rc_ok hm
theorem opds_ok {e:Env} {a:Act} (he:EnvRep g e a):∀ {l:List Operand} {m:List Opd},mtOpds l m=true→Reps g (m.map e.ev) (l.map a.eval)
 | [],[],_=>.nil
 |x::l,y::m,h=>by
  simp only[mtOpds,Bool.and_eq_true] at h
  exact .cons _ _ _ _ (opd_ok h.1 he) (opds_ok he h.2)
 | [],_::_,h=>by cases h
 |_::_,[],h=>by cases h
theorem opdO_ok {o:Option Operand} {x:Option Opd} {e:Env} {a:Act} (hm:mtOpdO o x=true) (he:EnvRep g e a):RepO g (x.map e.ev) (o.map a.eval):=by
 cases o<;>cases x<;>simp only[mtOpdO,Bool.false_eq_true] at hm
 ·exact trivial
 ·exact opd_ok hm he
def elT (P:Program) (t:TypeId):Option (TypeId × TypeInfo × Value):=
 match P.underlying t with
 |some (.slice e)=>match P.info? e with
  |some i=>match i.zero with
   |some z=>some (e,i,z)
   |none=>none
  |none=>none
 |_=>none
theorem elT_ok {t e:TypeId} {i:TypeInfo} {z:Value} (H:elT P t=some (e,i,z)):P.underlying t=some (.slice e)∧P.info? e=some i∧i.zero=some z:=by
 unfold elT at H
 split at H
 ·split at H
  ·split at H
   ·cases H;exact⟨by assumption,by assumption,by assumption⟩
   ·cases H
  ·cases H
 ·cases H
def zeroT (P:Program) (t:TypeId):Option Value:=
 match P.info? t with
 |some i=>i.zero
 |none=>none
theorem zeroT_ok {t:TypeId} {z:Value} (H:zeroT P t=some z):∃ i,P.info? t=some i∧i.zero=some z:=by
 unfold zeroT at H
 split at H
 ·exact⟨_,by assumption,H⟩
 ·cases H
def fieldT (P:Program) (t:TypeId) (i:Nat):Option Field:=
 match P.underlying t with
 |some (.struct fs)=>fs[i]?
 |_=>none
theorem fieldT_ok {t:TypeId} {i:Nat} {f:Field} (H:fieldT P t i=some f):∃ fs,P.underlying t=some (.struct fs)∧fs[i]? = some f:=by
 unfold fieldT at H
 split at H
 ·exact⟨_,by assumption,H⟩
 ·cases H
def mtParts (P:Program) (fs:Array Field):List (Nat × Operand)→List (Nat × Nat × Opd)→Bool
 | [],[]=>true
 | (i,x)::l,(off,sz,y)::m=>(match fs[i]? with
   |some f=>f.offset == off && P.cellsOf f.type == sz
   |none=>false) && mtOpd x y && mtParts P fs l m
 |_,_=>false
def mtSeq:Nat→List (Nat × Operand)→List Opd→Bool
 |_,[],[]=>true
 |k,(i,x)::l,y::m=>i == k && mtOpd x y && mtSeq (k+1) l m
 |_,_,_=>false
def isNilC (k:NK):Operand→Bool
 | .const (.pointer none)=>decide (k=.p)
 | .const .nilFunc=>decide (k=.f)
 | .const (.map none)=>decide (k=.m)
 | .const (.slice none 0 0)=>decide (k=.s)
 |_=>false
theorem isNilC_ok {k:NK} {o:Operand} (H:isNilC k o=true) (a:Act):a.eval o=nilOf k:=by
 unfold isNilC at H
 split at H<;>first | (have:=of_decide_eq_true H;subst this;rfl) | cases H
def mtOp (P:Program) (o:Oper) (op:AOp):Bool:=
 match op with
 | .mv x=>match o.op with
  | .move y=>mtOpd y x
  | .assign y=>mtOpd y x
  |_=>false
 | .pick c a b=>match o.op with
  | .pick c' a' b'=>mtOpd c' c && mtOpd a' a && mtOpd b' b
  |_=>false
 | .alloc es z=>match o.op with
  | .alloc t=>match zeroT P t with
   |some zv=>rc z zv && stor z && z.cells.length == es
   |none=>false
  |_=>false
 | .box _ x=>match o.op with
  | .box _ y=>mtOpd y x
  |_=>false
 | .build z ps=>match o.op with
  | .build t qs=>match P.underlying t with
   |some (.struct fs)=>(match zeroT P t with
    |some zv=>rcLs z zv.cells.toList
    |none=>false) && fs.toList.all (fun f=>(P.info? f.type).isSome) && mtParts P fs qs.toList ps
   |_=>false
  |_=>false
 | .bsl es xs=>match o.op with
  | .buildSlice t n qs=>(match elT P t with
   |some (e,_,_)=>P.cellsOf e == es
   |none=>false) && xs.length == n && decide (n*es≤2 ^ 24) && mtSeq 0 qs.toList xs
  |_=>false
 | .bslO es xs=>match o.op with
  | .buildSlice t n qs=>(match elT P t with
   |some (e,_,_)=>P.cellsOf e == es
   |none=>false) && xs.length == n && decide (n*es≤2 ^ 24) && mtSeq 0 qs.toList xs
  |_=>false
 | .ld ag sz a=>match o.op with
  | .load t b=>(P.underlying t).isSome && (P.info? t).isSome && agOf P t == ag && P.cellsOf t == sz && mtOpd b a
  |_=>false
 | .ldf ag sz a=>match o.op with
  | .load t b=>(P.underlying t).isSome && (P.info? t).isSome && agOf P t == ag && P.cellsOf t == sz && mtOpd b a
  |_=>false
 | .st sz a x=>match o.op with
  | .store t b y=>(P.info? t).isSome && P.cellsOf t == sz && mtOpd b a && mtOpd y x
  |_=>false
 | .nilck x=>match o.op with
  | .nilCheck y=>mtOpd y x
  |_=>false
 | .bin op x y=>match o.op with
  | .binOp op' _ x' y' _=>decide (op=op') && mtOpd x' x && mtOpd y' y
  |_=>false
 | .binB op x y=>match o.op with
  | .binOp op' t x' y' _=>decide (op=op') && (match P.underlying t with
   |some .bool=>true
   |_=>false) && mtOpd x' x && mtOpd y' y
  |_=>false
 | .nilBin k op x=>match o.op with
  | .binOp op' t x' y' _=>decide (op=op') && nkOk P k t && ((isNilC k y' && mtOpd x' x) || (isNilC k x' && mtOpd y' x))
  |_=>false
 | .aggBin ks op x y=>match o.op with
  | .binOp op' t x' y' _=>decide (op=op') && eqTyOk P ks t && mtOpd x' x && mtOpd y' y
  |_=>false
 | .un op x=>match o.op with
  | .unOp op' _ x'=>decide (op=op') && mtOpd x' x
  |_=>false
 | .conv k x=>match o.op with
  | .convert s d y=>(P.underlying s).isSome && (match P.underlying d with
   |some (.int q)=>decide (q=k)
   |_=>false) && mtOpd y x
  |_=>false
 | .mkf f caps=>match o.op with
  | .makeFunc (.func f') first cs=>f == f' && first.isEmpty && mtOpds cs.toList caps
  |_=>false
 | .mkmap=>match o.op with
  | .makeMap _ none=>true
  | .makeMap t (some (.const (.int _ _)))=>(match P.underlying t with
   |some (.map _ _)=>true
   |_=>false)
  |_=>false
 | .mksl z es b n=>match o.op with
  | .makeSlice t l c=>(match elT P t with
   |some (e,i,zv)=>P.cellsOf e == es && i.bytes == b && rc z zv && stor z && z.cells.length == es
   |none=>false) && mtOpd l n && mtOpd c n
  |_=>false
 | .mkslT z b n=>match o.op with
  | .makeSlice t l c=>(match elT P t with
   |some (e,i,zv)=>i.bytes == b && rc z zv && stor z && z.cells.length == P.cellsOf e
   |none=>false) && mtOpd l n && mtOpd c n
  |_=>false
 | .slcS x lo hi=>match o.op with
  | .slice t y lo' hi' none=>(match P.underlying t with
   |some .string=>true
   |_=>false) && mtOpd y x && mtOpdO lo' lo && mtOpdO hi' hi
  |_=>false
 | .slc es x lo hi=>match o.op with
  | .slice t y lo' hi' none=>(match P.underlying t with
   |some (.slice e)=>(P.info? e).isSome && P.cellsOf e == es
   |_=>false) && mtOpd y x && mtOpdO lo' lo && mtOpdO hi' hi
  |_=>false
 | .slc3 es x lo hi mx=>match o.op with
  | .slice t y lo' hi' mx'=>(match P.underlying t with
   |some (.slice e)=>(P.info? e).isSome && P.cellsOf e == es
   |_=>false) && mtOpd y x && mtOpdO lo' lo && mtOpdO hi' hi && mtOpdO mx' mx && hi.isSome && mx.isSome
  |_=>false
 | .fa off x=>match o.op with
  | .fieldAddr t y i=>(match fieldT P t i with
   |some f=>f.offset == off && (P.info? f.type).isSome && !(P.cellsOf f.type == 0)
   |none=>false) && mtOpd y x
  |_=>false
 | .fld ag off sz x=>match o.op with
  | .field t y i=>(match fieldT P t i with
   |some f=>f.offset == off && (P.underlying f.type).isSome && (P.info? f.type).isSome && agOf P f.type == ag && P.cellsOf f.type == sz
   |none=>false) && mtOpd y x
  |_=>false
 | .ia es x i=>match o.op with
  | .indexAddr t y j=>(match P.underlying t with
   |some (.slice e)=>(P.info? e).isSome && P.cellsOf e == es
   |_=>false) && mtOpd y x && mtOpd j i
  |_=>false
 | .ixS x i=>match o.op with
  | .index t y j=>(match P.underlying t with
   |some .string=>true
   |_=>false) && mtOpd y x && mtOpd j i
  |_=>false
 | .lk kk z ok m k=>match o.op with
  | .lookup t x y ok'=>(match P.underlying t with
   |some (.map q e)=>kkOk P kk q && (match zeroT P e with
    |some zv=>rc z zv
    |none=>false)
   |_=>false) && ok == ok' && mtOpd x m && mtOpd y k
  |_=>false
 | .mu kk m k x=>match o.op with
  | .mapUpdate t m' k' x'=>(match P.underlying t with
   |some (.map q _)=>kkOk P kk q
   |_=>false) && mtOpd m' m && mtOpd k' k && mtOpd x' x
  | .insert t m' k' x'=>(match P.underlying t with
   |some (.map q _)=>kkOk P kk q
   |_=>false) && mtOpd m' m && mtOpd k' k && mtOpd x' x
  |_=>false
 | .lenS x=>match o.op with
  | .call ⟨.builtin .len,⟨[y]⟩,⟨[t]⟩⟩=>(match P.underlying t with
   |some .string=>true
   |_=>false) && mtOpd y x
  |_=>false
 | .lenL x=>match o.op with
  | .call ⟨.builtin .len,⟨[y]⟩,⟨[t]⟩⟩=>(match P.underlying t with
   |some (.slice _)=>true
   |_=>false) && mtOpd y x
  |_=>false
 | .capT x=>match o.op with
  | .call ⟨.builtin .cap,⟨[y]⟩,⟨[t]⟩⟩=>(match P.underlying t with
   |some (.slice _)=>true
   |_=>false) && mtOpd y x
  |_=>false
 | .ldk _ ag sz a=>match o.op with
  | .load t b=>(P.underlying t).isSome && (P.info? t).isSome && agOf P t == ag && P.cellsOf t == sz && mtOpd b a
  |_=>false
 | .callk _ f nm xs=>match o.op with
  | .call ⟨.value f',args,_⟩=>mtOpd f' f && mtOpds args.toList xs && nm.length == xs.length
  |_=>false
 | .callz _ f nm xs=>match o.op with
  | .call ⟨.value f',args,_⟩=>mtOpd f' f && mtOpds args.toList xs && nm.length == xs.length
  |_=>false
 | .stuck=>match o.op with
  | .panic _=>true
  | .makeInterface _ _=>true
  |_=>false
 | .appz z es b s x=>match o.op with
  | .call ⟨.builtin .append,⟨[s',x']⟩,⟨[t,t2]⟩⟩=>(match elT P t with
   |some (e,i,zv)=>P.cellsOf e == es && i.bytes == b && decide (1≤b) && rc z zv && stor z && z.cells.length == es
   |none=>false) && (match P.underlying t2 with
   |some (.int .i64)=>true
   |_=>false) && mtOpd s' s && mtOpd x' x
  |_=>false
 | .lenM x=>match o.op with
  | .call ⟨.builtin .len,⟨[y]⟩,⟨[t]⟩⟩=>(match P.underlying t with
   |some (.map _ _)=>true
   |_=>false) && mtOpd y x
  |_=>false
 | .app es b s x=>match o.op with
  | .call ⟨.builtin .append,⟨[s',x']⟩,⟨[t,t2]⟩⟩=>(match elT P t with
   |some (e,i,zv)=>P.cellsOf e == es && i.bytes == b && decide (1≤b) && zv.cells.size == es
   |none=>false) && (match P.underlying t2 with
   |some (.slice _)=>true
   |_=>false) && mtOpd s' s && mtOpd x' x
  |_=>false
 | .appn es b s x=>match o.op with
  | .call ⟨.builtin .append,⟨[s',x']⟩,⟨[t,t2]⟩⟩=>(match elT P t with
   |some (e,i,zv)=>P.cellsOf e == es && i.bytes == b && decide (1≤b) && zv.cells.size == es
   |none=>false) && (match P.underlying t2 with
   |some (.slice _)=>true
   |_=>false) && mtOpd s' s && mtOpd x' x
  |_=>false
 | .appf es b s x=>match o.op with
  | .call ⟨.builtin .append,⟨[s',x']⟩,⟨[t,t2]⟩⟩=>(match elT P t with
   |some (e,i,zv)=>P.cellsOf e == es && i.bytes == b && decide (1≤b) && zv.cells.size == es
   |none=>false) && (match P.underlying t2 with
   |some (.slice _)=>true
   |_=>false) && mtOpd s' s && mtOpd x' x
  |_=>false
 | .appd es b s x=>match o.op with
  | .call ⟨.builtin .append,⟨[s',x']⟩,⟨[t,t2]⟩⟩=>(match elT P t with
   |some (e,i,zv)=>P.cellsOf e == es && i.bytes == b && decide (1≤b) && zv.cells.size == es
   |none=>false) && (match P.underlying t2 with
   |some (.slice _)=>true
   |_=>false) && mtOpd s' s && mtOpd x' x
  |_=>false
 | .cpy es s x=>match o.op with
  | .call ⟨.builtin .copy,⟨[s',x']⟩,⟨[t,_]⟩⟩=>(match elT P t with
   |some (e,_,_)=>P.cellsOf e == es
   |none=>false) && mtOpd s' s && mtOpd x' x
  |_=>false
 | .ext i x=>match o.op with
  | .extract y j=>i == j && mtOpd y x
  |_=>false
 | .call f nm xs=>match o.op with
  | .call ⟨.value f',args,_⟩=>mtOpd f' f && mtOpds args.toList xs && nm.length == xs.length
  |_=>false
 | .calln f nm xs=>match o.op with
  | .call ⟨.value f',args,_⟩=>mtOpd f' f && mtOpds args.toList xs && nm.length == xs.length
  |_=>false
 | .callf f nm xs=>match o.op with
  | .call ⟨.value f',args,_⟩=>mtOpd f' f && mtOpds args.toList xs && nm.length == xs.length
  |_=>false
end
end Zv
end
section
namespace Zv
open Go
section
variable {P:Program} {g:G} {h:Hp} {w:World}
def GivesN (P:Program) (g:G) (w:World) (s:Sem Next) (x:V) (h':Hp):Prop:=
 ∃ nx v w' g',s.run P w=.ok nx w'∧(nx=.value v∨(nx=.skip∧v=undef))∧Le g g'∧Rel g' h' w'∧Rep g' x v∧Fx w w'
theorem GivesN.value {s:Sem Value} {x:V} {h':Hp} (hg:GivesH P g w s x h'):GivesN P g w (do pure (.value (←s))) x h':=by
 obtain ⟨v,w',g',h1,h2,h3,h4,h5⟩:=hg
 exact⟨.value v,v,w',g',by simp[h1],.inl rfl,h2,h3,h4,h5⟩
theorem GivesN.unit {s:Sem Unit} {h':Hp} (hg:GivesU P g w s h'):GivesN P g w (do s;pure .skip) (.tup []) h':=by
 obtain ⟨w',g',h1,h2,h3,h5⟩:=hg
 exact⟨.skip,undef,w',g',by simp[h1],.inr ⟨rfl,rfl⟩,h2,h3,.tup [] [] .nil,h5⟩
theorem GivesN.pureV {s:Sem Value} {x:V} (R:Rel g h w) (hg:Gives P g w s x):GivesN P g w (do pure (.value (←s))) x h:=GivesN.value (hg.h R)
theorem pureV_some {h h':Hp} {o:Option V} {x:V} (H:pureV h o=some (x,h')):o=some x∧h'=h:=by
 unfold Zv.pureV at H
 simp only[Option.map_eq_some_iff] at H
 obtain ⟨v,hv,e⟩:=H
 cases e
 exact⟨hv,rfl⟩
theorem eqGuard_ok {op:BinOp} {t:TypeId} {ox oy:Operand} {x:V} {a b:Value} (ha:Rep g x a) (hx:∀ l,x≠.d (.agg l)) (hx2:∀ l,x≠.agg l) (hx3:x≠.undef) :
  (eqGuard op t ox oy a b).run P w=.ok () w:=by
 have:∀ (q:Value),(∀ cs,q≠.agg cs)→q≠.nilIface→(eqGuard op t ox oy q b).run P w=.ok () w:=by
  intro q h1 h2
  cases op<;>cases q<;>first | rfl | (exact absurd rfl (h1 _)) | (exact absurd rfl h2)
 refine this a (fun cs e=>?_) (fun e=>?_)
 ·subst e
  cases ha with
  |d _ _ h=>cases h with | agg l vs hr=>exact hx l rfl
  |agg l vs hr hf=>exact hx2 l rfl
  |undef=>exact hx3 rfl
 ·subst e
  cases ha with
  |d _ _ h=>cases h
  |undef=>exact hx3 rfl
theorem bin_shape {op:BinOp} {x y z:V} (H:bin op x y=some z):(∃ k n,x=.d (.int k n))∨∃ s,x=.d (.str s):=by
 unfold bin at H
 split at H
 ·exact .inl ⟨_,_,rfl⟩
 ·exact .inr ⟨_,rfl⟩
 ·cases H
theorem binB_shape {op:BinOp} {x y z:V} (H:binB op x y=some z):∃ b,x=.d (.bool b):=by
 unfold binB at H
 split at H
 ·exact⟨_,rfl⟩
 ·cases H
theorem isNil_shape {k:NK} {x:V} {b:Bool} (H:isNil k x=some b):(∀ l,x≠.d (.agg l))∧(∀ l,x≠.agg l)∧x≠.undef:=by
 refine ⟨fun l e=>?_,fun l e=>?_,fun e=>?_⟩
 ·subst e;cases k<;>simp[isNil] at H
 ·subst e;cases k<;>simp[isNil] at H
 ·subst e;cases k<;>simp[isNil] at H
theorem nilBin_shape {k:NK} {op:BinOp} {x z:V} (H:nilBin k op x=some z):(∀ l,x≠.d (.agg l))∧(∀ l,x≠.agg l)∧x≠.undef:=by
 have ub:ubOf k x=some z→(∀ l,x≠.d (.agg l))∧(∀ l,x≠.agg l)∧x≠.undef:=by
  intro h
  refine ⟨fun l e=>?_,fun l e=>?_,fun e=>?_⟩
  ·subst e;cases k<;>simp[ubOf] at h
  ·subst e;cases k<;>simp[ubOf] at h
  ·subst e;cases k<;>simp[ubOf] at h
 unfold nilBin at H
 split at H
 ·exact isNil_shape (by assumption)
 ·exact isNil_shape (by assumption)
 ·exact ub H
 ·exact ub H
 ·cases H
theorem ix_unique {x:V} {n:Nat} {a b:Value} (H:ixOf x=some n) (ha:Rep g x a) (hb:Rep g x b):a=b:=by
 unfold ixOf at H
 split at H
 ·rw[ha.intI,hb.intI]
 ·cases H
theorem parts_ok {fs:Array Field} {e:Env} {a:Act} (he:EnvRep g e a):∀ {l:List (Nat × Operand)} {m:List (Nat × Nat × Opd)},mtParts P fs l m=true →
  RepParts g (fun j=>(fs[j]?).map fun f=>(f.offset,P.cellsOf f.type)) (m.map fun p=>(p.1,p.2.1,e.ev p.2.2)) (l.map fun p=>(p.1,a.eval p.2))
 | [],[],_=>.nil
 | (i,x)::l,(off,sz,y)::m,H=>by
  simp only[mtParts,Bool.and_eq_true] at H
  obtain ⟨⟨h1,h2⟩,h3⟩:=H
  split at h1
  ·rename_i f hf
   simp only[Bool.and_eq_true,beq_iff_eq] at h1
   exact .cons off sz i _ _ _ _ (by simp[hf,h1.1,h1.2]) (opd_ok h2 he) (parts_ok he h3)
  ·cases h1
 | [],_::_,H=>by cases H
 |_::_,[],H=>by cases H
theorem seq_reps {e:Env} {a:Act} (he:EnvRep g e a):∀ {l:List (Nat × Operand)} {m:List Opd} {k:Nat},mtSeq k l m=true →
  Reps g (m.map e.ev) (l.map fun p=>a.eval p.2)∧l.map (fun p=>(p.1,a.eval p.2))=((l.map fun p=>a.eval p.2).zipIdx k).map (fun p=>(p.2,p.1))∧l.length=m.length
 | [],[],_,_=>⟨.nil,rfl,rfl⟩
 | (i,x)::l,y::m,k,H=>by
  simp only[mtSeq,Bool.and_eq_true,beq_iff_eq] at H
  obtain ⟨⟨rfl,h2⟩,h3⟩:=H
  obtain ⟨i1,i2,i3⟩:=seq_reps he h3
  refine ⟨.cons _ _ _ _ (opd_ok h2 he) i1,?_,by simp[i3]⟩
  simp only[List.map_cons,List.zipIdx_cons,i2]
 | [],_::_,_,H=>by cases H
 |_::_,[],_,H=>by cases H
theorem all_stor {es:Nat} {l:List V} (H:l.all (fun v=>stor v && v.cells.length == es)=true):∀ x,x ∈ l→stor x=true∧x.cells.length=es:=by
 intro x hx
 have:=List.all_eq_true.1 H x hx
 simpa using this
theorem Rel.frz {n es:Nat} {els:List V} (R:Rel g h w) (hn:h.get n=some (.arr es els)):∃ o,w.heap[blk g n (.arr es els)]? = some o∧Le g (g.fix (blk g n (.arr es els)) o)∧Rel (g.fix (blk g n (.arr es els)) o) (h.kill n) w:=by
 obtain ⟨hnN,hnB,c,ty,vs,h1,h2,h3,h4,h5,h6,h7⟩:=R.ob n _ hn
 refine ⟨.cells c ty (0,0),h1,?_⟩
 have hnone:=R.out n _ hn
 have hle:Le g (g.fix (blk g n (.arr es els)) (.cells c ty (0,0))):=by
  refine ⟨fun b q hq=>?_,Nat.le_refl _,fun _ _=>Nat.le_refl _,fun _ _ _ _=>rfl,rfl,rfl⟩
  show (if b=blk g n (.arr es els) then some (.cells c ty (0,0)) else g.φ b)=some q
  rw[if_neg (fun e=>by rw[e,hnone] at hq;cases hq)]
  exact hq
 have hkillget:∀ m o,(h.kill n).get m=some o→m≠n∧h.get m=some o:=by
  intro m o hm
  unfold Hp.get Hp.kill at hm
  rw[look_del m R.nd] at hm
  split at hm
  ·cases hm
  ·exact⟨by assumption,hm⟩
 have R':=R.kill n
 refine ⟨hle,⟨R'.nx,fun b q hq=>?_,R'.nd,fun m o hm=>?_,R'.sep,fun m o hm=>?_,fun b q hq=>?_,R'.kpo⟩⟩
 ·have hq':(if b=blk g n (.arr es els) then some (Obj.cells c ty (0,0)) else g.φ b)=some q:=hq
  split at hq'
  ·rename_i e;subst e;cases hq';exact h1
  ·exact R.fr b q hq'
 ·obtain ⟨k1,k2,k3⟩:=R'.ob m o hm
  exact⟨k1,k2,k3.mono hle k1 (by omega) rfl⟩
 ·obtain ⟨hne,hm'⟩:=hkillget m o hm
  show (if blk g m o=blk g n (.arr es els) then some (Obj.cells c ty (0,0)) else g.φ (blk g m o))=none
  rw[if_neg (R.sep m n o _ hm' hn hne)]
  exact R.out m o hm'
 ·refine ⟨(R.kp b q hq).1,?_⟩
  show (if b=blk g n (.arr es els) then some (Obj.cells c ty (0,0)) else g.φ b)=none
  rw[if_neg (fun e=>by rw[e,show (g.fix (blk g n (.arr es els)) (.cells c ty (0,0))).F=g.F from rfl,R.kpo n _ hn] at hq;cases hq)]
  exact (R.kp b q hq).2
theorem frz_ok {x:V} {v:Value} {y:V} {h':Hp} (R:Rel g h w) (H:frz h x=some (y,h')) (hx:Rep g x v):∃ g',Le g g'∧Rel g' h' w∧Rep g' y v:=by
 unfold frz at H
 split at H
 ·rename_i n e tot off len
  simp only[Option.bind_eq_some_iff] at H
  obtain ⟨⟨es,els⟩,hrow,H⟩:=H
  obtain ⟨hn,rfl⟩:=row_get hrow
  simp only at H
  split at H
  ·rename_i hle
   simp only[Option.map_eq_some_iff] at H
   obtain ⟨ds,hds,heq⟩:=H
   cases heq
   obtain ⟨o,ho,hle',R'⟩:=R.frz hn
   obtain ⟨hnN,hnB,c,ty,vs,h1,h2,h3,h4,h5,h6,h7⟩:=R.ob n _ hn
   have ho':o=.cells c ty (0,0):=by
    have:w.heap[(g.μ n els.length).b]? = some o:=ho
    rw[h1] at this;cases this;rfl
   subst ho'
   refine ⟨_,hle',R',?_⟩
   cases hx with | own _ _ _ _ _ cap q hes hN hB hz0 hl hto hc hsz=>
   have hl2:((els.drop off).take len).length=len:=by rw[List.length_take,List.length_drop];omega
   have hdl:ds.length=len:=by rw[←toDs_length hds,hl2]
   rw[←hdl]
   refine .d _ _ (.lst ds es cap (some q) ((vs.drop (off*es)).take (len*es)) (toDs_es hds (fun y hy=>h4 y (List.mem_of_mem_drop (List.mem_of_mem_take hy)))) (by omega) ?_ ?_)
   ·have hr:Reps g (((els.drop off).take len).flatMap V.cells) ((vs.drop (off*es)).take (len*es)):=by
     rw[←flat_take len (fun x hx=>h4 x (List.mem_of_mem_drop hx)),←flat_drop off h4]
     exact (h5.drop _).take _
    exact ((hr.mono hle').toDs (toDs_flat hds) (fun u hu=>h6 u (List.mem_of_mem_drop (List.mem_of_mem_take hu))))
   ·rcases Nat.eq_zero_or_pos len with h0 | h0
    ·left;exact List.eq_nil_of_length_eq_zero (by omega)
    ·right
     rcases hz0 with hz0 | hz0
     ·omega
     ·refine ⟨_,_,congrArg some hz0,fun j v hj=>?_⟩
      rw[List.getElem?_take] at hj
      split at hj
      ·rw[List.getElem?_drop] at hj
       have:=h7 _ _ hj
       show cellφ (fun b=>if b=blk g n (.arr es els) then some _ else g.φ b) (g.μ n els.length).b _=some v
       simp only[cellφ,blk,Ob.tot,if_true]
       rw[h3.1,Nat.add_assoc]
       exact this
      ·cases hj
  ·cases H
 ·rename_i n tot i off
  simp only[Option.bind_eq_some_iff,Option.map_eq_some_iff] at H
  obtain ⟨⟨es,els⟩,hrow,e,he,H⟩:=H
  split at H
  case h_2=>cases H;exact⟨g,Le.refl g,R,hx⟩
  rename_i x hx'
  cases H
  obtain ⟨hn,rfl⟩:=row_get hrow
  obtain ⟨o,ho,hle',R'⟩:=R.frz hn
  obtain ⟨seg,hc1,hc2,hc3,hc4,hc5⟩:=elem_seg R hn he
  obtain ⟨hnN,hnB,c,ty,vs,h1,h2,h3,h4,h5,h6,h7⟩:=R.ob n _ hn
  have ho':o=.cells c ty (0,0):=by
   have:w.heap[(g.μ n els.length).b]? = some o:=ho
   rw[h1] at this;cases this;rfl
  subst ho'
  refine ⟨_,hle',R',?_⟩
  cases hx with | ptr _ _ _ _ hN hB=>
  refine Rep.fp (g:=g.fix (blk g n (.arr es els)) (.cells c ty (0,0))) x off _ _ seg ?_ ?_
  ·exact (hc1.mono hle').toDs (toD_cells hx') hc2
  ·intro j v hj
   have hcell:=hc4 j v hj
   unfold World.cell? at hcell
   simp only[h1] at hcell
   show cellφ (fun b=>if b=blk g n (.arr es els) then some _ else g.φ b) (g.μ n els.length).b _=some v
   simp only[cellφ,blk,Ob.tot,if_true]
   rw[hc5];simpa using hcell
 ·simp only[Option.map_eq_some_iff] at H
  obtain ⟨d,hd,heq⟩:=H
  cases heq
  exact⟨g,Le.refl g,R,.d _ _ (hx.toD hd)⟩
theorem frzs_ok:∀ {l:List V} {vs:List Value} {g:G} {h h':Hp} {w:World} {ds:List D},Rel g h w→frzs l h=some (ds,h')→Reps g l vs→∃ g',Le g g'∧Rel g' h' w∧Reps g' (ds.map .d) vs
 | [],vs,g,h,h',w,ds,R,H,hx=>by
  cases H
  exact⟨g,Le.refl g,R,hx⟩
 |v::l,vs,g,h,h',w,ds,R,H,hx=>by
  simp only[frzs,Option.bind_eq_some_iff] at H
  obtain ⟨⟨y,h1⟩,hf,H⟩:=H
  split at H
  ·rename_i x hy
   simp only at hy
   subst hy
   simp only[Option.map_eq_some_iff] at H
   obtain ⟨⟨ds',h2⟩,hr,heq⟩:=H
   cases heq
   cases hx with | cons _ u _ us hu hus=>
   obtain ⟨g1,l1,R1,r1⟩:=frz_ok R hf hu
   obtain ⟨g2,l2,R2,r2⟩:=frzs_ok R1 hr (hus.mono l1)
   exact⟨g2,l1.trans l2,R2,.cons _ _ _ _ (r1.mono l2) r2⟩
  ·cases H
theorem fzd_ok {x:V} {v:Value} {y:V} {h':Hp} (R:Rel g h w) (H:fzd h x=some (y,h')) (hx:Rep g x v):∃ g',Le g g'∧Rel g' h' w∧Rep g' y v:=by
 unfold fzd at H
 split at H
 ·rename_i n tot i off
  simp only[Option.bind_eq_some_iff] at H
  obtain ⟨⟨es,els⟩,hrow,e,he,H⟩:=H
  obtain ⟨hn,rfl⟩:=row_get hrow
  obtain ⟨seg0,hd1,hd2,hd3,hd4,hd5⟩:=elem_seg R hn he
  have key:∀ (g1:G) (h1:Hp) (z:D),Le g g1→Rel g1 h1 w→h1.get n=some (.arr es els)→Reps g1 (z.cells.map .d) seg0→∃ g',Le g g'∧Rel g' (h1.kill n) w∧Rep g' (.fp z off) v:=by
   intro g1 h1 z l1 R1 hn1 hz
   have hx1:=hx.mono l1
   obtain ⟨o,ho,hle',R'⟩:=R1.frz hn1
   obtain ⟨seg,hc1,hc2,hc3,hc4,hc5⟩:=elem_seg R1 hn1 he
   obtain ⟨hnN,hnB,c,ty,vs,k1,k2,k3,k4,k5,k6,k7⟩:=R1.ob n _ hn1
   have ho':o=.cells c ty (0,0):=by
    have:w.heap[(g1.μ n els.length).b]? = some o:=ho
    rw[k1] at this;cases this;rfl
   subst ho'
   have hμ:=l1.μ n els.length (R.ob n _ hn).1 (by have:=(R.ob n _ hn).2.1;rw[this];exact Nat.le_refl _)
   have hss:seg0=seg:=by
    apply List.ext_getElem?
    intro j
    by_cases hj:j<es
    ·obtain ⟨u,hu⟩:∃ u,seg0[j]? = some u:=⟨_,List.getElem?_eq_getElem (by omega)⟩
     obtain ⟨u',hu'⟩:∃ u,seg[j]? = some u:=⟨_,List.getElem?_eq_getElem (by omega)⟩
     have e1:=hd4 j u hu
     have e2:=hc4 j u' hu'
     rw[hμ] at e2
     rw[e1] at e2
     rw[hu,hu'];exact e2
    ·rw[List.getElem?_eq_none (by omega),List.getElem?_eq_none (by omega)]
   subst hss
   refine ⟨_,l1.trans hle',R',?_⟩
   cases hx1 with | ptr _ _ _ _ hN hB=>
   refine Rep.fp (g:=g1.fix (blk g1 n (.arr es els)) (.cells c ty (0,0))) z off _ _ seg0 ?_ ?_
   ·exact (hz.mono hle').toDs (toDs_map_d z.cells) hc2
   ·intro j v hj
    have hcell:=hc4 j v hj
    unfold World.cell? at hcell
    simp only[k1] at hcell
    show cellφ (fun b=>if b=blk g1 n (.arr es els) then some _ else g1.φ b) (g1.μ n els.length).b _=some v
    simp only[cellφ,blk,Ob.tot,if_true]
    rw[hc5];simpa using hcell
  split at H
  ·rename_i x
   cases H
   exact key g h x (Le.refl g) R hn hd1
  ·rename_i l
   simp only[Option.bind_eq_some_iff] at H
   obtain ⟨⟨ds,h1⟩,hf,H⟩:=H
   split at H
   ·rename_i hsm
    cases H
    have hg1:h1.get n=some (.arr es els):=by
     simp only[sameAt,hn] at hsm
     split at hsm
     ·rename_i a b ha hb
      cases ha
      rw[hb,Ob.beq_eq hsm]
     ·cases hsm
    obtain ⟨g1,l1,R1,r1⟩:=frzs_ok R hf hd1
    exact key g1 h1 (.agg ds) l1 R1 hg1 r1
   ·cases H
  ·cases H
 ·cases H
theorem GivesN.frz {s:Sem Next} {x y:V} {h1 h':Hp} (H:frz h1 x=some (y,h')) (hg:GivesN P g w s x h1):GivesN P g w s y h':=by
 obtain ⟨nx,v,w',g',k1,k2,k3,k4,k5,k6⟩:=hg
 obtain ⟨g2,l1,l2,l3⟩:=frz_ok k4 H k5
 exact⟨nx,v,w',g2,k1,k2,k3.trans l1,l2,l3,k6⟩
theorem op_ok {cf:Cf} {o:Oper} {op:AOp} {e:Env} {a:Act} {x:V} {h':Hp} (hm:mtOp P o op=true) (he:EnvRep g e a) (R:Rel g h w) (H:opX cf e h op=some (x,h'))
  (hnc:∀ f nm xs,(op≠.call f nm xs∧op≠.calln f nm xs∧op≠.callf f nm xs)∧∀ k,op≠.callk k f nm xs∧op≠.callz k f nm xs):GivesN P g w (execOp a.eval o) x h':=by
 cases op with
 |mv y=>
  simp only[opX] at H
  cases H
  simp only[mtOp] at hm
  split at hm
  ·rename_i z hz
   exact⟨.value (a.eval z),_,w,g,by simp[execOp,hz],.inl rfl,Le.refl g,R,opd_ok hm he,Fx.refl w⟩
  ·rename_i z hz
   exact⟨.value (a.eval z),_,w,g,by simp[execOp,hz],.inl rfl,Le.refl g,R,opd_ok hm he,Fx.refl w⟩
  ·cases hm
 |pick c y z=>
  simp only[opX] at H
  obtain ⟨H1,hh1⟩:=pureV_some H
  clear H
  subst hh1
  have H:=H1
  clear H1
  simp only[mtOp] at hm
  split at hm
  ·rename_i c' y' z' hz
   simp only[Bool.and_eq_true] at hm
   simp only[execOp,hz]
   have:=pick_ok (P:=P) (w:=w) H (opd_ok hm.1.1 he) (opd_ok hm.1.2 he) (opd_ok hm.2 he)
   obtain ⟨v,h1,h2⟩:=this
   refine ⟨.value v,v,w,g,?_,.inl rfl,Le.refl g,R,h2,Fx.refl w⟩
   simp only[Sem.run_bind,Sem.run_pure] at h1 ⊢
   cases hb:(asBool (a.eval c')).run P w with
   |ok q w1=>rw[hb] at h1;simp only[Result.andThen_ok] at h1 ⊢; cases h1;rfl
   |halt q w1=>rw[hb] at h1;cases h1
  ·cases hm
 |alloc es z=>
  simp only[opX] at H
  cases H
  simp only[mtOp] at hm
  split at hm
  ·rename_i t hz
   split at hm
   ·rename_i zv hzv
    simp only[Bool.and_eq_true,beq_iff_eq] at hm
    obtain ⟨i,hi,hzz⟩:=zeroT_ok hzv
    simp only[execOp,hz]
    exact GivesN.value (alloc_ok R hi hzz (rc_ok hm.1.1) hm.1.2 hm.2 _)
   ·cases hm
  ·cases hm
 |box es y=>
  simp only[opX] at H
  split at H
  ·rename_i hc
   cases H
   simp only[mtOp] at hm
   split at hm
   ·rename_i t z hz
    simp only[execOp,hz]
    exact GivesN.value (box_ok R (opd_ok hm he) hc.1 hc.2)
   ·cases hm
  ·cases H
 |build z ps=>
  simp only[opX] at H
  obtain ⟨H1,hh1⟩:=pureV_some H
  clear H
  subst hh1
  have H:=H1
  clear H1
  simp only[mtOp] at hm
  split at hm
  ·rename_i t qs hz
   split at hm
   ·rename_i fs hfs
    simp only[Bool.and_eq_true] at hm
    obtain ⟨⟨m1,m2⟩,m3⟩:=hm
    split at m1
    ·rename_i zv hzv
     obtain ⟨i,hi,hzz⟩:=zeroT_ok hzv
     obtain ⟨r1,r2⟩:=rcLs_ok (g:=g) m1
     simp only[execOp,hz]
     refine GivesN.pureV R (build_ok hfs hi hzz r1 r2 (fun f hf=>List.all_eq_true.1 m2 f hf) ?_ H)
     have:=parts_ok (P:=P) he m3
     simpa using this
    ·cases m1
   ·cases hm
  ·cases hm
 |bsl es xs=>
  simp only[opX] at H
  split at H
  ·rename_i hc
   cases H
   simp only[mtOp] at hm
   split at hm
   ·rename_i t n qs hz
    simp only[Bool.and_eq_true,beq_iff_eq,decide_eq_true_eq] at hm
    obtain ⟨⟨⟨m1,m2⟩,m3⟩,m4⟩:=hm
    split at m1
    ·rename_i e1 i1 z1 hel
     obtain ⟨e1',e2',e3'⟩:=elT_ok hel
     obtain ⟨s1,s2,s3⟩:=seq_reps he m4
     have hlen:(qs.toList.map fun p=>a.eval p.2).length=n:=by rw[List.length_map,s3,m2]
     have hb:=bsl_ok R e1' e2' e3' (by simpa using m1) (by rw[hlen];exact m3) s1 (all_stor hc)
     rw[hlen,←s2] at hb
     simp only[execOp,hz]
     have hq:(qs.map fun x=>(x.1,a.eval x.2))=(qs.toList.map fun p=>(p.1,a.eval p.2)).toArray:=by
      apply Array.ext';simp
     rw[show (qs.map fun (x:Nat × Operand)=>match x with | (i,x)=>(i,a.eval x))=(qs.map fun x=>(x.1,a.eval x.2)) from rfl,hq]
     rw[List.map_map] at hb
     exact GivesN.value hb
    ·cases m1
   ·cases hm
  ·cases H
 |bslO es xs=>
  simp only[opX] at H
  split at H
  ·rename_i hc
   cases H
   simp only[mtOp] at hm
   split at hm
   ·rename_i t n qs hz
    simp only[Bool.and_eq_true,beq_iff_eq,decide_eq_true_eq] at hm
    obtain ⟨⟨⟨m1,m2⟩,m3⟩,m4⟩:=hm
    split at m1
    ·rename_i e1 i1 z1 hel
     obtain ⟨e1',e2',e3'⟩:=elT_ok hel
     obtain ⟨s1,s2,s3⟩:=seq_reps he m4
     have hlen:(qs.toList.map fun p=>a.eval p.2).length=n:=by rw[List.length_map,s3,m2]
     have hb:=bslO_ok R e1' e2' e3' (by simpa using m1) (by rw[hlen];exact m3) s1 (all_stor hc)
     rw[hlen,←s2,List.length_map] at hb
     simp only[execOp,hz]
     have hq:(qs.map fun x=>(x.1,a.eval x.2))=(qs.toList.map fun p=>(p.1,a.eval p.2)).toArray:=by
      apply Array.ext';simp
     rw[show (qs.map fun (x:Nat × Operand)=>match x with | (i,x)=>(i,a.eval x))=(qs.map fun x=>(x.1,a.eval x.2)) from rfl,hq]
     rw[List.map_map] at hb
     exact GivesN.value hb
    ·cases m1
   ·cases hm
  ·cases H
 |ld ag sz y=>
  simp only[opX] at H
  obtain ⟨H1,hh1⟩:=pureV_some H
  clear H
  subst hh1
  have H:=H1
  clear H1
  simp only[mtOp] at hm
  split at hm
  ·rename_i t z hz
   simp only[Bool.and_eq_true,beq_iff_eq] at hm
   obtain ⟨⟨⟨⟨m1,m2⟩,m3⟩,m4⟩,m5⟩:=hm
   simp only[execOp,hz]
   exact GivesN.pureV R (ld_ok m1 m2 m3 m4 R H (opd_ok m5 he))
  ·cases hm
 |ldf ag sz y=>
  simp only[opX] at H
  obtain ⟨H1,hh1⟩:=pureV_some H
  clear H
  subst hh1
  have H:=H1
  clear H1
  simp only[mtOp] at hm
  split at hm
  ·rename_i t z hz
   simp only[Bool.and_eq_true,beq_iff_eq] at hm
   obtain ⟨⟨⟨⟨m1,m2⟩,m3⟩,m4⟩,m5⟩:=hm
   simp only[execOp,hz]
   have H':ld ag sz h' (e.ev y)=some x:=by
    unfold ldf at H
    split at H
    ·exact H
    ·cases H
   exact GivesN.pureV R (ld_ok m1 m2 m3 m4 R H' (opd_ok m5 he))
  ·cases hm
 |st sz y z=>
  simp only[opX,Option.map_eq_some_iff] at H
  obtain ⟨h1,hst,heq⟩:=H
  cases heq
  simp only[mtOp] at hm
  split at hm
  ·rename_i t b c hz
   simp only[Bool.and_eq_true,beq_iff_eq] at hm
   obtain ⟨⟨⟨m1,m2⟩,m3⟩,m4⟩:=hm
   simp only[execOp,hz]
   exact GivesN.unit (st_ok m1 m2 R hst (opd_ok m3 he) (opd_ok m4 he))
  ·cases hm
 |nilck y=>
  simp only[opX] at H
  obtain ⟨H1,hh1⟩:=pureV_some H
  clear H
  subst hh1
  have H:=H1
  clear H1
  simp only[mtOp] at hm
  split at hm
  ·rename_i z hz
   have hy:=opd_ok hm he
   have hrun:(execOp a.eval o).run P w=.ok (.value (a.eval z)) w:=by
    simp only[execOp,hz]
    unfold nilck at H
    split at H<;>first | cases H | skip
    ·rename_i hev;rw[hev] at hy;generalize a.eval z=q at hy ⊢; cases hy;rfl
    ·rename_i hev;rw[hev] at hy;generalize a.eval z=q at hy ⊢; cases hy;rfl
    ·rename_i hev;rw[hev] at hy;generalize a.eval z=q at hy ⊢; cases hy;rfl
   have hx:x=e.ev y:=by
    unfold nilck at H
    split at H<;>first | (cases H;(rename_i hev;rw[hev])) | cases H
   exact⟨_,_,w,g,hrun,.inl rfl,Le.refl g,R,by rw[hx];exact hy,Fx.refl w⟩
  ·cases hm
 |bin op y z=>
  simp only[opX] at H
  obtain ⟨H1,hh1⟩:=pureV_some H
  clear H
  subst hh1
  have H:=H1
  clear H1
  simp only[mtOp] at hm
  split at hm
  ·rename_i op' t y' z' t' hz
   simp only[Bool.and_eq_true,decide_eq_true_eq] at hm
   obtain ⟨⟨rfl,m2⟩,m3⟩:=hm
   simp only[execOp,hz]
   have hy:=opd_ok m2 he
   obtain ⟨v,h1,h2⟩:=bin_ok (P:=P) (w:=w) t H hy (opd_ok m3 he)
   have hgd:(eqGuard op t y' z' (a.eval y') (a.eval z')).run P w=.ok () w:=by
    rcases bin_shape H with ⟨k,n,hs⟩ | ⟨s,hs⟩
    ·exact eqGuard_ok hy (by rw[hs];simp) (by rw[hs];simp) (by rw[hs];simp)
    ·exact eqGuard_ok hy (by rw[hs];simp) (by rw[hs];simp) (by rw[hs];simp)
   exact⟨.value v,v,w,g,by simp only[Sem.run_bind,hgd,Result.andThen_ok,h1,Sem.run_pure],.inl rfl,Le.refl g,R,h2,Fx.refl w⟩
  ·cases hm
 |binB op y z=>
  simp only[opX] at H
  obtain ⟨H1,hh1⟩:=pureV_some H
  clear H
  subst hh1
  have H:=H1
  clear H1
  simp only[mtOp] at hm
  split at hm
  ·rename_i op' t y' z' t' hz
   simp only[Bool.and_eq_true,decide_eq_true_eq] at hm
   obtain ⟨⟨⟨rfl,m1⟩,m2⟩,m3⟩:=hm
   simp only[execOp,hz]
   have hy:=opd_ok m2 he
   have ht:P.underlying t=some .bool:=by
    split at m1
    ·assumption
    ·cases m1
   obtain ⟨v,h1,h2⟩:=binB_ok (P:=P) (w:=w) ht H hy (opd_ok m3 he)
   have hgd:(eqGuard op t y' z' (a.eval y') (a.eval z')).run P w=.ok () w:=by
    obtain ⟨b,hs⟩:=binB_shape H
    exact eqGuard_ok hy (by rw[hs];simp) (by rw[hs];simp) (by rw[hs];simp)
   exact⟨.value v,v,w,g,by simp only[Sem.run_bind,hgd,Result.andThen_ok,h1,Sem.run_pure],.inl rfl,Le.refl g,R,h2,Fx.refl w⟩
  ·cases hm
 |nilBin k op y=>
  simp only[opX] at H
  obtain ⟨H1,hh1⟩:=pureV_some H
  clear H
  subst hh1
  have H:=H1
  clear H1
  simp only[mtOp] at hm
  split at hm
  ·rename_i op' t y' z' t' hz
   simp only[Bool.and_eq_true,decide_eq_true_eq,Bool.or_eq_true] at hm
   obtain ⟨⟨rfl,m1⟩,m2⟩:=hm
   simp only[execOp,hz]
   obtain ⟨q1,q2,q3⟩:=nilBin_shape H
   have hnilguard:∀ (q:Value) (ox oy:Operand),(eqGuard op t ox oy (nilOf k) q).run P w=.ok () w:=by
    intro q ox oy
    cases op<;>cases k<;>cases q<;>rfl
   rcases m2 with ⟨n1,n2⟩ | ⟨n1,n2⟩
   ·have hy:=opd_ok n2 he
    rw[isNilC_ok n1 a]
    obtain ⟨v,h1,h2⟩:=(nilBin_ok (P:=P) (w:=w) m1 H hy).1
    have hgd:(eqGuard op t y' z' (a.eval y') (nilOf k)).run P w=.ok () w:=eqGuard_ok hy q1 q2 q3
    exact⟨.value v,v,w,g,by simp only[Sem.run_bind,hgd,Result.andThen_ok,h1,Sem.run_pure],.inl rfl,Le.refl g,R,h2,Fx.refl w⟩
   ·have hy:=opd_ok n2 he
    rw[isNilC_ok n1 a]
    obtain ⟨v,h1,h2⟩:=(nilBin_ok (P:=P) (w:=w) m1 H hy).2
    exact⟨.value v,v,w,g,by simp only[Sem.run_bind,hnilguard,Result.andThen_ok,h1,Sem.run_pure],.inl rfl,Le.refl g,R,h2,Fx.refl w⟩
  ·cases hm
 |aggBin ks op y z=>
  simp only[opX] at H
  obtain ⟨H1,hh1⟩:=pureV_some H
  clear H
  subst hh1
  have H:=H1
  clear H1
  simp only[mtOp] at hm
  split at hm
  ·rename_i op' t y' z' t' hz
   simp only[Bool.and_eq_true,decide_eq_true_eq] at hm
   obtain ⟨⟨⟨rfl,m1⟩,m2⟩,m3⟩:=hm
   simp only[execOp,hz]
   exact GivesN.pureV R (aggBin_ok m1 H (opd_ok m2 he) (opd_ok m3 he) y' z')
  ·cases hm
 |un op y=>
  simp only[opX] at H
  obtain ⟨H1,hh1⟩:=pureV_some H
  clear H
  subst hh1
  have H:=H1
  clear H1
  simp only[mtOp] at hm
  split at hm
  ·rename_i op' t y' hz
   simp only[Bool.and_eq_true,decide_eq_true_eq] at hm
   obtain ⟨rfl,m2⟩:=hm
   simp only[execOp,hz]
   exact GivesN.pureV R (un_ok H (opd_ok m2 he))
  ·cases hm
 |conv k y=>
  simp only[opX] at H
  obtain ⟨H1,hh1⟩:=pureV_some H
  clear H
  subst hh1
  have H:=H1
  clear H1
  simp only[mtOp] at hm
  split at hm
  ·rename_i s d y' hz
   simp only[Bool.and_eq_true] at hm
   obtain ⟨⟨m1,m2⟩,m3⟩:=hm
   split at m2
   ·rename_i q hq
    have:=of_decide_eq_true m2
    subst this
    simp only[execOp,hz]
    exact GivesN.pureV R (conv_ok m1 hq H (opd_ok m3 he))
   ·cases m2
  ·cases hm
 |mkf f caps=>
  simp only[opX] at H
  cases H
  simp only[mtOp] at hm
  split at hm
  ·rename_i f' first cs hz
   simp only[Bool.and_eq_true,beq_iff_eq] at hm
   obtain ⟨⟨rfl,m2⟩,m3⟩:=hm
   have hfirst:first = #[]:=by simpa using m2
   subst hfirst
   have hr:=Rep.clo (g:=g) f _ _ (opds_ok he m3)
   have e9:execOp a.eval o=(do pure (.value (←(pure (.func (.func f) #[] (cs.toList.map a.eval).toArray):Sem Value)))):=by
    simp only[execOp,hz,Instr.makeFunc]
    congr 3
    ·simp
    ·apply Array.ext';simp
   rw[e9]
   exact GivesN.pureV R ⟨_,rfl,hr⟩
  ·cases hm
 |mkmap=>
  simp only[opX] at H
  cases H
  simp only[mtOp] at hm
  split at hm
  ·rename_i t hz
   simp only[execOp,hz]
   exact GivesN.value (mkmap_ok R)
  ·rename_i t k n hz
   split at hm
   ·rename_i k' e' ht
    simp only[execOp,hz]
    exact GivesN.value (mkmapR_ok R ht)
   ·cases hm
  ·cases hm
 |mksl z es b y=>
  simp only[opX] at H
  simp only[mtOp] at hm
  split at hm
  ·rename_i t l c hz
   simp only[Bool.and_eq_true] at hm
   obtain ⟨⟨m1,m2⟩,m3⟩:=hm
   split at m1
   ·rename_i e1 i1 z1 hel
    simp only[Bool.and_eq_true,beq_iff_eq] at m1
    obtain ⟨e1',e2',e3'⟩:=elT_ok hel
    obtain ⟨⟨⟨⟨n1,n2⟩,n3⟩,n4⟩,n5⟩:=m1
    simp only[execOp,hz]
    have hl:=opd_ok m2 he
    have heq:a.eval c=a.eval l:=by
     have H':=H
     unfold mkslO at H'
     simp only[Option.bind_eq_some_iff] at H'
     obtain ⟨k,hk,_⟩:=H'
     exact ix_unique hk (opd_ok m3 he) hl
    rw[heq]
    exact GivesN.value (mkslO_ok R e1' e2' e3' n1 n2 (rc_ok n3) n4 n5 H hl)
   ·cases m1
  ·cases hm
 |mkslT z b y=>
  simp only[opX] at H
  obtain ⟨H1,hh1⟩:=pureV_some H
  clear H
  subst hh1
  have H:=H1
  clear H1
  simp only[mtOp] at hm
  split at hm
  ·rename_i t l c hz
   simp only[Bool.and_eq_true] at hm
   obtain ⟨⟨m1,m2⟩,m3⟩:=hm
   split at m1
   ·rename_i e1 i1 z1 hel
    simp only[Bool.and_eq_true,beq_iff_eq] at m1
    obtain ⟨e1',e2',e3'⟩:=elT_ok hel
    obtain ⟨⟨⟨n2,n3⟩,n4⟩,n5⟩:=m1
    simp only[execOp,hz]
    have hl:=opd_ok m2 he
    have heq:a.eval c=a.eval l:=by
     have H':=H
     unfold mkslT at H'
     simp only[Option.bind_eq_some_iff] at H'
     obtain ⟨k,hk,_⟩:=H'
     exact ix_unique hk (opd_ok m3 he) hl
    rw[heq]
    exact GivesN.value (mkslT_ok R e1' e2' e3' rfl n2 (rc_ok n3) n4 n5 H hl)
   ·cases m1
  ·cases hm
 |slcS y lo hi=>
  simp only[opX] at H
  obtain ⟨H1,hh1⟩:=pureV_some H
  clear H
  subst hh1
  have H:=H1
  clear H1
  simp only[mtOp] at hm
  split at hm
  ·rename_i t y' lo' hi' hz
   simp only[Bool.and_eq_true] at hm
   obtain ⟨⟨⟨m1,m2⟩,m3⟩,m4⟩:=hm
   split at m1
   ·rename_i ht
    simp only[execOp,hz]
    exact GivesN.pureV R (slcS_ok ht H (opd_ok m2 he) (opdO_ok m3 he) (opdO_ok m4 he))
   ·cases m1
  ·cases hm
 |slc es y lo hi=>
  simp only[opX] at H
  obtain ⟨H1,hh1⟩:=pureV_some H
  clear H
  subst hh1
  have H:=H1
  clear H1
  simp only[mtOp] at hm
  split at hm
  ·rename_i t y' lo' hi' hz
   simp only[Bool.and_eq_true] at hm
   obtain ⟨⟨⟨m1,m2⟩,m3⟩,m4⟩:=hm
   split at m1
   ·rename_i e1 ht
    simp only[Bool.and_eq_true,beq_iff_eq] at m1
    simp only[execOp,hz]
    exact GivesN.pureV R (slc_ok ht m1.1 m1.2 H (opd_ok m2 he) (opdO_ok m3 he) (opdO_ok m4 he))
   ·cases m1
  ·cases hm
 |slc3 es y lo hi mx=>
  simp only[opX] at H
  obtain ⟨H1,hh1⟩:=pureV_some H
  clear H
  subst hh1
  have H:=H1
  clear H1
  simp only[mtOp] at hm
  split at hm
  ·rename_i t y' lo' hi' mx' hz
   simp only[Bool.and_eq_true] at hm
   obtain ⟨⟨⟨⟨⟨⟨m1,m2⟩,m3⟩,m4⟩,m5⟩,m6⟩,m7⟩:=hm
   split at m1
   ·rename_i e1 ht
    simp only[Bool.and_eq_true,beq_iff_eq] at m1
    simp only[execOp,hz]
    exact GivesN.pureV R (slc3_ok ht m1.1 m1.2 (by simpa using m6) (by simpa using m7) H (opd_ok m2 he) (opdO_ok m3 he) (opdO_ok m4 he) (opdO_ok m5 he))
   ·cases m1
  ·cases hm
 |fa off y=>
  simp only[opX] at H
  obtain ⟨H1,hh1⟩:=pureV_some H
  clear H
  subst hh1
  have H:=H1
  clear H1
  simp only[mtOp] at hm
  split at hm
  ·rename_i t y' i hz
   simp only[Bool.and_eq_true] at hm
   obtain ⟨m1,m2⟩:=hm
   split at m1
   ·rename_i f hf
    simp only[Bool.and_eq_true,beq_iff_eq,Bool.not_eq_true',beq_eq_false_iff_ne] at m1
    obtain ⟨fs,hfs,hfi⟩:=fieldT_ok hf
    simp only[execOp,hz]
    exact GivesN.pureV R (fa_ok hfs hfi m1.1.1 m1.1.2 m1.2 H (opd_ok m2 he))
   ·cases m1
  ·cases hm
 |fld ag off sz y=>
  simp only[opX] at H
  obtain ⟨H1,hh1⟩:=pureV_some H
  clear H
  subst hh1
  have H:=H1
  clear H1
  simp only[mtOp] at hm
  split at hm
  ·rename_i t y' i hz
   simp only[Bool.and_eq_true] at hm
   obtain ⟨m1,m2⟩:=hm
   split at m1
   ·rename_i f hf
    simp only[Bool.and_eq_true,beq_iff_eq] at m1
    obtain ⟨fs,hfs,hfi⟩:=fieldT_ok hf
    simp only[execOp,hz]
    exact GivesN.pureV R (fld_ok hfs hfi m1.1.1.1.1 m1.1.1.1.2 m1.1.1.2 m1.1.2 m1.2 H (opd_ok m2 he))
   ·cases m1
  ·cases hm
 |ia es y i=>
  simp only[opX] at H
  obtain ⟨H1,hh1⟩:=pureV_some H
  clear H
  subst hh1
  have H:=H1
  clear H1
  simp only[mtOp] at hm
  split at hm
  ·rename_i t y' i' hz
   simp only[Bool.and_eq_true] at hm
   obtain ⟨⟨m1,m2⟩,m3⟩:=hm
   split at m1
   ·rename_i e1 ht
    simp only[Bool.and_eq_true,beq_iff_eq] at m1
    simp only[execOp,hz]
    exact GivesN.pureV R (ia_ok ht m1.1 m1.2 H (opd_ok m2 he) (opd_ok m3 he))
   ·cases m1
  ·cases hm
 |ixS y i=>
  simp only[opX] at H
  obtain ⟨H1,hh1⟩:=pureV_some H
  clear H
  subst hh1
  have H:=H1
  clear H1
  simp only[mtOp] at hm
  split at hm
  ·rename_i t y' i' hz
   simp only[Bool.and_eq_true] at hm
   obtain ⟨⟨m1,m2⟩,m3⟩:=hm
   split at m1
   ·rename_i ht
    simp only[execOp,hz]
    exact GivesN.pureV R (ixS_ok ht H (opd_ok m2 he) (opd_ok m3 he))
   ·cases m1
  ·cases hm
 |lk kk z ok m k=>
  simp only[opX] at H
  obtain ⟨H1,hh1⟩:=pureV_some H
  clear H
  subst hh1
  have H:=H1
  clear H1
  simp only[mtOp] at hm
  split at hm
  ·rename_i t m' k' ok' hz
   simp only[Bool.and_eq_true,beq_iff_eq] at hm
   obtain ⟨⟨⟨m1,rfl⟩,m3⟩,m4⟩:=hm
   split at m1
   ·rename_i q e1 ht
    simp only[Bool.and_eq_true] at m1
    obtain ⟨n1,n2⟩:=m1
    split at n2
    ·rename_i zv hzv
     obtain ⟨i,hi,hzz⟩:=zeroT_ok hzv
     simp only[execOp,hz]
     exact GivesN.pureV R (lk_ok R ht n1 hi hzz (rc_ok n2) H (opd_ok m3 he) (opd_ok m4 he))
    ·cases n2
   ·cases m1
  ·cases hm
 |mu kk m k y=>
  simp only[opX,Option.map_eq_some_iff] at H
  obtain ⟨h1,hst,heq⟩:=H
  cases heq
  simp only[mtOp] at hm
  split at hm
  ·rename_i t m' k' y' hz
   simp only[Bool.and_eq_true] at hm
   obtain ⟨⟨⟨m1,m2⟩,m3⟩,m4⟩:=hm
   split at m1
   ·rename_i q e1 ht
    simp only[execOp,hz]
    exact GivesN.unit (mu_ok R ht m1 hst (opd_ok m2 he) (opd_ok m3 he) (opd_ok m4 he))
   ·cases m1
  ·rename_i t m' k' y' hz
   simp only[Bool.and_eq_true] at hm
   obtain ⟨⟨⟨m1,m2⟩,m3⟩,m4⟩:=hm
   split at m1
   ·rename_i q e1 ht
    simp only[execOp,hz]
    exact GivesN.unit (mu_ok R ht m1 hst (opd_ok m2 he) (opd_ok m3 he) (opd_ok m4 he))
   ·cases m1
  ·cases hm
 |lenS y=>
  simp only[opX] at H
  obtain ⟨H1,hh1⟩:=pureV_some H
  clear H
  subst hh1
  have H:=H1
  clear H1
  simp only[mtOp] at hm
  split at hm
  ·rename_i y' t hz
   simp only[Bool.and_eq_true] at hm
   obtain ⟨m1,m2⟩:=hm
   split at m1
   ·rename_i ht
    have e1:execOp a.eval o=(do pure (.value (←Builtin.len_ #[t] o.type #[a.eval y']))):=by simp[execOp,hz,resolve,invoke,builtin]
    rw[e1]
    exact GivesN.pureV R (lenS_ok (ty:=o.type) ht H (opd_ok m2 he))
   ·cases m1
  ·cases hm
 |lenL y=>
  simp only[opX] at H
  obtain ⟨H1,hh1⟩:=pureV_some H
  clear H
  subst hh1
  have H:=H1
  clear H1
  simp only[mtOp] at hm
  split at hm
  ·rename_i y' t hz
   simp only[Bool.and_eq_true] at hm
   obtain ⟨m1,m2⟩:=hm
   split at m1
   ·rename_i e1 ht
    have e1:execOp a.eval o=(do pure (.value (←Builtin.len_ #[t] o.type #[a.eval y']))):=by simp[execOp,hz,resolve,invoke,builtin]
    rw[e1]
    exact GivesN.pureV R (lenL_ok (ty:=o.type) ht H (opd_ok m2 he))
   ·cases m1
  ·cases hm
 |stuck=>simp only[opX] at H;cases H
 |ldk k ag sz y=>
  simp only[opX] at H
  obtain ⟨H1,hh1⟩:=pureV_some H
  clear H
  subst hh1
  have H:ld ag sz h' (e.ev y)=some x:=ldk_ld H1
  clear H1
  simp only[mtOp] at hm
  split at hm
  ·rename_i t z hz
   simp only[Bool.and_eq_true,beq_iff_eq] at hm
   obtain ⟨⟨⟨⟨m1,m2⟩,m3⟩,m4⟩,m5⟩:=hm
   simp only[execOp,hz]
   exact GivesN.pureV R (ld_ok m1 m2 m3 m4 R H (opd_ok m5 he))
  ·cases hm
 |capT y=>
  simp only[opX] at H
  obtain ⟨H1,hh1⟩:=pureV_some H
  clear H
  subst hh1
  have H:=H1
  clear H1
  simp only[mtOp] at hm
  split at hm
  ·rename_i y' t hz
   simp only[Bool.and_eq_true] at hm
   obtain ⟨m1,m2⟩:=hm
   split at m1
   ·rename_i e1 ht
    have e1:execOp a.eval o=(do pure (.value (←Builtin.cap_ #[t] o.type #[a.eval y']))):=by simp[execOp,hz,resolve,invoke,builtin]
    rw[e1]
    exact GivesN.pureV R (capT_ok (ty:=o.type) ht H (opd_ok m2 he))
   ·cases m1
  ·cases hm
 |appz z es b s y=>
  simp only[opX] at H
  simp only[mtOp] at hm
  split at hm
  ·rename_i s' y' t t2 hz
   simp only[Bool.and_eq_true] at hm
   obtain ⟨⟨⟨m1,m2⟩,m3⟩,m4⟩:=hm
   split at m1
   ·rename_i e1 i1 z1 hel
    simp only[Bool.and_eq_true,beq_iff_eq,decide_eq_true_eq] at m1
    obtain ⟨e1',e2',e3'⟩:=elT_ok hel
    obtain ⟨⟨⟨⟨⟨n1,n2⟩,n3⟩,n4⟩,n5⟩,n6⟩:=m1
    split at m2
    ·rename_i ht2
     have e9:execOp a.eval o=(do pure (.value (←Builtin.append_ #[t,t2] o.type #[a.eval s',a.eval y']))):=by simp[execOp,hz,resolve,invoke,builtin]
     rw[e9]
     exact GivesN.value (appz_ok (ty:=o.type) R e1' ht2 e2' e3' n1 n2 n3 (rc_ok n4) n5 n6 H (opd_ok m3 he) (opd_ok m4 he))
    ·cases m2
   ·cases m1
  ·cases hm
 |lenM y=>
  simp only[opX] at H
  obtain ⟨H1,hh1⟩:=pureV_some H
  clear H
  subst hh1
  have H:=H1
  clear H1
  simp only[mtOp] at hm
  split at hm
  ·rename_i y' t hz
   simp only[Bool.and_eq_true] at hm
   obtain ⟨m1,m2⟩:=hm
   split at m1
   ·rename_i k1 e1 ht
    have e1:execOp a.eval o=(do pure (.value (←Builtin.len_ #[t] o.type #[a.eval y']))):=by simp[execOp,hz,resolve,invoke,builtin]
    rw[e1]
    exact GivesN.pureV R (lenM_ok (ty:=o.type) R ht H (opd_ok m2 he))
   ·cases m1
  ·cases hm
 |app es b s y=>
  simp only[opX] at H
  simp only[mtOp] at hm
  split at hm
  ·rename_i s' y' t t2 hz
   simp only[Bool.and_eq_true] at hm
   obtain ⟨⟨⟨m1,m2⟩,m3⟩,m4⟩:=hm
   split at m1
   ·rename_i e1 i1 z1 hel
    simp only[Bool.and_eq_true,beq_iff_eq,decide_eq_true_eq] at m1
    obtain ⟨e1',e2',e3'⟩:=elT_ok hel
    split at m2
    ·rename_i e2 ht2
     have e9:execOp a.eval o=(do pure (.value (←Builtin.append_ #[t,t2] o.type #[a.eval s',a.eval y']))):=by simp[execOp,hz,resolve,invoke,builtin]
     rw[e9]
     exact GivesN.value (app_ok (ty:=o.type) R e1' ht2 e2' e3' m1.1.1.1 m1.2 m1.1.1.2 m1.1.2 H (opd_ok m3 he) (opd_ok m4 he))
    ·cases m2
   ·cases m1
  ·cases hm
 |appn es b s y=>
  simp only[opX] at H
  have H':app es b h (e.ev s) (e.ev y)=some (x,h'):=by
   unfold appn at H
   split at H
   ·exact H
   ·cases H
  simp only[mtOp] at hm
  split at hm
  ·rename_i s' y' t t2 hz
   simp only[Bool.and_eq_true] at hm
   obtain ⟨⟨⟨m1,m2⟩,m3⟩,m4⟩:=hm
   split at m1
   ·rename_i e1 i1 z1 hel
    simp only[Bool.and_eq_true,beq_iff_eq,decide_eq_true_eq] at m1
    obtain ⟨e1',e2',e3'⟩:=elT_ok hel
    split at m2
    ·rename_i e2 ht2
     have e9:execOp a.eval o=(do pure (.value (←Builtin.append_ #[t,t2] o.type #[a.eval s',a.eval y']))):=by simp[execOp,hz,resolve,invoke,builtin]
     rw[e9]
     exact GivesN.value (app_ok (ty:=o.type) R e1' ht2 e2' e3' m1.1.1.1 m1.2 m1.1.1.2 m1.1.2 H' (opd_ok m3 he) (opd_ok m4 he))
    ·cases m2
   ·cases m1
  ·cases hm
 |appf es b s y=>
  simp only[opX] at H
  simp only[Option.bind_eq_some_iff] at H
  obtain ⟨⟨x1,h1⟩,H',Hf⟩:=H
  simp only[mtOp] at hm
  split at hm
  ·rename_i s' y' t t2 hz
   simp only[Bool.and_eq_true] at hm
   obtain ⟨⟨⟨m1,m2⟩,m3⟩,m4⟩:=hm
   split at m1
   ·rename_i e1 i1 z1 hel
    simp only[Bool.and_eq_true,beq_iff_eq,decide_eq_true_eq] at m1
    obtain ⟨e1',e2',e3'⟩:=elT_ok hel
    split at m2
    ·rename_i e2 ht2
     have e9:execOp a.eval o=(do pure (.value (←Builtin.append_ #[t,t2] o.type #[a.eval s',a.eval y']))):=by simp[execOp,hz,resolve,invoke,builtin]
     rw[e9]
     exact GivesN.frz Hf (GivesN.value (app_ok (ty:=o.type) R e1' ht2 e2' e3' m1.1.1.1 m1.2 m1.1.1.2 m1.1.2 H' (opd_ok m3 he) (opd_ok m4 he)))
    ·cases m2
   ·cases m1
  ·cases hm
 |appd es b s y=>
  simp only[opX] at H
  obtain ⟨H1,hh1⟩:=pureV_some H;subst hh1
  simp only[mtOp] at hm
  split at hm
  ·rename_i s' y' t t2 hz
   simp only[Bool.and_eq_true] at hm
   obtain ⟨⟨⟨m1,m2⟩,m3⟩,m4⟩:=hm
   split at m1
   ·rename_i e1 i1 z1 hel
    simp only[Bool.and_eq_true,beq_iff_eq,decide_eq_true_eq] at m1
    obtain ⟨e1',e2',e3'⟩:=elT_ok hel
    split at m2
    ·rename_i e2 ht2
     have e9:execOp a.eval o=(do pure (.value (←Builtin.append_ #[t,t2] o.type #[a.eval s',a.eval y']))):=by simp[execOp,hz,resolve,invoke,builtin]
     rw[e9]
     exact GivesN.value (appd_ok (ty:=o.type) R e1' ht2 e2' e3' m1.1.1.1 m1.2 m1.1.1.2 m1.1.2 H1 (opd_ok m3 he) (opd_ok m4 he))
    ·cases m2
   ·cases m1
  ·cases hm
 |cpy es s y=>
  simp only[opX] at H
  simp only[mtOp] at hm
  split at hm
  ·rename_i s' y' t t2 hz
   simp only[Bool.and_eq_true] at hm
   obtain ⟨⟨m1,m2⟩,m3⟩:=hm
   split at m1
   ·rename_i e1 i1 z1 hel
    obtain ⟨e1',e2',e3'⟩:=elT_ok hel
    have e9:execOp a.eval o=(do pure (.value (←Builtin.copy_ #[t,t2] o.type #[a.eval s',a.eval y']))):=by simp[execOp,hz,resolve,invoke,builtin]
    rw[e9]
    exact GivesN.value (cpy_ok (ty:=o.type) R e1' (by rw[e2'];rfl) (by simpa using m1) H (opd_ok m2 he) (opd_ok m3 he))
   ·cases m1
  ·cases hm
 |ext i y=>
  simp only[opX] at H
  obtain ⟨H1,hh1⟩:=pureV_some H
  clear H
  subst hh1
  have H:=H1
  clear H1
  simp only[mtOp] at hm
  split at hm
  ·rename_i y' j hz
   simp only[Bool.and_eq_true,beq_iff_eq] at hm
   obtain ⟨rfl,m2⟩:=hm
   simp only[execOp,hz]
   exact GivesN.pureV R (ext_ok H (opd_ok m2 he))
  ·cases hm
 |call f nm xs=>exact absurd rfl (hnc f nm xs).1.1
 |calln f nm xs=>exact absurd rfl (hnc f nm xs).1.2.1
 |callf f nm xs=>exact absurd rfl (hnc f nm xs).1.2.2
 |callk k f nm xs=>exact absurd rfl ((hnc f nm xs).2 k).1
 |callz k f nm xs=>exact absurd rfl ((hnc f nm xs).2 k).2
end
end Zv
end
