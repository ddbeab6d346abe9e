/-
  Parts of the proof.
-/
import Derived.Test.YtmhbpocjmaacpaaZwOpA
import Derived.Test.YtmhbpocjmaacpaaZwRegB
import Derived.Test.YtmhbpocjmaacpaaZwRow
import Derived.Test.YtmhbpocjmaacpaaChecked
import Derived.SizedLaws
set_option linter.unusedSimpArgs false
set_option linter.unusedVariables false
section
namespace Zv
open Go
mutual
def sh (s:Nat):V→V
 | .d x=>.d x
 | .tl l nl=>.tl (shs s l) nl
 | .own n es tot off len=>.own (n+s) es tot off len
 | .ptr n tot i off=>.ptr (n+s) tot i off
 | .fp x off=>.fp x off
 | .clo f caps=>.clo f (shs s caps)
 | .agg l=>.agg (shs s l)
 | .tup l=>.tup (shs s l)
 | .map n=>.map (n+s)
 | .yld n=>.yld (n+s)
 | .ub=>.ub
 | .undef=>.undef
def shs (s:Nat):List V→List V
 | []=>[]
 |v::r=>sh s v::shs s r
end
theorem shs_map (s:Nat):∀ l:List V,shs s l=l.map (sh s)
 | []=>rfl
 |v::r=>by simp[shs,shs_map s r]
def shO (s:Nat):Ob→Ob
 | .arr es els=>.arr es (els.map (sh s))
 | .mp kvs=>.mp (kvs.map fun p=>(p.1,sh s p.2))
 | .lp b e st=>.lp b (e.map fun p=>(p.1,sh s p.2)) st
def shK (s:Nat) (p:Nat × Ob):Nat × Ob:=(p.1+s,shO s p.2)
def shH (b h:Hp):Hp:=⟨h.objs.map (shK b.next)++b.objs,h.next+b.next⟩
def shE (s:Nat) (e:Env):Env:=e.map fun p=>(p.1,sh s p.2)
def Low (b:Hp):Prop:=∀ m,b.next≤m→look b.objs m=none
section
variable {s:Nat}
mutual
theorem toD_sh:∀ v:V,toD (sh s v)=toD v
 | .d _ | .own .. | .ptr .. | .fp .. | .clo .. | .tup _ | .map _ | .yld _ | .ub | .undef=>by simp[sh,toD]
 | .tl l nl=>by simp only[sh,toD,toDs_sh l]
 | .agg l=>by simp only[sh,toD,toDs_sh l]
theorem toDs_sh:∀ l:List V,toDs (shs s l)=toDs l
 | []=>rfl
 |v::r=>by simp only[shs,toDs,toD_sh v,toDs_sh r]
end
theorem toDs_shm (l:List V):toDs (l.map (sh s))=toDs l:=by rw[←shs_map,toDs_sh]
theorem norm_sh (v:V):norm (sh s v)=sh s (norm v):=by
 unfold norm
 rw[toD_sh]
 split<;>rfl
theorem stor_sh (v:V):stor (sh s v)=stor v:=by cases v<;>rfl
theorem map_d_sh (l:List D):(l.map V.d).map (sh s)=l.map V.d:=by rw[List.map_map];rfl
theorem cells_sh (v:V):(sh s v).cells=v.cells.map (sh s):=by
 cases v with
 |d x=>exact (map_d_sh _).symm
 |agg l=>exact shs_map s l
 |_=>rfl
theorem asD_sh:∀ l:List V,asD (l.map (sh s))=asD l
 | []=>rfl
 | .d x::r=>by simp only[List.map_cons,sh,asD,asD_sh r]
 | .tl .. :: r | .own .. :: r | .ptr .. :: r | .fp .. :: r | .clo .. :: r | .agg _::r | .tup _::r | .map _::r | .yld _::r | .ub::r | .undef::r=>by simp only[List.map_cons,sh,asD]
theorem mkAgg_sh (l:List V):mkAgg (l.map (sh s))=sh s (mkAgg l):=by
 unfold mkAgg
 rw[asD_sh]
 split
 ·rfl
 ·simp[sh,shs_map]
theorem get_sh:∀ (e:Env) (t:Nat),Env.get (shE s e) t=sh s (e.get t)
 | [],_=>rfl
 | (u,v)::r,t=>by
  show (if t=u then sh s v else Env.get (shE s r) t)=sh s (if t=u then v else Env.get r t)
  rw[get_sh r t]
  split<;>rfl
theorem putO_sh (e:Env) (t:Option Nat) (v:V):(shE s e).putO t (sh s v)=shE s (e.putO t v):=by cases t<;>rfl
theorem keep_sh (e:Env):∀ l:List Nat,Env.keep (shE s e) l=shE s (Env.keep e l)
 | []=>rfl
 |t::l=>by
  show (t,Env.get (shE s e) t)::Env.keep (shE s e) l=(t,sh s (e.get t))::shE s (Env.keep e l)
  rw[get_sh,keep_sh e l]
theorem keepE_sh (e:Env) (k:Option (List Nat)):keepE k (shE s e)=shE s (keepE k e):=by
 cases k with
 |none=>rfl
 |some l=>exact keep_sh e l
theorem args_sh:∀ (i:Nat) (l:List V),args i (l.map (sh s))=shE s (args i l)
 |_,[]=>rfl
 |i,v::r=>by simp only[List.map_cons,args,args_sh (i+1) r];rfl
theorem normArgs_sh:∀ (b:List Bool) (l:List V),normArgs b (l.map (sh s))=(normArgs b l).map (sh s)
 | [],_=>by simp[normArgs]
 |_::_,[]=>rfl
 |b::bs,v::r=>by
  simp only[List.map_cons,normArgs,normArgs_sh bs r,norm_sh]
  split<;>rfl
theorem isNil_sh (k:NK) (v:V):isNil k (sh s v)=isNil k v:=by
 cases v with
 |tl l nl=>cases l<;>cases k<;>rfl
 |d x=>rfl
 |_=>cases k<;>rfl
theorem ubOf_sh {k:NK} {v r:V} (H:ubOf k v=some r):ubOf k (sh s v)=some (sh s r):=by
 unfold ubOf at H
 split at H<;>cases H<;>rfl
theorem nilBin_sh {k:NK} {op:BinOp} {v r:V} (H:nilBin k op v=some r):nilBin k op (sh s v)=some (sh s r):=by
 unfold nilBin at H ⊢
 rw[isNil_sh]
 split at H
 ·rename_i b hb;cases H;simp[sh]
 ·rename_i b hb;cases H;simp[sh]
 ·exact ubOf_sh H
 ·exact ubOf_sh H
 ·cases H
theorem intBin_d {op:BinOp} {k:IntKind} {a b:Int} {r:V} (H:intBin op k a b=some r):sh s r=r:=by
 unfold intBin at H
 split at H<;>(try split at H)<;>cases H<;>rfl
theorem strBin_d {op:BinOp} {a b:ByteArray} {r:V} (H:strBin op a b=some r):sh s r=r:=by
 unfold strBin at H
 split at H<;>(try split at H)<;>cases H<;>rfl
theorem bin_sh {op:BinOp} {a b r:V} (H:bin op a b=some r):bin op (sh s a) (sh s b)=some (sh s r):=by
 unfold bin at H
 split at H
 ·split at H
  ·rename_i h;subst h;rw[intBin_d H];simpa [bin,sh] using H
  ·cases H
 ·rw[strBin_d H];exact H
 ·cases H
theorem binB_sh {op:BinOp} {a b r:V} (H:binB op a b=some r):binB op (sh s a) (sh s b)=some (sh s r):=by
 unfold binB at H
 split at H
 ·split at H<;>cases H<;>rfl
 ·cases H
theorem aggBin_sh {ks:List KK} {op:BinOp} {a b r:V} (H:aggBin ks op a b=some r):aggBin ks op (sh s a) (sh s b)=some (sh s r):=by
 unfold aggBin at H
 split at H
 ·rename_i x y
  split at H
  ·rename_i h1;cases H;simp only[aggBin,sh,h1]
  ·rename_i h1;cases H;simp only[aggBin,sh,h1]
  ·cases H
 ·cases H
theorem un_sh {op:UnOp} {a r:V} (H:un op a=some r):un op (sh s a)=some (sh s r):=by
 unfold un at H
 split at H
 ·split at H<;>cases H<;>rfl
 ·split at H<;>cases H<;>rfl
 ·cases H
theorem pick_sh {c a b r:V} (H:pick c a b=some r):pick (sh s c) (sh s a) (sh s b)=some (sh s r):=by
 unfold pick at H
 split at H
 ·cases H;simp only[pick,sh];split<;>rfl
 ·cases H
theorem conv_sh {k:IntKind} {a r:V} (H:conv k a=some r):conv k (sh s a)=some (sh s r):=by
 unfold conv at H
 split at H
 ·cases H;rfl
 ·cases H
theorem nilck_sh {a r:V} (H:nilck a=some r):nilck (sh s a)=some (sh s r):=by
 unfold nilck at H
 split at H<;>cases H<;>rfl
theorem lenS_sh {a r:V} (H:lenS a=some r):lenS (sh s a)=some (sh s r):=by
 unfold lenS at H
 split at H<;>cases H;rfl
theorem lenL_sh {a r:V} (H:lenL a=some r):lenL (sh s a)=some (sh s r):=by
 unfold lenL at H
 split at H<;>cases H
 ·rfl
 ·simp[lenL,sh,shs_map,int]
 ·rfl
theorem ixOf_sh (v:V):ixOf (sh s v)=ixOf v:=by cases v<;>rfl
theorem ia_sh {es:Nat} {x i r:V} (H:ia es x i=some r):ia es (sh s x) (sh s i)=some (sh s r):=by
 unfold ia at H ⊢
 rw[ixOf_sh]
 split at H
 ·simp only[sh,Option.bind_eq_some_iff] at H ⊢
  obtain ⟨j,h1,y,h2,h3⟩:=H
  refine ⟨j,h1,y,h2,?_⟩
  split at h3<;>cases h3
  rename_i hc;rw[if_pos hc];rfl
 ·simp only[sh,Option.bind_eq_some_iff] at H ⊢
  obtain ⟨j,h1,y,h2,x,h3,h4⟩:=H
  refine ⟨j,h1,sh s y,by rw[shs_map];simp[h2],x,by rw[toD_sh];exact h3,?_⟩
  split at h4<;>cases h4
  rename_i hc;rw[if_pos hc];rfl
 ·simp only[sh,Option.bind_eq_some_iff] at H ⊢
  obtain ⟨j,h1,h2⟩:=H
  refine ⟨j,h1,?_⟩
  split at h2<;>cases h2
  rename_i hc;rw[if_pos hc];rfl
 ·cases H
theorem ixS_sh {x i r:V} (H:ixS x i=some r):ixS (sh s x) (sh s i)=some (sh s r):=by
 unfold ixS at H
 split at H
 ·rename_i b
  simp only[sh,ixS,ixOf_sh,Option.bind_eq_some_iff] at H ⊢
  obtain ⟨j,h1,h2⟩:=H
  refine ⟨j,h1,?_⟩
  split at h2<;>cases h2
  rename_i hc;rw[dif_pos hc];rfl
 ·cases H
theorem fa_sh {off:Nat} {x r:V} (H:fa off x=some r):fa off (sh s x)=some (sh s r):=by
 unfold fa at H
 split at H<;>cases H<;>rfl
theorem partV_sh {ag:Bool} {off sz:Nat} {l:List V} {r:V} (H:partV ag off sz l=some r):partV ag off sz (l.map (sh s))=some (sh s r):=by
 unfold partV at H ⊢
 split at H
 ·rename_i hag
  rw[if_pos hag]
  split at H<;>cases H
  rename_i hc
  rw[if_pos (by rw[List.length_map];exact hc),←List.map_drop,←List.map_take,mkAgg_sh]
 ·rename_i hag
  rw[if_neg hag,List.getElem?_map,H];rfl
theorem fld_sh {ag:Bool} {off sz:Nat} {x r:V} (H:fld ag off sz x=some r):fld ag off sz (sh s x)=some (sh s r):=by
 unfold fld at H
 split at H
 ·simp only[Option.map_eq_some_iff] at H
  obtain ⟨y,h1,h2⟩:=H
  subst h2
  simp[fld,sh,h1]
 ·have:=partV_sh (s:=s) H
  simpa [fld,sh,shs_map] using this
 ·cases H
theorem bnd_sh (n:Nat) (x:Option V):bnd n (x.map (sh s))=bnd n x:=by cases x<;>simp[bnd,ixOf_sh]
theorem allV_sh (es:Nat) (l:List V):allV es (l.map (sh s))=allV es l:=by
 unfold allV
 rw[List.all_map]
 congr 1
 funext x
 simp[cells_sh]
theorem slcS_sh {x r:V} {lo hi:Option V} (H:slcS x lo hi=some r):slcS (sh s x) (lo.map (sh s)) (hi.map (sh s))=some (sh s r):=by
 unfold slcS at H
 split at H
 ·simp only[slcS,sh,bnd_sh]
  rw[H]
  simp only[Option.bind_eq_some_iff] at H
  obtain ⟨a,_,b,_,h⟩:=H
  split at h<;>cases h
  rfl
 ·cases H
theorem slc_sh {es:Nat} {x r:V} {lo hi:Option V} (H:slc es x lo hi=some r):slc es (sh s x) (lo.map (sh s)) (hi.map (sh s))=some (sh s r):=by
 unfold slc at H
 split at H
 ·simp only[slc,sh,bnd_sh]
  rw[H]
  simp only[Option.bind_eq_some_iff] at H
  obtain ⟨a,_,b,_,h⟩:=H
  split at h<;>cases h
  rfl
 ·simp only[slc,sh,bnd_sh,shs_map,List.length_map,allV_sh,Option.bind_eq_some_iff] at H ⊢
  obtain ⟨a,h1,b,h2,h⟩:=H
  refine ⟨a,h1,b,h2,?_⟩
  split at h<;>cases h
  rename_i hc;rw[if_pos hc]
  simp[sh,shs_map,List.map_drop]
 ·simp only[slc,sh,bnd_sh,Option.bind_eq_some_iff] at H ⊢
  obtain ⟨a,h1,b,h2,h⟩:=H
  refine ⟨a,h1,b,h2,?_⟩
  split at h<;>cases h
  rename_i hc;rw[if_pos hc];rfl
 ·cases H
theorem slc3_sh {es:Nat} {x r:V} {lo hi mx:Option V} (H:slc3 es x lo hi mx=some r):slc3 es (sh s x) (lo.map (sh s)) (hi.map (sh s)) (mx.map (sh s))=some (sh s r):=by
 unfold slc3 at H
 split at H
 ·simp only[slc3,sh,bnd_sh,Option.bind_eq_some_iff] at H ⊢
  obtain ⟨a,h1,b,h2,c,h3,h⟩:=H
  refine ⟨a,h1,b,h2,c,h3,?_⟩
  split at h<;>cases h
  rename_i hc;rw[if_pos hc]
  simp only[sh,shs_map,List.map_map];rfl
 ·simp only[slc3,sh,bnd_sh,shs_map,List.length_map,allV_sh,Option.bind_eq_some_iff] at H ⊢
  obtain ⟨a,h1,b,h2,c,h3,h⟩:=H
  refine ⟨a,h1,b,h2,c,h3,?_⟩
  split at h<;>cases h
  rename_i hc;rw[if_pos hc]
  simp[sh,shs_map,List.map_drop,List.map_take]
 ·cases H
theorem ext_sh {i:Nat} {x r:V} (H:ext i x=some r):ext i (sh s x)=some (sh s r):=by
 unfold ext at H
 split at H
 ·simp[ext,sh,shs_map,H]
 ·cases H
theorem lay_sh:∀ (ps:List (Nat × Nat × V)) (cs r:List V),lay cs ps=some r→lay (cs.map (sh s)) (ps.map fun p=>(p.1,p.2.1,sh s p.2.2))=some (r.map (sh s))
 | [],cs,r,H=>by cases H;rfl
 | (off,sz,v)::ps,cs,r,H=>by
  simp only[lay] at H
  split at H
  ·rename_i hc
   simp only[List.map_cons,lay]
   rw[if_pos (by rw[stor_sh,cells_sh,List.length_map,List.length_map];exact hc)]
   have:=lay_sh ps _ r H
   rw[cells_sh,←List.map_take,←List.map_drop,←List.map_append,←List.map_append]
   exact this
  ·cases H
end
section
variable {b:Hp} {h:Hp}
theorem look_map:∀ (l:List (Nat × Ob)) (base:List (Nat × Ob)) (n s:Nat),look (l.map (shK s)++base) (n+s)=match look l n with
  |some o=>some (shO s o)
  |none=>look base (n+s)
 | [],base,n,s=>rfl
 | (m,o)::l,base,n,s=>by
  show (if n+s=m+s then some (shO s o) else look (l.map (shK s)++base) (n+s))=match (if n=m then some o else look l n) with
   |some o=>some (shO s o)
   |none=>look base (n+s)
  by_cases hn:n=m
  ·subst hn;simp
  ·rw[if_neg (by omega),if_neg hn];exact look_map l base n s
theorem get_shH (L:Low b) (n:Nat):(shH b h).get (n+b.next)=(h.get n).map (shO b.next):=by
 unfold Hp.get shH
 rw[look_map]
 split
 ·rename_i o ho;rw[ho];rfl
 ·rename_i ho;rw[ho];exact L _ (by omega)
theorem row_shH (L:Low b) (n tot:Nat):(shH b h).row (n+b.next) tot=(h.row n tot).map fun r=>(r.1,r.2.map (sh b.next)):=by
 unfold Hp.row
 rw[get_shH L]
 cases h.get n with
 |none=>rfl
 |some o=>
  cases o with
  |arr es els=>
   simp only[Option.map_some,shO,List.length_map]
   split<;>rfl
  |mp kvs=>rfl
  |lp _ _ _=>rfl
theorem upd_map:∀ (l:List (Nat × Ob)) (base:List (Nat × Ob)) (n s:Nat) (o q:Ob),look l n=some q→upd (l.map (shK s)++base) (n+s) (shO s o)=(upd l n o).map (shK s)++base
 | [],_,_,_,_,_,hq=>by cases hq
 | (m,x)::l,base,n,s,o,q,hq=>by
  show (if n+s=m+s then (m+s,shO s o)::(l.map (shK s)++base) else (m+s,shO s x)::upd (l.map (shK s)++base) (n+s) (shO s o))=_
  unfold look at hq
  by_cases hn:n=m
  ·subst hn;simp[upd,shK]
  ·rw[if_neg hn] at hq
   rw[if_neg (by omega),upd_map l base n s o q hq]
   simp[upd,hn,shK]
theorem set_shH {n:Nat} {o q:Ob} (hq:h.get n=some q):(shH b h).set (n+b.next) (shO b.next o)=shH b (h.set n o):=by
 unfold Hp.set shH
 simp only[Hp.mk.injEq,and_true]
 exact upd_map _ _ _ _ _ q hq
theorem alloc_shH (o:Ob):(shH b h).alloc (shO b.next o)=shH b (h.alloc o):=by
 unfold Hp.alloc shH
 simp[shK]
 omega
theorem del_low:∀ {l:List (Nat × Ob)} {n:Nat},look l n=none→del l n=l
 | [],_,_=>rfl
 | (m,o)::l,n,hl=>by
  unfold look at hl
  split at hl
  ·cases hl
  ·rename_i hn;unfold del;rw[if_neg hn,del_low hl]
theorem del_map:∀ (l:List (Nat × Ob)) (base:List (Nat × Ob)) (n s:Nat),look base (n+s)=none→del (l.map (shK s)++base) (n+s)=(del l n).map (shK s)++base
 | [],base,n,s,hb=>by simpa [del] using del_low hb
 | (m,x)::l,base,n,s,hb=>by
  show (if n+s=m+s then (l.map (shK s)++base) else (m+s,shO s x)::del (l.map (shK s)++base) (n+s))=_
  by_cases hn:n=m
  ·subst hn;simp[del]
  ·rw[if_neg (by omega),del_map l base n s hb]
   simp[del,hn,shK]
theorem kill_shH (L:Low b) (n:Nat):(shH b h).kill (n+b.next)=shH b (h.kill n):=by
 unfold Hp.kill shH
 simp only[Hp.mk.injEq,and_true]
 exact del_map _ _ _ _ (L _ (by omega))
theorem next_shH:(shH b h).next=h.next+b.next:=rfl
theorem ld_sh (L:Low b) {ag:Bool} {sz:Nat} {a r:V} (H:ld ag sz h a=some r):ld ag sz (shH b h) (sh b.next a)=some (sh b.next r):=by
 unfold ld at H
 split at H
 ·simp only[Option.map_eq_some_iff] at H
  obtain ⟨y,h1,h2⟩:=H
  subst h2
  simp[ld,sh,h1]
 ·simp only[ld,sh,row_shH L,Option.bind_eq_some_iff,Option.map_eq_some_iff] at H ⊢
  obtain ⟨⟨es,els⟩,h1,e,h2,h3⟩:=H
  refine ⟨_,⟨_,h1,rfl⟩,sh b.next e,by simp[h2],?_⟩
  split at h3
  ·rename_i hc
   rw[if_pos hc]
   split at h3
   ·cases h3;rfl
   ·cases h3;rfl
   ·rename_i hn1 hn2
    have key:∀ off,partV ag off sz e.cells=some r→partV ag off sz (sh b.next e).cells=some (sh b.next r):=fun off h=>by rw[cells_sh];exact partV_sh h
    have key2:=key _ h3
    cases e with
    |d x=>cases x with
     |agg l=>exact absurd rfl (hn1 l)
     |_=>exact key2
    |agg l=>exact absurd rfl (hn2 l)
    |_=>exact key2
  ·rename_i hc
   rw[if_neg hc,cells_sh]
   exact partV_sh h3
 ·cases H
theorem ldk_sh (L:Low b) {ag:Bool} {sz:Nat} {k a r:V} (H:ldk ag sz h k a=some r):ldk ag sz (shH b h) (sh b.next k) (sh b.next a)=some (sh b.next r):=by
 cases k<;>try cases H
 cases a<;>try cases H
 rename_i n t1 i1 o1 m t2 i2 o2
 simp only[ldk] at H
 split at H
 ·rename_i e
  subst e
  have:=ld_sh L H
  simp only[sh] at this ⊢
  simp only[ldk,if_true,this]
 ·cases H
theorem sameAt_sh (L:Low b) {h h':Hp} {k:V} (H:sameAt h h' k=true):sameAt (shH b h) (shH b h') (sh b.next k)=true:=by
 cases k<;>try cases H
 rename_i n tot i off
 simp only[sameAt] at H
 simp only[sh,sameAt,get_shH L]
 split at H
 ·rename_i x y h1 h2
  simp only[h1,h2,Option.map_some]
  rw[Ob.beq_eq H]
  exact Ob.beq_refl _
 ·cases H
theorem ldf_sh (L:Low b) {ag:Bool} {sz:Nat} {a r:V} (H:ldf ag sz h a=some r):ldf ag sz (shH b h) (sh b.next a)=some (sh b.next r):=by
 unfold ldf at H
 split at H
 ·exact ld_sh L H
 ·cases H
theorem arr_sh (s es:Nat) (l:List V):Ob.arr es (l.map (sh s))=shO s (.arr es l):=rfl
theorem row_get' {n tot:Nat} {r:Nat × List V} (H:h.row n tot=some r):∃ q,h.get n=some q:=by
 unfold Hp.row at H
 cases hg:h.get n with
 |none=>rw[hg] at H;cases H
 |some q=>exact⟨q,rfl⟩
theorem st_sh (L:Low b) {sz:Nat} {a x:V} {h':Hp} (H:st sz h a x=some h'):st sz (shH b h) (sh b.next a) (sh b.next x)=some (shH b h'):=by
 unfold st at H
 split at H
 ·simp only[st,sh,row_shH L,Option.bind_eq_some_iff,Option.map_eq_some_iff] at H ⊢
  obtain ⟨⟨es,els⟩,h1,e,h2,h3⟩:=H
  obtain ⟨q,hq⟩:=row_get' h1
  refine ⟨_,⟨_,h1,rfl⟩,sh b.next e,by simp[h2],?_⟩
  simp only[stor_sh,cells_sh,List.length_map] at h3 ⊢
  split at h3
  ·rename_i hc
   rw[if_pos hc]
   split at h3
   ·rename_i hc2
    cases h3
    rw[if_pos hc2,←List.map_set,arr_sh,set_shH hq]
   ·rename_i hc2
    rw[if_neg hc2]
    split at h3
    ·rename_i hc3
     cases h3
     rw[if_pos hc3,←List.map_take,←List.map_drop,←List.map_append,←List.map_append,mkAgg_sh,←List.map_set,arr_sh,set_shH hq]
    ·cases h3
  ·cases h3
 ·cases H
theorem elems_sh (L:Low b) {x:V} {l:List V} (H:elems h x=some l):elems (shH b h) (sh b.next x)=some (l.map (sh b.next)):=by
 unfold elems at H
 split at H
 ·cases H;simp only[elems,sh,map_d_sh]
 ·cases H;simp only[elems,sh,shs_map]
 ·simp only[elems,sh,row_shH L,Option.bind_eq_some_iff,Option.map_eq_some_iff] at H ⊢
  obtain ⟨⟨es,els⟩,h1,h2⟩:=H
  refine ⟨_,⟨_,h1,rfl⟩,?_⟩
  simp only[List.length_map]
  split at h2
  ·rename_i hc
   cases h2
   rw[if_pos hc,←List.map_drop,←List.map_take]
  ·cases h2
 ·cases H
theorem norms_sh (s:Nat) (l:List V):(l.map (sh s)).map norm=(l.map norm).map (sh s):=by
 rw[List.map_map,List.map_map]
 exact List.map_congr_left fun x _=>norm_sh x
theorem app_sh (L:Low b) {es by_:Nat} {x y:V} {r:V × Hp} (H:app es by_ h x y=some r):app es by_ (shH b h) (sh b.next x) (sh b.next y)=some (sh b.next r.1,shH b r.2):=by
 unfold app at H ⊢
 simp only[Option.bind_eq_some_iff] at H ⊢
 obtain ⟨xs,h1,h2⟩:=H
 refine ⟨_,elems_sh L h1,?_⟩
 simp only[norms_sh,allV_sh] at h2 ⊢
 split at h2
 case isFalse=>cases h2
 rename_i hc
 rw[if_pos hc]
 clear hc h1
 generalize xs.map norm=ns at h2 ⊢
 cases x with
 |tl l nl=>
  simp only[sh,shs_map,allV_sh,List.length_map,List.isEmpty_map] at h2 ⊢
  split at h2
  ·rename_i hc2;cases h2;rw[if_pos hc2];simp[sh,shs_map]
  ·rename_i hc2
   rw[if_neg hc2]
   split at h2
   ·rename_i hc3
    cases h2
    rw[if_pos hc3,←List.map_append,arr_sh,alloc_shH]
    simp[sh,next_shH]
   ·cases h2
 |own n e tot off len=>
  simp only[sh,row_shH L,Option.bind_eq_some_iff,Option.map_eq_some_iff] at h2 ⊢
  obtain ⟨⟨es',els⟩,h3,h4⟩:=h2
  obtain ⟨q,hq⟩:=row_get' h3
  refine ⟨_,⟨_,h3,rfl⟩,?_⟩
  simp only[List.length_map,List.isEmpty_map] at h4 ⊢
  split at h4
  case isFalse=>cases h4
  rename_i hc2
  rw[if_pos hc2]
  split at h4
  ·rename_i hc3;cases h4;rw[if_pos hc3];rfl
  ·rename_i hc3
   rw[if_neg hc3]
   split at h4
   ·rename_i hc4
    cases h4
    rw[if_pos hc4,←List.map_take,←List.map_drop,←List.map_append,←List.map_append,arr_sh,set_shH hq]
    rfl
   ·rename_i hc4
    rw[if_neg hc4]
    split at h4
    ·rename_i hc5
     rw[if_pos hc5]
     split at h4
     ·rename_i hc6
      cases h4
      rw[if_pos hc6,←List.map_take,←List.map_append,arr_sh,set_shH hq]
      rfl
     ·rename_i hc6
      cases h4
      rw[if_neg hc6,←List.map_drop,←List.map_take,←List.map_append,arr_sh,kill_shH L,alloc_shH]
      simp[sh,next_shH]
    ·cases h4
 |d x=>
  cases x with
  |lst l=>
   simp only[sh,List.isEmpty_map] at h2 ⊢
   split at h2
   ·rename_i hc2;cases h2;rw[if_pos hc2];rfl
   ·cases h2
  |_=>cases h2
 |_=>cases h2
theorem appn_sh (L:Low b) {es by_:Nat} {x y:V} {r:V × Hp} (H:appn es by_ h x y=some r):appn es by_ (shH b h) (sh b.next x) (sh b.next y)=some (sh b.next r.1,shH b r.2):=by
 unfold appn at H
 split at H
 ·exact app_sh L H
 ·cases H
theorem elems0_sh {n:Nat} {x:V} {l:List V} (H:elems0 x=some l):elems0 (sh n x)=some (l.map (sh n)):=by
 unfold elems0 at H
 split at H
 ·cases H;simp only[elems0,sh,map_d_sh]
 ·cases H;simp only[elems0,sh,shs_map]
 ·cases H
theorem appd_sh {b:Hp} {es by_:Nat} {x y v:V} (H:appd es by_ x y=some v):appd es by_ (sh b.next x) (sh b.next y)=some (sh b.next v):=by
 unfold appd at H
 split at H
 ·rename_i l nl
  simp only[Option.bind_eq_some_iff] at H
  obtain ⟨xs,h1,h2⟩:=H
  have e0:toD (V.tl (l.map (sh b.next)) nl)=toD (.tl l nl):=by
   have:=toD_sh (s:=b.next) (.tl l nl)
   simp only[sh,shs_map] at this
   exact this
  simp only[appd,sh,shs_map,elems0_sh h1,Option.bind_some]
  simp only[e0,allV_sh,List.length_map,norms_sh,List.isEmpty_map] at h2 ⊢
  split at h2
  case isFalse=>cases h2
  rename_i hc
  rw[if_pos hc]
  split at h2
  ·rename_i hc2
   rw[if_pos hc2]
   simp only[Option.map_eq_some_iff] at h2 ⊢
   obtain ⟨q,hq,rfl⟩:=h2
   exact⟨q,hq,by simp[sh]⟩
  ·rename_i hc2
   rw[if_neg hc2]
   split at h2
   ·rename_i hc3
    rw[if_pos hc3]
    simp only[Option.map_eq_some_iff] at h2 ⊢
    obtain ⟨q,hq,rfl⟩:=h2
    exact⟨q,by rw[←List.map_append,toDs_shm];exact hq,by simp[sh]⟩
   ·cases h2
 ·cases H
theorem cpy_sh (L:Low b) {es:Nat} {x y:V} {r:V × Hp} (H:cpy es h x y=some r):cpy es (shH b h) (sh b.next x) (sh b.next y)=some (sh b.next r.1,shH b r.2):=by
 unfold cpy at H ⊢
 simp only[Option.bind_eq_some_iff] at H ⊢
 obtain ⟨xs,h1,h2⟩:=H
 refine ⟨_,elems_sh L h1,?_⟩
 simp only[allV_sh,List.length_map] at h2 ⊢
 split at h2
 case isFalse=>cases h2
 rename_i hc
 rw[if_pos hc]
 cases x with
 |own n e tot off len=>
  simp only[sh,row_shH L,Option.bind_eq_some_iff,Option.map_eq_some_iff] at h2 ⊢
  obtain ⟨⟨es',els⟩,h3,h4⟩:=h2
  obtain ⟨q,hq⟩:=row_get' h3
  refine ⟨_,⟨_,h3,rfl⟩,?_⟩
  simp only[List.length_map] at h4 ⊢
  split at h4
  ·rename_i hc2
   cases h4
   rw[if_pos hc2,←List.map_take,←List.map_take,←List.map_drop,←List.map_append,←List.map_append,arr_sh,set_shH hq]
   rfl
  ·cases h4
 |tl l nl=>
  cases l with
  |nil=>cases h2;rfl
  |cons _ _=>cases h2
 |_=>cases h2
theorem mkslO_sh {z:V} (hz:sh b.next z=z) {es by_:Nat} {n:V} {r:V × Hp} (H:mkslO z es by_ h n=some r):mkslO z es by_ (shH b h) (sh b.next n)=some (sh b.next r.1,shH b r.2):=by
 unfold mkslO at H ⊢
 rw[ixOf_sh]
 simp only[Option.bind_eq_some_iff] at H ⊢
 obtain ⟨k,h1,h2⟩:=H
 refine ⟨k,h1,?_⟩
 split at h2
 ·rename_i hc
  cases h2
  rw[if_pos hc,←alloc_shH]
  simp[sh,next_shH,shO,hz]
 ·cases h2
theorem capT_sh {s:Nat} {a r:V} (H:capT a=some r):capT (sh s a)=some (sh s r):=by
 unfold capT at H
 split at H
 ·cases H;simp[capT,sh,shs_map,int]
 ·cases H
theorem appz_sh {z:V} (hz:sh b.next z=z) {es by_:Nat} {v n:V} {r:V × Hp} (H:appz z es by_ h v n=some r):appz z es by_ (shH b h) (sh b.next v) (sh b.next n)=some (sh b.next r.1,shH b r.2):=by
 unfold appz at H
 split at H
 ·rename_i nl
  simp only[Option.bind_eq_some_iff] at H
  obtain ⟨k,hk,H⟩:=H
  split at H
  ·rename_i hc
   split at H
   ·rename_i h0
    cases H
    simp only[appz,sh,shs,ixOf_sh,hk,Option.bind_some,if_pos hc,if_pos h0]
   ·rename_i h0
    have hm:mkslO z es by_ h n=some r:=by
     unfold mkslO
     rw[hk,Option.bind_some,if_pos hc];exact H
    have:=mkslO_sh hz hm
    unfold mkslO at this
    rw[ixOf_sh,hk,Option.bind_some,if_pos hc] at this
    simp only[appz,sh,shs,ixOf_sh,hk,Option.bind_some,if_pos hc,if_neg h0]
    exact this
  ·cases H
 ·cases H
theorem mkslT_sh {s:Nat} {z:V} (hz:sh s z=z) {by_:Nat} {n r:V} (H:mkslT z by_ n=some r):mkslT z by_ (sh s n)=some (sh s r):=by
 unfold mkslT at H ⊢
 rw[ixOf_sh]
 simp only[Option.bind_eq_some_iff] at H ⊢
 obtain ⟨k,h1,h2⟩:=H
 refine ⟨k,h1,?_⟩
 split at h2
 ·rename_i hc
  cases h2
  rw[if_pos hc]
  simp[sh,shs_map,hz]
 ·cases h2
theorem entries_sh (L:Low b) {m:V} {l:List (D × V)} (H:entries h m=some l):entries (shH b h) (sh b.next m)=some (l.map fun p=>(p.1,sh b.next p.2)):=by
 unfold entries at H
 split at H
 ·rename_i n
  simp only[entries,sh,get_shH L]
  split at H
  ·rename_i kvs hg
   cases H
   rw[hg];rfl
  ·cases H
 ·cases H;rfl
 ·cases H
theorem findK_sh (s:Nat) (kk:KK) (k:D):∀ (l:List (D × V)) (r:Option V),findK kk k l=some r→findK kk k (l.map fun p=>(p.1,sh s p.2))=some (r.map (sh s))
 | [],r,H=>by cases H;rfl
 | (q,v)::l,r,H=>by
  simp only[findK,List.map_cons] at H ⊢
  split at H
  ·cases H;rfl
  ·exact findK_sh s kk k l r H
  ·cases H
theorem putK_sh (s:Nat) (kk:KK) (k:D) (x:V):∀ (l r:List (D × V)),putK kk k x l=some r→putK kk k (sh s x) (l.map fun p=>(p.1,sh s p.2))=some (r.map fun p=>(p.1,sh s p.2))
 | [],r,H=>by cases H;rfl
 | (q,v)::l,r,H=>by
  simp only[putK,List.map_cons] at H ⊢
  split at H
  ·cases H;rfl
  ·simp only[Option.map_eq_some_iff] at H ⊢
   obtain ⟨t,h2,h3⟩:=H
   subst h3
   exact⟨_,putK_sh s kk k x l t h2,rfl⟩
  ·cases H
theorem lk_sh (L:Low b) {kk:KK} {z:V} (hz:sh b.next z=z) {ok:Bool} {m k r:V} (H:lk kk z ok h m k=some r):lk kk z ok (shH b h) (sh b.next m) (sh b.next k)=some (sh b.next r):=by
 unfold lk at H
 split at H
 ·simp only[lk,sh,Option.bind_eq_some_iff,Option.map_eq_some_iff] at H ⊢
  obtain ⟨kvs,h1,o,h2,h3⟩:=H
  refine ⟨_,entries_sh L h1,_,findK_sh _ _ _ _ _ h2,?_⟩
  subst h3
  have hg:(o.map (sh b.next)).getD z=sh b.next (o.getD z):=by cases o<;>simp[hz]
  split
  ·simp[sh,shs,hg]
  ·exact hg
 ·cases H
theorem mu_sh (L:Low b) {kk:KK} {m k x:V} {h':Hp} (H:mu kk h m k x=some h'):mu kk (shH b h) (sh b.next m) (sh b.next k) (sh b.next x)=some (shH b h'):=by
 unfold mu at H
 split at H
 ·simp only[mu,sh,get_shH L]
  split at H
  ·rename_i n k kvs hg
   rw[hg]
   simp only[Option.map_some,shO,stor_sh,norm_sh]
   split at H
   ·rename_i hc
    rw[if_pos hc]
    simp only[Option.map_eq_some_iff] at H ⊢
    obtain ⟨t,h2,h3⟩:=H
    subst h3
    refine ⟨_,putK_sh _ _ _ _ _ _ h2,?_⟩
    exact set_shH (o:=.mp t) hg
   ·cases H
  ·cases H
 ·cases H
theorem lenM_sh (L:Low b) {x r:V} (H:lenM h x=some r):lenM (shH b h) (sh b.next x)=some (sh b.next r):=by
 unfold lenM at H ⊢
 simp only[Option.map_eq_some_iff] at H ⊢
 obtain ⟨l,h1,h2⟩:=H
 subst h2
 exact⟨_,entries_sh L h1,by simp[int,sh]⟩
theorem frz_sh (L:Low b) {v:V} {r:V × Hp} (H:frz h v=some r):frz (shH b h) (sh b.next v)=some (sh b.next r.1,shH b r.2):=by
 unfold frz at H
 split at H
 ·simp only[frz,sh,row_shH L,Option.bind_eq_some_iff,Option.map_eq_some_iff] at H ⊢
  obtain ⟨⟨es,els⟩,h1,h2⟩:=H
  refine ⟨_,⟨_,h1,rfl⟩,?_⟩
  simp only[List.length_map] at h2 ⊢
  split at h2
  ·rename_i hc
   rw[if_pos hc,←List.map_drop,←List.map_take,toDs_shm]
   simp only[Option.map_eq_some_iff] at h2 ⊢
   obtain ⟨l,h3,h4⟩:=h2
   subst h4
   exact⟨l,h3,by rw[kill_shH L];rfl⟩
  ·cases h2
 ·simp only[frz,sh,row_shH L,Option.bind_eq_some_iff,Option.map_eq_some_iff] at H ⊢
  obtain ⟨⟨es,els⟩,h1,e,h2,h3⟩:=H
  refine ⟨_,⟨_,h1,rfl⟩,sh b.next e,by simp[h2],?_⟩
  rw[toD_sh]
  split at h3
  ·rename_i x hx;subst h3;rw[kill_shH L];rfl
  ·subst h3;rfl
 ·rename_i hn1 hn2
  simp only[Option.map_eq_some_iff] at H
  obtain ⟨x,h1,h2⟩:=H
  subst h2
  have hfin:∀ u:V,(∀ n es tot off len,u≠.own n es tot off len)→(∀ n tot i off,u≠.ptr n tot i off)→toD u=some x→frz (shH b h) u=some (.d x,shH b h):=by
   intro u k1 k2 k3
   cases u with
   |own n es tot off len=>exact absurd rfl (k1 _ _ _ _ _)
   |ptr n tot i off=>exact absurd rfl (k2 _ _ _ _)
   |_=>simp only[frz,k3,Option.map_some]
  refine hfin _ (fun n es tot off len he=>?_) (fun n tot i off he=>?_) (by rw[toD_sh];exact h1)
  ·cases v<;>simp[sh] at he
   exact hn1 _ _ _ _ _ rfl
  ·cases v<;>simp[sh] at he
   exact hn2 _ _ _ _ rfl
end
mutual
def clV:V→Bool
 | .d _ | .fp _ _ | .ub | .undef=>true
 | .tl l _ | .clo _ l | .agg l | .tup l=>clVs l
 | .own .. | .ptr .. | .map _ | .yld _=>false
def clVs:List V→Bool
 | []=>true
 |v::r=>clV v && clVs r
end
mutual
theorem frzs_sh {b:Hp} (L:Low b):∀ {l:List V} {h:Hp} {r:List D × Hp},frzs l h=some r→frzs (l.map (sh b.next)) (shH b h)=some (r.1,shH b r.2)
 | [],h,r,H=>by cases H;rfl
 |v::l,h,r,H=>by
  simp only[frzs,List.map_cons,Option.bind_eq_some_iff] at H ⊢
  obtain ⟨⟨y,h1⟩,hf,H⟩:=H
  refine ⟨_,frz_sh L hf,?_⟩
  split at H
  ·rename_i x hy
   simp only at hy
   subst hy
   simp only[Option.map_eq_some_iff] at H
   obtain ⟨s,hr,heq⟩:=H
   subst heq
   show Option.map _ (frzs (l.map (sh b.next)) (shH b h1))=_
   rw[frzs_sh L hr]
   rfl
  ·cases H
theorem fzd_sh {b h:Hp} (L:Low b) {v:V} {r:V × Hp} (H:fzd h v=some r):fzd (shH b h) (sh b.next v)=some (sh b.next r.1,shH b r.2):=by
 unfold fzd at H
 split at H
 ·simp only[fzd,sh,row_shH L,Option.bind_eq_some_iff] at H ⊢
  obtain ⟨⟨es,els⟩,h1,e,h2,h3⟩:=H
  simp only[Option.map_eq_some_iff]
  refine ⟨(es,els.map (sh b.next)),⟨_,h1,rfl⟩,sh b.next e,by simp[h2],?_⟩
  split at h3
  ·rename_i x
   cases h3
   simp only[sh]
   rw[kill_shH L]
  ·rename_i l
   simp only[Option.bind_eq_some_iff] at h3
   obtain ⟨s,h4,h5⟩:=h3
   split at h5
   ·rename_i hsm
    cases h5
    have h6:=frzs_sh L h4
    have h7:=sameAt_sh L hsm
    simp only[sh] at h7 ⊢
    simp only[shs_map,h6,Option.bind_some,h7,if_true]
    rw[kill_shH L]
   ·cases h5
  ·cases h3
 ·cases H
theorem clV_sh {s:Nat}:∀ {v:V},clV v=true→sh s v=v
 | .d _,_ | .fp _ _,_ | .ub,_ | .undef,_=>rfl
 | .tl l _,h | .clo _ l,h | .agg l,h | .tup l,h=>by simp only[clV] at h;simp only[sh,clVs_sh h]
 | .own ..,h | .ptr ..,h | .map _,h | .yld _,h=>by simp[clV] at h
theorem clVs_sh {s:Nat}:∀ {l:List V},clVs l=true→shs s l=l
 | [],_=>rfl
 |v::r,h=>by simp only[clVs,Bool.and_eq_true] at h;simp only[shs,clV_sh h.1,clVs_sh h.2]
end
def clO:Opd→Bool
 | .t _=>true
 | .c v=>clV v
def clOo:Option Opd→Bool
 |none=>true
 |some x=>clO x
def clOp:AOp→Bool
 | .mv x | .box _ x | .ld _ _ x | .nilck x | .nilBin _ _ x | .un _ x | .conv _ x | .fa _ x | .fld _ _ _ x
 | .lenS x | .lenL x | .lenM x | .capT x | .ext _ x | .ldf _ _ x=>clO x
 | .mksl z _ _ x | .mkslT z _ x=>clV z && clO x
 | .appz z _ _ x y=>clV z && clO x && clO y
 | .pick c a b=>clO c && clO a && clO b
 | .alloc _ z=>clV z
 | .mkmap | .stuck=>true
 | .build z ps=>clVs z && ps.all fun p=>clO p.2.2
 | .bsl _ xs | .bslO _ xs | .mkf _ xs=>xs.all clO
 | .st _ x y | .bin _ x y | .binB _ x y | .aggBin _ _ x y | .ia _ x y | .ixS x y | .app _ _ x y | .appn _ _ x y | .appf _ _ x y | .appd _ _ x y | .cpy _ x y=>clO x && clO y
 | .lk _ z _ x y=>clV z && clO x && clO y
 | .slcS x lo hi | .slc _ x lo hi=>clO x && clOo lo && clOo hi
 | .slc3 _ x lo hi mx=>clO x && clOo lo && clOo hi && clOo mx
 | .mu _ m k x=>clO m && clO k && clO x
 | .ldk k _ _ x=>clO k && clO x
 | .callk k f _ xs | .callz k f _ xs=>clO k && (clO f && xs.all clO)
 | .call f _ xs | .calln f _ xs | .callf f _ xs=>clO f && xs.all clO
def clI:It→Bool
 | .o _ op _=>clOp op
 |_=>true
def clC:AC→Bool
 | .reg its _=>its.all clI
 | .seq a b=>clC a && clC b
 | .cond c a b=>clO c && clC a && clC b
 | .blk _ a | .loop a=>clC a
 | .rng g _=>clO g
 | .amb p c a b r=>clC p && clO c && clC a && clC b && clC r
 |_=>true
section
variable {b:Hp} {h:Hp} {e:Env} {cf:Cf}
theorem ev_sh {s:Nat} {x:Opd} (hc:clO x=true):(shE s e).ev x=sh s (e.ev x):=by
 cases x with
 |t n=>exact get_sh e n
 |c v=>exact (clV_sh hc).symm
theorem evO_sh {s:Nat} {x:Option Opd} (hc:clOo x=true):x.map (shE s e).ev=(x.map e.ev).map (sh s):=by
 cases x with
 |none=>rfl
 |some y=>exact congrArg some (ev_sh hc)
theorem evL_sh {s:Nat} {l:List Opd} (hc:l.all clO=true):l.map (shE s e).ev=(l.map e.ev).map (sh s):=by
 rw[List.map_map]
 exact List.map_congr_left fun x hx=>ev_sh (List.all_eq_true.1 hc x hx)
def CfSh (b:Hp) (cf:Cf):Prop:=∀ v vs h r,cf v vs h=some r→cf (sh b.next v) (vs.map (sh b.next)) (shH b h)=some (sh b.next r.1,shH b r.2)
theorem pure_sh {f:Option V} {g:Option V} {r:V × Hp} (hf:∀ v,f=some v→g=some (sh b.next v)) (H:pureV h f=some r):pureV (shH b h) g=some (sh b.next r.1,shH b r.2):=by
 cases f with
 |none=>cases H
 |some v=>cases H;rw[hf v rfl];rfl
theorem opX_sh (L:Low b) (HC:CfSh b cf) {op:AOp} (hc:clOp op=true) {r:V × Hp} (H:opX cf e h op=some r):opX cf (shE b.next e) (shH b h) op=some (sh b.next r.1,shH b r.2):=by
 cases op with
 |mv x=>cases H;simp only[opX];rw[ev_sh hc]
 |pick c x y=>
  simp only[clOp,Bool.and_eq_true] at hc
  simp only[opX] at H ⊢
  rw[ev_sh hc.1.1,ev_sh hc.1.2,ev_sh hc.2]
  exact pure_sh (fun v hv=>pick_sh hv) H
 |alloc es z=>
  cases H
  simp only[opX,sh,next_shH]
  have hz:=clV_sh (s:=b.next) hc
  have:=alloc_shH (b:=b) (h:=h) (.arr es [z])
  simp only[shO,List.map_cons,List.map_nil,hz] at this
  rw[this]
 |box es x=>
  simp only[opX] at H ⊢
  rw[ev_sh hc,stor_sh,cells_sh,List.length_map]
  split at H
  ·rename_i h1
   cases H
   rw[if_pos h1]
   have:=alloc_shH (b:=b) (h:=h) (.arr es [e.ev x])
   simp only[shO,List.map_cons,List.map_nil] at this
   rw[this];rfl
  ·cases H
 |build z ps=>
  simp only[clOp,Bool.and_eq_true] at hc
  simp only[opX] at H ⊢
  refine pure_sh (fun v hv=>?_) H
  simp only[Option.map_eq_some_iff] at hv ⊢
  obtain ⟨l,h1,h2⟩:=hv
  subst h2
  have h3:=lay_sh (s:=b.next) _ _ _ h1
  rw[←shs_map,clVs_sh hc.1,List.map_map] at h3
  refine ⟨_,?_,mkAgg_sh l⟩
  rw[←h3]
  congr 1
  exact List.map_congr_left fun p hp=>by
   show (p.1,p.2.1,(shE b.next e).ev p.2.2)=_
   rw[ev_sh (List.all_eq_true.1 hc.2 p hp)];rfl
 |bsl es xs=>
  simp only[opX] at H ⊢
  have hl:=evL_sh (e:=e) (s:=b.next) hc
  rw[hl]
  have hall:((xs.map e.ev).map (sh b.next)).all (fun v=>stor v && v.cells.length == es)=(xs.map e.ev).all (fun v=>stor v && v.cells.length == es):=by
   rw[List.all_map];congr 1;funext x;simp[stor_sh,cells_sh]
  rw[hall]
  split at H
  ·rename_i h1
   cases H
   rw[if_pos h1]
   simp only[sh,shs_map,List.map_map,Option.some.injEq,Prod.mk.injEq,V.tl.injEq,and_true]
   exact List.map_congr_left fun x hx=>by simp only[Function.comp];rw[ev_sh (List.all_eq_true.1 hc x hx),norm_sh]
  ·cases H
 |bslO es xs=>
  simp only[opX] at H ⊢
  have hl:=evL_sh (e:=e) (s:=b.next) hc
  rw[hl]
  have hall:((xs.map e.ev).map (sh b.next)).all (fun v=>stor v && v.cells.length == es)=(xs.map e.ev).all (fun v=>stor v && v.cells.length == es):=by
   rw[List.all_map];congr 1;funext x;simp[stor_sh,cells_sh]
  rw[hall]
  split at H
  ·rename_i h1
   cases H
   rw[if_pos h1,←alloc_shH]
   simp only[sh,next_shH,shO,List.map_map,Option.some.injEq,Prod.mk.injEq,true_and]
   congr 2
   exact List.map_congr_left fun x hx=>by simp only[Function.comp];rw[ev_sh (List.all_eq_true.1 hc x hx),norm_sh]
  ·cases H
 |ld ag sz a=>simp only[opX] at H ⊢; rw[ev_sh hc];exact pure_sh (fun v hv=>ld_sh L hv) H
 |st sz a x=>
  simp only[clOp,Bool.and_eq_true] at hc
  simp only[opX,Option.map_eq_some_iff] at H ⊢
  obtain ⟨h',h1,h2⟩:=H
  subst h2
  rw[ev_sh hc.1,ev_sh hc.2]
  exact⟨_,st_sh L h1,rfl⟩
 |nilck x=>simp only[opX] at H ⊢; rw[ev_sh hc];exact pure_sh (fun v hv=>nilck_sh hv) H
 |bin op x y=>simp only[clOp,Bool.and_eq_true] at hc;simp only[opX] at H ⊢; rw[ev_sh hc.1,ev_sh hc.2];exact pure_sh (fun v hv=>bin_sh hv) H
 |binB op x y=>simp only[clOp,Bool.and_eq_true] at hc;simp only[opX] at H ⊢; rw[ev_sh hc.1,ev_sh hc.2];exact pure_sh (fun v hv=>binB_sh hv) H
 |nilBin k op x=>simp only[opX] at H ⊢; rw[ev_sh hc];exact pure_sh (fun v hv=>nilBin_sh hv) H
 |aggBin ks op x y=>simp only[clOp,Bool.and_eq_true] at hc;simp only[opX] at H ⊢; rw[ev_sh hc.1,ev_sh hc.2];exact pure_sh (fun v hv=>aggBin_sh hv) H
 |un op x=>simp only[opX] at H ⊢; rw[ev_sh hc];exact pure_sh (fun v hv=>un_sh hv) H
 |conv k x=>simp only[opX] at H ⊢; rw[ev_sh hc];exact pure_sh (fun v hv=>conv_sh hv) H
 |mkf f xs=>cases H;simp only[opX,sh,shs_map];rw[evL_sh hc]
 |mkmap=>
  cases H
  simp only[opX,sh,next_shH]
  have:=alloc_shH (b:=b) (h:=h) (.mp [])
  simp only[shO,List.map_nil] at this
  rw[this]
 |mksl z es by_ n=>
  simp only[clOp,Bool.and_eq_true] at hc
  simp only[opX] at H ⊢
  rw[ev_sh hc.2]
  exact mkslO_sh (clV_sh hc.1) H
 |mkslT z by_ n=>
  simp only[clOp,Bool.and_eq_true] at hc
  simp only[opX] at H ⊢
  rw[ev_sh hc.2]
  exact pure_sh (fun v hv=>mkslT_sh (clV_sh hc.1) hv) H
 |slcS x lo hi=>simp only[clOp,Bool.and_eq_true] at hc;simp only[opX] at H ⊢; rw[ev_sh hc.1.1,evO_sh hc.1.2,evO_sh hc.2];exact pure_sh (fun v hv=>slcS_sh hv) H
 |slc es x lo hi=>simp only[clOp,Bool.and_eq_true] at hc;simp only[opX] at H ⊢; rw[ev_sh hc.1.1,evO_sh hc.1.2,evO_sh hc.2];exact pure_sh (fun v hv=>slc_sh hv) H
 |slc3 es x lo hi mx=>simp only[clOp,Bool.and_eq_true] at hc;simp only[opX] at H ⊢; rw[ev_sh hc.1.1.1,evO_sh hc.1.1.2,evO_sh hc.1.2,evO_sh hc.2];exact pure_sh (fun v hv=>slc3_sh hv) H
 |fa off x=>simp only[opX] at H ⊢; rw[ev_sh hc];exact pure_sh (fun v hv=>fa_sh hv) H
 |fld ag off sz x=>simp only[opX] at H ⊢; rw[ev_sh hc];exact pure_sh (fun v hv=>fld_sh hv) H
 |ia es x y=>simp only[clOp,Bool.and_eq_true] at hc;simp only[opX] at H ⊢; rw[ev_sh hc.1,ev_sh hc.2];exact pure_sh (fun v hv=>ia_sh hv) H
 |ixS x y=>simp only[clOp,Bool.and_eq_true] at hc;simp only[opX] at H ⊢; rw[ev_sh hc.1,ev_sh hc.2];exact pure_sh (fun v hv=>ixS_sh hv) H
 |lk kk z ok m k=>simp only[clOp,Bool.and_eq_true] at hc;simp only[opX] at H ⊢; rw[ev_sh hc.1.2,ev_sh hc.2];exact pure_sh (fun v hv=>lk_sh L (clV_sh hc.1.1) hv) H
 |mu kk m k x=>
  simp only[clOp,Bool.and_eq_true] at hc
  simp only[opX,Option.map_eq_some_iff] at H ⊢
  obtain ⟨h',h1,h2⟩:=H
  subst h2
  rw[ev_sh hc.1.1,ev_sh hc.1.2,ev_sh hc.2]
  exact⟨_,mu_sh L h1,rfl⟩
 |lenS x=>simp only[opX] at H ⊢; rw[ev_sh hc];exact pure_sh (fun v hv=>lenS_sh hv) H
 |stuck=>simp only[opX] at H;cases H
 |ldk k ag sz a=>simp only[clOp,Bool.and_eq_true] at hc;simp only[opX] at H ⊢; rw[ev_sh hc.1,ev_sh hc.2];exact pure_sh (fun v hv=>ldk_sh L hv) H
 |callk k f nm xs=>
  simp only[clOp,Bool.and_eq_true] at hc
  simp only[opX,Option.bind_eq_some_iff] at H ⊢
  obtain ⟨q,h1,h2⟩:=H
  rw[ev_sh hc.1,ev_sh hc.2.1,evL_sh hc.2.2,normArgs_sh]
  refine ⟨_,HC _ _ _ _ h1,?_⟩
  split at h2
  ·rename_i hs
   cases h2
   rw[if_pos (sameAt_sh L hs)]
  ·cases h2
 |callz k f nm xs=>
  simp only[clOp,Bool.and_eq_true] at hc
  simp only[opX,Option.bind_eq_some_iff] at H ⊢
  obtain ⟨q,h1,q2,h3,h2⟩:=H
  rw[ev_sh hc.1,ev_sh hc.2.1,evL_sh hc.2.2,normArgs_sh]
  refine ⟨_,HC _ _ _ _ h1,_,frz_sh L h3,?_⟩
  split at h2
  ·rename_i hs
   cases h2
   rw[if_pos (sameAt_sh L hs)]
  ·cases h2
 |capT x=>simp only[opX] at H ⊢; rw[ev_sh hc];exact pure_sh (fun v hv=>capT_sh hv) H
 |appz z es by_ x y=>
  simp only[clOp,Bool.and_eq_true] at hc
  simp only[opX] at H ⊢
  rw[ev_sh hc.1.2,ev_sh hc.2]
  exact appz_sh (clV_sh hc.1.1) H
 |lenL x=>simp only[opX] at H ⊢; rw[ev_sh hc];exact pure_sh (fun v hv=>lenL_sh hv) H
 |lenM x=>simp only[opX] at H ⊢; rw[ev_sh hc];exact pure_sh (fun v hv=>lenM_sh L hv) H
 |app es by_ x y=>simp only[clOp,Bool.and_eq_true] at hc;simp only[opX] at H ⊢; rw[ev_sh hc.1,ev_sh hc.2];exact app_sh L H
 |appn es by_ x y=>simp only[clOp,Bool.and_eq_true] at hc;simp only[opX] at H ⊢; rw[ev_sh hc.1,ev_sh hc.2];exact appn_sh L H
 |appd es by_ x y=>simp only[clOp,Bool.and_eq_true] at hc;simp only[opX] at H ⊢; rw[ev_sh hc.1,ev_sh hc.2];exact pure_sh (fun v hv=>appd_sh hv) H
 |appf es by_ x y=>
  simp only[clOp,Bool.and_eq_true] at hc
  simp only[opX] at H ⊢
  rw[ev_sh hc.1,ev_sh hc.2]
  simp only[Option.bind_eq_some_iff] at H ⊢
  obtain ⟨q,h1,h2⟩:=H
  exact⟨_,app_sh L h1,frz_sh L h2⟩
 |cpy es x y=>simp only[clOp,Bool.and_eq_true] at hc;simp only[opX] at H ⊢; rw[ev_sh hc.1,ev_sh hc.2];exact cpy_sh L H
 |ext i x=>simp only[opX] at H ⊢; rw[ev_sh hc];exact pure_sh (fun v hv=>ext_sh hv) H
 |ldf ag sz a=>simp only[opX] at H ⊢; rw[ev_sh hc];exact pure_sh (fun v hv=>ldf_sh L hv) H
 |call f nm xs=>
  simp only[clOp,Bool.and_eq_true] at hc
  simp only[opX] at H ⊢
  rw[ev_sh hc.1,evL_sh hc.2,normArgs_sh]
  exact HC _ _ _ _ H
 |callf f nm xs=>
  simp only[clOp,Bool.and_eq_true] at hc
  simp only[opX,Option.bind_eq_some_iff] at H ⊢
  obtain ⟨q,h1,h2⟩:=H
  rw[ev_sh hc.1,evL_sh hc.2,normArgs_sh]
  exact⟨_,HC _ _ _ _ h1,frz_sh L h2⟩
 |calln f nm xs=>
  simp only[clOp,Bool.and_eq_true] at hc
  simp only[opX,Option.bind_eq_some_iff] at H ⊢
  obtain ⟨q,h1,h2⟩:=H
  rw[ev_sh hc.1,evL_sh hc.2,normArgs_sh]
  refine ⟨_,HC _ _ _ _ h1,?_⟩
  obtain ⟨h3,h4⟩:=quiet_eq h2
  subst h3
  rw[h4]
  unfold quiet
  rw[if_pos ⟨objsBeq_refl _,rfl⟩]
theorem want_sh {s:Nat} (g:Option (Nat × Bool)):want (shE s e) g=want e g:=by
 cases g with
 |none=>rfl
 |some p=>
  simp only[want,get_sh]
  cases e.get p.1 with
  |tup l=>cases l<;>rfl
  |_=>rfl
theorem itX_sh (L:Low b) (HC:CfSh b cf) {i:It} (hc:clI i=true) {r:Env × Hp} (H:itX cf e h i=some r):itX cf (shE b.next e) (shH b h) i=some (shE b.next r.1,shH b r.2):=by
 cases i with
 |o dst op g=>
  simp only[itX,want_sh,Option.bind_eq_some_iff] at H ⊢
  obtain ⟨w,hw,H⟩:=H
  refine ⟨w,hw,?_⟩
  split at H
  ·rename_i h1
   rw[if_pos h1]
   simp only[Option.map_eq_some_iff] at H ⊢
   obtain ⟨q,h2,h3⟩:=H
   subst h3
   exact⟨_,opX_sh L HC hc h2,by rw[putO_sh]⟩
  ·rename_i h1
   rw[if_neg h1]
   cases H
   exact congrArg (fun q=>some (q,shH b h)) (putO_sh (s:=b.next) e dst (.tup []))
 |frz t=>
  simp only[itX,get_sh,Option.map_eq_some_iff] at H ⊢
  obtain ⟨q,h2,h3⟩:=H
  subst h3
  exact⟨_,frz_sh L h2,rfl⟩
 |fzd t=>
  simp only[itX,get_sh,Option.map_eq_some_iff] at H ⊢
  obtain ⟨q,h2,h3⟩:=H
  subst h3
  exact⟨_,fzd_sh L h2,rfl⟩
 |kill t=>
  simp only[itX,get_sh] at H ⊢
  split at H
  ·rename_i hx
   cases H
   rw[hx]
   simp only[sh]
   rw[kill_shH L];rfl
  ·rename_i hx
   cases H
   rw[hx]
   simp only[sh]
   rw[kill_shH L];rfl
  ·rename_i k1 k2
   cases H
   split
   ·rename_i hx
    exfalso
    cases hq:e.get t<;>rw[hq] at hx<;>simp[sh] at hx
    exact k1 _ _ _ _ hq
   ·rename_i hx
    exfalso
    cases hq:e.get t<;>rw[hq] at hx<;>simp[sh] at hx
    exact k2 _ _ _ _ _ hq
   ·rfl
end
theorem itsX_sh {b:Hp} {cf:Cf} (L:Low b) (HC:CfSh b cf):∀ {l:List It} {e:Env} {h:Hp} {r:Env × Hp},l.all clI=true→itsX cf l e h=some r→itsX cf l (shE b.next e) (shH b h)=some (shE b.next r.1,shH b r.2)
 | [],_,_,_,_,H=>by cases H;rfl
 |i::l,e,h,r,hc,H=>by
  simp only[List.all_cons,Bool.and_eq_true] at hc
  simp only[itsX,Option.bind_eq_some_iff] at H ⊢
  obtain ⟨q,h1,h2⟩:=H
  exact⟨_,itX_sh L HC hc.1 h1,itsX_sh L HC hc.2 h2⟩
def OutSh (b:Hp) (o:Out):Out:=(o.1,shE b.next o.2.1,shH b o.2.2)
def BfSh (b:Hp) (f:Bf):Prop:=∀ e h r,f e h=some r→f (shE b.next e) (shH b h)=some (OutSh b r)
theorem loopN_sh {b:Hp} {f:Bf} (hf:BfSh b f):∀ n,BfSh b (loopN f n)
 |0=>fun e h r H=>by cases H
 |n+1=>fun e h r H=>by
  simp only[loopN,Option.bind_eq_some_iff] at H ⊢
  obtain ⟨⟨x,e1,h1⟩,h2,h3⟩:=H
  refine ⟨_,hf _ _ _ h2,?_⟩
  cases x with
  |norm=>exact loopN_sh hf n _ _ _ h3
  |exit i=>cases h3;rfl
  |ret=>cases h3;rfl
theorem rngEnd_sh {b:Hp} (L:Low b) {e:Env} {h:Hp} {n:Nat} {r:Out} (H:rngEnd e h n=some r):rngEnd (shE b.next e) (shH b h) (n+b.next)=some (OutSh b r):=by
 unfold rngEnd at H ⊢
 rw[get_shH L]
 split at H<;>first | (cases H;done) | skip
 all_goals
  rename_i hg
  cases H
  rw[hg]
  simp only[Option.map_some,shO,kill_shH L]
  rfl
theorem joinV_sh {s:Nat} {a b c:V} (h:joinV a b=some c):joinV (sh s a) (sh s b)=some (sh s c):=by
 unfold joinV at h ⊢
 split at h
 ·rename_i hb;cases h
  have:=V.beq_eq hb
  subst this
  rw[if_pos (V.beq_refl _)]
 ·rename_i hb
  split at h
  ·rename_i p q
   cases h
   rw[if_neg (by simpa [sh,shs] using hb)]
   rfl
  ·cases h
theorem joinE_sh {s:Nat}:∀ {e f j:List (Nat × V)},joinE e f=some j→joinE (shE s e) (shE s f)=some (shE s j)
 | [],[],_,h=>by cases h;rfl
 | (u,x)::r,(u',y)::l,j,h=>by
  unfold joinE at h
  split at h
  case isFalse=>cases h
  rename_i hu
  subst hu
  simp only[Option.bind_eq_some_iff,Option.map_eq_some_iff] at h
  obtain ⟨v,h1,k,h2,rfl⟩:=h
  show (if u=u then (joinV (sh s x) (sh s y)).bind fun v=>(joinE (shE s r) (shE s l)).map ((u,v) :: ·) else none)=_
  rw[if_pos rfl,joinV_sh h1]
  simp only[Option.bind_some]
  rw[joinE_sh h2]
  rfl
 | [],_::_,_,h=>by cases h
 |_::_,[],_,h=>by cases h
theorem outJoin_sh {b:Hp} {o q r:Out} (h:outJoin o q=some r):outJoin (OutSh b o) (OutSh b q)=some (OutSh b r):=by
 unfold outJoin at h ⊢
 split at h
 ·rename_i hc
  obtain ⟨h1,h2,h3⟩:=hc
  simp only[Option.map_eq_some_iff] at h
  obtain ⟨e,he,rfl⟩:=h
  have hq:(OutSh b o).2.2=(OutSh b q).2.2:=by
   obtain ⟨x,e1,ob,nx⟩:=o
   obtain ⟨x',e2,ob',nx'⟩:=q
   cases objsBeq_eq h2;cases h3;rfl
  rw[if_pos ⟨h1,by rw[hq];exact objsBeq_refl _,by rw[hq]⟩]
  show (joinE (shE b.next o.2.1) (shE b.next q.2.1)).map _=_
  rw[joinE_sh he]
  rfl
 ·cases h
theorem exec_sh {b:Hp} {cf:Cf} (L:Low b) (HC:CfSh b cf) (k:Nat):∀ c:AC,clC c=true→BfSh b (exec (fun f=>loopN f k) cf c):=by
 intro c
 induction c with
 |skip=>intro _ e h r H;cases H;rfl
 |reg its kp=>
  intro hc e h r H
  simp only[exec,Option.map_eq_some_iff] at H ⊢
  obtain ⟨q,h1,h2⟩:=H
  subst h2
  exact⟨_,itsX_sh L HC hc h1,by rw[keepE_sh];rfl⟩
 |seq x y ihx ihy=>
  intro hc e h r H
  simp only[clC,Bool.and_eq_true] at hc
  simp only[exec,Option.bind_eq_some_iff] at H ⊢
  obtain ⟨⟨o,e1,h1⟩,h2,h3⟩:=H
  refine ⟨_,ihx hc.1 _ _ _ h2,?_⟩
  cases o with
  |norm=>exact ihy hc.2 _ _ _ h3
  |exit i=>cases h3;rfl
  |ret=>cases h3;rfl
 |cond x p q ihp ihq=>
  intro hc e h r H
  simp only[clC,Bool.and_eq_true] at hc
  simp only[exec,Option.bind_eq_some_iff] at H ⊢
  obtain ⟨t,h1,h2⟩:=H
  refine ⟨t,?_,?_⟩
  ·rw[ev_sh hc.1.1]
   unfold condB at h1
   split at h1
   ·rename_i hx;cases h1;rw[hx];rfl
   ·cases h1
  ·split at h2
   ·rename_i ht;rw[if_pos ht];exact ihp hc.1.2 _ _ _ h2
   ·rename_i ht;rw[if_neg ht];exact ihq hc.2 _ _ _ h2
 |blk id x ih=>
  intro hc e h r H
  simp only[exec,Option.map_eq_some_iff] at H ⊢
  obtain ⟨o,h1,h2⟩:=H
  subst h2
  exact⟨_,ih hc _ _ _ h1,rfl⟩
 |loop x ih=>
  intro hc e h r H
  simp only[exec] at H ⊢
  exact loopN_sh (ih hc) k _ _ _ H
 |exit id=>intro _ e h r H;cases H;rfl
 |ret=>intro _ e h r H;cases H;rfl
 |amb z x p q r' ihz ihp ihq ihr=>
  intro hc e h r H
  simp only[clC,Bool.and_eq_true] at hc
  simp only[exec] at H ⊢
  rw[Option.bind_eq_some_iff] at H ⊢
  obtain ⟨⟨y0,e0,h0⟩,hz,H⟩:=H
  refine ⟨_,ihz hc.1.1.1.1 _ _ _ hz,?_⟩
  cases y0 with
  |exit i=>cases H;rfl
  |ret=>cases H;rfl
  |norm=>
  show ambB x (exec (fun f=>loopN f k) cf p) (exec (fun f=>loopN f k) cf q) (exec (fun f=>loopN f k) cf r') (shE b.next e0) (shH b h0)=some (OutSh b r)
  have H:ambB x (exec (fun f=>loopN f k) cf p) (exec (fun f=>loopN f k) cf q) (exec (fun f=>loopN f k) cf r') e0 h0=some r:=H
  have sq:∀ (p:AC),BfSh b (exec (fun f=>loopN f k) cf p)→∀ o,(exec (fun f=>loopN f k) cf p e0 h0).bind (nxt (exec (fun f=>loopN f k) cf r'))=some o→(exec (fun f=>loopN f k) cf p (shE b.next e0) (shH b h0)).bind (nxt (exec (fun f=>loopN f k) cf r'))=some (OutSh b o):=by
   intro p ih o ho
   simp only[Option.bind_eq_some_iff] at ho ⊢
   obtain ⟨⟨y,e1,h1⟩,h2,h3⟩:=ho
   refine ⟨_,ih _ _ _ h2,?_⟩
   cases y with
   |norm=>exact ihr hc.2 _ _ _ h3
   |exit i=>cases h3;rfl
   |ret=>cases h3;rfl
  unfold ambB at H ⊢
  rw[ev_sh hc.1.1.1.2]
  split at H
  ·rename_i hu
   rw[hu]
   simp only[sh]
   rw[Option.bind_eq_some_iff] at H
   obtain ⟨o1,h1,H⟩:=H
   rw[Option.bind_eq_some_iff] at H
   obtain ⟨o2,h2,h3⟩:=H
   rw[sq p (ihp hc.1.1.2) _ h1]
   simp only[Option.bind_some]
   rw[sq q (ihq hc.1.2) _ h2]
   simp only[Option.bind_some]
   exact outJoin_sh h3
  ·rename_i v hv
   have hne:sh b.next (e0.ev x)=.ub→False:=by
    intro hx
    generalize e0.ev x=y at hx hv
    cases y<;>first | exact hv rfl | cases hx
   split
   ·rename_i hx;exact (hne hx).elim
   rw[Option.bind_eq_some_iff] at H
   obtain ⟨t,h1,h2⟩:=H
   have hcb:condB (sh b.next (e0.ev x))=some t:=by
    unfold condB at h1
    split at h1
    ·rename_i hx;cases h1;rw[hx];rfl
    ·cases h1
   rw[hcb]
   simp only[Option.bind_some]
   split at h2
   ·rename_i ht;rw[if_pos ht];exact sq p (ihp hc.1.1.2) _ h2
   ·rename_i ht;rw[if_neg ht];exact sq q (ihq hc.1.2) _ h2
 |rng g n=>
  intro hc e h r H
  simp only[exec] at H ⊢
  split at H
  case isFalse=>cases H
  rename_i hcl
  simp only[Option.bind_eq_some_iff] at H
  obtain ⟨q,h1,h2⟩:=H
  have hclo:isClo ((shE b.next e).ev g)=true:=by
   rw[ev_sh hc]
   generalize e.ev g=v at hcl
   cases v<;>first | rfl | cases hcl
  rw[if_pos hclo,ev_sh hc]
  have hal:(shH b h).alloc (.lp n (shE b.next e) none)=shH b (h.alloc (.lp n e none)):=alloc_shH (.lp n e none)
  rw[hal]
  have hk:=HC _ _ _ _ h1
  have hk':cf (sh b.next (e.ev g)) [.yld (shH b h).next] (shH b (h.alloc (.lp n e none)))=some (sh b.next q.1,shH b q.2):=hk
  rw[hk']
  exact rngEnd_sh L h2
theorem deep_sh {b h:Hp} (L:Low b) (n0:Nat):∀ (k:Nat) (v:V) (x:D),deep h n0 k v=some x→deep (shH b h) (n0+b.next) k (sh b.next v)=some x
 |0,v,x,H=>by cases H
 |k+1,v,x,H=>by
  have hm:∀ (l:List V) (r:List D),l.mapM (deep h n0 k)=some r→(l.map (sh b.next)).mapM (deep (shH b h) (n0+b.next) k)=some r:=by
   intro l
   induction l with
   |nil=>intro r hr;cases hr;rfl
   |cons y l ih=>
    intro r hr
    rw[List.mapM_cons] at hr
    cases hy:deep h n0 k y with
    |none=>rw[hy] at hr;cases hr
    |some d=>
     rw[hy] at hr
     cases hl:l.mapM (deep h n0 k) with
     |none=>rw[hl] at hr;cases hr
     |some ds=>
      rw[hl] at hr
      cases hr
      rw[List.map_cons,List.mapM_cons,deep_sh L n0 k y d hy,ih ds hl];rfl
  cases v with
  |d y=>exact H
  |tl l nl=>
   simp only[deep,sh,shs_map,Option.map_eq_some_iff] at H ⊢
   obtain ⟨r,h1,h2⟩:=H
   exact⟨r,hm l r h1,h2⟩
  |agg l=>
   simp only[deep,sh,shs_map,Option.map_eq_some_iff] at H ⊢
   obtain ⟨r,h1,h2⟩:=H
   exact⟨r,hm l r h1,h2⟩
  |own n es tot off len=>
   simp only[deep,sh] at H ⊢
   split at H
   ·rename_i hn
    rw[if_pos (by omega)]
    simp only[row_shH L,Option.bind_eq_some_iff,Option.map_eq_some_iff] at H ⊢
    obtain ⟨⟨es',els⟩,h1,h2⟩:=H
    refine ⟨_,⟨_,h1,rfl⟩,?_⟩
    simp only[List.length_map] at h2 ⊢
    split at h2
    ·rename_i hc
     rw[if_pos hc,←List.map_drop,←List.map_take]
     simp only[Option.map_eq_some_iff] at h2 ⊢
     obtain ⟨r,h3,h4⟩:=h2
     exact⟨r,hm _ r h3,h4⟩
    ·cases h2
   ·cases H
  |_=>cases H
theorem old_sh {s n0:Nat} {v:V} (H:old n0 v=true):old (n0+s) (sh s v)=true:=by
 cases v<;>simp only[old,Bool.false_eq_true] at H<;>simp only[old,sh,decide_eq_true_eq] at H ⊢ <;> omega
theorem back1_sh {b h:Hp} (L:Low b) {n0:Nat} {v r:V} (H:back1 h n0 v=some r):back1 (shH b h) (n0+b.next) (sh b.next v)=some (sh b.next r):=by
 unfold back1 at H ⊢
 split at H
 ·rename_i x hx
  cases H
  rw[deep_sh L n0 8 v x hx];rfl
 ·split at H
  ·rename_i ho
   cases H
   have hn:deep (shH b h) (n0+b.next) 8 (sh b.next v)=none:=by
    cases v with
    |own n es tot off len=>
     have ho':decide (n<n0)=true:=ho
     simp only[decide_eq_true_eq] at ho'
     simp only[sh,deep]
     rw[if_neg (by omega)]
    |ptr n tot i off=>rfl
    |map n=>rfl
    |yld n=>rfl
    |_=>cases ho
   rw[hn]
   simp only
   rw[if_pos (old_sh ho)]
  ·cases H
theorem sufOk_sh {b h0 h:Hp} (H:sufOk h0.objs h.objs=true):sufOk (shH b h0).objs (shH b h).objs=true:=by
 unfold sufOk at H ⊢
 have h1:=objsBeq_eq H
 have hle:h0.objs.length≤h.objs.length:=by
  have:=congrArg List.length h1
  rw[List.length_drop] at this
  omega
 have:h.objs=h.objs.take (h.objs.length - h0.objs.length)++h0.objs:=by
  conv=>lhs;rw[←List.take_append_drop (h.objs.length - h0.objs.length) h.objs]
  rw[←h1]
 have h2:(shH b h).objs=(h.objs.take (h.objs.length - h0.objs.length)).map (shK b.next)++(shH b h0).objs:=by
  show h.objs.map (shK b.next)++b.objs=_++(h0.objs.map (shK b.next)++b.objs)
  rw[←List.append_assoc,←List.map_append,←this]
 rw[h2,List.length_append,Nat.add_sub_cancel,List.drop_left]
 exact objsBeq_refl _
theorem finish_sh {b h0 h:Hp} (L:Low b) {fn:AF} {e:Env} {r:V × Hp} (H:finish fn h0 e h=some r):finish fn (shH b h0) (shE b.next e) (shH b h)=some (sh b.next r.1,shH b r.2):=by
 have hres:∀ (l:List (Nat × Option (Bool × Nat))) (vs:List V),resL e h l=some vs→resL (shE b.next e) (shH b h) l=some (vs.map (sh b.next)):=by
  intro l
  induction l with
  |nil=>intro vs hv;cases hv;rfl
  |cons p l ih=>
   intro vs hv
   obtain ⟨t,o⟩:=p
   cases o with
   |none=>
    simp only[resL,Option.map_eq_some_iff] at hv ⊢
    obtain ⟨ws,h1,rfl⟩:=hv
    exact⟨_,ih ws h1,by rw[List.map_cons,get_sh]⟩
   |some q=>
    obtain ⟨ag,sz⟩:=q
    simp only[resL,Option.bind_eq_some_iff,Option.map_eq_some_iff] at hv ⊢
    obtain ⟨v,h1,ws,h2,rfl⟩:=hv
    exact⟨sh b.next v,by rw[get_sh];exact ld_sh L h1,_,ih ws h2,rfl⟩
 have hrv:∀ l:List V,resV (l.map (sh b.next))=sh b.next (resV l):=by
  intro l
  match l with
  | []=>rfl
  | [x]=>rfl
  |x::y::l=>simp[resV,sh,shs_map]
 unfold finish at H ⊢
 simp only[Option.bind_eq_some_iff] at H
 obtain ⟨vs0,hv0,H⟩:=H
 rw[hres _ _ hv0]
 simp only[Option.bind_some]
 split at H
 ·rename_i hs
  rw[if_pos hs]
  split at H
  ·rename_i h1
   rw[if_pos (sufOk_sh h1)]
   simp only[Option.map_eq_some_iff] at H ⊢
   obtain ⟨l,h2,h3⟩:=H
   subst h3
   have hm:∀ (l r:List V),l.mapM (back1 h h0.next)=some r→(l.map (sh b.next)).mapM (back1 (shH b h) (shH b h0).next)=some (r.map (sh b.next)):=by
    intro l
    induction l with
    |nil=>intro r hr;cases hr;rfl
    |cons y l ih=>
     intro r hr
     rw[List.mapM_cons] at hr
     cases hy:back1 h h0.next y with
     |none=>rw[hy] at hr;cases hr
     |some d=>
      rw[hy] at hr
      cases hl:l.mapM (back1 h h0.next) with
      |none=>rw[hl] at hr;cases hr
      |some ds=>
       rw[hl] at hr
       cases hr
       rw[List.map_cons,List.mapM_cons,show (shH b h0).next=h0.next+b.next from rfl,back1_sh L hy]
       have:=ih ds hl
       rw[show (shH b h0).next=h0.next+b.next from rfl] at this
       rw[this];rfl
   exact⟨_,hm _ _ h2,by rw[hrv]⟩
  ·cases H
 ·rename_i hs
  rw[if_neg hs,hrv]
  cases H
  rfl
theorem deep_low {h:Hp} {n0 n1:Nat} (hn:n1≤n0):∀ (k:Nat) (v:V) (x:D),deep h n0 k v=some x→deep h n1 k v=some x
 |0,v,x,H=>by cases H
 |k+1,v,x,H=>by
  have hm:∀ (l:List V) (r:List D),l.mapM (deep h n0 k)=some r→l.mapM (deep h n1 k)=some r:=by
   intro l
   induction l with
   |nil=>intro r hr;exact hr
   |cons y l ih=>
    intro r hr
    rw[List.mapM_cons] at hr ⊢
    cases hy:deep h n0 k y with
    |none=>rw[hy] at hr;cases hr
    |some d=>
     rw[hy] at hr
     cases hl:l.mapM (deep h n0 k) with
     |none=>rw[hl] at hr;cases hr
     |some ds=>rw[hl] at hr;rw[deep_low hn k y d hy,ih ds hl];exact hr
  cases v with
  |d z=>exact H
  |tl l nl=>
   simp only[deep,Option.map_eq_some_iff] at H ⊢
   obtain ⟨r,h1,h2⟩:=H
   exact⟨r,hm _ _ h1,h2⟩
  |agg l=>
   simp only[deep,Option.map_eq_some_iff] at H ⊢
   obtain ⟨r,h1,h2⟩:=H
   exact⟨r,hm _ _ h1,h2⟩
  |own n es tot off len=>
   simp only[deep] at H ⊢
   split at H
   case isFalse=>cases H
   rename_i h0
   rw[if_pos (Nat.le_trans hn h0)]
   simp only[Option.bind_eq_some_iff] at H ⊢
   obtain ⟨r,h1,h2⟩:=H
   refine ⟨r,h1,?_⟩
   split at h2
   case isFalse=>cases h2
   rename_i h3
   rw[if_pos h3]
   simp only[Option.map_eq_some_iff] at h2 ⊢
   obtain ⟨s,h4,h5⟩:=h2
   exact⟨s,hm _ _ h4,h5⟩
  |_=>cases H
theorem primC_sh {b h:Hp} (L:Low b) {k:Nat} {vs:List V} {r:V × Hp} (H:primC k vs h=some r):primC k (vs.map (sh b.next)) (shH b h)=some (sh b.next r.1,shH b r.2):=by
 unfold primC at H ⊢
 simp only[Option.bind_eq_some_iff,Option.map_eq_some_iff] at H ⊢
 obtain ⟨ds,h1,y,h2,rfl⟩:=H
 refine ⟨ds,?_,y,h2,rfl⟩
 clear h2
 induction vs generalizing ds with
 |nil=>cases h1;rfl
 |cons v vs ih=>
  rw[List.mapM_cons] at h1
  cases hv:deep h 0 8 v with
  |none=>rw[hv] at h1;cases h1
  |some d=>
   rw[hv] at h1
   cases hl:vs.mapM (deep h 0 8) with
   |none=>rw[hl] at h1;cases h1
   |some ds'=>
    rw[hl] at h1
    cases h1
    rw[List.map_cons,List.mapM_cons,deep_low (Nat.zero_le _) 8 _ _ (deep_sh L 0 8 v d hv),ih ds' hl]
    rfl
def TabCl (T:Tab):Prop:=∀ f fn,T f=some fn→clC fn.body=true
theorem binds_sh {s:Nat}:∀ (ps:List Nat) (vs:List V) (e:Env),binds ps (vs.map (sh s)) (shE s e)=shE s (binds ps vs e)
 | [],vs,e=>by cases vs<;>rfl
 |p::ps,[],e=>rfl
 |p::ps,v::vs,e=>by
  simp only[List.map_cons,binds]
  exact binds_sh ps vs ((p,v)::e)
theorem rndEnd_sh {b:Hp} (L:Low b) {n:Nat} {o:Out} {r:V × Hp} (H:rndEnd n o=some r):rndEnd (n+b.next) (OutSh b o)=some (sh b.next r.1,shH b r.2):=by
 unfold rndEnd at H ⊢
 split at H
 case h_2=>cases H
 rename_i b1 e1 hg
 cases H
 have hg':(OutSh b o).2.2.get (n+b.next)=some (.lp b1 (e1.map fun p=>(p.1,sh b.next p.2)) (some .norm)):=by
  show (shH b o.2.2).get (n+b.next)=_
  rw[get_shH L,hg];rfl
 rw[hg']
 simp only
 have:=set_shH (b:=b) (o:=.lp b1 e1 (if o.1=.norm then none else some o.1)) hg
 simp only[shO] at this
 show some (bool (decide (o.1=.norm)),(shH b o.2.2).set (n+b.next) (.lp b1 (e1.map fun p=>(p.1,sh b.next p.2)) (if o.1=.norm then none else some o.1)))=_
 rw[this]
 rfl
theorem rnd_sh {T:Tab} (HT:TabCl T) {b:Hp} {cf:Cf} (L:Low b) (HC:CfSh b cf) (k:Nat) {n:Nat} {vs:List V} {h:Hp} {r:V × Hp} (H:rnd T (fun f=>loopN f k) cf n vs h=some r):rnd T (fun f=>loopN f k) cf (n+b.next) (vs.map (sh b.next)) (shH b h)=some (sh b.next r.1,shH b r.2):=by
 unfold rnd at H ⊢
 rw[get_shH L]
 split at H
 case h_2=>cases H
 rename_i q e hg
 rw[hg]
 simp only[Option.map_some,shO]
 cases hT:T (RB+q) with
 |none=>rw[hT] at H;cases H
 |some fn=>
  rw[hT] at H
  simp only[Option.bind_some] at H ⊢
  split at H
  case h_2=>cases H
  rename_i asg bdy hb
  have hcl:=HT _ _ hT
  rw[hb] at hcl
  simp only[clC,Bool.and_eq_true] at hcl
  simp only[List.length_map]
  split at H
  case isFalse=>cases H
  rename_i hn
  rw[if_pos hn]
  simp only[Option.bind_eq_some_iff] at H ⊢
  obtain ⟨o,h1,h2⟩:=H
  refine ⟨OutSh b o,?_,?_⟩
  ·have:=exec_sh L HC k asg hcl.1 _ _ _ h1
   rw[←binds_sh] at this
   exact this
  ·obtain ⟨x,e1,h3⟩:=o
   simp only[OutSh] at h2 ⊢
   cases x with
   |exit i=>cases h2
   |ret=>cases h2
   |norm=>
    rw[get_shH L]
    split at h2
    case h_2=>cases h2
    rename_i b' e' _ hg2
    rw[hg2]
    simp only[Option.map_some,shO]
    simp only[Option.bind_eq_some_iff] at h2 ⊢
    obtain ⟨o2,h4,h5⟩:=h2
    refine ⟨OutSh b o2,?_,rndEnd_sh L h5⟩
    have:=exec_sh L HC k bdy hcl.2 _ _ _ h4
    have hs:=set_shH (b:=b) (o:=.lp b' e' (some .norm)) hg2
    simp only[shO] at hs
    rw[hs]
    exact this
theorem callK_sh {T:Tab} (HT:TabCl T) {b:Hp} (L:Low b):∀ (k f:Nat) (vs:List V) (h:Hp) (r:V × Hp),callK T k f vs h=some r→callK T k f (vs.map (sh b.next)) (shH b h)=some (sh b.next r.1,shH b r.2)
 |0,_,_,_,_,H=>by cases H
 |k+1,f,vs,h,r,H=>by
  have HC:CfSh b (callee (callK T k)):=by
   intro v vs h r H
   cases v with
   |clo g caps=>
    simp only[callee,sh,shs_map] at H ⊢
    split at H
    ·cases H
    rename_i hg
    rw[if_neg hg,←List.map_append]
    exact callK_sh HT L k g (vs++caps) h r H
   |yld n=>
    have:=callK_sh HT L k YF (.yld n::vs) h r H
    exact this
   |_=>cases H
  unfold callK body at H ⊢
  split at H
  ·rename_i hy
   rw[if_pos hy]
   split at H
   case h_2=>cases H
   exact rnd_sh HT L HC k H
  rename_i hy
  rw[if_neg hy]
  split at H
  case isFalse=>cases H
  rename_i hrb
  rw[if_pos hrb]
  simp only[Option.bind_eq_some_iff] at H ⊢
  obtain ⟨fn,hT,H⟩:=H
  refine ⟨fn,hT,?_⟩
  rw[List.length_map]
  split at H
  ·rename_i hn
   rw[if_pos hn]
   cases hp:isPr fn.body with
   |some q=>rw[hp] at H;exact primC_sh L H
   |none=>
   rw[hp] at H
   simp only[Option.bind_eq_some_iff] at H ⊢
   obtain ⟨o,h1,h2⟩:=H
   rw[args_sh]
   refine ⟨_,exec_sh L HC k fn.body (HT f fn hT) _ _ _ h1,?_⟩
   obtain ⟨x,e1,h3⟩:=o
   cases x with
   |exit i=>cases h2
   |norm=>exact finish_sh L h2
   |ret=>exact finish_sh L h2
  ·cases H
theorem callW_sh {T:Tab} (HT:TabCl T) {b:Hp} (L:Low b) {f:Nat} {vs:List V} {h:Hp} {r:V × Hp} (H:callW T f vs h=some r):callW T f (vs.map (sh b.next)) (shH b h)=some (sh b.next r.1,shH b r.2):=by
 obtain ⟨k,hk⟩:=callW_some.1 H
 exact callW_some.2 ⟨k,callK_sh HT L k f vs h r hk⟩
theorem callW_any {T:Tab} (HT:TabCl T) {f:Nat} {xs:List D} {y:D} (H:callW T f (xs.map .d) ⟨[],0⟩=some (.d y,⟨[],0⟩)) {b:Hp} (L:Low b):callW T f (xs.map .d) b=some (.d y,b):=by
 have:=callW_sh HT L H
 rw[map_d_sh] at this
 have hb:shH b ⟨[],0⟩=b:=by cases b;simp[shH]
 rw[hb] at this
 exact this
end Zv
end
section
namespace Zs
open Go Zv
theorem ex_reg (T:Tab) (its:List It) (kp:Option (List Nat)) (e:Env) (h:Hp):ex T (.reg its kp) e h=(itsX (cW T) its e h).map fun r=>(.norm,keepE kp r.1,r.2):=rfl
theorem ex_seq (T:Tab) (a b:AC) (e:Env) (h:Hp):ex T (.seq a b) e h=(ex T a e h).bind (nxt (ex T b)):=rfl
theorem ex_cond (T:Tab) (c:Opd) (a b:AC) (e:Env) (h:Hp):ex T (.cond c a b) e h=(condB (e.ev c)).bind fun t=>if t=true then ex T a e h else ex T b e h:=rfl
theorem ex_blk (T:Tab) (id:Nat) (a:AC) (e:Env) (h:Hp):ex T (.blk id a) e h=(ex T a e h).map fun o=>(if o.1=.exit id then .norm else o.1,o.2):=rfl
theorem ex_loop (T:Tab) (a:AC) (e:Env) (h:Hp):ex T (.loop a) e h=(ex T a e h).bind (nxt (ex T (.loop a))):=loopW_eq _ e h
def done (fn:AF) (h:Hp) (o:Out):Option (V × Hp):=match o.1 with
 | .exit _=>none
 |_=>finish fn h o.2.1 o.2.2
theorem callW_fn {T:Tab} {f:Nat} {fn:AF} (hT:T f=some fn) {vs:List V} (hn:vs.length=fn.np) (h:Hp) (hp:isPr fn.body=none) (hf:f<RB:=by decide):callW T f vs h=(ex T fn.body (args 0 vs) h).bind (done fn h):=by
 rw[callW_eq]
 unfold body
 rw[if_neg (by unfold YF;unfold RB at hf;omega),if_pos hf,hT]
 simp only[Option.bind_some]
 rw[if_pos hn,hp]
 rfl
theorem cW_clo (T:Tab) (f:Nat) (caps vs:List V) (h:Hp):cW T (.clo f caps) vs h=if (f == 1000000000)=true then none else callW T f (vs++caps) h:=by
 show (if f=YF then none else callW T f (vs++caps) h)=_
 unfold YF
 by_cases hf:f=1000000000
 ·rw[if_pos hf,if_pos (by simpa using hf)]
 ·rw[if_neg hf,if_neg (by simpa using hf)]
theorem ex_rng {T:Tab} {g:Opd} {b:Nat} {e:Env} {h:Hp} {f:Nat} {caps:List V} {v:V} {h2:Hp} {o:Out} (hg:e.ev g=.clo f caps) (H:callW T f (.yld h.next::caps) (h.alloc (.lp b e none))=some (v,h2)) (hend:rngEnd e h2 h.next=some o) (hf:f<RB:=by decide):ex T (.rng g b) e h=some o:=by
 unfold ex exec
 rw[hg,show isClo (V.clo f caps)=true from rfl,if_pos rfl]
 show (Option.bind (if f=YF then none else callW T f ([.yld h.next]++caps) (h.alloc (.lp b e none))) fun r=>rngEnd e r.2 h.next)=some o
 rw[if_neg (by unfold YF;unfold RB at hf;omega)]
 show (Option.bind (callW T f (.yld h.next::caps) (h.alloc (.lp b e none))) fun r=>rngEnd e r.2 h.next)=some o
 rw[H]
 exact hend
theorem cW_yld {T:Tab} {n b:Nat} {e:Env} {vs:List V} {h:Hp} {fn:AF} {asg bdy:AC} {e1:Env} {h1:Hp} {b':Nat} {e':List (Nat × V)} {o:Out} (hg:h.get n=some (.lp b e none)) (hT:T (RB+b)=some fn) (hb:fn.body=.seq asg bdy) (hn:vs.length=fn.np)
  (h1':ex T asg (binds (fn.res.map (·.1)) vs e) h=some (.norm,e1,h1)) (hg1:h1.get n=some (.lp b' e' none)) (h2:ex T bdy e1 (h1.set n (.lp b' e' (some .norm)))=some o):cW T (.yld n) vs h=rndEnd n o:=by
 show callW T YF (.yld n::vs) h=_
 rw[callW_eq]
 unfold body
 rw[if_pos rfl]
 simp only
 unfold rnd
 rw[hg]
 simp only
 rw[hT]
 simp only[Option.bind_some]
 rw[hb]
 simp only
 rw[if_pos hn]
 show (Option.bind (ex T asg (binds (fn.res.map (·.1)) vs e) h) _)=_
 rw[h1']
 simp only[Option.bind_some]
 rw[hg1]
 simp only
 show (Option.bind (ex T bdy e1 (h1.set n (.lp b' e' (some .norm)))) _)=_
 rw[h2]
 rfl
theorem its_nil (cf:Cf) (e:Env) (h:Hp):itsX cf [] e h=some (e,h):=rfl
theorem its_cons (cf:Cf) (i:It) (r:List It) (e:Env) (h:Hp):itsX cf (i::r) e h=(itX cf e h i).bind fun s=>itsX cf r s.1 s.2:=rfl
theorem it_o (cf:Cf) (e:Env) (h:Hp) (dst:Option Nat) (op:AOp):itX cf e h (.o dst op none)=(opX cf e h op).map fun r=>(e.putO dst r.1,r.2):=rfl
theorem it_g (cf:Cf) (e:Env) (h:Hp) (dst:Option Nat) (op:AOp) (p:Nat × Bool):itX cf e h (.o dst op (some p))=(want e (some p)).bind fun w=>
   if w=true then (opX cf e h op).map fun r=>(e.putO dst r.1,r.2) else some (e.putO dst (.tup []),h):=rfl
theorem get_nil (n:Nat):Env.get [] n=.undef:=rfl
theorem get_cons (t:Nat) (v:V) (r:Env) (n:Nat):Env.get ((t,v)::r) n=if n=t then v else Env.get r n:=rfl
theorem ev_t (e:Env) (n:Nat):e.ev (.t n)=e.get n:=rfl
theorem ev_c (e:Env) (v:V):e.ev (.c v)=v:=rfl
theorem keep_nil (e:Env):Env.keep e []=[]:=rfl
theorem keep_cons (e:Env) (t:Nat) (l:List Nat):Env.keep e (t::l)=(t,e.get t)::Env.keep e l:=rfl
theorem args_nil (i:Nat):args i []=[]:=rfl
theorem args_cons (i:Nat) (v:V) (r:List V):args i (v::r)=(i,v)::args (i+1) r:=rfl
theorem nxt_n (k:Bf) (e:Env) (h:Hp):nxt k (.norm,e,h)=k e h:=rfl
theorem pv_some (h:Hp) (v:V):pureV h (some v)=some (v,h):=rfl
theorem condB_b (b:Bool):condB (.d (.bool b))=some b:=rfl
theorem bin_i (op:BinOp) (k:IntKind) (a b:Int):bin op (.d (.int k a)) (.d (.int k b))=intBin op k a b:=if_pos rfl
theorem suf_refl (l:List (Nat × Ob)):sufOk l l=true:=by
 unfold sufOk;rw[Nat.sub_self];exact objsBeq_refl l
theorem suf_app (n l:List (Nat × Ob)):sufOk l (n++l)=true:=by
 unfold sufOk
 rw[List.length_append,Nat.add_sub_cancel,List.drop_left];exact objsBeq_refl l
theorem suf_one (x:Nat × Ob) (l:List (Nat × Ob)):sufOk l (x::l)=true:=suf_app [x] l
theorem suf_two (x y:Nat × Ob) (l:List (Nat × Ob)):sufOk l (x::y::l)=true:=suf_app [x,y] l
theorem back_d (h:Hp) (n:Nat) (x:D):back1 h n (.d x)=some (.d x):=rfl
theorem quiet_refl (h:Hp) (v:V):quiet h (v,h)=some (v,h):=by
 unfold quiet;rw[if_pos ⟨objsBeq_refl _,rfl⟩]
theorem toDs_map:∀ l:List D,toDs (l.map V.d)=some l
 | []=>rfl
 |x::l=>by simp[toDs,toD,toDs_map l]
theorem norm_d (x:D):norm (.d x)=.d x:=rfl
theorem deep_ds (h:Hp) (n0 k:Nat):∀ l:List D,(l.map V.d).mapM (deep h n0 (k+1))=some l
 | []=>rfl
 |x::l=>by
  rw[List.map_cons,List.mapM_cons,deep_ds h n0 k l]
  rfl
theorem ixOf_nat (k:IntKind) (n:Nat):ixOf (.d (.int k (n:Int)))=some n:=by simp[ixOf]
theorem ia_at {es:Nat} {l:List D} {n:Nat} {x:D} (k:IntKind) (h:l[n]? = some x) (hc:x.cells.length=es):ia es (.d (.lst l)) (.d (.int k (n:Int)))=some (.fp x 0):=by
 simp[ia,ixOf_nat,h,hc]
theorem fa_fp (off:Nat) (x:D) (o:Nat):fa off (.fp x o)=some (.fp x (o+off)):=rfl
theorem ld_fp (ag:Bool) (sz:Nat) (h:Hp) (x:D) (o:Nat):ld ag sz h (.fp x o)=(partD ag o sz x.cells).map .d:=rfl
theorem ldf_fp (ag:Bool) (sz:Nat) (h:Hp) (x:D) (o:Nat):ldf ag sz h (.fp x o)=(partD ag o sz x.cells).map .d:=rfl
theorem cells_agg (l:List D):(D.agg l).cells=l:=rfl
theorem partD_one (o sz:Nat) (l:List D):partD false o sz l=l[o]? := rfl
theorem lenL_lst (l:List D):lenL (.d (.lst l))=some (.d (.int .i64 l.length)):=rfl
theorem wrap_ok {n:Int} (h1 : -(2 ^ 63)≤n) (h2:n<2 ^ 63):IntKind.i64.wrap n=n:=by
 simp[IntKind.wrap,IntKind.signed,IntKind.bits,IntKind.min,IntKind.max]
 omega
theorem wrap_succ {n:Nat} (h:n<2 ^ 62):IntKind.i64.wrap ((n:Int)+1)=((n+1:Nat):Int):=by
 rw[wrap_ok (by omega) (by omega)];rfl
theorem stor_d (x:D):stor (.d x)=true:=rfl
theorem stor_own (n es tot off len:Nat):stor (.own n es tot off len)=true:=rfl
theorem stor_ptr (n tot i off:Nat):stor (.ptr n tot i off)=true:=rfl
theorem stor_tl (l:List V) (nl:Option Bool):stor (.tl l nl)=true:=rfl
theorem stor_agg (l:List V):stor (.agg l)=true:=rfl
theorem stor_clo (f:Nat) (l:List V):stor (.clo f l)=true:=rfl
theorem stor_map (n:Nat):stor (.map n)=true:=rfl
theorem vcells_d (x:D):V.cells (.d x)=x.cells.map .d:=rfl
theorem vcells_agg (l:List V):V.cells (.agg l)=l:=rfl
theorem vcells_own (n es tot off len:Nat):V.cells (.own n es tot off len)=[.own n es tot off len]:=rfl
theorem vcells_ptr (n tot i off:Nat):V.cells (.ptr n tot i off)=[.ptr n tot i off]:=rfl
theorem vcells_tl (l:List V) (nl:Option Bool):V.cells (.tl l nl)=[.tl l nl]:=rfl
theorem vcells_clo (f:Nat) (l:List V):V.cells (.clo f l)=[.clo f l]:=rfl
theorem vcells_map (n:Nat):V.cells (.map n)=[.map n]:=rfl
theorem cells_int (k:IntKind) (n:Int):(D.int k n).cells=[.int k n]:=rfl
theorem cells_bool (b:Bool):(D.bool b).cells=[.bool b]:=rfl
theorem cells_str (s:ByteArray):(D.str s).cells=[.str s]:=rfl
theorem cells_lst (l:List D):(D.lst l).cells=[.lst l]:=rfl
theorem mkAgg1 (a:D):mkAgg [.d a]=.d (.agg [a]):=rfl
theorem mkAgg2 (a b:D):mkAgg [.d a,.d b]=.d (.agg [a,b]):=rfl
theorem mkAgg3 (a b c:D):mkAgg [.d a,.d b,.d c]=.d (.agg [a,b,c]):=rfl
theorem mkAgg4 (a b c d:D):mkAgg [.d a,.d b,.d c,.d d]=.d (.agg [a,b,c,d]):=rfl
theorem lay_nil (cs:List V):lay cs []=some cs:=rfl
theorem lay_cons (cs:List V) (off sz:Nat) (v:V) (r:List (Nat × Nat × V)):lay cs ((off,sz,v)::r)=if stor v=true∧v.cells.length=sz∧off+sz≤cs.length then lay (cs.take off++v.cells++cs.drop (off+sz)) r else none:=rfl
theorem row_cons (m es:Nat) (els:List V) (r:List (Nat × Ob)) (nx n tot:Nat):Hp.row ⟨(m,.arr es els)::r,nx⟩ n tot=if n=m then (if els.length=tot then some (es,els) else none) else Hp.row ⟨r,nx⟩ n tot:=by
 unfold Hp.row Hp.get
 show (match (if n=m then some (Ob.arr es els) else look r n) with
  |some (.arr es els)=>if els.length=tot then some (es,els) else none
  |_=>none)=_
 by_cases h:n=m
 ·rw[if_pos h,if_pos h]
 ·rw[if_neg h,if_neg h];rfl
theorem set_cons (m:Nat) (o:Ob) (r:List (Nat × Ob)) (nx n:Nat) (x:Ob):Hp.set ⟨(m,o)::r,nx⟩ n x=if n=m then ⟨(m,x)::r,nx⟩ else ⟨(m,o)::(Hp.set ⟨r,nx⟩ n x).objs,nx⟩:=by
 unfold Hp.set
 by_cases h:n=m
 ·simp[upd,h]
 ·simp[upd,h]
theorem alloc_mk (l:List (Nat × Ob)) (nx:Nat) (o:Ob):Hp.alloc ⟨l,nx⟩ o=⟨(nx,o)::l,nx+1⟩:=rfl
theorem nilck_ptr (n tot i off:Nat):nilck (.ptr n tot i off)=some (.ptr n tot i off):=rfl
theorem nilck_fp (x:D) (off:Nat):nilck (.fp x off)=some (.fp x off):=rfl
theorem fa_ptr (off n tot i o:Nat):fa off (.ptr n tot i o)=some (.ptr n tot i (o+off)):=rfl
theorem partV_one (o sz:Nat) (l:List V):partV false o sz l=l[o]? := rfl
theorem lenL_own (n es tot off len:Nat):lenL (.own n es tot off len)=some (.d (.int .i64 len)):=rfl
theorem lenL_tl (l:List V) (nl:Option Bool):lenL (.tl l nl)=some (.d (.int .i64 l.length)):=rfl
theorem low_cons {l:List (Nat × Ob)} {m nx:Nat} {o:Ob} (L:Low ⟨l,nx⟩) (hm:m<nx):Low ⟨(m,o)::l,nx⟩:=by
 intro q hq
 have hq':nx≤q:=hq
 show (if q=m then some o else look l q)=none
 rw[if_neg (by omega)]
 exact L q hq
theorem mkAgg5 (a b c d e:D):mkAgg [.d a,.d b,.d c,.d d,.d e]=.d (.agg [a,b,c,d,e]):=rfl
theorem mkAgg6 (a b c d e f:D):mkAgg [.d a,.d b,.d c,.d d,.d e,.d f]=.d (.agg [a,b,c,d,e,f]):=rfl
theorem nilBin_ptr (op:BinOp) (n tot i off:Nat):nilBin .p op (.ptr n tot i off)=match op with
  | .eql=>some (.d (.bool false))
  | .neq=>some (.d (.bool true))
  |_=>none:=by cases op<;>rfl
theorem nilBin_nil (op:BinOp):nilBin .p op (.d .nilp)=match op with
  | .eql=>some (.d (.bool true))
  | .neq=>some (.d (.bool false))
  |_=>none:=by cases op<;>rfl
theorem ext_tup (i:Nat) (l:List V):ext i (.tup l)=l[i]? := rfl
theorem pick_b (c:Bool) (a b:V):pick (.d (.bool c)) a b=some (if c=true then a else b):=rfl
theorem resV_two (a b:V):resV [a,b]=.tup [a,b]:=rfl
theorem resV_one (a:V):resV [a]=a:=rfl
theorem resV_three (a b c:V):resV [a,b,c]=.tup [a,b,c]:=rfl
theorem mkAgg_own (n es tot off len:Nat) (r:List V):mkAgg (.own n es tot off len::r)=.agg (.own n es tot off len::r):=rfl
theorem mkAgg_ptr (n tot i off:Nat) (r:List V):mkAgg (.ptr n tot i off::r)=.agg (.ptr n tot i off::r):=rfl
theorem mkAgg_tl (l:List V) (nl:Option Bool) (r:List V):mkAgg (.tl l nl::r)=.agg (.tl l nl::r):=rfl
theorem mkAgg_map (n:Nat) (r:List V):mkAgg (.map n::r)=.agg (.map n::r):=rfl
theorem mkAgg_clo (f:Nat) (l:List V) (r:List V):mkAgg (.clo f l::r)=.agg (.clo f l::r):=rfl
theorem mkAgg_d_own (a:D) (n es tot off len:Nat) (r:List V):mkAgg (.d a::.own n es tot off len::r)=.agg (.d a::.own n es tot off len::r):=rfl
theorem mkAgg_dd_own (a b:D) (n es tot off len:Nat) (r:List V):mkAgg (.d a::.d b::.own n es tot off len::r)=.agg (.d a::.d b::.own n es tot off len::r):=rfl
theorem mkAgg_d_tl (a:D) (l:List V) (nl:Option Bool) (r:List V):mkAgg (.d a::.tl l nl::r)=.agg (.d a::.tl l nl::r):=rfl
theorem mkAgg_dd_tl (a b:D) (l:List V) (nl:Option Bool) (r:List V):mkAgg (.d a::.d b::.tl l nl::r)=.agg (.d a::.d b::.tl l nl::r):=rfl
theorem norm_ptr (n tot i off:Nat):norm (.ptr n tot i off)=.ptr n tot i off:=rfl
theorem norm_own (n es tot off len:Nat):norm (.own n es tot off len)=.own n es tot off len:=rfl
theorem norm_map (n:Nat):norm (.map n)=.map n:=rfl
def wantV (v:V) (b:Bool):Option Bool:=match v with
 | .d (.bool c)=>some (c == b)
 | .tup []=>some false
 |_=>none
theorem want_some (e:Env) (p:Nat × Bool):want e (some p)=wantV (e.get p.1) p.2:=rfl
theorem wantV_t (b:Bool):wantV (.tup []) b=some false:=rfl
theorem loop_from (T:Tab) (a:AC) (f:Nat→Env) (g:Nat→Hp) (N:Nat) (o:Out) (h:∀ n,n<N→ex T a (f n) (g n)=some (.norm,f (n+1),g (n+1))) (hN:ex T a (f N) (g N)=some o) (ho:o.1≠.norm) :
  ∀ k i,i+k=N→ex T (.loop a) (f i) (g i)=some o:=by
 intro k
 induction k with
 |zero=>
  intro i hi
  have:i=N:=by omega
  subst this
  rw[ex_loop,hN,Option.bind_some]
  obtain ⟨x,e,h'⟩:=o
  cases x with
  |norm=>exact absurd rfl ho
  |exit i=>rfl
  |ret=>rfl
 |succ k ih=>
  intro i hi
  rw[ex_loop,h i (by omega),Option.bind_some,nxt_n]
  exact ih (i+1) (by omega)
theorem it_frz (cf:Cf) (e:Env) (h:Hp) (t:Nat):itX cf e h (.frz t)=(Zv.frz h (e.get t)).map fun r=>((t,r.1)::e,r.2):=rfl
theorem it_fzd (cf:Cf) (e:Env) (h:Hp) (t:Nat):itX cf e h (.fzd t)=(Zv.fzd h (e.get t)).map fun r=>((t,r.1)::e,r.2):=rfl
def killX (t:Nat) (e:Env) (h:Hp) (v:V):Option (Env × Hp):=match v with
 | .ptr n _ _ _=>some ((t,.undef)::e,h.kill n)
 | .own n _ _ _ _=>some ((t,.undef)::e,h.kill n)
 |_=>some ((t,.undef)::e,h)
theorem it_kill (cf:Cf) (e:Env) (h:Hp) (t:Nat):itX cf e h (.kill t)=killX t e h (e.get t):=rfl
theorem killX_ptr (t:Nat) (e:Env) (h:Hp) (n tot i off:Nat):killX t e h (.ptr n tot i off)=some ((t,.undef)::e,h.kill n):=rfl
theorem killX_own (t:Nat) (e:Env) (h:Hp) (n es tot off len:Nat):killX t e h (.own n es tot off len)=some ((t,.undef)::e,h.kill n):=rfl
theorem killX_fp (t:Nat) (e:Env) (h:Hp) (x:D) (o:Nat):killX t e h (.fp x o)=some ((t,.undef)::e,h):=rfl
theorem killX_d (t:Nat) (e:Env) (h:Hp) (x:D):killX t e h (.d x)=some ((t,.undef)::e,h):=rfl
theorem killX_undef (t:Nat) (e:Env) (h:Hp):killX t e h .undef=some ((t,.undef)::e,h):=rfl
theorem killX_tup (t:Nat) (e:Env) (h:Hp) (l:List V):killX t e h (.tup l)=some ((t,.undef)::e,h):=rfl
theorem kill_hd (n:Nat) (o:Ob) (l:List (Nat × Ob)) (nx:Nat):Hp.kill ⟨(n,o)::l,nx⟩ n=⟨l,nx⟩:=by
 unfold Hp.kill;simp[del]
theorem frz_hd (n es nx:Nat) (x:D) (l:List (Nat × Ob)) (off:Nat):Zv.frz ⟨(n,.arr es [.d x])::l,nx⟩ (.ptr n 1 0 off)=some (.fp x off,⟨l,nx⟩):=by
 simp only[Zv.frz,row_cons,if_true,List.length_cons,List.length_nil,Option.bind_some,List.getElem?_cons_zero,Option.map_some,toD,kill_hd]
theorem norm_clo0 (f:Nat) (l:List V):norm (.clo f l)=.clo f l:=rfl
noncomputable def seqR (T:Tab) (b:AC):Option Out→Option Out
 |none=>none
 |some (.norm,e,h)=>ex T b e h
 |some o=>some o
noncomputable def conR (T:Tab) (a b:AC) (e:Env) (h:Hp):Option Bool→Option Out
 |none=>none
 |some true=>ex T a e h
 |some false=>ex T b e h
end Zs
end
section
namespace Zs
open Go Zv
def wp (T:Tab) (c:AC) (e:Env) (h:Hp) (Q:Out→Prop):Prop:=∃ o,ex T c e h=some o∧Q o
def seqQ (T:Tab) (b:AC) (Q:Out→Prop) (o:Out):Prop:=match o.1 with
 | .norm=>wp T b o.2.1 o.2.2 Q
 |_=>Q o
def blkQ (id:Nat) (Q:Out→Prop) (o:Out):Prop:=Q (if o.1=.exit id then .norm else o.1,o.2)
def donQ (fn:AF) (h:Hp) (R:Option (V × Hp)→Prop) (o:Out):Prop:=R (done fn h o)
def wpI (cf:Cf) (its:List It) (e:Env) (h:Hp) (K:Env→Hp→Prop):Prop:=∃ s,itsX cf its e h=some s∧K s.1 s.2
def regQ (kp:Option (List Nat)) (Q:Out→Prop) (e:Env) (h:Hp):Prop:=Q (.norm,keepE kp e,h)
def wpO (cf:Cf) (dst:Option Nat) (e:Env) (r:List It) (K:Env→Hp→Prop):Option (V × Hp)→Prop
 |none=>False
 |some s=>wpI cf r (e.putO dst s.1) s.2 K
def wpG (cf:Cf) (dst:Option Nat) (op:AOp) (e:Env) (h:Hp) (r:List It) (K:Env→Hp→Prop):Option Bool→Prop
 |none=>False
 |some true=>wpO cf dst e r K (opX cf e h op)
 |some false=>wpI cf r (e.putO dst (.tup [])) h K
def wpC (T:Tab) (a b:AC) (e:Env) (h:Hp) (Q:Out→Prop):Option Bool→Prop
 |none=>False
 |some true=>wp T a e h Q
 |some false=>wp T b e h Q
def wpE (cf:Cf) (r:List It) (K:Env→Hp→Prop):Option (Env × Hp)→Prop
 |none=>False
 |some s=>wpI cf r s.1 s.2 K
theorem call_wp {T:Tab} {f:Nat} {fn:AF} {vs:List V} {h:Hp} {r:V × Hp} (hT:T f=some fn) (hn:vs.length=fn.np) (H:wp T fn.body (args 0 vs) h (donQ fn h (· = some r))) (hf:f<RB:=by decide):callW T f vs h=some r:=by
 obtain ⟨o,h1,h2⟩:=H
 cases hp:isPr fn.body with
 |none=>rw[callW_fn hT hn h hp hf,h1];exact h2
 |some k=>
  have hb:fn.body=.exit k:=by unfold isPr at hp;split at hp<;>first | (cases hp;assumption) | cases hp
  rw[hb] at h1;cases h1;cases h2
theorem call_wpE {T:Tab} {f:Nat} {fn:AF} {vs:List V} {h:Hp} {R:V × Hp→Prop} (hT:T f=some fn) (hn:vs.length=fn.np) (H:wp T fn.body (args 0 vs) h (donQ fn h (fun q=>∃ r,q=some r∧R r))) (hf:f<RB:=by decide):∃ r,callW T f vs h=some r∧R r:=by
 obtain ⟨o,h1,r,h2,h3⟩:=H
 cases hp:isPr fn.body with
 |none=>exact⟨r,by rw[callW_fn hT hn h hp hf,h1];exact h2,h3⟩
 |some k=>
  have hb:fn.body=.exit k:=by unfold isPr at hp;split at hp<;>first | (cases hp;assumption) | cases hp
  rw[hb] at h1;cases h1;cases h2
theorem wq_of {T:Tab} {c:AC} {e:Env} {h:Hp} {o:Out} (H:ex T c e h=some o) (Q:Out→Prop):wp T c e h Q=Q o:=by
 apply propext
 constructor
 ·rintro ⟨o',h1,h2⟩;rw[H] at h1;cases h1;exact h2
 ·intro hq;exact⟨o,H,hq⟩
theorem wq_ex {T:Tab} {c:AC} {e:Env} {h:Hp} {o:Out}:wp T c e h (· = o) ↔ ex T c e h=some o:=
 ⟨fun ⟨_,h1,h2⟩=>h2▸h1,fun H=>⟨o,H,rfl⟩⟩
theorem wq_mono {T:Tab} {c:AC} {e:Env} {h:Hp} {P Q:Out→Prop} (H:wp T c e h P) (k:∀ o,P o→Q o):wp T c e h Q:=by
 obtain ⟨o,h1,h2⟩:=H;exact⟨o,h1,k o h2⟩
theorem wq_skip (T:Tab) (e:Env) (h:Hp) (Q:Out→Prop):wp T .skip e h Q=Q (.norm,e,h):=wq_of rfl Q
theorem wq_exit (T:Tab) (i:Nat) (e:Env) (h:Hp) (Q:Out→Prop):wp T (.exit i) e h Q=Q (.exit i,e,h):=wq_of rfl Q
theorem wq_ret (T:Tab) (e:Env) (h:Hp) (Q:Out→Prop):wp T .ret e h Q=Q (.ret,e,h):=wq_of rfl Q
theorem wq_seq (T:Tab) (a b:AC) (e:Env) (h:Hp) (Q:Out→Prop):wp T (.seq a b) e h Q=wp T a e h (seqQ T b Q):=by
 apply propext
 unfold wp
 rw[ex_seq]
 cases ex T a e h with
 |none=>simp
 |some o=>
  obtain ⟨x,e',h'⟩:=o
  cases x<;>simp[nxt,seqQ,wp]
theorem wq_blk (T:Tab) (id:Nat) (a:AC) (e:Env) (h:Hp) (Q:Out→Prop):wp T (.blk id a) e h Q=wp T a e h (blkQ id Q):=by
 apply propext
 unfold wp
 rw[ex_blk]
 cases ex T a e h with
 |none=>simp
 |some o=>simp[blkQ]
theorem wq_cond (T:Tab) (c:Opd) (a b:AC) (e:Env) (h:Hp) (Q:Out→Prop):wp T (.cond c a b) e h Q=wpC T a b e h Q (condB (e.ev c)):=by
 apply propext
 unfold wp
 rw[ex_cond]
 cases condB (e.ev c) with
 |none=>simp[wpC]
 |some t=>cases t<;>simp[wpC,wp]
theorem wpC_t (T:Tab) (a b:AC) (e:Env) (h:Hp) (Q:Out→Prop):wpC T a b e h Q (some true)=wp T a e h Q:=rfl
theorem wpC_f (T:Tab) (a b:AC) (e:Env) (h:Hp) (Q:Out→Prop):wpC T a b e h Q (some false)=wp T b e h Q:=rfl
theorem wq_reg (T:Tab) (its:List It) (kp:Option (List Nat)) (e:Env) (h:Hp) (Q:Out→Prop):wp T (.reg its kp) e h Q=wpI (cW T) its e h (regQ kp Q):=by
 apply propext
 unfold wp wpI
 rw[ex_reg]
 cases itsX (cW T) its e h with
 |none=>simp
 |some o=>simp[regQ]
theorem wpI_nil (cf:Cf) (e:Env) (h:Hp) (K:Env→Hp→Prop):wpI cf [] e h K=K e h:=by
 apply propext
 simp[wpI,its_nil]
theorem wpI_o (cf:Cf) (dst:Option Nat) (op:AOp) (r:List It) (e:Env) (h:Hp) (K:Env→Hp→Prop):wpI cf (.o dst op none::r) e h K=wpO cf dst e r K (opX cf e h op):=by
 apply propext
 unfold wpI
 rw[its_cons,it_o]
 cases opX cf e h op with
 |none=>simp[wpO]
 |some s=>simp[wpO,wpI]
theorem wpI_g (cf:Cf) (dst:Option Nat) (op:AOp) (t:Nat) (b:Bool) (r:List It) (e:Env) (h:Hp) (K:Env→Hp→Prop):wpI cf (.o dst op (some (t,b))::r) e h K=wpG cf dst op e h r K (wantV (e.get t) b):=by
 apply propext
 unfold wpI
 rw[its_cons,it_g,want_some]
 cases wantV (e.get t) b with
 |none=>simp[wpG]
 |some w=>
  cases w with
  |false=>simp[wpG,wpI]
  |true=>
   simp only[wpG]
   generalize opX cf e h op=q
   cases q with
   |none=>simp[wpO]
   |some s=>simp[wpO,wpI]
theorem wpI_frz (cf:Cf) (t:Nat) (r:List It) (e:Env) (h:Hp) (K:Env→Hp→Prop):wpI cf (.frz t::r) e h K=wpO cf (some t) e r K (Zv.frz h (e.get t)):=by
 apply propext
 unfold wpI
 rw[its_cons,it_frz]
 cases Zv.frz h (e.get t) with
 |none=>simp[wpO]
 |some s=>simp[wpO,wpI,Env.putO,Env.put]
theorem wpI_fzd (cf:Cf) (t:Nat) (r:List It) (e:Env) (h:Hp) (K:Env→Hp→Prop):wpI cf (.fzd t::r) e h K=wpO cf (some t) e r K (Zv.fzd h (e.get t)):=by
 apply propext
 unfold wpI
 rw[its_cons,it_fzd]
 cases Zv.fzd h (e.get t) with
 |none=>simp[wpO]
 |some s=>simp[wpO,wpI,Env.putO,Env.put]
theorem wpI_kill (cf:Cf) (t:Nat) (r:List It) (e:Env) (h:Hp) (K:Env→Hp→Prop):wpI cf (.kill t::r) e h K=wpE cf r K (killX t e h (e.get t)):=by
 apply propext
 unfold wpI
 rw[its_cons,it_kill]
 cases killX t e h (e.get t) with
 |none=>simp[wpE]
 |some s=>simp[wpE,wpI]
theorem wpE_some (cf:Cf) (r:List It) (K:Env→Hp→Prop) (e:Env) (h:Hp):wpE cf r K (some (e,h))=wpI cf r e h K:=rfl
theorem wpO_some (cf:Cf) (t:Nat) (e:Env) (r:List It) (K:Env→Hp→Prop) (v:V) (h:Hp):wpO cf (some t) e r K (some (v,h))=wpI cf r ((t,v)::e) h K:=rfl
theorem wpO_none (cf:Cf) (e:Env) (r:List It) (K:Env→Hp→Prop) (v:V) (h:Hp):wpO cf none e r K (some (v,h))=wpI cf r e h K:=rfl
theorem wpG_t (cf:Cf) (dst:Option Nat) (op:AOp) (e:Env) (h:Hp) (r:List It) (K:Env→Hp→Prop):wpG cf dst op e h r K (some true)=wpO cf dst e r K (opX cf e h op):=rfl
theorem wpG_f (cf:Cf) (t:Nat) (op:AOp) (e:Env) (h:Hp) (r:List It) (K:Env→Hp→Prop):wpG cf (some t) op e h r K (some false)=wpI cf r ((t,.tup [])::e) h K:=rfl
theorem wpG_fn (cf:Cf) (op:AOp) (e:Env) (h:Hp) (r:List It) (K:Env→Hp→Prop):wpG cf none op e h r K (some false)=wpI cf r e h K:=rfl
theorem wantV_bt (c:Bool):wantV (.d (.bool c)) true=some c:=by cases c<;>rfl
theorem wantV_bf (c:Bool):wantV (.d (.bool c)) false=some (!c):=by cases c<;>rfl
theorem regQ_eq (kp:List Nat) (Q:Out→Prop) (e:Env) (h:Hp):regQ (some kp) Q e h=Q (.norm,e.keep kp,h):=rfl
theorem seqQ_n (T:Tab) (b:AC) (Q:Out→Prop) (e:Env) (h:Hp):seqQ T b Q (.norm,e,h)=wp T b e h Q:=rfl
theorem seqQ_e (T:Tab) (b:AC) (Q:Out→Prop) (i:Nat) (e:Env) (h:Hp):seqQ T b Q (.exit i,e,h)=Q (.exit i,e,h):=rfl
theorem seqQ_r (T:Tab) (b:AC) (Q:Out→Prop) (e:Env) (h:Hp):seqQ T b Q (.ret,e,h)=Q (.ret,e,h):=rfl
theorem blkQ_n (id:Nat) (Q:Out→Prop) (e:Env) (h:Hp):blkQ id Q (.norm,e,h)=Q (.norm,e,h):=rfl
theorem blkQ_r (id:Nat) (Q:Out→Prop) (e:Env) (h:Hp):blkQ id Q (.ret,e,h)=Q (.ret,e,h):=rfl
theorem blkQ_e (id i:Nat) (Q:Out→Prop) (e:Env) (h:Hp):blkQ id Q (.exit i,e,h)=if i=id then Q (.norm,e,h) else Q (.exit i,e,h):=by
 unfold blkQ
 by_cases hi:i=id
 ·subst hi;simp
 ·rw[if_neg hi,if_neg (by simpa using hi)]
theorem donQ_n (fn:AF) (h:Hp) (R:Option (V × Hp)→Prop) (e:Env) (h':Hp):donQ fn h R (.norm,e,h')=R (finish fn h e h'):=rfl
theorem donQ_r (fn:AF) (h:Hp) (R:Option (V × Hp)→Prop) (e:Env) (h':Hp):donQ fn h R (.ret,e,h')=R (finish fn h e h'):=rfl
def finS (h:Hp) (h':Hp) (vs:List V):Option (V × Hp):=if sufOk h.objs h'.objs=true then (vs.mapM (back1 h' h.next)).map fun l=>(resV l,h) else none
theorem fin_s (np:Nat) (res:List (Nat × Option (Bool × Nat))) (b:AC) (h:Hp) (e:Env) (h':Hp):finish ⟨np,res,true,b⟩ h e h'=(resL e h' res).bind (finS h h'):=rfl
theorem fin_l (np:Nat) (res:List (Nat × Option (Bool × Nat))) (b:AC) (h:Hp) (e:Env) (h':Hp):finish ⟨np,res,false,b⟩ h e h'=(resL e h' res).bind fun vs=>some (resV vs,h'):=rfl
theorem resL_nil (e:Env) (h:Hp):resL e h []=some []:=rfl
theorem resL_t (e:Env) (h:Hp) (t:Nat) (r:List (Nat × Option (Bool × Nat))):resL e h ((t,none)::r)=(resL e h r).map (e.get t :: ·):=rfl
theorem resL_c (e:Env) (h:Hp) (t sz:Nat) (ag:Bool) (r:List (Nat × Option (Bool × Nat))):resL e h ((t,some (ag,sz))::r)=(ld ag sz h (e.get t)).bind fun v=>(resL e h r).map (v :: ·):=rfl
theorem finS_same {h h':Hp} (hh:h'.objs=h.objs) (vs:List D):finS h h' (vs.map .d)=some (resV (vs.map .d),h):=by
 unfold finS
 rw[if_pos (by rw[hh];exact suf_refl _)]
 have:(vs.map V.d).mapM (back1 h' h.next)=some (vs.map V.d):=by
  induction vs with
  |nil=>rfl
  |cons x l ih=>rw[List.map_cons,List.mapM_cons,back_d,ih];rfl
 rw[this];rfl
theorem finS1 (h:Hp) (x:D):finS h h [.d x]=some (.d x,h):=finS_same rfl [x]
theorem finS2 (h:Hp) (x y:D):finS h h [.d x,.d y]=some (.tup [.d x,.d y],h):=finS_same rfl [x,y]
theorem finS3 (h:Hp) (x y z:D):finS h h [.d x,.d y,.d z]=some (.tup [.d x,.d y,.d z],h):=finS_same rfl [x,y,z]
theorem finS1' (h:Hp) (n:Nat) (x:D):finS h ⟨h.objs,n⟩ [.d x]=some (.d x,h):=finS_same (h:=h) (h':=⟨h.objs,n⟩) rfl [x]
theorem finS2' (h:Hp) (n:Nat) (x y:D):finS h ⟨h.objs,n⟩ [.d x,.d y]=some (.tup [.d x,.d y],h):=finS_same (h:=h) (h':=⟨h.objs,n⟩) rfl [x,y]
theorem finS3' (h:Hp) (n:Nat) (x y z:D):finS h ⟨h.objs,n⟩ [.d x,.d y,.d z]=some (.tup [.d x,.d y,.d z],h):=finS_same (h:=h) (h':=⟨h.objs,n⟩) rfl [x,y,z]
theorem partD_t (o sz:Nat) (l:List D):partD true o sz l=if o+sz≤l.length then some (.agg ((l.drop o).take sz)) else none:=rfl
theorem un_not (b:Bool):un .not (.d (.bool b))=some (.d (.bool (!b))):=rfl
theorem na_t (bs:List Bool) (v:V) (vs:List V):normArgs (true::bs) (v::vs)=norm v::normArgs bs vs:=rfl
theorem na_f (bs:List Bool) (v:V) (vs:List V):normArgs (false::bs) (v::vs)=v::normArgs bs vs:=rfl
theorem na_n (vs:List V):normArgs [] vs=vs:=rfl
theorem nat_neg (n:Nat):((n:Int)<0)=False:=by simp
theorem nat_nn (n:Nat):((0:Int)≤(n:Int))=True:=by simp
theorem bin_s_eq (a b:ByteArray):bin .eql (.d (.str a)) (.d (.str b))=some (.d (.bool (decide (a=b)))):=rfl
theorem bin_s_ne (a b:ByteArray):bin .neq (.d (.str a)) (.d (.str b))=some (.d (.bool (!decide (a=b)))):=rfl
theorem lenS_str (s:ByteArray):lenS (.d (.str s))=some (.d (.int .i64 (s.size:Int))):=rfl
theorem ixS_at {s:ByteArray} {n:Nat} {c:UInt8} (k:IntKind) (h:s.data.toList[n]? = some c):ixS (.d (.str s)) (.d (.int k (n:Int)))=some (.d (.int .u8 c.toNat)):=by
 have hlt:n<s.size:=by
  have:=(List.getElem?_eq_some_iff.1 h).1
  simpa using this
 have hg:s[n]=c:=by
  have:=(List.getElem?_eq_some_iff.1 h).2
  rw[←this];rfl
 simp[ixS,ixOf_nat,hlt,hg]
theorem resV_nil:resV []=.tup []:=rfl
theorem conv_i (k j:IntKind) (n:Int):conv k (.d (.int j n))=some (.d (.int k (k.wrap n))):=rfl
theorem ibeq (a b:Int):(a == b)=decide (a=b):=rfl
theorem ibne (a b:Int):(a != b) = !decide (a=b):=rfl
theorem norm_tl0 (nl:Option Bool):norm (.tl [] nl)=.d (.lst []):=rfl
theorem un_neg (k:IntKind) (n:Int):un .neg (.d (.int k n))=some (.d (.int k (k.wrap (0 - n)))):=rfl
theorem binB_eq (a b:Bool):binB .eql (.d (.bool a)) (.d (.bool b))=some (.d (.bool (a == b))):=rfl
theorem binB_ne (a b:Bool):binB .neq (.d (.bool a)) (.d (.bool b))=some (.d (.bool (!(a == b)))):=rfl
theorem row_hd (n es:Nat) (els:List V) (r:List (Nat × Ob)) (nx tot:Nat):Hp.row ⟨(n,.arr es els)::r,nx⟩ n tot=if els.length=tot then some (es,els) else none:=by
 rw[row_cons,if_pos rfl]
theorem set_hd (n:Nat) (o:Ob) (r:List (Nat × Ob)) (nx:Nat) (x:Ob):Hp.set ⟨(n,o)::r,nx⟩ n x=⟨(n,x)::r,nx⟩:=by
 rw[set_cons,if_pos rfl]
theorem alloc_eq (h:Hp) (o:Ob):h.alloc o=⟨(h.next,o)::h.objs,h.next+1⟩:=rfl
theorem wpG_s {cf:Cf} {dst:Option Nat} {op:AOp} {e:Env} {h:Hp} {r:List It} {K:Env→Hp→Prop} {c:Bool} (h1:c=true→wpG cf dst op e h r K (some true)) (h2:c=false→wpG cf dst op e h r K (some false)):wpG cf dst op e h r K (some c):=by
 cases c
 ·exact h2 rfl
 ·exact h1 rfl
theorem wpC_s {T:Tab} {a b:AC} {e:Env} {h:Hp} {Q:Out→Prop} {c:Bool} (h1:c=true→wpC T a b e h Q (some true)) (h2:c=false→wpC T a b e h Q (some false)):wpC T a b e h Q (some c):=by
 cases c
 ·exact h2 rfl
 ·exact h1 rfl
theorem finS_nil (h:Hp) (nl:Option Bool):finS h h [.tl [] nl]=some (.d (.lst []),h):=by
 unfold finS;rw[if_pos (suf_refl _)];rfl
theorem nat1_0 (n:Nat):((n:Int)+1 == 0)=false:=by simp;omega
theorem nat1_lt1 (n:Nat):((n:Int)+1<1)=False:=by simp;omega
theorem nat1_lt0 (n:Nat):((n:Int)+1<0)=False:=by simp;omega
theorem nat1_ge0 (n:Nat):(0≤(n:Int)+1)=True:=by simp;omega
theorem nat1_ge1 (n:Nat):(1≤(n:Int)+1)=True:=by simp;omega
theorem ld_one (sz:Nat) (h:Hp) (n tot i off:Nat):ld false sz h (.ptr n tot i off)=(h.row n tot).bind fun r=>(r.2[i]?).bind fun e=>e.cells[off]? := by
 simp[ld,partV]
theorem st_hd (es n:Nat) (z:V) (l:List (Nat × Ob)) (nx:Nat) (x:V):st es ⟨(n,.arr es [z])::l,nx⟩ (.ptr n 1 0 0) x=if stor x=true∧x.cells.length=es then some ⟨(n,.arr es [x])::l,nx⟩ else none:=by
 simp[st,row_hd,set_hd]
theorem finS1m (l:List (Nat × Ob)) (n m:Nat) (x:D):finS ⟨l,n⟩ ⟨l,m⟩ [.d x]=some (.d x,⟨l,n⟩):=finS_same (h:=⟨l,n⟩) (h':=⟨l,m⟩) rfl [x]
theorem finS2m (l:List (Nat × Ob)) (n m:Nat) (x y:D):finS ⟨l,n⟩ ⟨l,m⟩ [.d x,.d y]=some (.tup [.d x,.d y],⟨l,n⟩):=finS_same (h:=⟨l,n⟩) (h':=⟨l,m⟩) rfl [x,y]
theorem finS3m (l:List (Nat × Ob)) (n m:Nat) (x y z:D):finS ⟨l,n⟩ ⟨l,m⟩ [.d x,.d y,.d z]=some (.tup [.d x,.d y,.d z],⟨l,n⟩):=finS_same (h:=⟨l,n⟩) (h':=⟨l,m⟩) rfl [x,y,z]
theorem finS_suf {h h':Hp} (hh:sufOk h.objs h'.objs=true) (vs:List D):finS h h' (vs.map .d)=some (resV (vs.map .d),h):=by
 unfold finS
 rw[if_pos hh]
 have:(vs.map V.d).mapM (back1 h' h.next)=some (vs.map V.d):=by
  induction vs with
  |nil=>rfl
  |cons x l ih=>rw[List.map_cons,List.mapM_cons,back_d,ih];rfl
 rw[this];rfl
theorem finS1c (h:Hp) (o:Nat × Ob) (m:Nat) (x:D):finS h ⟨o::h.objs,m⟩ [.d x]=some (.d x,h):=finS_suf (h':=⟨o::h.objs,m⟩) (suf_one _ _) [x]
theorem finS2c (h:Hp) (o:Nat × Ob) (m:Nat) (x y:D):finS h ⟨o::h.objs,m⟩ [.d x,.d y]=some (.tup [.d x,.d y],h):=finS_suf (h':=⟨o::h.objs,m⟩) (suf_one _ _) [x,y]
theorem finS3c (h:Hp) (o:Nat × Ob) (m:Nat) (x y z:D):finS h ⟨o::h.objs,m⟩ [.d x,.d y,.d z]=some (.tup [.d x,.d y,.d z],h):=finS_suf (h':=⟨o::h.objs,m⟩) (suf_one _ _) [x,y,z]
theorem finS1cc (h:Hp) (o q:Nat × Ob) (m:Nat) (x:D):finS h ⟨o::q::h.objs,m⟩ [.d x]=some (.d x,h):=finS_suf (h':=⟨o::q::h.objs,m⟩) (suf_two _ _ _) [x]
theorem st_2 (es n:Nat) (o:Ob) (z:V) (l:List (Nat × Ob)) (nx:Nat) (x:V):st es ⟨(n+1,o)::(n,.arr es [z])::l,nx⟩ (.ptr n 1 0 0) x=if stor x=true∧x.cells.length=es then some ⟨(n+1,o)::(n,.arr es [x])::l,nx⟩ else none:=by
 have hr:Hp.row ⟨(n+1,o)::(n,.arr es [z])::l,nx⟩ n 1=some (es,[z]):=by
  unfold Hp.row Hp.get;simp[Zv.look]
 have hs:∀ y,Hp.set ⟨(n+1,o)::(n,.arr es [z])::l,nx⟩ n y=⟨(n+1,o)::(n,y)::l,nx⟩:=by
  intro y;unfold Hp.set;simp[upd]
 simp[st,hr,hs]
theorem frz_2 (n es nx:Nat) (o:Ob) (x:D) (l:List (Nat × Ob)) (off:Nat):Zv.frz ⟨(n+1,o)::(n,.arr es [.d x])::l,nx⟩ (.ptr n 1 0 off)=some (.fp x off,⟨(n+1,o)::l,nx⟩):=by
 have hr:Hp.row ⟨(n+1,o)::(n,.arr es [.d x])::l,nx⟩ n 1=some (es,[.d x]):=by
  unfold Hp.row Hp.get;simp[Zv.look]
 simp only[Zv.frz,hr,Option.bind_some,List.getElem?_cons_zero,Option.map_some,toD]
 simp[Hp.kill,del]
theorem kill_2 (n:Nat) (o p:Ob) (l:List (Nat × Ob)) (nx:Nat):Hp.kill ⟨(n+1,o)::(n,p)::l,nx⟩ n=⟨(n+1,o)::l,nx⟩:=by
 unfold Hp.kill;simp[del]
theorem ld_whole (es n:Nat) (l:List D) (r:List (Nat × Ob)) (nx:Nat):ld true es ⟨(n,.arr es [.d (.agg l)])::r,nx⟩ (.ptr n 1 0 0)=some (.d (.agg l)):=by
 simp[ld,row_hd]
theorem ld_whole2 (es n:Nat) (o:Ob) (l:List D) (r:List (Nat × Ob)) (nx:Nat):ld true es ⟨(n+1,o)::(n,.arr es [.d (.agg l)])::r,nx⟩ (.ptr n 1 0 0)=some (.d (.agg l)):=by
 have hr:Hp.row ⟨(n+1,o)::(n,.arr es [.d (.agg l)])::r,nx⟩ n 1=some (es,[.d (.agg l)]):=by
  unfold Hp.row Hp.get;simp[Zv.look]
 simp[ld,hr]
theorem wsl:(type_of% @List.map_cons.{0,0})∧(type_of% @List.map_nil.{0,0})∧(type_of% @List.cons_append.{0})∧(type_of% @List.nil_append.{0})∧(type_of% @List.append_nil.{0})∧(type_of% @List.getElem?_cons_zero.{0})∧(type_of% @List.getElem?_cons_succ.{0})∧(type_of% @List.length_cons.{0})∧(type_of% @List.length_nil.{0})∧(type_of% @List.length_map.{0,0})∧(type_of% @List.length_append.{0})∧(type_of% @List.all_cons.{0})∧(type_of% @List.all_nil.{0})∧(type_of% @List.take_zero.{0})∧(type_of% @List.take_succ_cons.{0})∧(type_of% @List.drop_zero.{0})∧(type_of% @List.drop_succ_cons.{0})∧(type_of% @Option.map_some.{0,0})∧(type_of% @Option.bind_some.{0,0})∧(type_of% @Option.map_none.{0,0})∧(type_of% @Option.bind_none.{0,0})∧(type_of% @beq_self_eq_true.{0})∧(type_of% @bne_self_eq_false.{0})∧(type_of% @Option.some.injEq.{0})∧(type_of% @Prod.mk.injEq.{0,0})∧(type_of% @gt_iff_lt.{0})∧(type_of% @ge_iff_le.{0})∧(type_of% @if_true.{1})∧(type_of% @if_false.{1})∧(type_of% @ite_self.{1})∧(type_of% @ne_eq.{1})∧(type_of% @eq_self.{1})∧(type_of% @Bool.and_self)∧(type_of% @and_self)∧(type_of% @true_and)∧(type_of% @and_true)∧(type_of% @Bool.not_true)∧(type_of% @Bool.not_false)∧(type_of% @Bool.not_eq_true')∧(type_of% @decide_eq_true_eq)∧(type_of% @decide_eq_false_iff_not)∧(type_of% @Nat.zero_add)∧(type_of% @Nat.add_zero)∧(type_of% @Nat.succ_ne_zero)∧(type_of% @Bool.false_eq_true)∧(type_of% @not_true_eq_false)∧(type_of% @not_false_eq_true)∧(type_of% @Bool.false_and)∧(type_of% @Bool.true_and)∧(type_of% @and_false)∧(type_of% @false_and)∧(type_of% @Bool.true_eq_false)∧(type_of% @or_false)∧(type_of% @false_or)∧(type_of% @true_or)∧(type_of% @or_true)∧(type_of% @Int.cast_ofNat_Int)∧(type_of% @Int.ofNat_lt)∧(type_of% @Int.ofNat_le)∧(type_of% @Nat.lt_irrefl)∧(type_of% @decide_true)∧(type_of% @decide_false):=
 ⟨@List.map_cons.{0,0},@List.map_nil.{0,0},@List.cons_append.{0},@List.nil_append.{0},@List.append_nil.{0},@List.getElem?_cons_zero.{0},@List.getElem?_cons_succ.{0},@List.length_cons.{0},@List.length_nil.{0},@List.length_map.{0,0},@List.length_append.{0},@List.all_cons.{0},@List.all_nil.{0},@List.take_zero.{0},@List.take_succ_cons.{0},@List.drop_zero.{0},@List.drop_succ_cons.{0},@Option.map_some.{0,0},@Option.bind_some.{0,0},@Option.map_none.{0,0},@Option.bind_none.{0,0},@beq_self_eq_true.{0},@bne_self_eq_false.{0},@Option.some.injEq.{0},@Prod.mk.injEq.{0,0},@gt_iff_lt.{0},@ge_iff_le.{0},@if_true.{1},@if_false.{1},@ite_self.{1},@ne_eq.{1},@eq_self.{1},@Bool.and_self,@and_self,@true_and,@and_true,@Bool.not_true,@Bool.not_false,@Bool.not_eq_true',@decide_eq_true_eq,@decide_eq_false_iff_not,@Nat.zero_add,@Nat.add_zero,@Nat.succ_ne_zero,@Bool.false_eq_true,@not_true_eq_false,@not_false_eq_true,@Bool.false_and,@Bool.true_and,@and_false,@false_and,@Bool.true_eq_false,@or_false,@false_or,@true_or,@or_true,@Int.cast_ofNat_Int,@Int.ofNat_lt,@Int.ofNat_le,@Nat.lt_irrefl,@decide_true,@decide_false⟩
theorem ws:(type_of% @wq_seq)∧(type_of% @wq_blk)∧(type_of% @wq_cond)∧(type_of% @wpC_t)∧(type_of% @wpC_f)∧(type_of% @wq_skip)∧(type_of% @wq_exit)∧(type_of% @wq_ret)∧(type_of% @wpI_nil)∧(type_of% @wpI_o)∧(type_of% @wpI_g)∧(type_of% @wpI_frz)∧(type_of% @wpI_fzd)∧(type_of% @wpI_kill)∧(type_of% @wpE_some)∧(type_of% @wpO_some)∧(type_of% @wpO_none)∧(type_of% @wpG_t)∧(type_of% @wpG_f)∧(type_of% @wpG_fn)∧(type_of% @wantV_bt)∧(type_of% @wantV_bf)∧(type_of% @wantV_t)∧(type_of% @regQ_eq)∧(type_of% @seqQ_n)∧(type_of% @seqQ_e)∧(type_of% @seqQ_r)∧(type_of% @blkQ_n)∧(type_of% @blkQ_r)∧(type_of% @blkQ_e)∧(type_of% @donQ_n)∧(type_of% @donQ_r)∧(type_of% @fin_s)∧(type_of% @finS1)∧(type_of% @finS2)∧(type_of% @finS3)∧(type_of% @finS1')∧(type_of% @finS2')∧(type_of% @finS3')∧(type_of% @fin_l)∧(type_of% @resL_nil)∧(type_of% @resL_t)∧(type_of% @resL_c)∧(type_of% @resV_one)∧(type_of% @resV_two)∧(type_of% @resV_three)∧(type_of% @ev_t)∧(type_of% @ev_c)∧(type_of% @get_cons)∧(type_of% @get_nil)∧(type_of% @pv_some)∧(type_of% @bin_i)∧(type_of% @condB_b)∧(type_of% @keep_cons)∧(type_of% @keep_nil)∧(type_of% @args_cons)∧(type_of% @args_nil)∧(type_of% @na_t)∧(type_of% @na_f)∧(type_of% @na_n)∧(type_of% @norm_d)∧(type_of% @norm_ptr)∧(type_of% @norm_own)∧(type_of% @norm_map)∧(type_of% @norm_clo0)∧(type_of% @cW_clo)∧(type_of% @fa_fp)∧(type_of% @ld_fp)∧(type_of% @ldf_fp)∧(type_of% @partD_one)∧(type_of% @partD_t)∧(type_of% @cells_agg)∧(type_of% @cells_int)∧(type_of% @cells_bool)∧(type_of% @cells_str)∧(type_of% @cells_lst)∧(type_of% @lenL_lst)∧(type_of% @lenL_own)∧(type_of% @lenL_tl)∧(type_of% @ext_tup)∧(type_of% @pick_b)∧(type_of% @un_not)∧(type_of% @norm_tl0)∧(type_of% @conv_i)∧(type_of% @quiet_refl)∧(type_of% @st_2)∧(type_of% @frz_2)∧(type_of% @kill_2)∧(type_of% @resV_nil)∧(type_of% @nat1_0)∧(type_of% @nat1_lt1)∧(type_of% @nat1_lt0)∧(type_of% @nat1_ge0)∧(type_of% @nat1_ge1)∧(type_of% @ld_one)∧(type_of% @ld_whole)∧(type_of% @ld_whole2)∧(type_of% @st_hd)∧(type_of% @finS1m)∧(type_of% @finS2m)∧(type_of% @finS3m)∧(type_of% @finS1c)∧(type_of% @finS2c)∧(type_of% @finS3c)∧(type_of% @finS1cc)∧(type_of% @finS_nil)∧(type_of% @bin_s_eq)∧(type_of% @bin_s_ne)∧(type_of% @lenS_str)∧(type_of% @un_neg)∧(type_of% @nat_neg)∧(type_of% @nat_nn)∧(type_of% @binB_eq)∧(type_of% @binB_ne)∧(type_of% @nilck_ptr)∧(type_of% @nilck_fp)∧(type_of% @fa_ptr)∧(type_of% @partV_one)∧(type_of% @stor_d)∧(type_of% @stor_own)∧(type_of% @stor_ptr)∧(type_of% @stor_tl)∧(type_of% @stor_agg)∧(type_of% @stor_clo)∧(type_of% @stor_map)∧(type_of% @vcells_d)∧(type_of% @vcells_agg)∧(type_of% @vcells_own)∧(type_of% @vcells_ptr)∧(type_of% @vcells_tl)∧(type_of% @vcells_clo)∧(type_of% @vcells_map)∧(type_of% @lay_nil)∧(type_of% @lay_cons)∧(type_of% @mkAgg1)∧(type_of% @mkAgg2)∧(type_of% @mkAgg3)∧(type_of% @mkAgg4)∧(type_of% @mkAgg5)∧(type_of% @mkAgg6)∧(type_of% @mkAgg_own)∧(type_of% @mkAgg_ptr)∧(type_of% @mkAgg_tl)∧(type_of% @mkAgg_map)∧(type_of% @mkAgg_clo)∧(type_of% @mkAgg_d_own)∧(type_of% @mkAgg_dd_own)∧(type_of% @mkAgg_d_tl)∧(type_of% @mkAgg_dd_tl)∧(type_of% @killX_ptr)∧(type_of% @killX_own)∧(type_of% @killX_fp)∧(type_of% @killX_d)∧(type_of% @killX_undef)∧(type_of% @killX_tup)∧(type_of% @kill_hd)∧(type_of% @frz_hd)∧(type_of% @set_hd)∧(type_of% @row_hd)∧(type_of% @alloc_mk)∧(type_of% @alloc_eq)∧(type_of% @nilBin_ptr)∧(type_of% @nilBin_nil)∧(type_of% @V.d.injEq)∧(type_of% @D.bool.injEq)∧(type_of% @D.int.injEq)∧(type_of% @D.lst.injEq)∧(type_of% @D.agg.injEq)∧(type_of% @D.str.injEq):=
 ⟨@wq_seq,@wq_blk,@wq_cond,@wpC_t,@wpC_f,@wq_skip,@wq_exit,@wq_ret,@wpI_nil,@wpI_o,@wpI_g,@wpI_frz,@wpI_fzd,@wpI_kill,@wpE_some,@wpO_some,@wpO_none,@wpG_t,@wpG_f,@wpG_fn,@wantV_bt,@wantV_bf,@wantV_t,@regQ_eq,@seqQ_n,@seqQ_e,@seqQ_r,@blkQ_n,@blkQ_r,@blkQ_e,@donQ_n,@donQ_r,@fin_s,@finS1,@finS2,@finS3,@finS1',@finS2',@finS3',@fin_l,@resL_nil,@resL_t,@resL_c,@resV_one,@resV_two,@resV_three,@ev_t,@ev_c,@get_cons,@get_nil,@pv_some,@bin_i,@condB_b,@keep_cons,@keep_nil,@args_cons,@args_nil,@na_t,@na_f,@na_n,@norm_d,@norm_ptr,@norm_own,@norm_map,@norm_clo0,@cW_clo,@fa_fp,@ld_fp,@ldf_fp,@partD_one,@partD_t,@cells_agg,@cells_int,@cells_bool,@cells_str,@cells_lst,@lenL_lst,@lenL_own,@lenL_tl,@ext_tup,@pick_b,@un_not,@norm_tl0,@conv_i,@quiet_refl,@st_2,@frz_2,@kill_2,@resV_nil,@nat1_0,@nat1_lt1,@nat1_lt0,@nat1_ge0,@nat1_ge1,@ld_one,@ld_whole,@ld_whole2,@st_hd,@finS1m,@finS2m,@finS3m,@finS1c,@finS2c,@finS3c,@finS1cc,@finS_nil,@bin_s_eq,@bin_s_ne,@lenS_str,@un_neg,@nat_neg,@nat_nn,@binB_eq,@binB_ne,@nilck_ptr,@nilck_fp,@fa_ptr,@partV_one,@stor_d,@stor_own,@stor_ptr,@stor_tl,@stor_agg,@stor_clo,@stor_map,@vcells_d,@vcells_agg,@vcells_own,@vcells_ptr,@vcells_tl,@vcells_clo,@vcells_map,@lay_nil,@lay_cons,@mkAgg1,@mkAgg2,@mkAgg3,@mkAgg4,@mkAgg5,@mkAgg6,@mkAgg_own,@mkAgg_ptr,@mkAgg_tl,@mkAgg_map,@mkAgg_clo,@mkAgg_d_own,@mkAgg_dd_own,@mkAgg_d_tl,@mkAgg_dd_tl,@killX_ptr,@killX_own,@killX_fp,@killX_d,@killX_undef,@killX_tup,@kill_hd,@frz_hd,@set_hd,@row_hd,@alloc_mk,@alloc_eq,@nilBin_ptr,@nilBin_nil,@V.d.injEq,@D.bool.injEq,@D.int.injEq,@D.lst.injEq,@D.agg.injEq,@D.str.injEq⟩
def runL {α S:Type} (stp:Nat→S→α→Out ⊕ S) (fin:S→Out):Nat→List α→S→Out
 |_,[],s=>fin s
 |n,x::l,s=>match stp n s x with
  | .inl o=>o
  | .inr s'=>runL stp fin (n+1) l s'
theorem loop_gen {T:Tab} {a:AC} {α S:Type} (l:List α) (env:Nat→S→Env) (hp:Nat→S→Hp) (I:Nat→S→Prop) (stp:Nat→S→α→Out ⊕ S) (fin:S→Out)
  (h1:∀ n s x,l[n]? = some x→I n s→match stp n s x with
   | .inl o=>ex T a (env n s) (hp n s)=some o∧o.1≠.norm
   | .inr s'=>ex T a (env n s) (hp n s)=some (.norm,env (n+1) s',hp (n+1) s')∧I (n+1) s')
  (h2:∀ s,I l.length s→ex T a (env l.length s) (hp l.length s)=some (fin s)∧(fin s).1≠.norm) :
  ∀ (k n:Nat) (s:S),n+k=l.length→I n s→ex T (.loop a) (env n s) (hp n s)=some (runL stp fin n (l.drop n) s):=by
 have stop:∀ {e:Env} {h:Hp} {o:Out},ex T a e h=some o→o.1≠.norm→ex T (.loop a) e h=some o:=by
  intro e h o H ho
  rw[ex_loop,H,Option.bind_some]
  obtain ⟨x,e',h'⟩:=o
  cases x with
  |norm=>exact absurd rfl ho
  |exit i=>rfl
  |ret=>rfl
 intro k
 induction k with
 |zero=>
  intro n s hn hI
  have:n=l.length:=by omega
  subst this
  rw[List.drop_length]
  exact stop (h2 s hI).1 (h2 s hI).2
 |succ k ih=>
  intro n s hn hI
  have hlt:n<l.length:=by omega
  have hd:l.drop n=l[n]::l.drop (n+1):=List.drop_eq_getElem_cons hlt
  rw[hd]
  have hs:=h1 n s l[n] (List.getElem?_eq_getElem hlt) hI
  show _=some (match stp n s l[n] with | .inl o=>o | .inr s'=>runL stp fin (n+1) (l.drop (n+1)) s')
  cases hq:stp n s l[n] with
  |inl o=>rw[hq] at hs;exact stop hs.1 hs.2
  |inr s'=>
   rw[hq] at hs
   rw[ex_loop,hs.1,Option.bind_some,nxt_n]
   exact ih (n+1) s' (by omega) hs.2
theorem loop_any {T:Tab} {a:AC} {α:Type} {l:List α} {p:α→Bool} {f:Nat→Env} {h:Hp} {o oN:Out}
  (hs:∀ n x,l[n]? = some x→n<l.length→p x=false→ex T a (f n) h=some (.norm,f (n+1),h))
  (hx:∀ n x,l[n]? = some x→n<l.length→p x=true→ex T a (f n) h=some o)
  (hN:ex T a (f l.length) h=some oN) (ho:o.1≠.norm) (hoN:oN.1≠.norm) :
  ex T (.loop a) (f 0) h=some (if l.any p=true then o else oN):=by
 have:=loop_gen (T:=T) (a:=a) l (fun n (_:Unit)=>f n) (fun _ _=>h) (fun _ _=>True) (fun _ _ x=>if p x=true then .inl o else .inr ()) (fun _=>oN)
  (by
   intro n s x hn _
   have hlt:n<l.length:=by
    rw[List.getElem?_eq_some_iff] at hn;exact hn.1
   cases hp:p x with
   |true=>exact⟨hx n x hn hlt hp,ho⟩
   |false=>exact⟨hs n x hn hlt hp,trivial⟩)
  (fun _ _=>⟨hN,hoN⟩) l.length 0 () (by omega) trivial
 rw[this,List.drop_zero]
 congr 1
 clear this hs hx hN
 have:∀ (m:List α) (n:Nat),runL (fun _ (_:Unit) x=>if p x=true then .inl o else .inr ()) (fun _=>oN) n m ()=if m.any p=true then o else oN:=by
  intro m
  induction m with
  |nil=>intro n;rfl
  |cons x m ih=>
   intro n
   cases hp:p x with
   |true=>simp[runL,hp]
   |false=>simp only[runL,hp,Bool.false_eq_true,if_false,List.any_cons,Bool.false_or];exact ih _
 exact this l 0
def fst? {α:Type} (p:α→Bool):Nat→List α→Option (Nat × α)
 |_,[]=>none
 |n,x::l=>if p x=true then some (n,x) else fst? p (n+1) l
theorem fst_some {α:Type} {p:α→Bool}:∀ {l:List α} {k n:Nat} {x:α},fst? p k l=some (n,x)→k≤n∧l[n - k]? = some x∧p x=true∧∀ m y,k≤m→m<n→l[m - k]? = some y→p y=false
 | [],_,_,_,h=>by cases h
 |a::l,k,n,x,h=>by
  unfold fst? at h
  by_cases hp:p a=true
  ·rw[if_pos hp] at h
   cases h
   exact⟨Nat.le_refl _,by simp,hp,fun m y h1 h2=>by omega⟩
  ·rw[if_neg hp] at h
   obtain ⟨h1,h2,h3,h4⟩:=fst_some h
   have e:n - k=(n - (k+1))+1:=by omega
   refine ⟨by omega,by rw[e];exact h2,h3,fun m y k1 k2 k3=>?_⟩
   by_cases hm:m=k
   ·subst hm
    simp at k3
    subst k3
    simpa using hp
   ·refine h4 m y (by omega) k2 ?_
    have e:m - k=(m - (k+1))+1:=by omega
    rw[e] at k3
    simpa using k3
theorem fst_none {α:Type} {p:α→Bool}:∀ {l:List α} {k:Nat},fst? p k l=none ↔ l.any p=false
 | [],_=>by simp[fst?]
 |a::l,k=>by
  unfold fst?
  by_cases hp:p a=true
  ·rw[if_pos hp];simp[hp]
  ·rw[if_neg hp,fst_none];simp[hp]
theorem loop_find {T:Tab} {a:AC} {α:Type} {l:List α} {p:α→Bool} {f:Nat→Env} {h:Hp} {o:Nat→α→Out} {oN:Out}
  (hs:∀ n x,l[n]? = some x→n<l.length→p x=false→ex T a (f n) h=some (.norm,f (n+1),h))
  (hx:∀ n x,l[n]? = some x→n<l.length→p x=true→ex T a (f n) h=some (o n x))
  (hN:ex T a (f l.length) h=some oN) (ho:∀ n x,(o n x).1≠.norm) (hoN:oN.1≠.norm) :
  ex T (.loop a) (f 0) h=some (match fst? p 0 l with | some (n,x)=>o n x | none=>oN):=by
 have:=loop_gen (T:=T) (a:=a) l (fun n (_:Unit)=>f n) (fun _ _=>h) (fun _ _=>True) (fun n _ x=>if p x=true then .inl (o n x) else .inr ()) (fun _=>oN)
  (by
   intro n s x hn _
   have hlt:n<l.length:=by
    rw[List.getElem?_eq_some_iff] at hn;exact hn.1
   cases hp:p x with
   |true=>exact⟨hx n x hn hlt hp,ho n x⟩
   |false=>exact⟨hs n x hn hlt hp,trivial⟩)
  (fun _ _=>⟨hN,hoN⟩) l.length 0 () (by omega) trivial
 rw[this,List.drop_zero]
 congr 1
 clear this hs hx hN
 have:∀ (m:List α) (n:Nat),runL (fun n (_:Unit) x=>if p x=true then .inl (o n x) else .inr ()) (fun _=>oN) n m ()=match fst? p n m with | some (n,x)=>o n x | none=>oN:=by
  intro m
  induction m with
  |nil=>intro n;rfl
  |cons x m ih=>
   intro n
   cases hp:p x with
   |true=>simp[runL,fst?,hp]
   |false=>
    simp only[runL,fst?,hp,Bool.false_eq_true,if_false]
    exact ih _
 exact this l 0
theorem loop_fold {T:Tab} {a:AC} {α S:Type} {l:List α} (env:Nat→S→Env) (hp:Nat→S→Hp) (I:Nat→S→Prop) (stp:S→α→S) (fin:S→Out)
  (h1:∀ n s x,l[n]? = some x→n<l.length→I n s→ex T a (env n s) (hp n s)=some (.norm,env (n+1) (stp s x),hp (n+1) (stp s x))∧I (n+1) (stp s x))
  (h2:∀ s,I l.length s→ex T a (env l.length s) (hp l.length s)=some (fin s)) (h3:∀ s,(fin s).1≠.norm) (s:S) (hI:I 0 s) :
  ex T (.loop a) (env 0 s) (hp 0 s)=some (fin (l.foldl stp s)):=by
 have:=loop_gen (T:=T) (a:=a) l env hp I (fun _ s x=>.inr (stp s x)) fin
  (by
   intro n s x hn hI
   have hlt:n<l.length:=by
    rw[List.getElem?_eq_some_iff] at hn;exact hn.1
   exact h1 n s x hn hlt hI)
  (fun s hs=>⟨h2 s hs,h3 s⟩) l.length 0 s (by omega) hI
 rw[this,List.drop_zero]
 congr 1
 clear this h1 h2 hI
 have:∀ (m:List α) (n:Nat) (s:S),runL (fun _ s x=>.inr (stp s x)) fin n m s=fin (m.foldl stp s):=by
  intro m
  induction m with
  |nil=>intro n s;rfl
  |cons x m ih=>intro n s;exact ih (n+1) (stp s x)
 exact this l 0 s
theorem ia_map {α:Type} {f:α→D} {es:Nat} {l:List α} {n:Nat} {x:α} (k:IntKind) (hx:l[n]? = some x) (hc:(f x).cells.length=es):ia es (.d (.lst (l.map f))) (.d (.int k (n:Int)))=some (.fp (f x) 0):=
 ia_at k (by rw[List.getElem?_map,hx];rfl) hc
def idxZ {α:Type} (p:α→Bool) (l:List α):Int:=match fst? p 0 l with
 |some (n,_)=>n
 |none => -1
theorem idxZ_nn {α:Type} (p:α→Bool) (l:List α):(0≤idxZ p l)=(l.any p=true):=by
 unfold idxZ
 cases hq:fst? p 0 l with
 |none=>
  rw[fst_none] at hq
  simp only[hq,Bool.false_eq_true]
  simp
 |some y=>
  obtain ⟨n,x⟩:=y
  have:l.any p=true:=by
   by_cases ha:l.any p=true
   ·exact ha
   ·rw[fst_none.2 (by simpa using ha)] at hq;cases hq
  simp only[this]
  simp
theorem look_hd (n:Nat) (o:Ob) (r:List (Nat × Ob)):look ((n,o)::r) n=some o:=if_pos rfl
theorem look_tl {m n:Nat} (o:Ob) (r:List (Nat × Ob)) (h:n≠m):look ((m,o)::r) n=look r n:=if_neg h
theorem row_look {h:Hp} {n es tot:Nat} {els:List V} (H:look h.objs n=some (.arr es els)) (hl:els.length=tot):h.row n tot=some (es,els):=by
 unfold Hp.row Hp.get
 rw[H]
 simp[hl]
theorem loop_wp {T:Tab} {a:AC} (N:Nat) (J:Nat→Env→Hp→Prop) (Q:Out→Prop)
  (hs:∀ n e h,n<N→J n e h→wp T a e h (fun o=>(o.1=.norm∧J (n+1) o.2.1 o.2.2)∨(o.1≠.norm∧Q o)))
  (hN:∀ e h,J N e h→wp T a e h (fun o=>o.1≠.norm∧Q o)) :
  ∀ (k n:Nat) (e:Env) (h:Hp),n+k=N→J n e h→wp T (.loop a) e h Q:=by
 intro k
 induction k with
 |zero=>
  intro n e h hn hJ
  have:n=N:=by omega
  subst this
  obtain ⟨o,h1,h2,h3⟩:=hN e h hJ
  refine ⟨o,?_,h3⟩
  rw[ex_loop,h1,Option.bind_some]
  obtain ⟨x,e',h'⟩:=o
  cases x with
  |norm=>exact absurd rfl h2
  |exit i=>rfl
  |ret=>rfl
 |succ k ih=>
  intro n e h hn hJ
  obtain ⟨o,h1,h2⟩:=hs n e h (by omega) hJ
  obtain ⟨x,e',h'⟩:=o
  rcases h2 with ⟨h2,h3⟩ | ⟨h2,h3⟩
  ·cases h2
   obtain ⟨q,k1,k2⟩:=ih (n+1) e' h' (by omega) h3
   refine ⟨q,?_,k2⟩
   rw[ex_loop,h1,Option.bind_some,nxt_n]
   exact k1
  ·refine ⟨(x,e',h'),?_,h3⟩
   rw[ex_loop,h1,Option.bind_some]
   cases x with
   |norm=>exact absurd rfl h2
   |exit i=>rfl
   |ret=>rfl
theorem loop_anyq {T:Tab} {a:AC} {α:Type} {l:List α} {p:α→Bool} {f:Nat→Env} {h:Hp} {x1 x2:Ex} {e1 e2:Env}
  (hs:∀ q n x,l[n]? = some x→n<l.length→p x=false→wp T a (f n) ⟨h.objs,q⟩ (fun o=>∃ q',o=(.norm,f (n+1),⟨h.objs,q'⟩)))
  (hx:∀ q n x,l[n]? = some x→n<l.length→p x=true→wp T a (f n) ⟨h.objs,q⟩ (fun o=>∃ q',o=(x1,e1,⟨h.objs,q'⟩)))
  (hN:∀ q,wp T a (f l.length) ⟨h.objs,q⟩ (fun o=>∃ q',o=(x2,e2,⟨h.objs,q'⟩))) (ho:x1≠.norm) (hoN:x2≠.norm) :
  ∃ q',ex T (.loop a) (f 0) h=some (if l.any p=true then (x1,e1,⟨h.objs,q'⟩) else (x2,e2,⟨h.objs,q'⟩)):=by
 obtain ⟨o,h1,q,h2⟩:wp T (.loop a) (f 0) h (fun o=>∃ q',o=if l.any p=true then (x1,e1,⟨h.objs,q'⟩) else (x2,e2,⟨h.objs,q'⟩)):=by
  refine loop_wp l.length (fun n e h'=>(∃ q,h'=⟨h.objs,q⟩)∧e=f n∧∀ i x,i<n→l[i]? = some x→p x=false) _ ?_ ?_ l.length 0 _ _ (by omega) ⟨⟨h.next,rfl⟩,rfl,fun i x hi=>by omega⟩
  ·rintro n e h' hn ⟨⟨q,rfl⟩,rfl,hk⟩
   have hx':l[n]? = some l[n]:=List.getElem?_eq_getElem hn
   cases hp:p l[n] with
   |true=>
    obtain ⟨o,hq,q',rfl⟩:=hx q n _ hx' hn hp
    have:l.any p=true:=List.any_eq_true.2 ⟨_,List.getElem_mem hn,hp⟩
    rw[this]
    exact⟨_,hq,.inr ⟨ho,q',rfl⟩⟩
   |false=>
    obtain ⟨o,hq,q',rfl⟩:=hs q n _ hx' hn hp
    refine ⟨_,hq,.inl ⟨rfl,⟨q',rfl⟩,rfl,fun i x hi hxi=>?_⟩⟩
    by_cases hij:i=n
    ·subst hij;rw[hx'] at hxi;cases hxi;exact hp
    ·exact hk i x (by omega) hxi
  ·rintro e h' ⟨⟨q,rfl⟩,rfl,hk⟩
   have:l.any p=false:=by
    rw[←Bool.not_eq_true,List.any_eq_true]
    rintro ⟨x,hx,hp⟩
    obtain ⟨i,hi1,hi2⟩:=List.getElem_of_mem hx
    rw[hk i x hi1 (by rw[List.getElem?_eq_getElem hi1,hi2])] at hp
    cases hp
   rw[this]
   obtain ⟨o,hq,q',rfl⟩:=hN q
   exact⟨_,hq,hoN,q',rfl⟩
 exact⟨q,by rw[h1,h2]⟩
theorem wq_loop (T:Tab) (a:AC) (e:Env) (h:Hp) (Q:Out→Prop):wp T (.loop a) e h Q=wp T a e h (seqQ T (.loop a) Q):=by
 rw[←wq_seq]
 apply propext
 unfold wp
 rw[ex_loop,ex_seq]
theorem an {a b:Prop} (x:a) (y:b):a∧b:=⟨x,y⟩
def qz:=PLift.up (an ws (an wsl (an int.eq_1 Zv.bool.eq_1)))
theorem wz:type_of% qz.down:=qz.down
def qq:=PLift.up (an @decide_eq_true_eq (an @decide_eq_false_iff_not (an @Bool.not_eq_true' @Bool.not_eq_false')))
theorem dq:type_of% qq.down:=qq.down
def qi:=PLift.up (an It.m.eq_1 (an It.u.eq_1 (an It.g.eq_1 (an Opd.f.eq_1 (an Opd.i.eq_1 Opd.b.eq_1)))))
theorem itE:type_of% qi.down:=qi.down
theorem rgE {f:AC} {i:List It} {k:Option (List Nat)} (hf:f=.reg i k) (T:Tab) (e:Env) (h:Hp) (Q:Out→Prop):wp T f e h Q=wpI (cW T) i e h (regQ k Q):=by subst hf;exact wq_reg ..
theorem bdE {f g:AC} (hf:f=g) (T:Tab) (e:Env) (h:Hp) (Q:Out→Prop):wp T f e h Q=wp T g e h Q:=by subst hf;rfl
end Zs
end
section
namespace Zc28
open Go Zv Zs
variable (T:Tab) (e:Env) (h:Hp) (Q:Out→Prop)
def q3:=PLift.up <| an f3.eq_1 <| an (bdE b3.eq_1) <| an (rgE f3r0.eq_1) <| an (rgE f3r1.eq_1) <| an (rgE f3r2.eq_1) <| an (rgE f3r3.eq_1) <| an (rgE f3r4.eq_1) <| an (rgE f3r5.eq_1) <| an i3r0.eq_1 <| an i3r1.eq_1 <| an i3r2.eq_1 <| an i3r3.eq_1 <| an i3r4.eq_1 <| an i3r5.eq_1 <| itE
theorem e3:type_of% q3.down:=q3.down
def q4:=PLift.up <| an f4.eq_1 <| an (bdE b4.eq_1) <| an (rgE f4r0.eq_1) <| an (rgE f4r1.eq_1) <| an (rgE f4r2.eq_1) <| an (rgE f4r3.eq_1) <| an (rgE f4r4.eq_1) <| an i4r0.eq_1 <| an i4r1.eq_1 <| an i4r2.eq_1 <| an i4r3.eq_1 <| an i4r4.eq_1 <| itE
theorem e4:type_of% q4.down:=q4.down
def q5:=PLift.up <| an f5.eq_1 <| an (bdE b5.eq_1) <| an (rgE f5r0.eq_1) <| an (rgE f5r1.eq_1) <| an (rgE f5r2.eq_1) <| an (rgE f5r3.eq_1) <| an (rgE f5r4.eq_1) <| an (rgE f5r5.eq_1) <| an (rgE f5r6.eq_1) <| an (rgE f5r7.eq_1) <| an (rgE f5r8.eq_1) <| an (rgE f5r9.eq_1) <| an (rgE f5r10.eq_1) <| an (rgE f5r11.eq_1) <| an (rgE f5r12.eq_1) <| an (rgE f5r13.eq_1) <| an (rgE f5r14.eq_1) <| an (rgE f5r15.eq_1) <| an (rgE f5r16.eq_1) <| an (rgE f5r17.eq_1) <| an (rgE f5r18.eq_1) <| an (rgE f5r19.eq_1) <| an (rgE f5r20.eq_1) <| an (rgE f5r21.eq_1) <| an (rgE f5r22.eq_1) <| an (rgE f5r23.eq_1) <| an (rgE f5r24.eq_1) <| an (rgE f5r25.eq_1) <| an (rgE f5r26.eq_1) <| an (rgE f5r27.eq_1) <| an (bdE f5l0.eq_1) <| an (rgE f5r28.eq_1) <| an (bdE f5l1.eq_1) <| an (rgE f5r29.eq_1) <| an (bdE f5l2.eq_1) <| an (rgE f5r30.eq_1) <| an (rgE f5r31.eq_1) <| an (rgE f5r32.eq_1) <| an (rgE f5r33.eq_1) <| an (rgE f5r34.eq_1) <| an (rgE f5r35.eq_1) <| an (bdE f5l3.eq_1) <| an (rgE f5r36.eq_1) <| an i5r0.eq_1 <| an i5r1.eq_1 <| an i5r2.eq_1 <| an i5r3.eq_1 <| an i5r4.eq_1 <| an i5r5.eq_1 <| an i5r6.eq_1 <| an i5r7.eq_1 <| an i5r8.eq_1 <| an i5r9.eq_1 <| an i5r10.eq_1 <| an i5r11.eq_1 <| an i5r12.eq_1 <| an i5r13.eq_1 <| an i5r14.eq_1 <| an i5r15.eq_1 <| an i5r16.eq_1 <| an i5r17.eq_1 <| an i5r18.eq_1 <| an i5r19.eq_1 <| an i5r20.eq_1 <| an i5r21.eq_1 <| an i5r22.eq_1 <| an i5r23.eq_1 <| an i5r24.eq_1 <| an i5r25.eq_1 <| an i5r26.eq_1 <| an i5r27.eq_1 <| an i5r28.eq_1 <| an i5r29.eq_1 <| an i5r30.eq_1 <| an i5r31.eq_1 <| an i5r32.eq_1 <| an i5r33.eq_1 <| an i5r34.eq_1 <| an i5r35.eq_1 <| an i5r36.eq_1 <| itE
theorem e5:type_of% q5.down:=q5.down
def q6:=PLift.up <| an f6.eq_1 <| an (bdE b6.eq_1) <| an (rgE f6r0.eq_1) <| an (rgE f6r1.eq_1) <| an (rgE f6r2.eq_1) <| an (rgE f6r3.eq_1) <| an (rgE f6r4.eq_1) <| an (rgE f6r5.eq_1) <| an i6r0.eq_1 <| an i6r1.eq_1 <| an i6r2.eq_1 <| an i6r3.eq_1 <| an i6r4.eq_1 <| an i6r5.eq_1 <| itE
theorem e6:type_of% q6.down:=q6.down
def q9:=PLift.up <| an f9.eq_1 <| an (bdE b9.eq_1) <| an (rgE f9r0.eq_1) <| an (rgE f9r1.eq_1) <| an (rgE f9r2.eq_1) <| an (rgE f9r3.eq_1) <| an (rgE f9r4.eq_1) <| an (rgE f9r5.eq_1) <| an (rgE f9r6.eq_1) <| an (rgE f9r7.eq_1) <| an (rgE f9r8.eq_1) <| an (bdE f9l0.eq_1) <| an (rgE f9r9.eq_1) <| an i9r0.eq_1 <| an i9r1.eq_1 <| an i9r2.eq_1 <| an i9r3.eq_1 <| an i9r4.eq_1 <| an i9r5.eq_1 <| an i9r6.eq_1 <| an i9r7.eq_1 <| an i9r8.eq_1 <| an i9r9.eq_1 <| itE
theorem e9:type_of% q9.down:=q9.down
def q11:=PLift.up <| an f11.eq_1 <| an (bdE b11.eq_1) <| an (rgE f11r0.eq_1) <| an (rgE f11r1.eq_1) <| an (rgE f11r2.eq_1) <| an (rgE f11r3.eq_1) <| an (rgE f11r4.eq_1) <| an (rgE f11r5.eq_1) <| an (rgE f11r6.eq_1) <| an (rgE f11r7.eq_1) <| an (rgE f11r8.eq_1) <| an (rgE f11r9.eq_1) <| an (rgE f11r10.eq_1) <| an (rgE f11r11.eq_1) <| an (rgE f11r12.eq_1) <| an (rgE f11r13.eq_1) <| an (rgE f11r14.eq_1) <| an (rgE f11r15.eq_1) <| an (bdE f11l0.eq_1) <| an (rgE f11r16.eq_1) <| an (rgE f11r17.eq_1) <| an (rgE f11r18.eq_1) <| an (rgE f11r19.eq_1) <| an (rgE f11r20.eq_1) <| an (rgE f11r21.eq_1) <| an (bdE f11l1.eq_1) <| an (rgE f11r22.eq_1) <| an (rgE f11r23.eq_1) <| an (rgE f11r24.eq_1) <| an (rgE f11r25.eq_1) <| an i11r0.eq_1 <| an i11r1.eq_1 <| an i11r2.eq_1 <| an i11r3.eq_1 <| an i11r4.eq_1 <| an i11r5.eq_1 <| an i11r6.eq_1 <| an i11r7.eq_1 <| an i11r8.eq_1 <| an i11r9.eq_1 <| an i11r10.eq_1 <| an i11r11.eq_1 <| an i11r12.eq_1 <| an i11r13.eq_1 <| an i11r14.eq_1 <| an i11r15.eq_1 <| an i11r16.eq_1 <| an i11r17.eq_1 <| an i11r18.eq_1 <| an i11r19.eq_1 <| an i11r20.eq_1 <| an i11r21.eq_1 <| an i11r22.eq_1 <| an i11r23.eq_1 <| an i11r24.eq_1 <| an i11r25.eq_1 <| itE
theorem e11:type_of% q11.down:=q11.down
def q12:=PLift.up <| an f12.eq_1 <| an (bdE b12.eq_1) <| an (rgE f12r0.eq_1) <| an (rgE f12r1.eq_1) <| an (rgE f12r2.eq_1) <| an (rgE f12r3.eq_1) <| an (rgE f12r4.eq_1) <| an (rgE f12r5.eq_1) <| an (rgE f12r6.eq_1) <| an (rgE f12r7.eq_1) <| an (rgE f12r8.eq_1) <| an (rgE f12r9.eq_1) <| an (rgE f12r10.eq_1) <| an (bdE f12l0.eq_1) <| an (rgE f12r11.eq_1) <| an (rgE f12r12.eq_1) <| an (bdE f12l1.eq_1) <| an (rgE f12r13.eq_1) <| an i12r0.eq_1 <| an i12r1.eq_1 <| an i12r2.eq_1 <| an i12r3.eq_1 <| an i12r4.eq_1 <| an i12r5.eq_1 <| an i12r6.eq_1 <| an i12r7.eq_1 <| an i12r8.eq_1 <| an i12r9.eq_1 <| an i12r10.eq_1 <| an i12r11.eq_1 <| an i12r12.eq_1 <| an i12r13.eq_1 <| itE
theorem e12:type_of% q12.down:=q12.down
def q18:=PLift.up <| an f18.eq_1 <| an (bdE b18.eq_1) <| an (rgE f18r0.eq_1) <| an (rgE f18r1.eq_1) <| an (rgE f18r2.eq_1) <| an (rgE f18r3.eq_1) <| an (rgE f18r4.eq_1) <| an (rgE f18r5.eq_1) <| an (bdE a18q0.eq_1) <| an (bdE d18q0.eq_1) <| an (rgE f18r6.eq_1) <| an i18r0.eq_1 <| an i18r1.eq_1 <| an i18r2.eq_1 <| an i18r3.eq_1 <| an i18r4.eq_1 <| an i18r5.eq_1 <| an i18r6.eq_1 <| itE
theorem e18:type_of% q18.down:=q18.down
def q21:=PLift.up <| an f21.eq_1 <| an (bdE b21.eq_1) <| an (rgE f21r0.eq_1) <| an (rgE f21r1.eq_1) <| an (rgE f21r2.eq_1) <| an (rgE f21r3.eq_1) <| an (rgE f21r4.eq_1) <| an (rgE f21r5.eq_1) <| an (rgE f21r6.eq_1) <| an (rgE f21r7.eq_1) <| an (rgE f21r8.eq_1) <| an (bdE f21l0.eq_1) <| an (rgE f21r9.eq_1) <| an i21r0.eq_1 <| an i21r1.eq_1 <| an i21r2.eq_1 <| an i21r3.eq_1 <| an i21r4.eq_1 <| an i21r5.eq_1 <| an i21r6.eq_1 <| an i21r7.eq_1 <| an i21r8.eq_1 <| an i21r9.eq_1 <| itE
theorem e21:type_of% q21.down:=q21.down
def q22:=PLift.up <| an f22.eq_1 <| an (bdE b22.eq_1) <| an (rgE f22r0.eq_1) <| an (rgE f22r1.eq_1) <| an (rgE f22r2.eq_1) <| an (rgE f22r3.eq_1) <| an (rgE f22r4.eq_1) <| an (rgE f22r5.eq_1) <| an (rgE f22r6.eq_1) <| an (rgE f22r7.eq_1) <| an (rgE f22r8.eq_1) <| an (rgE f22r9.eq_1) <| an (rgE f22r10.eq_1) <| an (rgE f22r11.eq_1) <| an (rgE f22r12.eq_1) <| an (rgE f22r13.eq_1) <| an (rgE f22r14.eq_1) <| an (rgE f22r15.eq_1) <| an (bdE f22l0.eq_1) <| an (rgE f22r16.eq_1) <| an (bdE f22l1.eq_1) <| an (rgE f22r17.eq_1) <| an (rgE f22r18.eq_1) <| an (rgE f22r19.eq_1) <| an i22r0.eq_1 <| an i22r1.eq_1 <| an i22r2.eq_1 <| an i22r3.eq_1 <| an i22r4.eq_1 <| an i22r5.eq_1 <| an i22r6.eq_1 <| an i22r7.eq_1 <| an i22r8.eq_1 <| an i22r9.eq_1 <| an i22r10.eq_1 <| an i22r11.eq_1 <| an i22r12.eq_1 <| an i22r13.eq_1 <| an i22r14.eq_1 <| an i22r15.eq_1 <| an i22r16.eq_1 <| an i22r17.eq_1 <| an i22r18.eq_1 <| an i22r19.eq_1 <| itE
theorem e22:type_of% q22.down:=q22.down
def q23:=PLift.up <| an f23.eq_1 <| an (bdE b23.eq_1) <| an (rgE f23r0.eq_1) <| an (rgE f23r1.eq_1) <| an (rgE f23r2.eq_1) <| an (rgE f23r3.eq_1) <| an (rgE f23r4.eq_1) <| an (rgE f23r5.eq_1) <| an (rgE f23r6.eq_1) <| an (rgE f23r7.eq_1) <| an (rgE f23r8.eq_1) <| an (rgE f23r9.eq_1) <| an (rgE f23r10.eq_1) <| an (bdE f23l0.eq_1) <| an (rgE f23r11.eq_1) <| an i23r0.eq_1 <| an i23r1.eq_1 <| an i23r2.eq_1 <| an i23r3.eq_1 <| an i23r4.eq_1 <| an i23r5.eq_1 <| an i23r6.eq_1 <| an i23r7.eq_1 <| an i23r8.eq_1 <| an i23r9.eq_1 <| an i23r10.eq_1 <| an i23r11.eq_1 <| itE
theorem e23:type_of% q23.down:=q23.down
def q24:=PLift.up <| an f24.eq_1 <| an (bdE b24.eq_1) <| an (rgE f24r0.eq_1) <| an (rgE f24r1.eq_1) <| an i24r0.eq_1 <| an i24r1.eq_1 <| itE
theorem e24:type_of% q24.down:=q24.down
def q27:=PLift.up <| an f27.eq_1 <| an (bdE b27.eq_1) <| an (rgE f27r0.eq_1) <| an (rgE f27r1.eq_1) <| an (rgE f27r2.eq_1) <| an (rgE f27r3.eq_1) <| an (rgE f27r4.eq_1) <| an (rgE f27r5.eq_1) <| an (rgE f27r6.eq_1) <| an (rgE f27r7.eq_1) <| an (rgE f27r8.eq_1) <| an (rgE f27r9.eq_1) <| an (bdE f27l0.eq_1) <| an (rgE f27r10.eq_1) <| an (bdE f27l1.eq_1) <| an (rgE f27r11.eq_1) <| an i27r0.eq_1 <| an i27r1.eq_1 <| an i27r2.eq_1 <| an i27r3.eq_1 <| an i27r4.eq_1 <| an i27r5.eq_1 <| an i27r6.eq_1 <| an i27r7.eq_1 <| an i27r8.eq_1 <| an i27r9.eq_1 <| an i27r10.eq_1 <| an i27r11.eq_1 <| itE
theorem e27:type_of% q27.down:=q27.down
def q32:=PLift.up <| an f32.eq_1 <| an (bdE b32.eq_1) <| an (rgE f32r0.eq_1) <| an (rgE f32r1.eq_1) <| an (rgE f32r2.eq_1) <| an (rgE f32r3.eq_1) <| an (rgE f32r4.eq_1) <| an (rgE f32r5.eq_1) <| an (rgE f32r6.eq_1) <| an (rgE f32r7.eq_1) <| an (rgE f32r8.eq_1) <| an (bdE f32l0.eq_1) <| an (rgE f32r9.eq_1) <| an i32r0.eq_1 <| an i32r1.eq_1 <| an i32r2.eq_1 <| an i32r3.eq_1 <| an i32r4.eq_1 <| an i32r5.eq_1 <| an i32r6.eq_1 <| an i32r7.eq_1 <| an i32r8.eq_1 <| an i32r9.eq_1 <| itE
theorem e32:type_of% q32.down:=q32.down
def q35:=PLift.up <| an f35.eq_1 <| an (bdE b35.eq_1) <| an (rgE f35r0.eq_1) <| an (rgE f35r1.eq_1) <| an (rgE f35r2.eq_1) <| an (rgE f35r3.eq_1) <| an (rgE f35r4.eq_1) <| an (rgE f35r5.eq_1) <| an (rgE f35r6.eq_1) <| an (rgE f35r7.eq_1) <| an (rgE f35r8.eq_1) <| an (rgE f35r9.eq_1) <| an (rgE f35r10.eq_1) <| an (rgE f35r11.eq_1) <| an (rgE f35r12.eq_1) <| an (bdE f35l0.eq_1) <| an (rgE f35r13.eq_1) <| an (rgE f35r14.eq_1) <| an (rgE f35r15.eq_1) <| an (rgE f35r16.eq_1) <| an (rgE f35r17.eq_1) <| an (rgE f35r18.eq_1) <| an (rgE f35r19.eq_1) <| an (rgE f35r20.eq_1) <| an (rgE f35r21.eq_1) <| an (rgE f35r22.eq_1) <| an (rgE f35r23.eq_1) <| an (bdE f35l1.eq_1) <| an (rgE f35r24.eq_1) <| an (bdE f35l2.eq_1) <| an (rgE f35r25.eq_1) <| an i35r0.eq_1 <| an i35r1.eq_1 <| an i35r2.eq_1 <| an i35r3.eq_1 <| an i35r4.eq_1 <| an i35r5.eq_1 <| an i35r6.eq_1 <| an i35r7.eq_1 <| an i35r8.eq_1 <| an i35r9.eq_1 <| an i35r10.eq_1 <| an i35r11.eq_1 <| an i35r12.eq_1 <| an i35r13.eq_1 <| an i35r14.eq_1 <| an i35r15.eq_1 <| an i35r16.eq_1 <| an i35r17.eq_1 <| an i35r18.eq_1 <| an i35r19.eq_1 <| an i35r20.eq_1 <| an i35r21.eq_1 <| an i35r22.eq_1 <| an i35r23.eq_1 <| an i35r24.eq_1 <| an i35r25.eq_1 <| itE
theorem e35:type_of% q35.down:=q35.down
def q36:=PLift.up <| an f36.eq_1 <| an (bdE b36.eq_1) <| an (rgE f36r0.eq_1) <| an (rgE f36r1.eq_1) <| an (rgE f36r2.eq_1) <| an (rgE f36r3.eq_1) <| an (rgE f36r4.eq_1) <| an (rgE f36r5.eq_1) <| an i36r0.eq_1 <| an i36r1.eq_1 <| an i36r2.eq_1 <| an i36r3.eq_1 <| an i36r4.eq_1 <| an i36r5.eq_1 <| itE
theorem e36:type_of% q36.down:=q36.down
def q37:=PLift.up <| an f37.eq_1 <| an (bdE b37.eq_1) <| an (rgE f37r0.eq_1) <| an (rgE f37r1.eq_1) <| an (rgE f37r2.eq_1) <| an (rgE f37r3.eq_1) <| an (rgE f37r4.eq_1) <| an (rgE f37r5.eq_1) <| an (rgE f37r6.eq_1) <| an (rgE f37r7.eq_1) <| an (rgE f37r8.eq_1) <| an (rgE f37r9.eq_1) <| an (rgE f37r10.eq_1) <| an (rgE f37r11.eq_1) <| an (rgE f37r12.eq_1) <| an (rgE f37r13.eq_1) <| an (rgE f37r14.eq_1) <| an (rgE f37r15.eq_1) <| an (rgE f37r16.eq_1) <| an (rgE f37r17.eq_1) <| an (rgE f37r18.eq_1) <| an (rgE f37r19.eq_1) <| an (bdE f37l0.eq_1) <| an (rgE f37r20.eq_1) <| an (rgE f37r21.eq_1) <| an (rgE f37r22.eq_1) <| an (rgE f37r23.eq_1) <| an (rgE f37r24.eq_1) <| an (rgE f37r25.eq_1) <| an (rgE f37r26.eq_1) <| an (rgE f37r27.eq_1) <| an (bdE f37l1.eq_1) <| an (rgE f37r28.eq_1) <| an (rgE f37r29.eq_1) <| an (bdE f37l2.eq_1) <| an (rgE f37r30.eq_1) <| an (rgE f37r31.eq_1) <| an (rgE f37r32.eq_1) <| an (rgE f37r33.eq_1) <| an (rgE f37r34.eq_1) <| an (rgE f37r35.eq_1) <| an (rgE f37r36.eq_1) <| an (rgE f37r37.eq_1) <| an (rgE f37r38.eq_1) <| an (rgE f37r39.eq_1) <| an (rgE f37r40.eq_1) <| an (bdE f37l3.eq_1) <| an (rgE f37r41.eq_1) <| an (rgE f37r42.eq_1) <| an (rgE f37r43.eq_1) <| an (rgE f37r44.eq_1) <| an i37r0.eq_1 <| an i37r1.eq_1 <| an i37r2.eq_1 <| an i37r3.eq_1 <| an i37r4.eq_1 <| an i37r5.eq_1 <| an i37r6.eq_1 <| an i37r7.eq_1 <| an i37r8.eq_1 <| an i37r9.eq_1 <| an i37r10.eq_1 <| an i37r11.eq_1 <| an i37r12.eq_1 <| an i37r13.eq_1 <| an i37r14.eq_1 <| an i37r15.eq_1 <| an i37r16.eq_1 <| an i37r17.eq_1 <| an i37r18.eq_1 <| an i37r19.eq_1 <| an i37r20.eq_1 <| an i37r21.eq_1 <| an i37r22.eq_1 <| an i37r23.eq_1 <| an i37r24.eq_1 <| an i37r25.eq_1 <| an i37r26.eq_1 <| an i37r27.eq_1 <| an i37r28.eq_1 <| an i37r29.eq_1 <| an i37r30.eq_1 <| an i37r31.eq_1 <| an i37r32.eq_1 <| an i37r33.eq_1 <| an i37r34.eq_1 <| an i37r35.eq_1 <| an i37r36.eq_1 <| an i37r37.eq_1 <| an i37r38.eq_1 <| an i37r39.eq_1 <| an i37r40.eq_1 <| an i37r41.eq_1 <| an i37r42.eq_1 <| an i37r43.eq_1 <| an i37r44.eq_1 <| itE
theorem e37:type_of% q37.down:=q37.down
def q38:=PLift.up <| an f38.eq_1 <| an (bdE b38.eq_1) <| an (rgE f38r0.eq_1) <| an (rgE f38r1.eq_1) <| an (rgE f38r2.eq_1) <| an (rgE f38r3.eq_1) <| an (rgE f38r4.eq_1) <| an (rgE f38r5.eq_1) <| an (rgE f38r6.eq_1) <| an (bdE f38l0.eq_1) <| an (rgE f38r7.eq_1) <| an i38r0.eq_1 <| an i38r1.eq_1 <| an i38r2.eq_1 <| an i38r3.eq_1 <| an i38r4.eq_1 <| an i38r5.eq_1 <| an i38r6.eq_1 <| an i38r7.eq_1 <| itE
theorem e38:type_of% q38.down:=q38.down
def q39:=PLift.up <| an f39.eq_1 <| an (bdE b39.eq_1) <| an (rgE f39r0.eq_1) <| an (rgE f39r1.eq_1) <| an i39r0.eq_1 <| an i39r1.eq_1 <| itE
theorem e39:type_of% q39.down:=q39.down
def q40:=PLift.up <| an f40.eq_1 <| an (bdE b40.eq_1) <| an (rgE f40r0.eq_1) <| an (rgE f40r1.eq_1) <| an (rgE f40r2.eq_1) <| an (rgE f40r3.eq_1) <| an i40r0.eq_1 <| an i40r1.eq_1 <| an i40r2.eq_1 <| an i40r3.eq_1 <| itE
theorem e40:type_of% q40.down:=q40.down
def q41:=PLift.up <| an f41.eq_1 <| an (bdE b41.eq_1) <| an (rgE f41r0.eq_1) <| an (rgE f41r1.eq_1) <| an i41r0.eq_1 <| an i41r1.eq_1 <| itE
theorem e41:type_of% q41.down:=q41.down
def q42:=PLift.up <| an f42.eq_1 <| an (bdE b42.eq_1) <| an (rgE f42r0.eq_1) <| an (rgE f42r1.eq_1) <| an (rgE f42r2.eq_1) <| an (rgE f42r3.eq_1) <| an (rgE f42r4.eq_1) <| an (rgE f42r5.eq_1) <| an i42r0.eq_1 <| an i42r1.eq_1 <| an i42r2.eq_1 <| an i42r3.eq_1 <| an i42r4.eq_1 <| an i42r5.eq_1 <| itE
theorem e42:type_of% q42.down:=q42.down
def q43:=PLift.up <| an f43.eq_1 <| an (bdE b43.eq_1) <| an (rgE f43r0.eq_1) <| an (rgE f43r1.eq_1) <| an i43r0.eq_1 <| an i43r1.eq_1 <| itE
theorem e43:type_of% q43.down:=q43.down
def q44:=PLift.up <| an f44.eq_1 <| an (bdE b44.eq_1) <| an (rgE f44r0.eq_1) <| an (rgE f44r1.eq_1) <| an i44r0.eq_1 <| an i44r1.eq_1 <| itE
theorem e44:type_of% q44.down:=q44.down
def q45:=PLift.up <| an f45.eq_1 <| an (bdE b45.eq_1) <| an (rgE f45r0.eq_1) <| an (rgE f45r1.eq_1) <| an (rgE f45r2.eq_1) <| an (rgE f45r3.eq_1) <| an (rgE f45r4.eq_1) <| an (rgE f45r5.eq_1) <| an (rgE f45r6.eq_1) <| an (bdE f45l0.eq_1) <| an (rgE f45r7.eq_1) <| an i45r0.eq_1 <| an i45r1.eq_1 <| an i45r2.eq_1 <| an i45r3.eq_1 <| an i45r4.eq_1 <| an i45r5.eq_1 <| an i45r6.eq_1 <| an i45r7.eq_1 <| itE
theorem e45:type_of% q45.down:=q45.down
def q52:=PLift.up <| an f52.eq_1 <| an (bdE b52.eq_1) <| an (rgE f52r0.eq_1) <| an (rgE f52r1.eq_1) <| an i52r0.eq_1 <| an i52r1.eq_1 <| itE
theorem e52:type_of% q52.down:=q52.down
def q53:=PLift.up <| an f53.eq_1 <| an (bdE b53.eq_1) <| an (rgE f53r0.eq_1) <| an (rgE f53r1.eq_1) <| an (rgE f53r2.eq_1) <| an (rgE f53r3.eq_1) <| an (rgE f53r4.eq_1) <| an (rgE f53r5.eq_1) <| an (rgE f53r6.eq_1) <| an (rgE f53r7.eq_1) <| an (rgE f53r8.eq_1) <| an (bdE f53l0.eq_1) <| an (rgE f53r9.eq_1) <| an i53r0.eq_1 <| an i53r1.eq_1 <| an i53r2.eq_1 <| an i53r3.eq_1 <| an i53r4.eq_1 <| an i53r5.eq_1 <| an i53r6.eq_1 <| an i53r7.eq_1 <| an i53r8.eq_1 <| an i53r9.eq_1 <| itE
theorem e53:type_of% q53.down:=q53.down
def q54:=PLift.up <| an f54.eq_1 <| an (bdE b54.eq_1) <| an (rgE f54r0.eq_1) <| an (rgE f54r1.eq_1) <| an (rgE f54r2.eq_1) <| an (rgE f54r3.eq_1) <| an (rgE f54r4.eq_1) <| an (rgE f54r5.eq_1) <| an (rgE f54r6.eq_1) <| an (rgE f54r7.eq_1) <| an (rgE f54r8.eq_1) <| an (rgE f54r9.eq_1) <| an (rgE f54r10.eq_1) <| an (rgE f54r11.eq_1) <| an (bdE f54l0.eq_1) <| an (rgE f54r12.eq_1) <| an i54r0.eq_1 <| an i54r1.eq_1 <| an i54r2.eq_1 <| an i54r3.eq_1 <| an i54r4.eq_1 <| an i54r5.eq_1 <| an i54r6.eq_1 <| an i54r7.eq_1 <| an i54r8.eq_1 <| an i54r9.eq_1 <| an i54r10.eq_1 <| an i54r11.eq_1 <| an i54r12.eq_1 <| itE
theorem e54:type_of% q54.down:=q54.down
def q55:=PLift.up <| an f55.eq_1 <| an (bdE b55.eq_1) <| an (rgE f55r0.eq_1) <| an (rgE f55r1.eq_1) <| an (rgE f55r2.eq_1) <| an (rgE f55r3.eq_1) <| an (rgE f55r4.eq_1) <| an (rgE f55r5.eq_1) <| an (rgE f55r6.eq_1) <| an (rgE f55r7.eq_1) <| an (rgE f55r8.eq_1) <| an (rgE f55r9.eq_1) <| an (rgE f55r10.eq_1) <| an (rgE f55r11.eq_1) <| an (rgE f55r12.eq_1) <| an (rgE f55r13.eq_1) <| an (rgE f55r14.eq_1) <| an (bdE f55l0.eq_1) <| an (rgE f55r15.eq_1) <| an (bdE f55l1.eq_1) <| an (rgE f55r16.eq_1) <| an i55r0.eq_1 <| an i55r1.eq_1 <| an i55r2.eq_1 <| an i55r3.eq_1 <| an i55r4.eq_1 <| an i55r5.eq_1 <| an i55r6.eq_1 <| an i55r7.eq_1 <| an i55r8.eq_1 <| an i55r9.eq_1 <| an i55r10.eq_1 <| an i55r11.eq_1 <| an i55r12.eq_1 <| an i55r13.eq_1 <| an i55r14.eq_1 <| an i55r15.eq_1 <| an i55r16.eq_1 <| itE
theorem e55:type_of% q55.down:=q55.down
def q56:=PLift.up <| an f56.eq_1 <| an (bdE b56.eq_1) <| an (rgE f56r0.eq_1) <| an (rgE f56r1.eq_1) <| an i56r0.eq_1 <| an i56r1.eq_1 <| itE
theorem e56:type_of% q56.down:=q56.down
def q57:=PLift.up <| an f57.eq_1 <| an (bdE b57.eq_1) <| an (rgE f57r0.eq_1) <| an (rgE f57r1.eq_1) <| an i57r0.eq_1 <| an i57r1.eq_1 <| itE
theorem e57:type_of% q57.down:=q57.down
def q58:=PLift.up <| an f58.eq_1 <| an (bdE b58.eq_1) <| an (rgE f58r0.eq_1) <| an (rgE f58r1.eq_1) <| an i58r0.eq_1 <| an i58r1.eq_1 <| itE
theorem e58:type_of% q58.down:=q58.down
def q59:=PLift.up <| an f59.eq_1 <| an (bdE b59.eq_1) <| an (rgE f59r0.eq_1) <| an (rgE f59r1.eq_1) <| an (rgE f59r2.eq_1) <| an (rgE f59r3.eq_1) <| an (rgE f59r4.eq_1) <| an (rgE f59r5.eq_1) <| an (rgE f59r6.eq_1) <| an (rgE f59r7.eq_1) <| an (rgE f59r8.eq_1) <| an (rgE f59r9.eq_1) <| an (rgE f59r10.eq_1) <| an (rgE f59r11.eq_1) <| an (rgE f59r12.eq_1) <| an (bdE f59l0.eq_1) <| an (bdE f59l1.eq_1) <| an (rgE f59r13.eq_1) <| an i59r0.eq_1 <| an i59r1.eq_1 <| an i59r2.eq_1 <| an i59r3.eq_1 <| an i59r4.eq_1 <| an i59r5.eq_1 <| an i59r6.eq_1 <| an i59r7.eq_1 <| an i59r8.eq_1 <| an i59r9.eq_1 <| an i59r10.eq_1 <| an i59r11.eq_1 <| an i59r12.eq_1 <| an i59r13.eq_1 <| itE
theorem e59:type_of% q59.down:=q59.down
def q60:=PLift.up <| an f60.eq_1 <| an (bdE b60.eq_1) <| an (rgE f60r0.eq_1) <| an (rgE f60r1.eq_1) <| an (rgE f60r2.eq_1) <| an (rgE f60r3.eq_1) <| an (rgE f60r4.eq_1) <| an (rgE f60r5.eq_1) <| an (rgE f60r6.eq_1) <| an (rgE f60r7.eq_1) <| an (rgE f60r8.eq_1) <| an (rgE f60r9.eq_1) <| an (rgE f60r10.eq_1) <| an (rgE f60r11.eq_1) <| an (rgE f60r12.eq_1) <| an (rgE f60r13.eq_1) <| an (rgE f60r14.eq_1) <| an (rgE f60r15.eq_1) <| an (rgE f60r16.eq_1) <| an (bdE a60q0.eq_1) <| an (bdE d60q0.eq_1) <| an (rgE f60r17.eq_1) <| an i60r0.eq_1 <| an i60r1.eq_1 <| an i60r2.eq_1 <| an i60r3.eq_1 <| an i60r4.eq_1 <| an i60r5.eq_1 <| an i60r6.eq_1 <| an i60r7.eq_1 <| an i60r8.eq_1 <| an i60r9.eq_1 <| an i60r10.eq_1 <| an i60r11.eq_1 <| an i60r12.eq_1 <| an i60r13.eq_1 <| an i60r14.eq_1 <| an i60r15.eq_1 <| an i60r16.eq_1 <| an i60r17.eq_1 <| itE
theorem e60:type_of% q60.down:=q60.down
def q61:=PLift.up <| an f61.eq_1 <| an (bdE b61.eq_1) <| an (rgE f61r0.eq_1) <| an (rgE f61r1.eq_1) <| an (rgE f61r2.eq_1) <| an (rgE f61r3.eq_1) <| an (rgE f61r4.eq_1) <| an (rgE f61r5.eq_1) <| an (rgE f61r6.eq_1) <| an (bdE f61l0.eq_1) <| an (rgE f61r7.eq_1) <| an i61r0.eq_1 <| an i61r1.eq_1 <| an i61r2.eq_1 <| an i61r3.eq_1 <| an i61r4.eq_1 <| an i61r5.eq_1 <| an i61r6.eq_1 <| an i61r7.eq_1 <| itE
theorem e61:type_of% q61.down:=q61.down
def q70:=PLift.up <| an f70.eq_1 <| an (bdE b70.eq_1) <| an (rgE f70r0.eq_1) <| an (rgE f70r1.eq_1) <| an i70r0.eq_1 <| an i70r1.eq_1 <| itE
theorem e70:type_of% q70.down:=q70.down
def q77:=PLift.up <| an f77.eq_1 <| an (bdE b77.eq_1) <| an (rgE f77r0.eq_1) <| an (rgE f77r1.eq_1) <| an i77r0.eq_1 <| an i77r1.eq_1 <| itE
theorem e77:type_of% q77.down:=q77.down
def q78:=PLift.up <| an f78.eq_1 <| an (bdE b78.eq_1) <| an (rgE f78r0.eq_1) <| an (rgE f78r1.eq_1) <| an i78r0.eq_1 <| an i78r1.eq_1 <| itE
theorem e78:type_of% q78.down:=q78.down
def q79:=PLift.up <| an f79.eq_1 <| an (bdE b79.eq_1) <| an (rgE f79r0.eq_1) <| an (rgE f79r1.eq_1) <| an i79r0.eq_1 <| an i79r1.eq_1 <| itE
theorem e79:type_of% q79.down:=q79.down
def q80:=PLift.up <| an f80.eq_1 <| an (bdE b80.eq_1) <| an (rgE f80r0.eq_1) <| an (rgE f80r1.eq_1) <| an i80r0.eq_1 <| an i80r1.eq_1 <| itE
theorem e80:type_of% q80.down:=q80.down
def q81:=PLift.up <| an f81.eq_1 <| an (bdE b81.eq_1) <| an (rgE f81r0.eq_1) <| an (rgE f81r1.eq_1) <| an (rgE f81r2.eq_1) <| an (rgE f81r3.eq_1) <| an (rgE f81r4.eq_1) <| an (rgE f81r5.eq_1) <| an (rgE f81r6.eq_1) <| an (rgE f81r7.eq_1) <| an (rgE f81r8.eq_1) <| an (rgE f81r9.eq_1) <| an (rgE f81r10.eq_1) <| an (rgE f81r11.eq_1) <| an (rgE f81r12.eq_1) <| an (rgE f81r13.eq_1) <| an (rgE f81r14.eq_1) <| an (rgE f81r15.eq_1) <| an (rgE f81r16.eq_1) <| an (rgE f81r17.eq_1) <| an (bdE f81l0.eq_1) <| an (rgE f81r18.eq_1) <| an (rgE f81r19.eq_1) <| an i81r0.eq_1 <| an i81r1.eq_1 <| an i81r2.eq_1 <| an i81r3.eq_1 <| an i81r4.eq_1 <| an i81r5.eq_1 <| an i81r6.eq_1 <| an i81r7.eq_1 <| an i81r8.eq_1 <| an i81r9.eq_1 <| an i81r10.eq_1 <| an i81r11.eq_1 <| an i81r12.eq_1 <| an i81r13.eq_1 <| an i81r14.eq_1 <| an i81r15.eq_1 <| an i81r16.eq_1 <| an i81r17.eq_1 <| an i81r18.eq_1 <| an i81r19.eq_1 <| itE
theorem e81:type_of% q81.down:=q81.down
def q82:=PLift.up <| an f82.eq_1 <| an (bdE b82.eq_1) <| an (rgE f82r0.eq_1) <| an (rgE f82r1.eq_1) <| an (rgE f82r2.eq_1) <| an (rgE f82r3.eq_1) <| an (rgE f82r4.eq_1) <| an (rgE f82r5.eq_1) <| an (rgE f82r6.eq_1) <| an (rgE f82r7.eq_1) <| an (rgE f82r8.eq_1) <| an (rgE f82r9.eq_1) <| an (rgE f82r10.eq_1) <| an (rgE f82r11.eq_1) <| an (bdE a82q0.eq_1) <| an (bdE d82q0.eq_1) <| an (rgE f82r12.eq_1) <| an (rgE f82r13.eq_1) <| an (rgE f82r14.eq_1) <| an (rgE f82r15.eq_1) <| an (rgE f82r16.eq_1) <| an (rgE f82r17.eq_1) <| an (rgE f82r18.eq_1) <| an (rgE f82r19.eq_1) <| an (rgE f82r20.eq_1) <| an (bdE f82l0.eq_1) <| an (rgE f82r21.eq_1) <| an (rgE f82r22.eq_1) <| an (rgE f82r23.eq_1) <| an (rgE f82r24.eq_1) <| an (rgE f82r25.eq_1) <| an (bdE f82l1.eq_1) <| an (rgE f82r26.eq_1) <| an (rgE f82r27.eq_1) <| an i82r0.eq_1 <| an i82r1.eq_1 <| an i82r2.eq_1 <| an i82r3.eq_1 <| an i82r4.eq_1 <| an i82r5.eq_1 <| an i82r6.eq_1 <| an i82r7.eq_1 <| an i82r8.eq_1 <| an i82r9.eq_1 <| an i82r10.eq_1 <| an i82r11.eq_1 <| an i82r12.eq_1 <| an i82r13.eq_1 <| an i82r14.eq_1 <| an i82r15.eq_1 <| an i82r16.eq_1 <| an i82r17.eq_1 <| an i82r18.eq_1 <| an i82r19.eq_1 <| an i82r20.eq_1 <| an i82r21.eq_1 <| an i82r22.eq_1 <| an i82r23.eq_1 <| an i82r24.eq_1 <| an i82r25.eq_1 <| an i82r26.eq_1 <| an i82r27.eq_1 <| itE
theorem e82:type_of% q82.down:=q82.down
def q83:=PLift.up <| an f83.eq_1 <| an (bdE b83.eq_1) <| an (rgE f83r0.eq_1) <| an (rgE f83r1.eq_1) <| an (rgE f83r2.eq_1) <| an (rgE f83r3.eq_1) <| an (rgE f83r4.eq_1) <| an (rgE f83r5.eq_1) <| an (rgE f83r6.eq_1) <| an (rgE f83r7.eq_1) <| an (rgE f83r8.eq_1) <| an (bdE f83l0.eq_1) <| an (rgE f83r9.eq_1) <| an (rgE f83r10.eq_1) <| an (rgE f83r11.eq_1) <| an (rgE f83r12.eq_1) <| an (rgE f83r13.eq_1) <| an (rgE f83r14.eq_1) <| an (bdE f83l1.eq_1) <| an (rgE f83r15.eq_1) <| an i83r0.eq_1 <| an i83r1.eq_1 <| an i83r2.eq_1 <| an i83r3.eq_1 <| an i83r4.eq_1 <| an i83r5.eq_1 <| an i83r6.eq_1 <| an i83r7.eq_1 <| an i83r8.eq_1 <| an i83r9.eq_1 <| an i83r10.eq_1 <| an i83r11.eq_1 <| an i83r12.eq_1 <| an i83r13.eq_1 <| an i83r14.eq_1 <| an i83r15.eq_1 <| itE
theorem e83:type_of% q83.down:=q83.down
def q84:=PLift.up <| an f84.eq_1 <| an (bdE b84.eq_1) <| an (rgE f84r0.eq_1) <| an (rgE f84r1.eq_1) <| an (rgE f84r2.eq_1) <| an (rgE f84r3.eq_1) <| an (rgE f84r4.eq_1) <| an (rgE f84r5.eq_1) <| an (rgE f84r6.eq_1) <| an (rgE f84r7.eq_1) <| an (rgE f84r8.eq_1) <| an (bdE f84l0.eq_1) <| an (rgE f84r9.eq_1) <| an (rgE f84r10.eq_1) <| an (rgE f84r11.eq_1) <| an (rgE f84r12.eq_1) <| an (rgE f84r13.eq_1) <| an (rgE f84r14.eq_1) <| an (bdE f84l1.eq_1) <| an (rgE f84r15.eq_1) <| an i84r0.eq_1 <| an i84r1.eq_1 <| an i84r2.eq_1 <| an i84r3.eq_1 <| an i84r4.eq_1 <| an i84r5.eq_1 <| an i84r6.eq_1 <| an i84r7.eq_1 <| an i84r8.eq_1 <| an i84r9.eq_1 <| an i84r10.eq_1 <| an i84r11.eq_1 <| an i84r12.eq_1 <| an i84r13.eq_1 <| an i84r14.eq_1 <| an i84r15.eq_1 <| itE
theorem e84:type_of% q84.down:=q84.down
def q94:=PLift.up <| an f94.eq_1 <| an (bdE b94.eq_1) <| an (rgE f94r0.eq_1) <| an (rgE f94r1.eq_1) <| an (rgE f94r2.eq_1) <| an (rgE f94r3.eq_1) <| an (rgE f94r4.eq_1) <| an (rgE f94r5.eq_1) <| an (rgE f94r6.eq_1) <| an (rgE f94r7.eq_1) <| an (rgE f94r8.eq_1) <| an (rgE f94r9.eq_1) <| an (bdE f94l0.eq_1) <| an i94r0.eq_1 <| an i94r1.eq_1 <| an i94r2.eq_1 <| an i94r3.eq_1 <| an i94r4.eq_1 <| an i94r5.eq_1 <| an i94r6.eq_1 <| an i94r7.eq_1 <| an i94r8.eq_1 <| an i94r9.eq_1 <| itE
theorem e94:type_of% q94.down:=q94.down
def q95:=PLift.up <| an f95.eq_1 <| an (bdE b95.eq_1) <| an (rgE f95r0.eq_1) <| an (rgE f95r1.eq_1) <| an (rgE f95r2.eq_1) <| an (rgE f95r3.eq_1) <| an (rgE f95r4.eq_1) <| an (rgE f95r5.eq_1) <| an (rgE f95r6.eq_1) <| an (rgE f95r7.eq_1) <| an (rgE f95r8.eq_1) <| an (rgE f95r9.eq_1) <| an (rgE f95r10.eq_1) <| an i95r0.eq_1 <| an i95r1.eq_1 <| an i95r2.eq_1 <| an i95r3.eq_1 <| an i95r4.eq_1 <| an i95r5.eq_1 <| an i95r6.eq_1 <| an i95r7.eq_1 <| an i95r8.eq_1 <| an i95r9.eq_1 <| an i95r10.eq_1 <| itE
theorem e95:type_of% q95.down:=q95.down
def q96:=PLift.up <| an f96.eq_1 <| an (bdE b96.eq_1) <| an (rgE f96r0.eq_1) <| an (rgE f96r1.eq_1) <| an i96r0.eq_1 <| an i96r1.eq_1 <| itE
theorem e96:type_of% q96.down:=q96.down
def q97:=PLift.up <| an f97.eq_1 <| an (bdE b97.eq_1) <| an (rgE f97r0.eq_1) <| an (rgE f97r1.eq_1) <| an i97r0.eq_1 <| an i97r1.eq_1 <| itE
theorem e97:type_of% q97.down:=q97.down
def q98:=PLift.up <| an f98.eq_1 <| an (bdE b98.eq_1) <| an (rgE f98r0.eq_1) <| an (rgE f98r1.eq_1) <| an i98r0.eq_1 <| an i98r1.eq_1 <| itE
theorem e98:type_of% q98.down:=q98.down
def q99:=PLift.up <| an f99.eq_1 <| an (bdE b99.eq_1) <| an (rgE f99r0.eq_1) <| an (rgE f99r1.eq_1) <| an (rgE f99r2.eq_1) <| an (rgE f99r3.eq_1) <| an (rgE f99r4.eq_1) <| an (rgE f99r5.eq_1) <| an (rgE f99r6.eq_1) <| an (rgE f99r7.eq_1) <| an (rgE f99r8.eq_1) <| an (rgE f99r9.eq_1) <| an (bdE f99l0.eq_1) <| an (rgE f99r10.eq_1) <| an i99r0.eq_1 <| an i99r1.eq_1 <| an i99r2.eq_1 <| an i99r3.eq_1 <| an i99r4.eq_1 <| an i99r5.eq_1 <| an i99r6.eq_1 <| an i99r7.eq_1 <| an i99r8.eq_1 <| an i99r9.eq_1 <| an i99r10.eq_1 <| itE
theorem e99:type_of% q99.down:=q99.down
def q100:=PLift.up <| an f100.eq_1 <| an (bdE b100.eq_1) <| an (rgE f100r0.eq_1) <| an (rgE f100r1.eq_1) <| an i100r0.eq_1 <| an i100r1.eq_1 <| itE
theorem e100:type_of% q100.down:=q100.down
def q101:=PLift.up <| an f101.eq_1 <| an (bdE b101.eq_1) <| an (rgE f101r0.eq_1) <| an (rgE f101r1.eq_1) <| an (rgE f101r2.eq_1) <| an (rgE f101r3.eq_1) <| an (rgE f101r4.eq_1) <| an (rgE f101r5.eq_1) <| an (rgE f101r6.eq_1) <| an (bdE f101l0.eq_1) <| an (rgE f101r7.eq_1) <| an i101r0.eq_1 <| an i101r1.eq_1 <| an i101r2.eq_1 <| an i101r3.eq_1 <| an i101r4.eq_1 <| an i101r5.eq_1 <| an i101r6.eq_1 <| an i101r7.eq_1 <| itE
theorem e101:type_of% q101.down:=q101.down
def q102:=PLift.up <| an f102.eq_1 <| an (bdE b102.eq_1) <| an (rgE f102r0.eq_1) <| an (rgE f102r1.eq_1) <| an i102r0.eq_1 <| an i102r1.eq_1 <| itE
theorem e102:type_of% q102.down:=q102.down
def q103:=PLift.up <| an f103.eq_1 <| an (bdE b103.eq_1) <| an (rgE f103r0.eq_1) <| an (rgE f103r1.eq_1) <| an i103r0.eq_1 <| an i103r1.eq_1 <| itE
theorem e103:type_of% q103.down:=q103.down
def q104:=PLift.up <| an f104.eq_1 <| an (bdE b104.eq_1) <| an (rgE f104r0.eq_1) <| an (rgE f104r1.eq_1) <| an i104r0.eq_1 <| an i104r1.eq_1 <| itE
theorem e104:type_of% q104.down:=q104.down
def q105:=PLift.up <| an f105.eq_1 <| an (bdE b105.eq_1) <| an (rgE f105r0.eq_1) <| an (rgE f105r1.eq_1) <| an (rgE f105r2.eq_1) <| an (rgE f105r3.eq_1) <| an (rgE f105r4.eq_1) <| an (rgE f105r5.eq_1) <| an (rgE f105r6.eq_1) <| an (rgE f105r7.eq_1) <| an (rgE f105r8.eq_1) <| an (rgE f105r9.eq_1) <| an (rgE f105r10.eq_1) <| an (bdE f105l0.eq_1) <| an (rgE f105r11.eq_1) <| an i105r0.eq_1 <| an i105r1.eq_1 <| an i105r2.eq_1 <| an i105r3.eq_1 <| an i105r4.eq_1 <| an i105r5.eq_1 <| an i105r6.eq_1 <| an i105r7.eq_1 <| an i105r8.eq_1 <| an i105r9.eq_1 <| an i105r10.eq_1 <| an i105r11.eq_1 <| itE
theorem e105:type_of% q105.down:=q105.down
def q106:=PLift.up <| an f106.eq_1 <| an (bdE b106.eq_1) <| an (rgE f106r0.eq_1) <| an (rgE f106r1.eq_1) <| an (rgE f106r2.eq_1) <| an (rgE f106r3.eq_1) <| an i106r0.eq_1 <| an i106r1.eq_1 <| an i106r2.eq_1 <| an i106r3.eq_1 <| itE
theorem e106:type_of% q106.down:=q106.down
def q107:=PLift.up <| an f107.eq_1 <| an (bdE b107.eq_1) <| an (rgE f107r0.eq_1) <| an (rgE f107r1.eq_1) <| an (rgE f107r2.eq_1) <| an (rgE f107r3.eq_1) <| an (rgE f107r4.eq_1) <| an (rgE f107r5.eq_1) <| an (rgE f107r6.eq_1) <| an (rgE f107r7.eq_1) <| an (bdE f107l0.eq_1) <| an (rgE f107r8.eq_1) <| an i107r0.eq_1 <| an i107r1.eq_1 <| an i107r2.eq_1 <| an i107r3.eq_1 <| an i107r4.eq_1 <| an i107r5.eq_1 <| an i107r6.eq_1 <| an i107r7.eq_1 <| an i107r8.eq_1 <| itE
theorem e107:type_of% q107.down:=q107.down
def q108:=PLift.up <| an f108.eq_1 <| an (bdE b108.eq_1) <| an (rgE f108r0.eq_1) <| an (rgE f108r1.eq_1) <| an i108r0.eq_1 <| an i108r1.eq_1 <| itE
theorem e108:type_of% q108.down:=q108.down
def q109:=PLift.up <| an f109.eq_1 <| an (bdE b109.eq_1) <| an (rgE f109r0.eq_1) <| an (rgE f109r1.eq_1) <| an i109r0.eq_1 <| an i109r1.eq_1 <| itE
theorem e109:type_of% q109.down:=q109.down
def q110:=PLift.up <| an f110.eq_1 <| an (bdE b110.eq_1) <| an (rgE f110r0.eq_1) <| an (rgE f110r1.eq_1) <| an (rgE f110r2.eq_1) <| an (rgE f110r3.eq_1) <| an (rgE f110r4.eq_1) <| an (rgE f110r5.eq_1) <| an (rgE f110r6.eq_1) <| an (rgE f110r7.eq_1) <| an (rgE f110r8.eq_1) <| an (rgE f110r9.eq_1) <| an (rgE f110r10.eq_1) <| an (bdE f110l0.eq_1) <| an (rgE f110r11.eq_1) <| an i110r0.eq_1 <| an i110r1.eq_1 <| an i110r2.eq_1 <| an i110r3.eq_1 <| an i110r4.eq_1 <| an i110r5.eq_1 <| an i110r6.eq_1 <| an i110r7.eq_1 <| an i110r8.eq_1 <| an i110r9.eq_1 <| an i110r10.eq_1 <| an i110r11.eq_1 <| itE
theorem e110:type_of% q110.down:=q110.down
def q111:=PLift.up <| an f111.eq_1 <| an (bdE b111.eq_1) <| an (rgE f111r0.eq_1) <| an (rgE f111r1.eq_1) <| an i111r0.eq_1 <| an i111r1.eq_1 <| itE
theorem e111:type_of% q111.down:=q111.down
def q114:=PLift.up <| an f114.eq_1 <| an (bdE b114.eq_1) <| an (rgE f114r0.eq_1) <| an (rgE f114r1.eq_1) <| an (rgE f114r2.eq_1) <| an (rgE f114r3.eq_1) <| an (rgE f114r4.eq_1) <| an (rgE f114r5.eq_1) <| an (rgE f114r6.eq_1) <| an (bdE f114l0.eq_1) <| an (rgE f114r7.eq_1) <| an i114r0.eq_1 <| an i114r1.eq_1 <| an i114r2.eq_1 <| an i114r3.eq_1 <| an i114r4.eq_1 <| an i114r5.eq_1 <| an i114r6.eq_1 <| an i114r7.eq_1 <| itE
theorem e114:type_of% q114.down:=q114.down
def q126:=PLift.up <| an f126.eq_1 <| an (bdE b126.eq_1) <| an (rgE f126r0.eq_1) <| an (rgE f126r1.eq_1) <| an i126r0.eq_1 <| an i126r1.eq_1 <| itE
theorem e126:type_of% q126.down:=q126.down
def q127:=PLift.up <| an f127.eq_1 <| an (bdE b127.eq_1) <| an (rgE f127r0.eq_1) <| an (rgE f127r1.eq_1) <| an (rgE f127r2.eq_1) <| an (rgE f127r3.eq_1) <| an (rgE f127r4.eq_1) <| an (rgE f127r5.eq_1) <| an (rgE f127r6.eq_1) <| an i127r0.eq_1 <| an i127r1.eq_1 <| an i127r2.eq_1 <| an i127r3.eq_1 <| an i127r4.eq_1 <| an i127r5.eq_1 <| an i127r6.eq_1 <| itE
theorem e127:type_of% q127.down:=q127.down
def q128:=PLift.up <| an f128.eq_1 <| an (bdE b128.eq_1) <| an (rgE f128r0.eq_1) <| an (rgE f128r1.eq_1) <| an (rgE f128r2.eq_1) <| an (rgE f128r3.eq_1) <| an (rgE f128r4.eq_1) <| an (rgE f128r5.eq_1) <| an (rgE f128r6.eq_1) <| an i128r0.eq_1 <| an i128r1.eq_1 <| an i128r2.eq_1 <| an i128r3.eq_1 <| an i128r4.eq_1 <| an i128r5.eq_1 <| an i128r6.eq_1 <| itE
theorem e128:type_of% q128.down:=q128.down
def q131:=PLift.up <| an f131.eq_1 <| an (bdE b131.eq_1) <| an (rgE f131r0.eq_1) <| an (rgE f131r1.eq_1) <| an (rgE f131r2.eq_1) <| an (rgE f131r3.eq_1) <| an (rgE f131r4.eq_1) <| an (rgE f131r5.eq_1) <| an (rgE f131r6.eq_1) <| an (bdE f131l0.eq_1) <| an (rgE f131r7.eq_1) <| an i131r0.eq_1 <| an i131r1.eq_1 <| an i131r2.eq_1 <| an i131r3.eq_1 <| an i131r4.eq_1 <| an i131r5.eq_1 <| an i131r6.eq_1 <| an i131r7.eq_1 <| itE
theorem e131:type_of% q131.down:=q131.down
def q132:=PLift.up <| an f132.eq_1 <| an (bdE b132.eq_1) <| an (rgE f132r0.eq_1) <| an (rgE f132r1.eq_1) <| an (rgE f132r2.eq_1) <| an (rgE f132r3.eq_1) <| an (rgE f132r4.eq_1) <| an (rgE f132r5.eq_1) <| an (rgE f132r6.eq_1) <| an (bdE f132l0.eq_1) <| an (rgE f132r7.eq_1) <| an i132r0.eq_1 <| an i132r1.eq_1 <| an i132r2.eq_1 <| an i132r3.eq_1 <| an i132r4.eq_1 <| an i132r5.eq_1 <| an i132r6.eq_1 <| an i132r7.eq_1 <| itE
theorem e132:type_of% q132.down:=q132.down
def q133:=PLift.up <| an f133.eq_1 <| an (bdE b133.eq_1) <| an (rgE f133r0.eq_1) <| an (rgE f133r1.eq_1) <| an (rgE f133r2.eq_1) <| an (rgE f133r3.eq_1) <| an i133r0.eq_1 <| an i133r1.eq_1 <| an i133r2.eq_1 <| an i133r3.eq_1 <| itE
theorem e133:type_of% q133.down:=q133.down
def q134:=PLift.up <| an f134.eq_1 <| an (bdE b134.eq_1) <| an (rgE f134r0.eq_1) <| an (rgE f134r1.eq_1) <| an (rgE f134r2.eq_1) <| an (rgE f134r3.eq_1) <| an (rgE f134r4.eq_1) <| an (bdE f134l0.eq_1) <| an i134r0.eq_1 <| an i134r1.eq_1 <| an i134r2.eq_1 <| an i134r3.eq_1 <| an i134r4.eq_1 <| itE
theorem e134:type_of% q134.down:=q134.down
end Zc28
end
section
namespace Zc28
open Go Zv
theorem k3:fnOk Go.Proofs.Try.prog tab 3 f3=true:=by kernel_rfl
theorem k4:fnOk Go.Proofs.Try.prog tab 4 f4=true:=by kernel_rfl
theorem k5:fnOk Go.Proofs.Try.prog tab 5 f5=true:=by kernel_rfl
theorem k6:fnOk Go.Proofs.Try.prog tab 6 f6=true:=by kernel_rfl
theorem k9:fnOk Go.Proofs.Try.prog tab 9 f9=true:=by kernel_rfl
theorem k10:fnOk Go.Proofs.Try.prog tab 10 f10=true:=by kernel_rfl
theorem k11:fnOk Go.Proofs.Try.prog tab 11 f11=true:=by kernel_rfl
theorem k12:fnOk Go.Proofs.Try.prog tab 12 f12=true:=by kernel_rfl
theorem k13:fnOk Go.Proofs.Try.prog tab 13 f13=true:=by kernel_rfl
theorem k14:fnOk Go.Proofs.Try.prog tab 14 f14=true:=by kernel_rfl
theorem k15:fnOk Go.Proofs.Try.prog tab 15 f15=true:=by kernel_rfl
theorem k16:fnOk Go.Proofs.Try.prog tab 16 f16=true:=by kernel_rfl
theorem k17:fnOk Go.Proofs.Try.prog tab 17 f17=true:=by kernel_rfl
theorem k18:fnOk Go.Proofs.Try.prog tab 18 f18=true:=by kernel_rfl
theorem k19:fnOk Go.Proofs.Try.prog tab 19 f19=true:=by kernel_rfl
theorem k20:fnOk Go.Proofs.Try.prog tab 20 f20=true:=by kernel_rfl
theorem k21:fnOk Go.Proofs.Try.prog tab 21 f21=true:=by kernel_rfl
theorem k22:fnOk Go.Proofs.Try.prog tab 22 f22=true:=by kernel_rfl
theorem k23:fnOk Go.Proofs.Try.prog tab 23 f23=true:=by kernel_rfl
theorem k24:fnOk Go.Proofs.Try.prog tab 24 f24=true:=by kernel_rfl
theorem k25:fnOk Go.Proofs.Try.prog tab 25 f25=true:=by kernel_rfl
theorem k26:fnOk Go.Proofs.Try.prog tab 26 f26=true:=by kernel_rfl
theorem k27:fnOk Go.Proofs.Try.prog tab 27 f27=true:=by kernel_rfl
theorem k28:fnOk Go.Proofs.Try.prog tab 28 f28=true:=by kernel_rfl
theorem k29:fnOk Go.Proofs.Try.prog tab 29 f29=true:=by kernel_rfl
theorem k30:fnOk Go.Proofs.Try.prog tab 30 f30=true:=by kernel_rfl
theorem k31:fnOk Go.Proofs.Try.prog tab 31 f31=true:=by kernel_rfl
theorem k32:fnOk Go.Proofs.Try.prog tab 32 f32=true:=by kernel_rfl
theorem k33:fnOk Go.Proofs.Try.prog tab 33 f33=true:=by kernel_rfl
theorem k34:fnOk Go.Proofs.Try.prog tab 34 f34=true:=by kernel_rfl
theorem k35:fnOk Go.Proofs.Try.prog tab 35 f35=true:=by kernel_rfl
theorem k36:fnOk Go.Proofs.Try.prog tab 36 f36=true:=by kernel_rfl
theorem k37:fnOk Go.Proofs.Try.prog tab 37 f37=true:=by kernel_rfl
theorem k38:fnOk Go.Proofs.Try.prog tab 38 f38=true:=by kernel_rfl
theorem k39:fnOk Go.Proofs.Try.prog tab 39 f39=true:=by kernel_rfl
theorem k40:fnOk Go.Proofs.Try.prog tab 40 f40=true:=by kernel_rfl
theorem k41:fnOk Go.Proofs.Try.prog tab 41 f41=true:=by kernel_rfl
theorem k42:fnOk Go.Proofs.Try.prog tab 42 f42=true:=by kernel_rfl
theorem k43:fnOk Go.Proofs.Try.prog tab 43 f43=true:=by kernel_rfl
theorem k44:fnOk Go.Proofs.Try.prog tab 44 f44=true:=by kernel_rfl
theorem k45:fnOk Go.Proofs.Try.prog tab 45 f45=true:=by kernel_rfl
theorem k46:fnOk Go.Proofs.Try.prog tab 46 f46=true:=by kernel_rfl
theorem k47:fnOk Go.Proofs.Try.prog tab 47 f47=true:=by kernel_rfl
theorem k48:fnOk Go.Proofs.Try.prog tab 48 f48=true:=by kernel_rfl
theorem k49:fnOk Go.Proofs.Try.prog tab 49 f49=true:=by kernel_rfl
theorem k50:fnOk Go.Proofs.Try.prog tab 50 f50=true:=by kernel_rfl
theorem k51:fnOk Go.Proofs.Try.prog tab 51 f51=true:=by kernel_rfl
theorem k52:fnOk Go.Proofs.Try.prog tab 52 f52=true:=by kernel_rfl
theorem k53:fnOk Go.Proofs.Try.prog tab 53 f53=true:=by kernel_rfl
theorem k54:fnOk Go.Proofs.Try.prog tab 54 f54=true:=by kernel_rfl
theorem k55:fnOk Go.Proofs.Try.prog tab 55 f55=true:=by kernel_rfl
theorem k56:fnOk Go.Proofs.Try.prog tab 56 f56=true:=by kernel_rfl
theorem k57:fnOk Go.Proofs.Try.prog tab 57 f57=true:=by kernel_rfl
theorem k58:fnOk Go.Proofs.Try.prog tab 58 f58=true:=by kernel_rfl
theorem k59:fnOk Go.Proofs.Try.prog tab 59 f59=true:=by kernel_rfl
theorem k60:fnOk Go.Proofs.Try.prog tab 60 f60=true:=by kernel_rfl
theorem k61:fnOk Go.Proofs.Try.prog tab 61 f61=true:=by kernel_rfl
theorem k62:fnOk Go.Proofs.Try.prog tab 62 f62=true:=by kernel_rfl
theorem k63:fnOk Go.Proofs.Try.prog tab 63 f63=true:=by kernel_rfl
theorem k64:fnOk Go.Proofs.Try.prog tab 64 f64=true:=by kernel_rfl
theorem k65:fnOk Go.Proofs.Try.prog tab 65 f65=true:=by kernel_rfl
theorem k66:fnOk Go.Proofs.Try.prog tab 66 f66=true:=by kernel_rfl
theorem k67:fnOk Go.Proofs.Try.prog tab 67 f67=true:=by kernel_rfl
theorem k68:fnOk Go.Proofs.Try.prog tab 68 f68=true:=by kernel_rfl
theorem k69:fnOk Go.Proofs.Try.prog tab 69 f69=true:=by kernel_rfl
theorem k70:fnOk Go.Proofs.Try.prog tab 70 f70=true:=by kernel_rfl
theorem k71:fnOk Go.Proofs.Try.prog tab 71 f71=true:=by kernel_rfl
theorem k72:fnOk Go.Proofs.Try.prog tab 72 f72=true:=by kernel_rfl
theorem k73:fnOk Go.Proofs.Try.prog tab 73 f73=true:=by kernel_rfl
theorem k74:fnOk Go.Proofs.Try.prog tab 74 f74=true:=by kernel_rfl
theorem k75:fnOk Go.Proofs.Try.prog tab 75 f75=true:=by kernel_rfl
theorem k76:fnOk Go.Proofs.Try.prog tab 76 f76=true:=by kernel_rfl
theorem k77:fnOk Go.Proofs.Try.prog tab 77 f77=true:=by kernel_rfl
theorem k78:fnOk Go.Proofs.Try.prog tab 78 f78=true:=by kernel_rfl
theorem k79:fnOk Go.Proofs.Try.prog tab 79 f79=true:=by kernel_rfl
theorem k80:fnOk Go.Proofs.Try.prog tab 80 f80=true:=by kernel_rfl
theorem k81:fnOk Go.Proofs.Try.prog tab 81 f81=true:=by kernel_rfl
theorem k82:fnOk Go.Proofs.Try.prog tab 82 f82=true:=by kernel_rfl
theorem k83:fnOk Go.Proofs.Try.prog tab 83 f83=true:=by kernel_rfl
theorem k84:fnOk Go.Proofs.Try.prog tab 84 f84=true:=by kernel_rfl
theorem k85:fnOk Go.Proofs.Try.prog tab 85 f85=true:=by kernel_rfl
theorem k86:fnOk Go.Proofs.Try.prog tab 86 f86=true:=by kernel_rfl
theorem k87:fnOk Go.Proofs.Try.prog tab 87 f87=true:=by kernel_rfl
theorem k88:fnOk Go.Proofs.Try.prog tab 88 f88=true:=by kernel_rfl
theorem k89:fnOk Go.Proofs.Try.prog tab 89 f89=true:=by kernel_rfl
theorem k90:fnOk Go.Proofs.Try.prog tab 90 f90=true:=by kernel_rfl
theorem k91:fnOk Go.Proofs.Try.prog tab 91 f91=true:=by kernel_rfl
theorem k92:fnOk Go.Proofs.Try.prog tab 92 f92=true:=by kernel_rfl
theorem k93:fnOk Go.Proofs.Try.prog tab 93 f93=true:=by kernel_rfl
theorem k94:fnOk Go.Proofs.Try.prog tab 94 f94=true:=by kernel_rfl
theorem k95:fnOk Go.Proofs.Try.prog tab 95 f95=true:=by kernel_rfl
theorem k96:fnOk Go.Proofs.Try.prog tab 96 f96=true:=by kernel_rfl
theorem k97:fnOk Go.Proofs.Try.prog tab 97 f97=true:=by kernel_rfl
theorem k98:fnOk Go.Proofs.Try.prog tab 98 f98=true:=by kernel_rfl
theorem k99:fnOk Go.Proofs.Try.prog tab 99 f99=true:=by kernel_rfl
theorem k100:fnOk Go.Proofs.Try.prog tab 100 f100=true:=by kernel_rfl
theorem k101:fnOk Go.Proofs.Try.prog tab 101 f101=true:=by kernel_rfl
theorem k102:fnOk Go.Proofs.Try.prog tab 102 f102=true:=by kernel_rfl
theorem k103:fnOk Go.Proofs.Try.prog tab 103 f103=true:=by kernel_rfl
theorem k104:fnOk Go.Proofs.Try.prog tab 104 f104=true:=by kernel_rfl
theorem k105:fnOk Go.Proofs.Try.prog tab 105 f105=true:=by kernel_rfl
theorem k106:fnOk Go.Proofs.Try.prog tab 106 f106=true:=by kernel_rfl
theorem k107:fnOk Go.Proofs.Try.prog tab 107 f107=true:=by kernel_rfl
theorem k108:fnOk Go.Proofs.Try.prog tab 108 f108=true:=by kernel_rfl
theorem k109:fnOk Go.Proofs.Try.prog tab 109 f109=true:=by kernel_rfl
theorem k110:fnOk Go.Proofs.Try.prog tab 110 f110=true:=by kernel_rfl
theorem k111:fnOk Go.Proofs.Try.prog tab 111 f111=true:=by kernel_rfl
theorem k112:fnOk Go.Proofs.Try.prog tab 112 f112=true:=by kernel_rfl
theorem k113:fnOk Go.Proofs.Try.prog tab 113 f113=true:=by kernel_rfl
theorem k114:fnOk Go.Proofs.Try.prog tab 114 f114=true:=by kernel_rfl
theorem k115:fnOk Go.Proofs.Try.prog tab 115 f115=true:=by kernel_rfl
theorem k116:fnOk Go.Proofs.Try.prog tab 116 f116=true:=by kernel_rfl
theorem k117:fnOk Go.Proofs.Try.prog tab 117 f117=true:=by kernel_rfl
theorem k118:fnOk Go.Proofs.Try.prog tab 118 f118=true:=by kernel_rfl
theorem k119:fnOk Go.Proofs.Try.prog tab 119 f119=true:=by kernel_rfl
theorem k120:fnOk Go.Proofs.Try.prog tab 120 f120=true:=by kernel_rfl
theorem k121:fnOk Go.Proofs.Try.prog tab 121 f121=true:=by kernel_rfl
theorem k122:fnOk Go.Proofs.Try.prog tab 122 f122=true:=by kernel_rfl
theorem k123:fnOk Go.Proofs.Try.prog tab 123 f123=true:=by kernel_rfl
theorem k124:fnOk Go.Proofs.Try.prog tab 124 f124=true:=by kernel_rfl
theorem k125:fnOk Go.Proofs.Try.prog tab 125 f125=true:=by kernel_rfl
theorem k126:fnOk Go.Proofs.Try.prog tab 126 f126=true:=by kernel_rfl
theorem k127:fnOk Go.Proofs.Try.prog tab 127 f127=true:=by kernel_rfl
theorem k128:fnOk Go.Proofs.Try.prog tab 128 f128=true:=by kernel_rfl
theorem k129:fnOk Go.Proofs.Try.prog tab 129 f129=true:=by kernel_rfl
theorem k130:fnOk Go.Proofs.Try.prog tab 130 f130=true:=by kernel_rfl
theorem k131:fnOk Go.Proofs.Try.prog tab 131 f131=true:=by kernel_rfl
theorem k132:fnOk Go.Proofs.Try.prog tab 132 f132=true:=by kernel_rfl
theorem k133:fnOk Go.Proofs.Try.prog tab 133 f133=true:=by kernel_rfl
theorem k134:fnOk Go.Proofs.Try.prog tab 134 f134=true:=by kernel_rfl
theorem k135:fnOk Go.Proofs.Try.prog tab 135 f135=true:=by kernel_rfl
theorem k136:fnOk Go.Proofs.Try.prog tab 136 f136=true:=by kernel_rfl
theorem k137:fnOk Go.Proofs.Try.prog tab 137 f137=true:=by kernel_rfl
theorem k138:fnOk Go.Proofs.Try.prog tab 138 f138=true:=by kernel_rfl
theorem k139:fnOk Go.Proofs.Try.prog tab 139 f139=true:=by kernel_rfl
theorem tabOk:TabOk Go.Proofs.Try.prog tab:=by
 intro n fn hlt h
 unfold tab at h
 split at h
 ·cases h;exact .inl k3
 ·cases h;exact .inl k4
 ·cases h;exact .inl k5
 ·cases h;exact .inl k6
 ·cases h;exact .inl k9
 ·cases h;exact .inl k10
 ·cases h;exact .inl k11
 ·cases h;exact .inl k12
 ·cases h;exact .inl k13
 ·cases h;exact .inl k14
 ·cases h;exact .inl k15
 ·cases h;exact .inl k16
 ·cases h;exact .inl k17
 ·cases h;exact .inl k18
 ·exact absurd hlt (by decide)
 ·cases h;exact .inl k19
 ·cases h;exact .inl k20
 ·cases h;exact .inl k21
 ·cases h;exact .inl k22
 ·cases h;exact .inl k23
 ·cases h;exact .inl k24
 ·cases h;exact .inl k25
 ·cases h;exact .inl k26
 ·cases h;exact .inl k27
 ·cases h;exact .inl k28
 ·cases h;exact .inl k29
 ·cases h;exact .inl k30
 ·cases h;exact .inl k31
 ·cases h;exact .inl k32
 ·cases h;exact .inl k33
 ·cases h;exact .inl k34
 ·cases h;exact .inl k35
 ·cases h;exact .inl k36
 ·cases h;exact .inl k37
 ·cases h;exact .inl k38
 ·cases h;exact .inl k39
 ·cases h;exact .inl k40
 ·cases h;exact .inl k41
 ·cases h;exact .inl k42
 ·cases h;exact .inl k43
 ·cases h;exact .inl k44
 ·cases h;exact .inl k45
 ·cases h;exact .inl k46
 ·cases h;exact .inl k47
 ·cases h;exact .inl k48
 ·cases h;exact .inl k49
 ·cases h;exact .inl k50
 ·cases h;exact .inl k51
 ·cases h;exact .inl k52
 ·cases h;exact .inl k53
 ·cases h;exact .inl k54
 ·cases h;exact .inl k55
 ·cases h;exact .inl k56
 ·cases h;exact .inl k57
 ·cases h;exact .inl k58
 ·cases h;exact .inl k59
 ·cases h;exact .inl k60
 ·exact absurd hlt (by decide)
 ·cases h;exact .inl k61
 ·cases h;exact .inl k62
 ·cases h;exact .inl k63
 ·cases h;exact .inl k64
 ·cases h;exact .inl k65
 ·cases h;exact .inl k66
 ·cases h;exact .inl k67
 ·cases h;exact .inl k68
 ·cases h;exact .inl k69
 ·cases h;exact .inl k70
 ·cases h;exact .inl k71
 ·cases h;exact .inl k72
 ·cases h;exact .inl k73
 ·cases h;exact .inl k74
 ·cases h;exact .inl k75
 ·cases h;exact .inl k76
 ·cases h;exact .inl k77
 ·cases h;exact .inl k78
 ·cases h;exact .inl k79
 ·cases h;exact .inl k80
 ·cases h;exact .inl k81
 ·cases h;exact .inl k82
 ·exact absurd hlt (by decide)
 ·cases h;exact .inl k83
 ·cases h;exact .inl k84
 ·cases h;exact .inl k85
 ·cases h;exact .inl k86
 ·cases h;exact .inl k87
 ·cases h;exact .inl k88
 ·cases h;exact .inl k89
 ·cases h;exact .inl k90
 ·cases h;exact .inl k91
 ·cases h;exact .inl k92
 ·cases h;exact .inl k93
 ·cases h;exact .inl k94
 ·cases h;exact .inl k95
 ·cases h;exact .inl k96
 ·cases h;exact .inl k97
 ·cases h;exact .inl k98
 ·cases h;exact .inl k99
 ·cases h;exact .inl k100
 ·cases h;exact .inl k101
 ·cases h;exact .inl k102
 ·cases h;exact .inl k103
 ·cases h;exact .inl k104
 ·cases h;exact .inl k105
 ·cases h;exact .inl k106
 ·cases h;exact .inl k107
 ·cases h;exact .inl k108
 ·cases h;exact .inl k109
 ·cases h;exact .inl k110
 ·cases h;exact .inl k111
 ·cases h;exact .inl k112
 ·cases h;exact .inl k113
 ·cases h;exact .inl k114
 ·cases h;exact .inl k115
 ·cases h;exact .inl k116
 ·cases h;exact .inl k117
 ·cases h;exact .inl k118
 ·cases h;exact .inl k119
 ·cases h;exact .inl k120
 ·cases h;exact .inl k121
 ·cases h;exact .inl k122
 ·cases h;exact .inl k123
 ·cases h;exact .inl k124
 ·cases h;exact .inl k125
 ·cases h;exact .inl k126
 ·cases h;exact .inl k127
 ·cases h;exact .inl k128
 ·cases h;exact .inl k129
 ·cases h;exact .inl k130
 ·cases h;exact .inl k131
 ·cases h;exact .inl k132
 ·cases h;exact .inl k133
 ·cases h;exact .inl k134
 ·cases h;exact .inl k135
 ·cases h;exact .inl k136
 ·cases h;exact .inl k137
 ·cases h;exact .inl k138
 ·cases h;exact .inl k139
 ·cases h
theorem c3:clC f3.body=true:=by kernel_rfl
theorem c4:clC f4.body=true:=by kernel_rfl
theorem c5:clC f5.body=true:=by kernel_rfl
theorem c6:clC f6.body=true:=by kernel_rfl
theorem c9:clC f9.body=true:=by kernel_rfl
theorem c10:clC f10.body=true:=by kernel_rfl
theorem c11:clC f11.body=true:=by kernel_rfl
theorem c12:clC f12.body=true:=by kernel_rfl
theorem c13:clC f13.body=true:=by kernel_rfl
theorem c14:clC f14.body=true:=by kernel_rfl
theorem c15:clC f15.body=true:=by kernel_rfl
theorem c16:clC f16.body=true:=by kernel_rfl
theorem c17:clC f17.body=true:=by kernel_rfl
theorem c18:clC f18.body=true:=by kernel_rfl
theorem c1000288:clC f1000288.body=true:=by kernel_rfl
theorem c19:clC f19.body=true:=by kernel_rfl
theorem c20:clC f20.body=true:=by kernel_rfl
theorem c21:clC f21.body=true:=by kernel_rfl
theorem c22:clC f22.body=true:=by kernel_rfl
theorem c23:clC f23.body=true:=by kernel_rfl
theorem c24:clC f24.body=true:=by kernel_rfl
theorem c25:clC f25.body=true:=by kernel_rfl
theorem c26:clC f26.body=true:=by kernel_rfl
theorem c27:clC f27.body=true:=by kernel_rfl
theorem c28:clC f28.body=true:=by kernel_rfl
theorem c29:clC f29.body=true:=by kernel_rfl
theorem c30:clC f30.body=true:=by kernel_rfl
theorem c31:clC f31.body=true:=by kernel_rfl
theorem c32:clC f32.body=true:=by kernel_rfl
theorem c33:clC f33.body=true:=by kernel_rfl
theorem c34:clC f34.body=true:=by kernel_rfl
theorem c35:clC f35.body=true:=by kernel_rfl
theorem c36:clC f36.body=true:=by kernel_rfl
theorem c37:clC f37.body=true:=by kernel_rfl
theorem c38:clC f38.body=true:=by kernel_rfl
theorem c39:clC f39.body=true:=by kernel_rfl
theorem c40:clC f40.body=true:=by kernel_rfl
theorem c41:clC f41.body=true:=by kernel_rfl
theorem c42:clC f42.body=true:=by kernel_rfl
theorem c43:clC f43.body=true:=by kernel_rfl
theorem c44:clC f44.body=true:=by kernel_rfl
theorem c45:clC f45.body=true:=by kernel_rfl
theorem c46:clC f46.body=true:=by kernel_rfl
theorem c47:clC f47.body=true:=by kernel_rfl
theorem c48:clC f48.body=true:=by kernel_rfl
theorem c49:clC f49.body=true:=by kernel_rfl
theorem c50:clC f50.body=true:=by kernel_rfl
theorem c51:clC f51.body=true:=by kernel_rfl
theorem c52:clC f52.body=true:=by kernel_rfl
theorem c53:clC f53.body=true:=by kernel_rfl
theorem c54:clC f54.body=true:=by kernel_rfl
theorem c55:clC f55.body=true:=by kernel_rfl
theorem c56:clC f56.body=true:=by kernel_rfl
theorem c57:clC f57.body=true:=by kernel_rfl
theorem c58:clC f58.body=true:=by kernel_rfl
theorem c59:clC f59.body=true:=by kernel_rfl
theorem c60:clC f60.body=true:=by kernel_rfl
theorem c1000960:clC f1000960.body=true:=by kernel_rfl
theorem c61:clC f61.body=true:=by kernel_rfl
theorem c62:clC f62.body=true:=by kernel_rfl
theorem c63:clC f63.body=true:=by kernel_rfl
theorem c64:clC f64.body=true:=by kernel_rfl
theorem c65:clC f65.body=true:=by kernel_rfl
theorem c66:clC f66.body=true:=by kernel_rfl
theorem c67:clC f67.body=true:=by kernel_rfl
theorem c68:clC f68.body=true:=by kernel_rfl
theorem c69:clC f69.body=true:=by kernel_rfl
theorem c70:clC f70.body=true:=by kernel_rfl
theorem c71:clC f71.body=true:=by kernel_rfl
theorem c72:clC f72.body=true:=by kernel_rfl
theorem c73:clC f73.body=true:=by kernel_rfl
theorem c74:clC f74.body=true:=by kernel_rfl
theorem c75:clC f75.body=true:=by kernel_rfl
theorem c76:clC f76.body=true:=by kernel_rfl
theorem c77:clC f77.body=true:=by kernel_rfl
theorem c78:clC f78.body=true:=by kernel_rfl
theorem c79:clC f79.body=true:=by kernel_rfl
theorem c80:clC f80.body=true:=by kernel_rfl
theorem c81:clC f81.body=true:=by kernel_rfl
theorem c82:clC f82.body=true:=by kernel_rfl
theorem c1001312:clC f1001312.body=true:=by kernel_rfl
theorem c83:clC f83.body=true:=by kernel_rfl
theorem c84:clC f84.body=true:=by kernel_rfl
theorem c85:clC f85.body=true:=by kernel_rfl
theorem c86:clC f86.body=true:=by kernel_rfl
theorem c87:clC f87.body=true:=by kernel_rfl
theorem c88:clC f88.body=true:=by kernel_rfl
theorem c89:clC f89.body=true:=by kernel_rfl
theorem c90:clC f90.body=true:=by kernel_rfl
theorem c91:clC f91.body=true:=by kernel_rfl
theorem c92:clC f92.body=true:=by kernel_rfl
theorem c93:clC f93.body=true:=by kernel_rfl
theorem c94:clC f94.body=true:=by kernel_rfl
theorem c95:clC f95.body=true:=by kernel_rfl
theorem c96:clC f96.body=true:=by kernel_rfl
theorem c97:clC f97.body=true:=by kernel_rfl
theorem c98:clC f98.body=true:=by kernel_rfl
theorem c99:clC f99.body=true:=by kernel_rfl
theorem c100:clC f100.body=true:=by kernel_rfl
theorem c101:clC f101.body=true:=by kernel_rfl
theorem c102:clC f102.body=true:=by kernel_rfl
theorem c103:clC f103.body=true:=by kernel_rfl
theorem c104:clC f104.body=true:=by kernel_rfl
theorem c105:clC f105.body=true:=by kernel_rfl
theorem c106:clC f106.body=true:=by kernel_rfl
theorem c107:clC f107.body=true:=by kernel_rfl
theorem c108:clC f108.body=true:=by kernel_rfl
theorem c109:clC f109.body=true:=by kernel_rfl
theorem c110:clC f110.body=true:=by kernel_rfl
theorem c111:clC f111.body=true:=by kernel_rfl
theorem c112:clC f112.body=true:=by kernel_rfl
theorem c113:clC f113.body=true:=by kernel_rfl
theorem c114:clC f114.body=true:=by kernel_rfl
theorem c115:clC f115.body=true:=by kernel_rfl
theorem c116:clC f116.body=true:=by kernel_rfl
theorem c117:clC f117.body=true:=by kernel_rfl
theorem c118:clC f118.body=true:=by kernel_rfl
theorem c119:clC f119.body=true:=by kernel_rfl
theorem c120:clC f120.body=true:=by kernel_rfl
theorem c121:clC f121.body=true:=by kernel_rfl
theorem c122:clC f122.body=true:=by kernel_rfl
theorem c123:clC f123.body=true:=by kernel_rfl
theorem c124:clC f124.body=true:=by kernel_rfl
theorem c125:clC f125.body=true:=by kernel_rfl
theorem c126:clC f126.body=true:=by kernel_rfl
theorem c127:clC f127.body=true:=by kernel_rfl
theorem c128:clC f128.body=true:=by kernel_rfl
theorem c129:clC f129.body=true:=by kernel_rfl
theorem c130:clC f130.body=true:=by kernel_rfl
theorem c131:clC f131.body=true:=by kernel_rfl
theorem c132:clC f132.body=true:=by kernel_rfl
theorem c133:clC f133.body=true:=by kernel_rfl
theorem c134:clC f134.body=true:=by kernel_rfl
theorem c135:clC f135.body=true:=by kernel_rfl
theorem c136:clC f136.body=true:=by kernel_rfl
theorem c137:clC f137.body=true:=by kernel_rfl
theorem c138:clC f138.body=true:=by kernel_rfl
theorem c139:clC f139.body=true:=by kernel_rfl
theorem tabCl:TabCl tab:=by
 intro n fn h
 unfold tab at h
 split at h
 ·cases h;exact c3
 ·cases h;exact c4
 ·cases h;exact c5
 ·cases h;exact c6
 ·cases h;exact c9
 ·cases h;exact c10
 ·cases h;exact c11
 ·cases h;exact c12
 ·cases h;exact c13
 ·cases h;exact c14
 ·cases h;exact c15
 ·cases h;exact c16
 ·cases h;exact c17
 ·cases h;exact c18
 ·cases h;exact c1000288
 ·cases h;exact c19
 ·cases h;exact c20
 ·cases h;exact c21
 ·cases h;exact c22
 ·cases h;exact c23
 ·cases h;exact c24
 ·cases h;exact c25
 ·cases h;exact c26
 ·cases h;exact c27
 ·cases h;exact c28
 ·cases h;exact c29
 ·cases h;exact c30
 ·cases h;exact c31
 ·cases h;exact c32
 ·cases h;exact c33
 ·cases h;exact c34
 ·cases h;exact c35
 ·cases h;exact c36
 ·cases h;exact c37
 ·cases h;exact c38
 ·cases h;exact c39
 ·cases h;exact c40
 ·cases h;exact c41
 ·cases h;exact c42
 ·cases h;exact c43
 ·cases h;exact c44
 ·cases h;exact c45
 ·cases h;exact c46
 ·cases h;exact c47
 ·cases h;exact c48
 ·cases h;exact c49
 ·cases h;exact c50
 ·cases h;exact c51
 ·cases h;exact c52
 ·cases h;exact c53
 ·cases h;exact c54
 ·cases h;exact c55
 ·cases h;exact c56
 ·cases h;exact c57
 ·cases h;exact c58
 ·cases h;exact c59
 ·cases h;exact c60
 ·cases h;exact c1000960
 ·cases h;exact c61
 ·cases h;exact c62
 ·cases h;exact c63
 ·cases h;exact c64
 ·cases h;exact c65
 ·cases h;exact c66
 ·cases h;exact c67
 ·cases h;exact c68
 ·cases h;exact c69
 ·cases h;exact c70
 ·cases h;exact c71
 ·cases h;exact c72
 ·cases h;exact c73
 ·cases h;exact c74
 ·cases h;exact c75
 ·cases h;exact c76
 ·cases h;exact c77
 ·cases h;exact c78
 ·cases h;exact c79
 ·cases h;exact c80
 ·cases h;exact c81
 ·cases h;exact c82
 ·cases h;exact c1001312
 ·cases h;exact c83
 ·cases h;exact c84
 ·cases h;exact c85
 ·cases h;exact c86
 ·cases h;exact c87
 ·cases h;exact c88
 ·cases h;exact c89
 ·cases h;exact c90
 ·cases h;exact c91
 ·cases h;exact c92
 ·cases h;exact c93
 ·cases h;exact c94
 ·cases h;exact c95
 ·cases h;exact c96
 ·cases h;exact c97
 ·cases h;exact c98
 ·cases h;exact c99
 ·cases h;exact c100
 ·cases h;exact c101
 ·cases h;exact c102
 ·cases h;exact c103
 ·cases h;exact c104
 ·cases h;exact c105
 ·cases h;exact c106
 ·cases h;exact c107
 ·cases h;exact c108
 ·cases h;exact c109
 ·cases h;exact c110
 ·cases h;exact c111
 ·cases h;exact c112
 ·cases h;exact c113
 ·cases h;exact c114
 ·cases h;exact c115
 ·cases h;exact c116
 ·cases h;exact c117
 ·cases h;exact c118
 ·cases h;exact c119
 ·cases h;exact c120
 ·cases h;exact c121
 ·cases h;exact c122
 ·cases h;exact c123
 ·cases h;exact c124
 ·cases h;exact c125
 ·cases h;exact c126
 ·cases h;exact c127
 ·cases h;exact c128
 ·cases h;exact c129
 ·cases h;exact c130
 ·cases h;exact c131
 ·cases h;exact c132
 ·cases h;exact c133
 ·cases h;exact c134
 ·cases h;exact c135
 ·cases h;exact c136
 ·cases h;exact c137
 ·cases h;exact c138
 ·cases h;exact c139
 ·cases h
end Zc28
end
section
namespace Zv
open Go
section
variable {H:Type} {enc:TypeId × Value→H} {P:Program} {w:World} {base:Nat} {sp:Nat→Bool} {held:Bool}
end
end Zv
end
section
namespace Zc28
open Go Zv
def tys:List TypeId:=[96,98,70,73,105,80,3,68]
def es:List ET:=[.st [.s,.l 1],.st [.s,.l 2],.one (.i .i64),.one (.l 4),.st [.i .i64,.i .i64,.i .i64,.l 4],.st [.l 6,.b,.i .i64,.l 6,.i .i64],.one (.i .i64),.st [.i .i64,.i .i64,.l 7]]
theorem typesOk:mtEs Go.Proofs.Try.prog tys tys es=true:=by kernel_rfl
def bys:List Nat:=[40,40,8,24,48,72,8,40]
theorem bysOk:tys.map Go.Proofs.Try.prog.bytesOf=bys:=by kernel_rfl
end Zc28
end
section
namespace Zs
open Go Zv
end Zs
end
section
namespace Zs
open Go Zv
def rowN (m es:Nat) (s:List D):V:=if s=[] then .tl [] (some true) else .own m es s.length 0 s.length
def rowQ (h:Hp) (m es:Nat) (s:List D) (q:Nat):Hp:=⟨if s=[] then h.objs else (m,.arr es (s.map .d))::h.objs,q⟩
theorem rowQ_next (h:Hp) (m es:Nat) (s:List D) (q:Nat):(rowQ h m es s q).next=q:=rfl
theorem rowQ_mk (h:Hp) (m es:Nat) (s:List D) (q n:Nat):(⟨(rowQ h m es s q).objs,n⟩:Hp)=rowQ h m es s n:=rfl
def nmQ (s:List D) (m q:Nat):Nat:=if s=[] then q else m
def nqQ (s:List D) (q:Nat):Nat:=if s=[] then q+1 else q
theorem nqQ_le (s:List D) (q:Nat):q≤nqQ s q:=by unfold nqQ;split<;>omega
theorem nmQ_lt {s:List D} {m q:Nat} (h:s≠[]→m<q):nmQ s m q<nqQ s q:=by
 unfold nmQ nqQ
 split
 ·omega
 ·rename_i hs;exact h hs
theorem rowQ_row (h:Hp) (m es:Nat) {s:List D} (hs:s≠[]) (q:Nat):(rowQ h m es s q).row m s.length=some (es,s.map .d):=by
 unfold rowQ Hp.row Hp.get
 rw[if_neg hs]
 simp only[Zv.look,if_true,List.length_map]
theorem rowQ_app (h:Hp) {m es b q:Nat} {s:List D} {x:D} {nl:Option Bool} (hx:x.cells.length=es) (hlen:(s.length+1)*b≤roomB) (hl:∀ y,y ∈ s→y.cells.length=es) :
  app es b (rowQ h m es s q) (rowN m es s) (.tl [.d x] nl)=some (rowN (nmQ s m q) es (s++[x]),rowQ h (nmQ s m q) es (s++[x]) (nqQ s q)):=by
 have hxs:allV es [V.d x]=true:=by simp[allV,V.cells,hx]
 have hne:s++[x]≠[]:=by simp
 unfold app
 simp only[elems,Option.bind_some,List.map_cons,List.map_nil,norm_d,hxs,if_true]
 by_cases h0:s=[]
 ·subst h0
  simp[rowN,rowQ,allV,nmQ,nqQ,Hp.alloc]
  simpa using hlen
 ·have hr:=rowQ_row h m es h0 q
  rw[show rowN m es s=.own m es s.length 0 s.length from if_neg h0]
  simp only[hr,Option.bind_some,List.length_map,Nat.zero_add,Nat.le_refl,and_self,if_true,List.isEmpty_cons,Bool.false_eq_true,if_false,List.length_cons,List.length_nil]
  rw[if_neg (by omega),if_pos hlen,List.take_of_length_le (by simp)]
  simp only[rowN,rowQ,nmQ,nqQ,hne,h0,if_false,List.length_append,List.length_cons,List.length_nil,List.map_append,List.map_cons,List.map_nil,Nat.zero_add,Hp.set,upd,if_true]
theorem rowQ_suf (h:Hp) (m es:Nat) (s:List D) (q:Nat):sufOk h.objs (rowQ h m es s q).objs=true:=by
 unfold rowQ
 split
 ·exact suf_refl _
 ·exact suf_one _ _
theorem rowQ_deep (h:Hp) {m es n0:Nat} (s:List D) (q:Nat) (hm:s≠[]→n0≤m):deep (rowQ h m es s q) n0 8 (rowN m es s)=some (.lst s):=by
 by_cases hl:s=[]
 ·subst hl;rfl
 ·have hr:=rowQ_row h m es hl q
  rw[show rowN m es s=.own m es s.length 0 s.length from if_neg hl]
  unfold deep
  simp only[hm hl,if_true,hr,Option.bind_some,List.length_map,Nat.zero_add,Nat.le_refl,List.drop_zero]
  rw[List.take_of_length_le (by simp),deep_ds]
  rfl
theorem finS_rowQ {h:Hp} {m es:Nat} {s:List D} {q:Nat} (hm:s≠[]→h.next≤m):finS h (rowQ h m es s q) [rowN m es s]=some (.d (.lst s),h):=by
 rw[finS,if_pos (rowQ_suf h m es s q)]
 simp only[List.mapM_cons,List.mapM_nil,back1,rowQ_deep h s q hm]
 rfl
def accG {α β:Type} (G:List β→α→Option β) (s:List β) (x:α):List β:=match G s x with
 |none=>s
 |some y=>s++[y]
def accL {α β:Type} (G:List β→α→Option β) (l:List α):List β:=l.foldl (accG G) []
theorem accL_snoc {α β:Type} (G:List β→α→Option β) (l:List α) (x:α):accL G (l++[x])=accG G (accL G l) x:=by
 rw[accL,List.foldl_append];rfl
theorem accL_fm {α β:Type} (F:α→Option β) (l:List α):accL (fun _=>F) l=l.filterMap F:=by
 have:∀ (l:List α) (s:List β),l.foldl (accG fun _=>F) s=s++l.filterMap F:=by
  intro l
  induction l with
  |nil=>intro s;simp
  |cons x r ih=>
   intro s
   rw[List.foldl_cons,List.filterMap_cons]
   cases hf:F x with
   |none=>rw[ih];simp only[accG,hf]
   |some y=>rw[ih];simp only[accG,hf,List.append_assoc,List.singleton_append]
 exact (this l []).trans (List.nil_append _)
theorem loop_acc {T:Tab} {a:AC} {α β:Type} {l:List α} (G:List β→α→Option β) (enc:β→D) (es b:Nat) (env:Nat→V→Env) {h:Hp} {n0:Nat} {x1:Ex} {e1:V→Env} (hn0:n0≤h.next)
  (hc:∀ y,(enc y).cells.length=es) (hb:l.length*b≤roomB)
  (h0:∀ n x s m q,l[n]? = some x→n<l.length→s=accL G (l.take n)→s.length≤n→G s x=none→wp T a (env n (rowN m es (s.map enc))) (rowQ h m es (s.map enc) q) (fun o=>∃ q',o=(.norm,env (n+1) (rowN m es (s.map enc)),rowQ h m es (s.map enc) q')∧q≤q'))
  (h1:∀ n x y s m q,l[n]? = some x→n<l.length→s=accL G (l.take n)→s.length≤n→G s x=some y→(∀ q,app es b (rowQ h m es (s.map enc) q) (rowN m es (s.map enc)) (.tl [.d (enc y)] (some false))=some (rowN (nmQ (s.map enc) m q) es (s.map enc++[enc y]),rowQ h (nmQ (s.map enc) m q) es (s.map enc++[enc y]) (nqQ (s.map enc) q))) →
   wp T a (env n (rowN m es (s.map enc))) (rowQ h m es (s.map enc) q) (fun o=>∃ q' q'',o=(.norm,env (n+1) (rowN (nmQ (s.map enc) m q') es (s.map enc++[enc y])),rowQ h (nmQ (s.map enc) m q') es (s.map enc++[enc y]) q'')∧q≤q'∧nqQ (s.map enc) q'≤q''))
  (h2:∀ m q,wp T a (env l.length (rowN m es ((accL G l).map enc))) (rowQ h m es ((accL G l).map enc) q) (fun o=>∃ q',o=(x1,e1 (rowN m es ((accL G l).map enc)),rowQ h m es ((accL G l).map enc) q')∧q≤q')) (ho:x1≠.norm) :
  ∃ m q,((accL G l).map enc≠[]→n0≤m∧m<q)∧h.next≤q∧ex T (.loop a) (env 0 (.tl [] (some true))) h=some (x1,e1 (rowN m es ((accL G l).map enc)),rowQ h m es ((accL G l).map enc) q):=by
 obtain ⟨o,g1,m,q,g2,g3,g4⟩:wp T (.loop a) (env 0 (.tl [] (some true))) h (fun o=>∃ m q,((accL G l).map enc≠[]→n0≤m∧m<q)∧h.next≤q∧o=(x1,e1 (rowN m es ((accL G l).map enc)),rowQ h m es ((accL G l).map enc) q)):=by
  refine loop_wp l.length (fun n e h'=>∃ s m q,s=accL G (l.take n)∧s.length≤n∧(s.map enc≠[]→n0≤m∧m<q)∧h.next≤q∧h'=rowQ h m es (s.map enc) q∧e=env n (rowN m es (s.map enc))) _ ?_ ?_ l.length 0 _ _ (by omega) ⟨[],0,h.next,by simp[accL],by simp,by simp,Nat.le_refl _,rfl,rfl⟩
  ·rintro n e h' hn ⟨s,m,q,hs,hsl,hm,hq,rfl,rfl⟩
   have hx':l[n]? = some l[n]:=List.getElem?_eq_getElem hn
   have hstep:accL G (l.take (n+1))=accG G s l[n]:=by
    rw[hs,List.take_add_one,hx'];exact accL_snoc G _ _
   cases hg:G s l[n] with
   |none=>
    obtain ⟨o,hw,q',rfl,hle⟩:=h0 n _ s m q hx' hn hs hsl hg
    exact⟨_,hw,.inl ⟨rfl,s,m,q',by rw[hstep,accG,hg],by omega,fun h=>⟨(hm h).1,by have:=(hm h).2;omega⟩,by omega,rfl,rfl⟩⟩
   |some y=>
    have hroom:((s.map enc).length+1)*b≤roomB:=Nat.le_trans (Nat.mul_le_mul_right b (by rw[List.length_map];omega)) hb
    obtain ⟨o,hw,q',q'',rfl,hle,hle2⟩:=h1 n _ y s m q hx' hn hs hsl hg (fun q=>rowQ_app h (hc y) hroom (fun z hz=>by obtain ⟨w,_,rfl⟩:=List.mem_map.1 hz;exact hc w))
    refine ⟨_,hw,.inl ⟨rfl,s++[y],nmQ (s.map enc) m q',q'',by rw[hstep,accG,hg],by simp;omega,fun _=>⟨?_,?_⟩,?_,by simp only[List.map_append,List.map_cons,List.map_nil],by simp only[List.map_append,List.map_cons,List.map_nil]⟩⟩
    ·unfold nmQ
     split
     ·omega
     ·rename_i h;exact (hm h).1
    ·have:=nmQ_lt (s:=s.map enc) (m:=m) (q:=q') (fun h=>by have:=(hm h).2;omega)
     omega
    ·have:=nqQ_le (s.map enc) q';omega
  ·rintro e h' ⟨s,m,q,hs,hsl,hm,hq,rfl,rfl⟩
   rw[List.take_length] at hs
   subst hs
   obtain ⟨o,hw,q',rfl,hle⟩:=h2 m q
   exact⟨_,hw,ho,m,q',fun h=>⟨(hm h).1,by have:=(hm h).2;omega⟩,by omega,rfl⟩
 exact⟨m,q,g2,g3,by rw[g1,g4]⟩
theorem norm_map_d (l:List D):(l.map V.d).map norm=l.map V.d:=by
 rw[List.map_map];rfl
theorem allV_d {es:Nat} {l:List D} (hl:∀ y,y ∈ l→y.cells.length=es):allV es (l.map .d)=true:=by
 unfold allV
 refine List.all_eq_true.2 fun x hx=>?_
 obtain ⟨y,hy,rfl⟩:=List.mem_map.1 hx
 simp[V.cells,hl y hy]
theorem own_app {es b m q:Nat} {o:List (Nat × Ob)} {l r:List D} (hr:∀ y,y ∈ r→y.cells.length=es) (hb:(l.length+r.length)*b≤roomB) :
  app es b ⟨(m,.arr es (l.map .d))::o,q⟩ (.own m es l.length 0 l.length) (.d (.lst r))=some (.own m es (l++r).length 0 (l++r).length,⟨(m,.arr es ((l++r).map .d))::o,q⟩):=by
 have hrow:(⟨(m,.arr es (l.map V.d))::o,q⟩:Hp).row m l.length=some (es,l.map .d):=by rw[row_cons];simp
 unfold app
 simp only[elems,Option.bind_some,norm_map_d,allV_d hr,if_true,hrow,List.length_map,Nat.zero_add,Nat.le_refl,and_self]
 by_cases h0:r=[]
 ·subst h0;simp
 ·have hp:0<r.length:=List.length_pos_iff.2 h0
  have he:(r.map V.d).isEmpty=false:=by cases r with | nil=>exact absurd rfl h0 | cons=>rfl
  rw[he]
  simp only[Bool.false_eq_true,if_false]
  rw[if_neg (by omega),if_pos hb]
  simp only[if_true,List.take_of_length_le (show (l.map V.d).length≤l.length by simp),List.length_append,List.map_append,Hp.set,upd]
theorem own_frz {es m q:Nat} {o:List (Nat × Ob)} {l:List D}:frz ⟨(m,.arr es (l.map .d))::o,q⟩ (.own m es l.length 0 l.length)=some (.d (.lst l),⟨o,q⟩):=by
 have hrow:(⟨(m,.arr es (l.map V.d))::o,q⟩:Hp).row m l.length=some (es,l.map .d):=by rw[row_cons];simp
 unfold frz
 simp only[hrow,Option.bind_some,List.length_map,Nat.zero_add,Nat.le_refl,if_true,List.drop_zero,List.take_of_length_le (show (l.map V.d).length≤l.length by simp),toDs_map,Option.map_some,Hp.kill,del]
def cloV (nl:Option Bool) (n es:Nat) (l:List D):V:=if l=[] then .tl [] nl else .own n es l.length 0 l.length
def cloO (o:List (Nat × Ob)) (n es:Nat) (l:List D):Hp:=⟨if l=[] then o else (n,.arr es (l.map .d))::o,if l=[] then n else n+1⟩
theorem cloO_nil (o:List (Nat × Ob)) (n es:Nat):cloO o n es []=⟨o,n⟩:=rfl
theorem clo_app {nl:Option Bool} {es b n:Nat} {o:List (Nat × Ob)} {l r:List D} (hl:∀ y,y ∈ l→y.cells.length=es) (hr:∀ y,y ∈ r→y.cells.length=es) (hb:(l.length+r.length)*b≤roomB) :
  app es b (cloO o n es l) (cloV nl n es l) (.d (.lst r))=some (cloV nl n es (l++r),cloO o n es (l++r)):=by
 by_cases h0:l=[]
 ·subst h0
  by_cases h1:r=[]
  ·subst h1;rfl
  ·have hp:0<r.length:=List.length_pos_iff.2 h1
   have he:(r.map V.d).isEmpty=false:=by cases r with | nil=>exact absurd rfl h1 | cons=>rfl
   simp only[cloV,cloO,if_true,List.nil_append,h1,if_false]
   unfold app
   simp only[elems,Option.bind_some,norm_map_d,allV_d hr,if_true,he,Bool.false_eq_true,if_false,List.length_nil,Nat.zero_add,List.length_map,List.nil_append]
   rw[if_pos ⟨by simpa using hb,rfl⟩]
   rfl
 ·have hlr:l++r≠[]:=by simp[h0]
  simp only[cloV,cloO,h0,hlr,if_false]
  exact own_app hr hb
theorem tl_app {nl:Option Bool} {es b:Nat} {h:Hp} {r:List D} (hr:∀ y,y ∈ r→y.cells.length=es) (hb:r.length*b≤roomB) :
  app es b h (.tl [] nl) (.d (.lst r))=some (cloV nl h.next es r,cloO h.objs h.next es r):=
 clo_app (o:=h.objs) (n:=h.next) (l:=[]) (by simp) hr (by simpa using hb)
theorem clo_frz {nl:Option Bool} {es n:Nat} {o:List (Nat × Ob)} {l:List D}:frz (cloO o n es l) (cloV nl n es l)=some (.d (.lst l),⟨o,if l=[] then n else n+1⟩):=by
 by_cases h0:l=[]
 ·subst h0;rfl
 ·simp only[cloV,cloO,h0,if_false]
  exact own_frz
theorem finS_clo {h:Hp} {nl:Option Bool} {es n:Nat} {l:List D} (hn:h.next≤n):finS h (cloO h.objs n es l) [cloV nl n es l]=some (.d (.lst l),h):=by
 by_cases h0:l=[]
 ·subst h0
  rw[cloO_nil,finS,if_pos (suf_refl _)]
  rfl
 ·have:=finS_rowQ (h:=h) (m:=n) (es:=es) (s:=l) (q:=n+1) (fun _=>hn)
  unfold rowQ rowN at this
  unfold cloV cloO
  simp only[h0,if_false] at this ⊢
  exact this
theorem ex_ambU {T:Tab} {p a b r:AC} {c:Opd} {e e1:Env} {h h1:Hp} {o q z:Out} (hp:ex T p e h=some (.norm,e1,h1)) (hc:e1.ev c=.ub) (ho:ex T (.seq a r) e1 h1=some o) (hq:ex T (.seq b r) e1 h1=some q)
  (hz:outJoin o q=some z):ex T (.amb p c a b r) e h=some z:=by
 show (ex T p e h).bind (nxt (ambB c (ex T a) (ex T b) (ex T r)))=some z
 rw[hp,Option.bind_some,nxt_n]
 unfold ambB
 rw[hc]
 rw[ex_seq] at ho hq
 simp only[ho,hq,Option.bind_some,hz]
theorem ex_ambD {T:Tab} {p a b r:AC} {c:Opd} {e e1:Env} {h h1:Hp} {o:Out} (t:Bool) (hp:ex T p e h=some (.norm,e1,h1)) (hc:e1.ev c=.d (.bool t)) (ho:ex T (.seq (if t=true then a else b) r) e1 h1=some o):ex T (.amb p c a b r) e h=some o:=by
 show (ex T p e h).bind (nxt (ambB c (ex T a) (ex T b) (ex T r)))=some o
 rw[hp,Option.bind_some,nxt_n]
 unfold ambB
 rw[hc]
 rw[ex_seq] at ho
 cases t<;>exact ho
theorem loop_anyO {T:Tab} {a:AC} {K:Nat} {p:Nat→Bool} {f:Nat→Env} {O O2:List (Nat × Ob)} {x1 x2:Ex} {e2:Env} {q0:Nat}
  (hs:∀ q n,n<K→p n=false→wp T a (f n) ⟨O,q⟩ (fun o=>∃ q',o=(.norm,f (n+1),⟨O,q'⟩)∧q≤q'))
  (hx:∀ q n,n<K→p n=true→wp T a (f n) ⟨O,q⟩ (fun o=>∃ e q',o=(x1,e,⟨O2,q'⟩)∧q≤q'))
  (hN:∀ q,wp T a (f K) ⟨O,q⟩ (fun o=>∃ q',o=(x2,e2,⟨O,q'⟩)∧q≤q')) (ho:x1≠.norm) (hoN:x2≠.norm) :
  ∃ e q',q0≤q'∧ex T (.loop a) (f 0) ⟨O,q0⟩=some (if (List.range K).any p=true then (x1,e,⟨O2,q'⟩) else (x2,e2,⟨O,q'⟩)):=by
 obtain ⟨o,h1,e,q,hqq,h2⟩:wp T (.loop a) (f 0) ⟨O,q0⟩ (fun o=>∃ e q',q0≤q'∧o=if (List.range K).any p=true then (x1,e,⟨O2,q'⟩) else (x2,e2,⟨O,q'⟩)):=by
  refine loop_wp K (fun n e h'=>(∃ q,q0≤q∧h'=⟨O,q⟩)∧e=f n∧∀ i,i<n→p i=false) _ ?_ ?_ K 0 _ _ (by omega) ⟨⟨q0,Nat.le_refl _,rfl⟩,rfl,fun i hi=>by omega⟩
  ·rintro n e h' hn ⟨⟨q,hqn,rfl⟩,rfl,hk⟩
   cases hp:p n with
   |true=>
    obtain ⟨o,hq,e,q',rfl,hle⟩:=hx q n hn hp
    have:(List.range K).any p=true:=List.any_eq_true.2 ⟨n,List.mem_range.2 hn,hp⟩
    rw[this]
    exact⟨_,hq,.inr ⟨ho,e,q',Nat.le_trans hqn hle,rfl⟩⟩
   |false=>
    obtain ⟨o,hq,q',rfl,hle⟩:=hs q n hn hp
    refine ⟨_,hq,.inl ⟨rfl,⟨q',Nat.le_trans hqn hle,rfl⟩,rfl,fun i hi=>?_⟩⟩
    by_cases hij:i=n
    ·subst hij;exact hp
    ·exact hk i (by omega)
  ·rintro e h' ⟨⟨q,hqn,rfl⟩,rfl,hk⟩
   have:(List.range K).any p=false:=by
    rw[←Bool.not_eq_true,List.any_eq_true]
    rintro ⟨x,hx,hp⟩
    rw[hk x (List.mem_range.1 hx)] at hp
    cases hp
   rw[this]
   obtain ⟨o,hq,q',rfl,hle⟩:=hN q
   exact⟨_,hq,hoN,f 0,q',Nat.le_trans hqn hle,rfl⟩
 exact⟨e,q,hqq,by rw[h1,h2]⟩
end Zs
end
section
set_option maxHeartbeats 4000000
namespace Zc28
open Go Zv Zs
theorem awake:callW tab 10 [] ⟨[],0⟩=some (.d (.bool true),⟨[],0⟩):=callW_of tab 200 (by kernel_rfl)
theorem awake_any {b:Hp} (L:Low b):callW tab 10 [] b=some (.d (.bool true),b):=callW_any tabCl (xs:=[]) awake L
end Zc28
end
section
set_option maxHeartbeats 4000000
namespace Zc28
open Go Zv Zs
abbrev eI (n:Int):D:=.int .i64 n
abbrev eIs (l:List Int):D:=.lst (l.map eI)
theorem iaI {l:List Int} {n:Nat} {x:Int} (hx:l[n]? = some x):ia 1 (.d (.lst (l.map eI))) (.d (.int .i64 (n:Int)))=some (.fp (eI x) 0):=ia_map (f:=eI) .i64 hx rfl
theorem get_of_lt {α:Type} {l:List α} {n:Nat} (h:n<l.length):∃ x,l[n]? = some x:=⟨l[n],List.getElem?_eq_getElem h⟩
theorem okEs_map {α:Type} {E:Nat→ET} {t:ET} {enc:α→D} (H:∀ x,ok E t x→∃ a,x=enc a):∀ {l:List D},okEs E t l→∃ xs:List α,l=xs.map enc
 | [],_=>⟨[],rfl⟩
 |x::l,h=>by
  simp only[okEs] at h
  obtain ⟨a,rfl⟩:=H x h.1
  obtain ⟨xs,rfl⟩:=okEs_map H h.2
  exact⟨a::xs,rfl⟩
theorem okI {x:D} (h:ok (EE es) (.one (.i .i64)) x):∃ a,x=eI a:=by
 obtain ⟨n,rfl,_⟩:=ok_i h;exact⟨n,rfl⟩
structure Ts where
 path:List Int
 con:Bool
 num:Int
 next:List Int
 row:Int
abbrev eT (t:Ts):D:=.agg [eIs t.path,.bool t.con,eI t.num,eIs t.next,eI t.row]
abbrev eTs (l:List Ts):D:=.lst (l.map eT)
theorem iaT {l:List Ts} {n:Nat} {x:Ts} (hx:l[n]? = some x):ia 5 (.d (.lst (l.map eT))) (.d (.int .i64 (n:Int)))=some (.fp (eT x) 0):=ia_map (f:=eT) .i64 hx rfl
inductive Vl where
 |mk (m c:Int) (qs:List Vl)
mutual
def eV:Vl→D
 | .mk m c qs=>.agg [.int .i64 m,.int .i64 c,.lst (eVL qs)]
def eVL:List Vl→List D
 | []=>[]
 |p::r=>eV p::eVL r
end
def numV:Vl→Int | .mk m _ _=>m
def argV:Vl→List Vl | .mk _ _ qs=>qs
structure Light (l:List Ts):Prop where
 len:l.length≤4096
 ts:∀ t,t ∈ l→t.path.length≤110∧t.next.length≤40
end Zc28
end
section
set_option maxHeartbeats 4000000
namespace Zc28
open Go Zv Zs
def getI {α:Type} (l:List α) (i:Int):Option α:=if 0≤i then l[i.toNat]? else none
theorem getI_neg {α:Type} {l:List α} {i:Int} (h:i<0):getI l i=none:=if_neg (by omega)
theorem getI_big {α:Type} {l:List α} {i:Int} (h:(l.length:Int)≤i):getI l i=none:=by
 unfold getI
 rw[if_pos (by omega),List.getElem?_eq_none (by omega)]
theorem getI_nat {α:Type} (l:List α) (n:Nat):getI l (n:Int)=l[n]? := by
 unfold getI
 rw[if_pos (by omega)];rfl
theorem getI_cases {α:Type} (l:List α) (i:Int):(i<0∧getI l i=none)∨(¬ i<0∧(l.length:Int)≤i∧getI l i=none)∨(∃ (n:Nat) (x:α),i=n∧n<l.length∧l[n]? = some x∧getI l i=some x):=by
 by_cases h1:i<0
 ·exact .inl ⟨h1,getI_neg h1⟩
 by_cases h2:(l.length:Int)≤i
 ·exact .inr (.inl ⟨h1,h2,getI_big h2⟩)
 ·obtain ⟨n,rfl⟩:∃ n:Nat,i=n:=⟨i.toNat,by omega⟩
  have hn:n<l.length:=by omega
  exact .inr (.inr ⟨n,l[n],rfl,hn,List.getElem?_eq_getElem hn,by rw[getI_nat];exact List.getElem?_eq_getElem hn⟩)
def atG:List Int→Vl→List Vl→Option Vl
 | [],x,_=>some x
 |i::p,_,v=>match getI v i with
  |none=>none
  |some y=>atG p y (argV y)
def atR (p:List Int) (v:List Vl):Option Vl:=match p with
 | []=>none
 |i::p=>match getI v i with
  |none=>none
  |some y=>atG p y (argV y)
theorem drop_at {α:Type} {l:List α} {n:Nat} {x:α} (h:l[n]? = some x):l.drop n=x::l.drop (n+1):=by
 obtain ⟨hn,rfl⟩:=List.getElem?_eq_some_iff.1 h
 exact List.drop_eq_getElem_cons hn
structure ZX (x:Vl) (X:V):Prop where
 ld1:∀ n r nx,ld true 3 ⟨(n,.arr 3 [X])::r,nx⟩ (.ptr n 1 0 0)=some X
 st1:stor X=true
 cl1:X.cells.length=3
 fin:∀ (h:Hp) (o:Nat × Ob) (m:Nat) (b:Bool),finS h ⟨o::h.objs,m⟩ [X,.d (.bool b)]=some (.tup [.d (eV x),.d (.bool b)],h)
end Zc28
end
section
set_option maxHeartbeats 4000000
namespace Zc28
open Go Zv Zs
inductive Sp where
 |R (row:Int)
 |E
 |G (n:Int)
end Zc28
end
section
set_option maxHeartbeats 4000000
namespace Zc28
open Go Zv Zs
def cnt (M:List Bool):Nat:=M.countP id
theorem cnt_len (M:List Bool):cnt M≤M.length:=List.countP_le_length
theorem set_grow:∀ {M:List Bool} {k:Nat},M[k]? = some false→cnt M+1=cnt (M.set k true)
 | [],k,h=>by cases h
 |b::M,0,h=>by
  have hb:b=false:=by simpa using h
  subst hb;simp[cnt]
 |b::M,k+1,h=>by
  have ih:=set_grow (M:=M) (k:=k) (by simpa using h)
  unfold cnt at ih ⊢
  rw[List.set_cons_succ,List.countP_cons,List.countP_cons];omega
abbrev bV (b:Bool):V:=.d (.bool b)
theorem ia_own {es n tot len j:Nat} (k:IntKind) (h:j<len):ia es (.own n es tot 0 len) (.d (.int k (j:Int)))=some (.ptr n tot j 0):=by
 simp[ia,ixOf_nat,h]
theorem ld_bit {H:Hp} {a:Nat} {M:List Bool} {j L:Nat} {b:Bool} (hr:H.row a L=some (1,M.map bV)) (hb:M[j]? = some b):ld false 1 H (.ptr a L j 0)=some (bV b):=by
 rw[ld_one,hr]
 simp[hb,V.cells,D.cells]
section
variable (l:List (Nat × Ob)) (a q:Nat)
end
end Zc28
end
section
set_option maxHeartbeats 4000000
namespace Zc28
open Go Zv Zs
end Zc28
end
section
set_option maxHeartbeats 4000000
namespace Zc28
open Go Zv Zs
abbrev zC:V:=.agg [.tl [] (some true)]
def hC (h:Hp) (s:List Ts) (q:Nat):Hp:=if s=[] then ⟨(h.next+1,.arr 1 [zC])::(h.next,.arr 1 [zC])::h.objs,h.next+1+1⟩ else
 ⟨(h.next+3,.arr 5 ((s.map eT).map .d))::(h.next+1,.arr 1 [.own (h.next+3) 5 s.length 0 s.length])::(h.next,.arr 1 [zC])::h.objs,q⟩
theorem app_0 (x:D) (hx:x.cells.length=5) (r:List (Nat × Ob)) (q:Nat) (nl:Option Bool):app 5 72 ⟨r,q⟩ (.tl [] nl) (.tl [.d x] (some false))=some (.own q 5 1 0 1,⟨(q,.arr 5 [.d x])::r,q+1⟩):=by
 simp[app,elems,allV,roomB,Hp.alloc,stor,V.cells,hx,norm_d]
theorem ld_z (n:Nat) (r:List (Nat × Ob)) (q:Nat):ld true 1 ⟨(n,.arr 1 [zC])::r,q⟩ (.ptr n 1 0 0)=some zC:=by simp[ld,row_hd]
section
variable (h:Hp) (o:Ob) (n q:Nat) (z:V)
end
end Zc28
end
section
set_option maxHeartbeats 4000000
namespace Zc28
open Go Zv Zs
abbrev Pth:=List (List Int)
def wayL (f:List Bool→Int→List Bool × Option Pth) (pre:Pth):List Int→List Bool→List Bool × Option Pth
 | [],M=>(M,none)
 |n::r,M=>match (f M n).2 with
  |some p=>((f M n).1,some (pre++p))
  |none=>wayL f pre r (f M n).1
def preT (t:Ts):Pth:=if t.con=true then [t.path] else []
def wayS (l:List Ts) (to:Int):Nat→List Bool→Int→List Bool × Option Pth
 |0,M,_=>(M,none)
 |k+1,M,a=>match getI l a with
  |none=>(M,none)
  |some t=>if getI M a=some true then (M,none) else
   if a=to then (M.set a.toNat true,some []) else wayL (wayS l to k) (preT t) t.next (M.set a.toNat true)
theorem cnt_set (M:List Bool):∀ (k:Nat),cnt M≤cnt (M.set k true):=by
 intro k
 cases h:M[k]? with
 |none=>rw[List.set_eq_of_length_le (List.getElem?_eq_none_iff.1 h)];exact Nat.le_refl _
 |some b=>
  cases b with
  |false=>have:=set_grow h;omega
  |true=>
   obtain ⟨hlt,h⟩:=List.getElem?_eq_some_iff.1 h
   rw[show M.set k true=M by rw[←h];exact List.set_getElem_self hlt];exact Nat.le_refl _
theorem wayL_mono {f:List Bool→Int→List Bool × Option Pth} (hf:∀ M a,(f M a).1.length=M.length∧cnt M≤cnt (f M a).1) (pre:Pth):∀ (r:List Int) (M:List Bool),(wayL f pre r M).1.length=M.length∧cnt M≤cnt (wayL f pre r M).1
 | [],M=>⟨rfl,Nat.le_refl _⟩
 |n::r,M=>by
  have h1:=hf M n
  unfold wayL
  cases (f M n).2 with
  |some p=>exact h1
  |none=>
   have h2:=wayL_mono hf pre r (f M n).1
   exact⟨h2.1.trans h1.1,Nat.le_trans h1.2 h2.2⟩
theorem wayS_mono (l:List Ts) (to:Int):∀ (k:Nat) (M:List Bool) (a:Int),(wayS l to k M a).1.length=M.length∧cnt M≤cnt (wayS l to k M a).1
 |0,M,a=>⟨rfl,Nat.le_refl _⟩
 |k+1,M,a=>by
  unfold wayS
  cases getI l a with
  |none=>exact⟨rfl,Nat.le_refl _⟩
  |some t=>
   simp only
   split
   ·exact⟨rfl,Nat.le_refl _⟩
   ·split
    ·exact⟨List.length_set,cnt_set _ _⟩
    ·have h:=wayL_mono (wayS_mono l to k) (preT t) t.next (M.set a.toNat true)
     exact⟨h.1.trans List.length_set,Nat.le_trans (cnt_set _ _) h.2⟩
end Zc28
end
section
set_option maxHeartbeats 4000000
namespace Zc28
open Go Zv Zs
theorem wayL_len {f:List Bool→Int→List Bool × Option Pth} {K:Nat} (hf:∀ M a p,(f M a).2=some p→p.length≤K) (pre:Pth):∀ (r:List Int) (M:List Bool) (p:Pth),(wayL f pre r M).2=some p→p.length≤pre.length+K
 | [],M,p,h=>by cases h
 |n::r,M,p,h=>by
  unfold wayL at h
  cases h1:(f M n).2 with
  |some p'=>
   rw[h1] at h;cases h
   have:=hf _ _ _ h1
   rw[List.length_append];omega
  |none=>rw[h1] at h;exact wayL_len hf pre r _ p h
theorem wayS_len (l:List Ts) (to:Int):∀ (k:Nat) (M:List Bool) (a:Int) (p:Pth),(wayS l to k M a).2=some p→p.length≤k
 |0,M,a,p,h=>by cases h
 |k+1,M,a,p,h=>by
  unfold wayS at h
  cases hg:getI l a with
  |none=>rw[hg] at h;cases h
  |some t=>
   rw[hg] at h
   simp only at h
   split at h
   ·cases h
   ·split at h
    ·cases h;exact Nat.zero_le _
    ·have h1:=wayL_len (wayS_len l to k) (preT t) t.next _ p h
     have h2:(preT t).length≤1:=by unfold preT;split<;>simp
     omega
theorem wayL_none {f:List Bool→Int→List Bool × Option Pth} {pre:Pth} {n:Int} {r:List Int} {M:List Bool} (h:(f M n).2=none):wayL f pre (n::r) M=wayL f pre r (f M n).1:=by
 rw[wayL,h]
theorem wayL_some {f:List Bool→Int→List Bool × Option Pth} {pre:Pth} {n:Int} {r:List Int} {M:List Bool} {p:Pth} (h:(f M n).2=some p):wayL f pre (n::r) M=((f M n).1,some (pre++p)):=by
 rw[wayL,h]
end Zc28
end
section
set_option maxHeartbeats 4000000
namespace Zc28
open Go Zv Zs
def tstS (l:List Ts) (to:Int):Pth:=(wayS l to (l.length+1) (List.replicate l.length false) 0).2.getD []
end Zc28
end
section
set_option maxHeartbeats 4000000
namespace Zc28
open Go Zv Zs
def srL (f:List Bool→Int→List Bool × Option (List Ts)) (t:Ts):List Int→List Bool→List Bool × Option (List Ts)
 | [],M=>(M,none)
 |n::r,M=>match (f M n).2 with
  |some p=>((f M n).1,some (t::p))
  |none=>srL f t r (f M n).1
def srS (l:List Ts) (to:Int):Nat→List Bool→Int→List Bool × Option (List Ts)
 |0,M,_=>(M,none)
 |k+1,M,a=>match getI l a with
  |none=>(M,none)
  |some t=>if getI M a=some true then (M,none) else
   if a=to then (M.set a.toNat true,some []) else srL (srS l to k) t t.next (M.set a.toNat true)
theorem srL_none {f:List Bool→Int→List Bool × Option (List Ts)} {t:Ts} {n:Int} {r:List Int} {M:List Bool} (h:(f M n).2=none):srL f t (n::r) M=srL f t r (f M n).1:=by
 rw[srL,h]
theorem srL_some {f:List Bool→Int→List Bool × Option (List Ts)} {t:Ts} {n:Int} {r:List Int} {M:List Bool} {p:List Ts} (h:(f M n).2=some p):srL f t (n::r) M=((f M n).1,some (t::p)):=by
 rw[srL,h]
def pthT (T:List Ts):Pth:=T.flatMap preT
theorem wayL_sr {f:List Bool→Int→List Bool × Option Pth} {g:List Bool→Int→List Bool × Option (List Ts)} (h:∀ M a,f M a=((g M a).1,(g M a).2.map pthT)) (t:Ts):∀ (r:List Int) (M:List Bool),wayL f (preT t) r M=((srL g t r M).1,(srL g t r M).2.map pthT)
 | [],M=>rfl
 |n::r,M=>by
  have h1:=h M n
  cases h2:(g M n).2 with
  |none=>
   have h3:(f M n).2=none:=by rw[h1,h2];rfl
   rw[wayL_none h3,srL_none h2,wayL_sr h t r,h1]
  |some T=>
   have h3:(f M n).2=some (pthT T):=by rw[h1,h2];rfl
   rw[wayL_some h3,srL_some h2,h1]
   rfl
theorem wayS_sr (l:List Ts) (to:Int):∀ (k:Nat) (M:List Bool) (a:Int),wayS l to k M a=((srS l to k M a).1,(srS l to k M a).2.map pthT)
 |0,_,_=>rfl
 |k+1,M,a=>by
  unfold wayS srS
  cases getI l a with
  |none=>rfl
  |some t=>
   simp only
   split
   ·rfl
   ·split
    ·rfl
    ·exact wayL_sr (wayS_sr l to k) t t.next _
theorem srL_ne {g:List Bool→Int→List Bool × Option (List Ts)} (h:∀ M a T,(g M a).2=some T→∀ t,t ∈ T→t.next≠[]) (t:Ts) (ht:t.next≠[]):∀ (r:List Int) (M:List Bool) (T:List Ts),(srL g t r M).2=some T→∀ x,x ∈ T→x.next≠[]
 | [],M,T,hT=>by cases hT
 |n::r,M,T,hT=>by
  cases h2:(g M n).2 with
  |none=>rw[srL_none h2] at hT;exact srL_ne h t ht r _ T hT
  |some U=>
   rw[srL_some h2] at hT
   cases hT
   intro x hx
   rcases List.mem_cons.1 hx with rfl | hx
   ·exact ht
   ·exact h M n U h2 x hx
theorem srS_ne (l:List Ts) (to:Int):∀ (k:Nat) (M:List Bool) (a:Int) (T:List Ts),(srS l to k M a).2=some T→∀ t,t ∈ T→t.next≠[]
 |0,_,_,_,h=>by cases h
 |k+1,M,a,T,h=>by
  unfold srS at h
  cases hg:getI l a with
  |none=>rw[hg] at h;cases h
  |some t=>
   rw[hg] at h
   simp only at h
   split at h
   ·cases h
   ·split at h
    ·cases h;intro t ht;cases ht
    ·by_cases hn:t.next=[]
     ·rw[hn] at h;cases h
     ·exact srL_ne (srS_ne l to k) t hn t.next _ T h
theorem srS_mono (l:List Ts) (to:Int) (k:Nat) (M:List Bool) (a:Int):(srS l to k M a).1.length=M.length∧cnt M≤cnt (srS l to k M a).1:=by
 have:=wayS_mono l to k M a
 rw[wayS_sr] at this
 exact this
theorem tstS_sr (l:List Ts) (to:Int):tstS l to=pthT ((srS l to (l.length+1) (List.replicate l.length false) 0).2.getD []):=by
 unfold tstS
 rw[wayS_sr]
 cases (srS l to (l.length+1) (List.replicate l.length false) 0).2<;>rfl
end Zc28
end
section
set_option maxHeartbeats 4000000
namespace Zc28
open Go Zv Zs
theorem idxI (l:List Int) (cv:V) (J:Nat→Hp→Prop) (K:Hp→Prop) (hl:l.length<2 ^ 60) (hcv:norm cv=cv)
  (step:∀ n x H,l[n]? = some x→J n H→∃ b H',cW tab cv [.d (eI x)] H=some (.d (.bool b),H')∧(b=true→K H')∧(b=false→J (n+1) H')) (H:Hp) (h0:J 0 H) :
  ∃ r,callW tab 131 [.d (eIs l),cv] H=some r∧∃ z H',r=(.d (eI z),H')∧((0≤z∧K H')∨(¬ 0≤z∧J l.length H')):=by
 refine call_wpE (fn:=f131) rfl rfl ?_
 simp only[e131,hcv,wz,opX,intBin,↓reduceIte,simprocAttr]
 refine loop_wp l.length (fun n e h'=>J n h'∧e=[(0,.d (eIs l)),(1,cv),(7,.d (.int .i64 l.length)),(8,.d (.int .i64 (n:Int)))]) _ ?_ ?_ l.length 0 _ _ (by omega) ⟨h0,rfl⟩
 ·rintro n e h' hn ⟨hJ,rfl⟩
  obtain ⟨x,hx⟩:=get_of_lt hn
  have hwr:IntKind.i64.wrap ((n:Int)+1)=((n+1:Nat):Int):=by rw[wrap_ok (by omega) (by omega)];rfl
  obtain ⟨b,H',hc,h1,h2⟩:=step n x h' hx hJ
  cases b with
  |true=>
   simp only[e131,hn,hcv,iaI hx,hc,wz,opX,intBin,↓reduceIte,simprocAttr]
   exact⟨_,rfl,_,_,rfl,.inl ⟨by omega,h1 rfl⟩⟩
  |false=>
   simp only[e131,hn,hcv,iaI hx,hc,hwr,wz,opX,intBin,↓reduceIte,simprocAttr]
   exact h2 rfl
 ·rintro e h' ⟨hJ,rfl⟩
  simp only[e131,wz,opX,intBin,↓reduceIte,simprocAttr]
  exact⟨_,rfl,_,_,rfl,.inr ⟨by decide,hJ⟩⟩
theorem conI (l:List Int) (cv:V) (J:Nat→Hp→Prop) (K:Hp→Prop) (hl:l.length<2 ^ 60) (hcv:norm cv=cv)
  (step:∀ n x H,l[n]? = some x→J n H→∃ b H',cW tab cv [.d (eI x)] H=some (.d (.bool b),H')∧(b=true→K H')∧(b=false→J (n+1) H')) (H:Hp) (h0:J 0 H) :
  ∃ b H',callW tab 96 [.d (eIs l),cv] H=some (.d (.bool b),H')∧(b=true→K H')∧(b=false→J l.length H'):=by
 obtain ⟨r,hr,z,H',rfl,hz⟩:=idxI l cv J K hl hcv step H h0
 refine ⟨decide (0≤z),H',?_,?_,?_⟩
 ·refine call_wp (fn:=f96) rfl rfl ?_
  simp only[e96,hcv,hr,wz,opX,intBin,↓reduceIte,simprocAttr]
 ·intro h
  rcases hz with ⟨_,h2⟩ | ⟨h1,_⟩
  ·exact h2
  ·exact absurd (of_decide_eq_true h) h1
 ·intro h
  rcases hz with ⟨h1,_⟩ | ⟨_,h2⟩
  ·exact absurd h1 (of_decide_eq_false h)
  ·exact h2
end Zc28
end
