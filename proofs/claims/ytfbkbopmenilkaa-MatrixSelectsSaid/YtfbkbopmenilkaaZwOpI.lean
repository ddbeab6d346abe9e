/-
  Maps, and the comparison of structs of scalars.
-/
import Derived.Test.YtfbkbopmenilkaaZwOpH
set_option linter.unusedSimpArgs false
namespace Zv
open Go

section
variable {P : Program} {g : G} {h : Hp} {w : World}

def kkOk (P : Program) (k : KK) (t : TypeId) : Bool :=
  match k, P.underlying t with
  | .i, some (.int _) => true
  | .s, some .string => true
  | .b, some .bool => true
  | _, _ => false

theorem kk_desc {k : KK} {t : TypeId} (hk : kkOk P k t = true) : ∃ d, P.underlying t = some d ∧ ((k = .i ∧ ∃ q, d = .int q) ∨ (k = .s ∧ d = .string) ∨ (k = .b ∧ d = .bool)) := by
  unfold kkOk at hk
  split at hk
  · exact ⟨_, by assumption, .inl ⟨rfl, _, rfl⟩⟩
  · exact ⟨_, by assumption, .inr (.inl ⟨rfl, rfl⟩)⟩
  · exact ⟨_, by assumption, .inr (.inr ⟨rfl, rfl⟩)⟩
  · cases hk

theorem sameNow_ok {k : KK} {t : TypeId} {d : TypeDesc} (hk : kkOk P k t = true) (hd : P.underlying t = some d) {x y : D} {a b : Value} {r : Bool} (h : keyEq k x y = some r) (ha : RepD g.φ x a) (hb : RepD g.φ y b) :
    Instr.sameNow d a b = some r ∧ (r = true → Instr.sameBits 10000 b a = true) := by
  obtain ⟨d', hd', hc⟩ := kk_desc hk
  rw [hd] at hd'
  cases hd'
  unfold keyEq at h
  split at h
  · cases ha; cases hb
    rcases hc with ⟨_, q, rfl⟩ | ⟨e, _⟩ | ⟨e, _⟩
    · split at h
      · rename_i e; subst e; cases h
        refine ⟨by simp [Instr.sameNow], fun hr => ?_⟩
        have := eq_of_beq hr
        subst this
        simp [Instr.sameBits]
      · cases h
    · cases e
    · cases e
  · cases ha; cases hb
    rcases hc with ⟨e, _⟩ | ⟨_, rfl⟩ | ⟨e, _⟩
    · cases e
    · cases h
      refine ⟨by simp [Instr.sameNow, ba_beq], fun hr => ?_⟩
      have := of_decide_eq_true hr
      subst this
      simp [Instr.sameBits, ba_beq]
    · cases e
  · cases ha; cases hb
    rcases hc with ⟨e, _⟩ | ⟨e, _⟩ | ⟨_, rfl⟩
    · cases e
    · cases e
    · cases h
      refine ⟨by simp [Instr.sameNow], fun hr => ?_⟩
      have := eq_of_beq hr
      subst this
      simp [Instr.sameBits]
  · cases h

theorem findK_ok {kk : KK} {t : TypeId} {d : TypeDesc} (hk : kkOk P kk t = true) (hd : P.underlying t = some d) {k : D} {a : Value} (ha : RepD g.φ k a) : ∀ {kvs : List (D × V)} {es : List MapEntry} {r : Option V} (i : Nat), RepKvs g kvs es → findK kk k kvs = some r →
    ∃ q, Instr.findNow d a es i = some q ∧ ((r = none ∧ q = none) ∨ ∃ x j v, r = some x ∧ q = some (i + j, v) ∧ Rep g x v)
  | _, _, r, i, .nil, h => by simp only [findK] at h; cases h; exact ⟨none, rfl, .inl ⟨rfl, rfl⟩⟩
  | _, _, r, i, .cons k' x l e es hk' hx hs, h => by
    simp only [findK] at h
    split at h
    · rename_i hq
      cases h
      have := (sameNow_ok hk hd hq ha hk').1
      exact ⟨some (i, e.val), by simp [Instr.findNow, this], .inr ⟨x, 0, e.val, rfl, rfl, hx⟩⟩
    · rename_i hq
      have hsn := (sameNow_ok hk hd hq ha hk').1
      obtain ⟨q, h1, h2⟩ := findK_ok hk hd ha (i + 1) hs h
      refine ⟨q, by simp [Instr.findNow, hsn, h1], ?_⟩
      rcases h2 with h2 | ⟨x', j, v, e1, e2, e3⟩
      · exact .inl h2
      · exact .inr ⟨x', j + 1, v, e1, by rw [e2]; congr 2; omega, e3⟩
    · cases h

theorem checkKey_run {kk : KK} {t : TypeId} (hk : kkOk P kk t = true) (b : Bool) (a : Value) : (Instr.checkKey b 10000 t a).run P w = .ok () w := by
  obtain ⟨d, hd, hc⟩ := kk_desc hk
  have : ∀ n, (Instr.checkKey b (n + 1) t a).run P w = .ok () w := by
    intro n
    rcases hc with ⟨_, q, rfl⟩ | ⟨_, rfl⟩ | ⟨_, rfl⟩ <;> simp [Instr.checkKey, run_underlying hd]
  exact this 9999

theorem getObj_run {r : Nat} {es : Array MapEntry} {cl : Nat} (hb : w.heap[r]? = some (.map es cl)) : (getObj r).run P w = .ok (.map es cl) w := by
  simp [getObj, Sem.run, hb]

theorem entries_ok {x : V} {kvs : List (D × V)} {a : Value} (R : Rel g h w) (H : entries h x = some kvs) (ha : Rep g x a) :
    (a = .map none ∧ kvs = []) ∨ ∃ n es cl, x = .map n ∧ h.get n = some (.mp kvs) ∧ a = .map (some (g.μ n 0).b) ∧ w.heap[(g.μ n 0).b]? = some (.map es cl) ∧ RepKvs g kvs es.toList := by
  unfold entries at H
  split at H
  · rename_i n
    split at H
    · rename_i q hq
      cases H
      obtain ⟨es, cl, h1, h2⟩ := (R.ob n _ hq).2.2
      cases ha
      exact .inr ⟨n, es, cl, rfl, hq, rfl, h1, h2⟩
    · cases H
  · cases H
    cases ha.dI
    exact .inl ⟨rfl, rfl⟩
  · cases H

theorem RepKvs.length : ∀ {l : List (D × V)} {es : List MapEntry}, RepKvs g l es → es.length = l.length
  | _, _, .nil => rfl
  | _, _, .cons _ _ _ _ _ _ _ hs => by simp [RepKvs.length hs]

theorem lenM_ok {t k e ty : TypeId} {x z : V} {a : Value} (R : Rel g h w) (ht : P.underlying t = some (.map k e)) (H : lenM h x = some z) (ha : Rep g x a) : Gives P g w (Builtin.len_ #[t] ty #[a]) z := by
  unfold lenM at H
  simp only [Option.map_eq_some_iff] at H
  obtain ⟨kvs, hk, rfl⟩ := H
  rcases entries_ok R hk ha with ⟨rfl, rfl⟩ | ⟨n, es, cl, rfl, h1, rfl, h2, h3⟩
  · exact ⟨goInt 0, by simp [Builtin.len_, run_underlying ht], .d _ _ (.int _ _)⟩
  · refine ⟨goInt es.size, by simp [Builtin.len_, run_underlying ht, getObj_run h2], ?_⟩
    have := h3.length
    rw [Array.length_toList] at this
    rw [this]
    exact .d _ _ (.int _ _)

theorem lk_ok {t k e : TypeId} {i : TypeInfo} {zv : Value} {kk : KK} {z : V} {ok : Bool} {m x y : V} {a b : Value} (R : Rel g h w) (ht : P.underlying t = some (.map k e)) (hkk : kkOk P kk k = true)
    (hi : P.info? e = some i) (hz : i.zero = some zv) (hzr : Rep g z zv) (H : lk kk z ok h m x = some y) (ha : Rep g m a) (hb : Rep g x b) : Gives P g w (Instr.lookup t a b ok) y := by
  unfold lk at H
  split at H
  case h_2 => cases H
  rename_i q
  simp only [Option.bind_eq_some_iff, Option.map_eq_some_iff] at H
  obtain ⟨kvs, hkvs, r, hr, rfl⟩ := H
  obtain ⟨d, hd, _⟩ := kk_desc hkk
  have hzero : (zeroValue e).run P w = .ok zv w := by simp [zeroValue, typeInfo, hi, hz]
  have fin : ∀ v, (Instr.lookup t a b ok).run P w = .ok (if ok = true then .tuple #[v, .bool r.isSome] else v) w → Rep g (r.getD z) v → Gives P g w (Instr.lookup t a b ok) (if ok = true then .tup [r.getD z, .d (.bool r.isSome)] else r.getD z) := by
    intro v h5 h6
    refine ⟨_, h5, ?_⟩
    cases ok
    · exact h6
    · exact .tup _ [v, .bool r.isSome] (.cons _ _ _ _ h6 (.cons _ _ _ _ (.d _ _ (.bool _)) .nil))
  rcases entries_ok R hkvs ha with ⟨rfl, rfl⟩ | ⟨n, es, cl, rfl, h1, rfl, h2, h3⟩
  · simp only [findK] at hr
    cases hr
    refine fin zv ?_ hzr
    have hfind : (Instr.findKey k b []).run P w = .ok none w := by
      simp only [Instr.findKey, Sem.run_bind, run_underlying hd, Result.andThen_ok, Instr.findNow, Sem.run_pure]
    simp only [Instr.lookup, Sem.run_bind, run_underlying ht, Result.andThen_ok, checkKey_run hkk, Sem.run_pure, hfind, hzero]
    cases ok <;> rfl
  · obtain ⟨q', hq1, hq2⟩ := findK_ok hkk hd hb.dI 0 h3 hr
    have hfind : (Instr.findKey k b es.toList).run P w = .ok q' w := by
      simp only [Instr.findKey, Sem.run_bind, run_underlying hd, Result.andThen_ok, hq1, Sem.run_pure]
    rcases hq2 with ⟨rfl, rfl⟩ | ⟨x', j, v, rfl, rfl, hv⟩
    · refine fin zv ?_ hzr
      simp only [Instr.lookup, Sem.run_bind, run_underlying ht, Result.andThen_ok, getObj_run h2, checkKey_run hkk, Sem.run_pure, hfind, hzero]
      cases ok <;> rfl
    · refine fin v ?_ hv
      simp only [Instr.lookup, Sem.run_bind, run_underlying ht, Result.andThen_ok, getObj_run h2, checkKey_run hkk, Sem.run_pure, hfind]
      cases ok <;> rfl

theorem putK_ok {kk : KK} {t : TypeId} {d : TypeDesc} (hk : kkOk P kk t = true) (hd : P.underlying t = some d) {k : D} {x : V} {a v : Value} (ha : RepD g.φ k a) (hv : Rep g x v) : ∀ {kvs s : List (D × V)} {es : List MapEntry} (i : Nat), RepKvs g kvs es → putK kk k x kvs = some s →
    (Instr.findNow d a es i = some none ∧ s = kvs ++ [(k, x)]) ∨
      ∃ j e u, Instr.findNow d a es i = some (some (i + j, u)) ∧ es[j]? = some e ∧ Instr.sameBits 10000 e.key a = true ∧ RepKvs g s (es.set j { e with key := a, val := v })
  | _, s, _, i, .nil, h => by simp only [putK] at h; cases h; exact .inl ⟨rfl, rfl⟩
  | _, s, _, i, .cons k' x' l e es hk' hx hs, h => by
    simp only [putK] at h
    split at h
    · rename_i hq
      cases h
      have := sameNow_ok hk hd hq ha hk'
      refine .inr ⟨0, e, e.val, by simp [Instr.findNow, this.1], rfl, this.2 rfl, ?_⟩
      exact .cons k x l _ es ha hv hs
    · rename_i hq
      simp only [Option.map_eq_some_iff] at h
      obtain ⟨s', hs', rfl⟩ := h
      have hsn := (sameNow_ok hk hd hq ha hk').1
      rcases putK_ok hk hd ha hv (i + 1) hs hs' with ⟨h1, rfl⟩ | ⟨j, e', u, h1, h2, h3, h4⟩
      · exact .inl ⟨by simp [Instr.findNow, hsn, h1], rfl⟩
      · refine .inr ⟨j + 1, e', u, by simp [Instr.findNow, hsn, h1]; omega, by simpa using h2, h3, ?_⟩
        exact .cons k' x' s' e _ hk' hx h4
    · cases h

theorem RepKvs.snoc {k : D} {x : V} {e : MapEntry} (hk : RepD g.φ k e.key) (hx : Rep g x e.val) : ∀ {l : List (D × V)} {es : List MapEntry}, RepKvs g l es → RepKvs g (l ++ [(k, x)]) (es ++ [e])
  | _, _, .nil => .cons k x [] e [] hk hx .nil
  | _, _, .cons k' x' l e' es hk' hx' hs => .cons k' x' _ e' _ hk' hx' (RepKvs.snoc hk hx hs)

theorem heap_setObj {r : Nat} {o o' : Obj} (hb : w.heap[r]? = some o) :
    ({ w with heap := w.heap.setIfInBounds r o' } : World).heap[r]? = some o' ∧ (∀ d, d < w.heap.size → d ≠ r → ({ w with heap := w.heap.setIfInBounds r o' } : World).heap[d]? = w.heap[d]?) ∧ Fx w { w with heap := w.heap.setIfInBounds r o' } := by
  have hlt := (Array.getElem?_eq_some_iff.1 hb).1
  refine ⟨by simp [hlt], fun d hd hne => ?_, ⟨rfl, rfl, rfl, by simp⟩⟩
  simp only [Array.getElem?_setIfInBounds]
  rw [if_neg (fun e => hne e.symm)]

theorem mu_ok {t k e : TypeId} {kk : KK} {m x y : V} {a b c : Value} {h' : Hp} (R : Rel g h w) (ht : P.underlying t = some (.map k e)) (hkk : kkOk P kk k = true)
    (H : mu kk h m x y = some h') (ha : Rep g m a) (hb : Rep g x b) (hc : Rep g y c) : GivesU P g w (Instr.mapUpdate t a b c) h' := by
  unfold mu at H
  split at H
  case h_2 => cases H
  rename_i n q
  split at H
  case h_2 => cases H
  rename_i kvs hn
  split at H
  case isFalse => cases H
  simp only [Option.map_eq_some_iff] at H
  obtain ⟨s, hs, rfl⟩ := H
  obtain ⟨d, hd, _⟩ := kk_desc hkk
  obtain ⟨es, cl, h1, h2⟩ := (R.ob n _ hn).2.2
  cases ha
  have hset : ∀ o', (setObj (g.μ n 0).b o').run P w = .ok () { w with heap := w.heap.setIfInBounds (g.μ n 0).b o' } := fun o' => by simp [setObj, Sem.run, h1]
  have fin : ∀ (es' : Array MapEntry) (cl' : Nat), RepKvs g s es'.toList → (Instr.mapUpdate t (.map (some (g.μ n 0).b)) b c).run P w = .ok () { w with heap := w.heap.setIfInBounds (g.μ n 0).b (.map es' cl') } → GivesU P g w (Instr.mapUpdate t (.map (some (g.μ n 0).b)) b c) (h.set n (.mp s)) := by
    intro es' cl' hr hrun
    obtain ⟨k1, k2, k3⟩ := heap_setObj (o' := .map es' cl') h1
    exact ⟨_, g, hrun, Le.refl g, R.set hn rfl (fun d hd hne => k2 d hd hne) ⟨es', cl', k1, hr⟩, k3⟩
  rcases putK_ok hkk hd hb.dI hc.norm 0 h2 hs with ⟨f1, rfl⟩ | ⟨j, e', u, f1, f2, f3, f4⟩
  · refine fin (es.push { key := b, val := c, born := cl }) (cl + 1) (by rw [Array.toList_push]; exact RepKvs.snoc hb.dI hc.norm h2) ?_
    have hfind : (Instr.findKey k b es.toList).run P w = .ok none w := by
      simp only [Instr.findKey, Sem.run_bind, run_underlying hd, Result.andThen_ok, f1, Sem.run_pure]
    simp only [Instr.mapUpdate, Sem.run_bind, run_underlying ht, Result.andThen_ok, getObj_run h1, checkKey_run hkk, hfind, hset]
  · have hfind : (Instr.findKey k b es.toList).run P w = .ok (some (0 + j, u)) w := by
      simp only [Instr.findKey, Sem.run_bind, run_underlying hd, Result.andThen_ok, f1, Sem.run_pure]
    rw [Nat.zero_add] at hfind
    have f2' : es[j]? = some e' := by rw [← Array.getElem?_toList]; exact f2
    have hm : (es.modify j fun e => { e with key := b, val := c }).toList = es.toList.set j { e' with key := b, val := c } := by
      apply List.ext_getElem?
      intro l
      rw [Array.getElem?_toList, Array.getElem?_modify, List.getElem?_set]
      have hjl : j < es.toList.length := lt_of_get f2
      by_cases hl : j = l
      · subst hl
        rw [if_pos rfl, if_pos rfl, if_pos hjl, f2']
        rfl
      · rw [if_neg hl, if_neg hl, Array.getElem?_toList]
    refine fin (es.modify j fun e => { e with key := b, val := c }) cl (by rw [hm]; exact f4) ?_
    have hkey : (Instr.keyThatStays e'.key b).run P w = .ok b w := by simp [Instr.keyThatStays, f3]
    simp only [Instr.mapUpdate, Sem.run_bind, run_underlying ht, Result.andThen_ok, getObj_run h1, checkKey_run hkk, hfind, f2', Option.map_some, Option.getD_some, hkey, hset]

theorem mkmap_ok {t : TypeId} (R : Rel g h w) : GivesH P g w (Instr.makeMap t none) (.map h.next) (h.alloc (.mp [])) := by
  obtain ⟨a1, a2, a3⟩ := heap_alloc w (.map #[] 0)
  have hμ : (g.put h.next 0 ⟨w.heap.size, 0, 0, 0⟩).μ h.next 0 = ⟨w.heap.size, 0, 0, 0⟩ := by simp [G.put]
  have := R.alloc (.mp []) ⟨w.heap.size, 0, 0, 0⟩ rfl a2 (by
    simp only [Ob.tot, ObRep]
    rw [hμ]
    exact ⟨#[], 0, a1, .nil⟩)
  refine ⟨.map (some w.heap.size), w.alloc (.map #[] 0), _, rfl, this.1, this.2, ?_, a3⟩
  have hr := Rep.map (g := g.put h.next 0 ⟨w.heap.size, 0, 0, 0⟩) h.next (by show h.next < max g.N (h.next + 1); omega)
  rw [hμ] at hr
  exact hr
theorem mkmapR_ok {t k e : TypeId} {q : IntKind} {n : Int} (R : Rel g h w) (ht : P.underlying t = some (.map k e)) : GivesH P g w (Instr.makeMap t (some (.int q n))) (.map h.next) (h.alloc (.mp [])) := by
  obtain ⟨v, w', g', h1, h2⟩ := mkmap_ok (P := P) (t := t) R
  refine ⟨v, w', g', ?_, h2⟩
  rw [← h1]
  simp [Instr.makeMap, run_underlying ht, asInt, asIntOf]

/-! ### Structs of scalars -/

def fsOk (P : Program) : Nat → List KK → List Field → Bool
  | _, [], [] => true
  | i, k :: ks, f :: fs => f.offset == i && (f.name != "_") && kkOk P k f.type && fsOk P (i + 1) ks fs
  | _, _, _ => false

def eqTyOk (P : Program) (ks : List KK) (t : TypeId) : Bool :=
  match P.underlying t with
  | some (.struct fs) => !P.stoodInHeld t && !P.eqGuardType P.depth t && fsOk P 0 ks fs.toList
  | _ => false

theorem eqIn_scalar {k : KK} {t : TypeId} (hk : kkOk P k t = true) (d : Nat) {x y : D} {a b : Value} {r : Bool} (h : keyEq k x y = some r) (ha : RepD g.φ x a) (hb : RepD g.φ y b) :
    (Op.equalIn (d + 1) t a b).run P w = .ok r w := by
  obtain ⟨q, hd, hc⟩ := kk_desc hk
  unfold keyEq at h
  split at h
  · cases ha; cases hb
    rcases hc with ⟨_, q, rfl⟩ | ⟨e, _⟩ | ⟨e, _⟩
    · split at h
      · rename_i e; subst e; cases h
        simp [Op.equalIn, run_underlying hd]
      · cases h
    · cases e
    · cases e
  · cases ha; cases hb
    rcases hc with ⟨e, _⟩ | ⟨_, rfl⟩ | ⟨e, _⟩
    · cases e
    · cases h
      simp [Op.equalIn, run_underlying hd, ba_beq]
    · cases e
  · cases ha; cases hb
    rcases hc with ⟨e, _⟩ | ⟨e, _⟩ | ⟨_, rfl⟩
    · cases e
    · cases e
    · cases h
      simp [Op.equalIn, run_underlying hd]
  · cases h

theorem part_scalar {k : KK} {t : TypeId} (hk : kkOk P k t = true) {cs : Array Value} {off : Nat} {v : Value} (hv : cs[off]? = some v) : (part t cs off).run P w = .ok v w := by
  obtain ⟨q, hd, hc⟩ := kk_desc hk
  have hag : agOf P t = false := by
    unfold agOf
    rw [hd]
    rcases hc with ⟨_, q, rfl⟩ | ⟨_, rfl⟩ | ⟨_, rfl⟩ <;> rfl
  simp only [part, Sem.run_bind, run_isAgg' (by rw [hd]; rfl), Result.andThen_ok, hag]
  simp [hv]

theorem forIn_eq (d : Nat) (xs ys : Array Value) : ∀ (fs : List Field) (ks : List KK) (i : Nat) (l m : List D) (r : Bool), fsOk P i ks fs = true → D.eqs ks l m = some r →
    (∀ j x, l[j]? = some x → ∃ v, xs[i + j]? = some v ∧ RepD g.φ x v) → (∀ j x, m[j]? = some x → ∃ v, ys[i + j]? = some v ∧ RepD g.φ x v) →
    ∃ s : Option Bool × Unit, (forIn fs (none, ()) (fun (f : Field) (_ : Option Bool × Unit) =>
        (if f.name ≠ "_" then do
          let a ← part f.type xs f.offset
          let b ← part f.type ys f.offset
          let c ← Op.equalIn (d + 1) f.type a b
          if (!c) = true then pure (ForInStep.done (some false, ())) else pure (ForInStep.yield (none, ()))
        else pure (ForInStep.yield (none, ())) : Sem (ForInStep (Option Bool × Unit))))).run P w = .ok s w ∧ (s = (none, ()) ∧ r = true ∨ s = (some false, ()) ∧ r = false)
  | [], [], i, [], [], r, _, h, _, _ => by
    simp only [D.eqs] at h
    cases h
    exact ⟨(none, ()), rfl, .inl ⟨rfl, rfl⟩⟩
  | f :: fs, k :: ks, i, x :: l, y :: m, r, hf, h, hx, hy => by
    simp only [fsOk, Bool.and_eq_true] at hf
    obtain ⟨⟨⟨ho, hn⟩, hk⟩, hf'⟩ := hf
    simp only [D.eqs] at h
    cases h1 : keyEq k x y with
    | none => rw [h1] at h; cases h
    | some b1 =>
      cases h2 : D.eqs ks l m with
      | none => rw [h1, h2] at h; cases h
      | some b2 =>
        rw [h1, h2] at h
        cases h
        obtain ⟨vx, hvx, rx⟩ := hx 0 x rfl
        obtain ⟨vy, hvy, ry⟩ := hy 0 y rfl
        have ho' : f.offset = i := by simpa using ho
        have hn' : f.name ≠ "_" := by simpa using hn
        have e := eqIn_scalar (w := w) hk d h1 rx ry
        rw [Nat.add_zero] at hvx hvy
        rw [List.forIn_cons]
        simp only [if_pos hn', Sem.run_bind, ho', part_scalar hk hvx, part_scalar hk hvy, Result.andThen_ok, e]
        cases b1
        · exact ⟨(some false, ()), rfl, .inr ⟨rfl, rfl⟩⟩
        · simp only [Bool.not_true, Bool.false_eq_true, if_false, Sem.run_pure, Result.andThen_ok, Bool.true_and]
          exact forIn_eq d xs ys fs ks (i + 1) l m b2 hf' h2 (fun j z hz => by
            have := hx (j + 1) z (by simpa using hz)
            rwa [show i + (j + 1) = i + 1 + j from by omega] at this) (fun j z hz => by
            have := hy (j + 1) z (by simpa using hz)
            rwa [show i + (j + 1) = i + 1 + j from by omega] at this)
  | [], _ :: _, _, _, _, _, hf, _, _, _ => by cases hf
  | _ :: _, [], _, _, _, _, hf, _, _, _ => by cases hf
  | [], [], _, _ :: _, _, _, _, h, _, _ => by cases h
  | [], [], _, [], _ :: _, _, _, h, _, _ => by cases h
  | _ :: _, _ :: _, _, [], _, _, _, h, _, _ => by cases h
  | _ :: _, _ :: _, _, _ :: _, [], _, _, h, _, _ => by cases h

theorem aggEq_run {ks : List KK} {t : TypeId} (ht : eqTyOk P ks t = true) (d : Nat) {l m : List D} {r : Bool} {a b : Value} (h : D.eqs ks l m = some r) (ha : RepD g.φ (.agg l) a) (hb : RepD g.φ (.agg m) b) :
    (Op.equalIn (d + 2) t a b).run P w = .ok r w := by
  unfold eqTyOk at ht
  split at ht
  case h_2 => cases ht
  rename_i fs hu
  simp only [Bool.and_eq_true, Bool.not_eq_true'] at ht
  obtain ⟨⟨h1, _⟩, h3⟩ := ht
  cases ha with | agg _ vs hr =>
  cases hb with | agg _ us hq =>
  have hx : ∀ (l : List D) (vs : List Value), RepDs g.φ l vs → ∀ j x, l[j]? = some x → ∃ v, vs.toArray[0 + j]? = some v ∧ RepD g.φ x v := by
    intro l vs hr j x hj
    obtain ⟨v, hv, hx⟩ := hr.get hj
    exact ⟨v, by simpa using hv, hx⟩
  obtain ⟨s, hs, hsr⟩ := forIn_eq (P := P) (w := w) (g := g) d vs.toArray us.toArray fs.toList ks 0 l m r h3 h (hx l vs hr) (hx m us hq)
  rw [Op.equalIn]
  simp only [Sem.run_bind, run_underlying hu, Result.andThen_ok, run_program, h1, Bool.false_eq_true, if_false]
  rw [← Array.forIn_toList, hs]
  rcases hsr with ⟨rfl, rfl⟩ | ⟨rfl, rfl⟩
  · rfl
  · rfl

theorem aggBin_ok {ks : List KK} {op : BinOp} {x y z : V} {a b : Value} {t : TypeId} (ht : eqTyOk P ks t = true) (h : aggBin ks op x y = some z) (ha : Rep g x a) (hb : Rep g y b) (ox oy : Operand) :
    Gives P g w (do eqGuard op t ox oy a b; binOp op t a b) z := by
  unfold aggBin at h
  split at h
  case h_2 => cases h
  rename_i l m
  have hda := ha.dI
  have hdb := hb.dI
  have hguard : ∀ op, (eqGuard op t ox oy a b).run P w = .ok () w := by
    intro op
    cases hda with | agg _ vs hr =>
    cases hdb with | agg _ us hq =>
    have h2 : P.eqGuardType P.depth t = false := by
      unfold eqTyOk at ht
      split at ht
      · simp only [Bool.and_eq_true, Bool.not_eq_true'] at ht; exact ht.1.2
      · cases ht
    cases op <;> simp [eqGuard, h2]
  have hb2 : ∀ r, D.eqs ks l m = some r → (Op.equal t a b).run P w = .ok r w := fun r hr => aggEq_run ht 9998 hr hda hdb
  have e1 : binOp .eql t a b = (do pure (.bool (← Op.equal t a b))) ∧ binOp .neq t a b = (do pure (.bool (!(← Op.equal t a b)))) := by
    cases hda with | agg _ vs hr =>
    cases hdb with | agg _ us hq =>
    exact ⟨rfl, rfl⟩
  split at h
  · rename_i r hr
    cases h
    refine ⟨.bool r, ?_, .d _ _ (.bool _)⟩
    simp only [Sem.run_bind, hguard, Result.andThen_ok, e1.1, hb2 r hr, Sem.run_pure]
  · rename_i r hr
    cases h
    refine ⟨.bool (!r), ?_, .d _ _ (.bool _)⟩
    simp only [Sem.run_bind, hguard, Result.andThen_ok, e1.2, hb2 r hr, Sem.run_pure]
  · cases h

end
end Zv
