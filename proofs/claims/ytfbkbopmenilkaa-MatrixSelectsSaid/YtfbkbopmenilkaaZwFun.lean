/-
  Functions: what a body leaves, what is handed back; every call with a number of rounds is the machine's.
-/
import Derived.Test.YtfbkbopmenilkaaZwCode
set_option linter.unusedSimpArgs false
namespace Zv
open Go

section
variable {P : Program}

/-! ### The state behind a function that hands back data -/

/-- The state behind the call: new blocks stay as they are; no new name is in use. -/
def G.back (g1 : G) (n0 : Nat) (new : Nat → Prop) [DecidablePred new] (w : World) : G :=
  { φ := fun b => if new b then w.heap[b]? else g1.φ b, μ := g1.μ, N := n0, B := g1.B, F := g1.F, C := g1.C }

theorem mapM_cons {α β : Type} {f : α → Option β} {a : α} {l : List α} {r : List β} (h : (a :: l).mapM f = some r) : ∃ b s, f a = some b ∧ l.mapM f = some s ∧ r = b :: s := by
  rw [List.mapM_cons] at h
  cases hb : f a with
  | none => rw [hb] at h; cases h
  | some b =>
    rw [hb] at h
    cases hs : l.mapM f with
    | none => rw [hs] at h; cases h
    | some s => rw [hs] at h; cases h; exact ⟨b, s, rfl, rfl, rfl⟩
theorem mapM_length {α β : Type} {f : α → Option β} : ∀ {l : List α} {r : List β}, l.mapM f = some r → r.length = l.length
  | [], r, h => by cases h; rfl
  | a :: l, r, h => by
    obtain ⟨b, s, _, h2, rfl⟩ := mapM_cons h
    simp [mapM_length h2]

section
variable {g1 : G} {h : Hp} {w : World} {φ2 : Nat → Option Obj} {n0 : Nat}

/-- What is read deeply as data: blocks of new rows stay as they are. -/
theorem deep_ok (R : Rel g1 h w) (hφ : ∀ b o, g1.φ b = some o → φ2 b = some o) (hnew : ∀ n es els, n0 ≤ n → h.get n = some (.arr es els) → φ2 (blk g1 n (.arr es els)) = w.heap[blk g1 n (.arr es els)]?) :
    ∀ (k : Nat), (∀ (x : V) (y : D) (v : Value), deep h n0 k x = some y → Rep g1 x v → RepD φ2 y v) ∧
      (∀ (x : V) (y : D) (seg : List Value), deep h n0 k x = some y → Reps g1 x.cells seg → (∀ u, u ∈ seg → leaf u) → RepDs φ2 y.cells seg ∧ y.cells.length = x.cells.length)
  | 0 => ⟨fun x y v H => by simp [deep] at H, fun x y seg H => by simp [deep] at H⟩
  | k + 1 => by
    obtain ⟨ih1, ih2⟩ := deep_ok R hφ hnew k
    -- lists of whole elements
    have flat : ∀ (l : List V) (ds : List D) (vs : List Value), l.mapM (deep h n0 k) = some ds → Reps g1 (l.flatMap V.cells) vs → (∀ u, u ∈ vs → leaf u) → RepDs φ2 (ds.flatMap D.cells) vs ∧ ∀ es, (∀ x, x ∈ l → x.cells.length = es) → ∀ y, y ∈ ds → y.cells.length = es := by
      intro l
      induction l with
      | nil =>
        intro ds vs H hr hf
        cases H
        cases hr
        exact ⟨.nil, fun _ _ y hy => by cases hy⟩
      | cons x l ih =>
        intro ds vs H hr hf
        obtain ⟨y, s, h1, h2, rfl⟩ := mapM_cons H
        rw [List.flatMap_cons] at hr
        obtain ⟨r1, r2⟩ := hr.split
        obtain ⟨q1, q2⟩ := ih2 x y _ h1 r1 (fun u hu => hf u (List.mem_of_mem_take hu))
        obtain ⟨q3, q4⟩ := ih s _ h2 r2 (fun u hu => hf u (List.mem_of_mem_drop hu))
        refine ⟨?_, fun es hes z hz => ?_⟩
        · rw [List.flatMap_cons, ← List.take_append_drop x.cells.length vs]
          exact q1.app q3
        · rcases List.mem_cons.1 hz with rfl | hz
          · rw [q2]; exact hes x (by simp)
          · exact q4 es (fun u hu => hes u (by simp [hu])) z hz
    -- cells, one by one
    have cells : ∀ (l : List V) (ds : List D) (vs : List Value), l.mapM (deep h n0 k) = some ds → Reps g1 l vs → (∀ u, u ∈ vs → leaf u) → RepDs φ2 ds vs := by
      intro l
      induction l with
      | nil => intro ds vs H hr hf; cases H; cases hr; exact .nil
      | cons x l ih =>
        intro ds vs H hr hf
        obtain ⟨y, s, h1, h2, rfl⟩ := mapM_cons H
        cases hr with | cons _ _ v vs hx hs =>
        exact .cons y s v vs (ih1 x y v h1 hx) (ih s vs h2 hs (fun u hu => hf u (List.mem_cons_of_mem _ hu))) (hf v List.mem_cons_self)
    have one : ∀ (x : V) (y : D) (v : Value), deep h n0 (k + 1) x = some y → Rep g1 x v → RepD φ2 y v := by
      intro x y v H hx
      cases x with
      | d z => simp only [deep] at H; cases H; exact hx.dI.mono hφ
      | tl l nl =>
        simp only [deep, Option.map_eq_some_iff] at H
        obtain ⟨ds, hds, rfl⟩ := H
        cases hx with | tl _ _ es a vs hes hr ha hn hf =>
        obtain ⟨q1, q2⟩ := flat l ds vs hds hr hf
        rw [show l.length = ds.length from (mapM_length hds).symm]
        refine .lst ds es ds.length a vs (q2 es hes) (Nat.le_refl _) q1 (ha.imp (fun e => by subst e; cases hds; rfl) fun ⟨b, p, e, hat⟩ => ⟨b, p, e, hat.mono hφ⟩)
      | agg l =>
        simp only [deep, Option.map_eq_some_iff] at H
        obtain ⟨ds, hds, rfl⟩ := H
        cases hx with | agg _ vs hr hf =>
        exact .agg ds vs (cells l ds vs hds hr hf)
      | own n e tot off len =>
        simp only [deep] at H
        split at H
        case isFalse => cases H
        rename_i hn0
        simp only [Option.bind_eq_some_iff] at H
        obtain ⟨⟨es, els⟩, hrow, H⟩ := H
        obtain ⟨hn, rfl⟩ := row_get hrow
        simp only at H
        split at H
        case isFalse => cases H
        rename_i hle
        simp only [Option.map_eq_some_iff] at H
        obtain ⟨ds, hds, rfl⟩ := H
        obtain ⟨hnN, hnB, c, ty, vs, h1, h2, h3, h4, h5, h6, h7⟩ := R.ob n _ hn
        have hblk := hnew n es els hn0 hn
        rw [show w.heap[blk g1 n (.arr es els)]? = some (.cells c ty (0, 0)) from h1] at hblk
        cases hx with | own _ _ _ _ _ cap q hes hN hB hz0 hl hto hc hsz =>
        have hl2 : ((els.drop off).take len).length = len := by rw [List.length_take, List.length_drop]; omega
        have hdl : ds.length = len := by rw [mapM_length hds, hl2]
        have hr : Reps g1 (((els.drop off).take len).flatMap V.cells) ((vs.drop (off * es)).take (len * es)) := by
          rw [← flat_take len (fun x hx => h4 x (List.mem_of_mem_drop hx)), ← flat_drop off h4]
          exact (h5.drop _).take _
        obtain ⟨q1, q2⟩ := flat _ ds _ hds hr (fun u hu => h6 u (List.mem_of_mem_drop (List.mem_of_mem_take hu)))
        rw [← hdl]
        refine .lst ds es cap (some q) ((vs.drop (off * es)).take (len * es)) (q2 es (fun y hy => h4 y (List.mem_of_mem_drop (List.mem_of_mem_take hy)))) (by omega) q1 ?_
        rcases Nat.eq_zero_or_pos len with h0 | h0
        · left; exact List.eq_nil_of_length_eq_zero (by omega)
        · right
          rcases hz0 with hz0 | hz0
          · omega
          · refine ⟨_, _, congrArg some hz0, fun j v hj => ?_⟩
            rw [List.getElem?_take] at hj
            split at hj
            · rw [List.getElem?_drop] at hj
              have := h7 _ _ hj
              unfold cellφ
              rw [show φ2 (g1.μ n els.length).b = some (.cells c ty (0, 0)) from hblk]
              rw [h3.1]
              show c[_]? = some v
              rw [← this]
              congr 1
              omega
            · cases hj
      | _ => simp only [deep] at H; cases H
    refine ⟨one, fun x y seg H hr hf => ?_⟩
    cases x with
    | d z =>
      simp only [deep] at H
      cases H
      exact ⟨(Reps.to_map_d hr hf).mono hφ, by simp [V.cells]⟩
    | agg l =>
      simp only [deep, Option.map_eq_some_iff] at H
      obtain ⟨ds, hds, rfl⟩ := H
      exact ⟨cells l ds seg hds hr hf, mapM_length hds⟩
    | tl l nl =>
      have H' := H
      simp only [deep, Option.map_eq_some_iff] at H'
      obtain ⟨ds, hds, rfl⟩ := H'
      cases hr with | cons _ _ v vs hx hs =>
      cases hs
      exact ⟨.cons _ _ _ _ (one _ _ v H hx) .nil (hf v List.mem_cons_self), rfl⟩
    | own n e tot off len =>
      have hy : ∃ ds, y = .lst ds := by
        have H' := H
        simp only [deep] at H'
        split at H'
        case isFalse => cases H'
        simp only [Option.bind_eq_some_iff] at H'
        obtain ⟨r, _, H'⟩ := H'
        split at H'
        case isFalse => cases H'
        simp only [Option.map_eq_some_iff] at H'
        obtain ⟨ds, _, rfl⟩ := H'
        exact ⟨ds, rfl⟩
      obtain ⟨ds, rfl⟩ := hy
      cases hr with | cons _ _ v vs hx hs =>
      cases hs
      exact ⟨.cons _ _ _ _ (one _ _ v H hx) .nil (hf v List.mem_cons_self), rfl⟩
    | _ => simp only [deep] at H; cases H
end

/-! ### Results -/

def mtRes (P : Program) : List ResultVar → List (Nat × Option (Bool × Nat)) → Bool
  | [], [] => true
  | .tmp t :: l, (u, none) :: r => t == u && mtRes P l r
  | .cell t ty :: l, (u, some (ag, sz)) :: r => t == u && (P.underlying ty).isSome && (P.info? ty).isSome && agOf P ty == ag && P.cellsOf ty == sz && mtRes P l r
  | _, _ => false

theorem as_sure {a : Value} {ty : TypeId} {w : World} (h : ∃ q, a = .pointer (some q)) : (do loadVar ty (← asAddr a) : Sem Value).run P w = (Instr.loadAt ty a).run P w := by
  obtain ⟨q, rfl⟩ := h
  simp [Instr.loadAt, asAddr, Instr.sureAddr, Sem.run_bind]
theorem ld_ptr {ag : Bool} {sz : Nat} {h : Hp} {x z : V} {g : G} {a : Value} (H : ld ag sz h x = some z) (hx : Rep g x a) : ∃ q, a = .pointer (some q) := by
  cases hx <;> simp only [ld] at H <;> first | exact ⟨_, rfl⟩ | cases H

theorem results_run {fn : Func} {rs : List (Nat × Option (Bool × Nat))} (hr : mtRes P fn.results.toList rs = true) {g : G} {h : Hp} {e : Env} {a : Act} {w : World} {xs : List V} (he : EnvRep g e a) (R : Rel g h w) (hx : resL e h rs = some xs) :
    ∃ vs : List Value, (results fn a.tmps).run P w = .ok (if h : vs.toArray.size = 1 then vs.toArray[0] else .tuple vs.toArray) w ∧ Reps g xs vs := by
  have gen : ∀ (f : ResultVar → Sem Value), (∀ t, f (.tmp t) = pure (a.tmps.getD t undef)) → (∀ t ty, f (.cell t ty) = (do loadVar ty (← asAddr (a.tmps.getD t undef)))) → ∀ (l : List ResultVar) (rs : List (Nat × Option (Bool × Nat))) (xs : List V), mtRes P l rs = true → resL e h rs = some xs →
      ∃ vs : List Value, (l.mapM f).run P w = .ok vs w ∧ Reps g xs vs := by
    intro f hf1 hf2 l
    induction l with
    | nil =>
      intro rs xs hm hx
      cases rs with
      | nil => cases hx; exact ⟨[], rfl, .nil⟩
      | cons r rs => cases hm
    | cons v l ih =>
      intro rs xs hm hx
      cases rs with
      | nil => cases v <;> cases hm
      | cons r rs =>
        obtain ⟨u, o⟩ := r
        cases v with
        | tmp t =>
          cases o with
          | some q => simp [mtRes] at hm
          | none =>
            simp only [mtRes, Bool.and_eq_true, beq_iff_eq] at hm
            obtain ⟨rfl, hm⟩ := hm
            simp only [resL, Option.map_eq_some_iff] at hx
            obtain ⟨ys, hy, rfl⟩ := hx
            obtain ⟨vs, h1, h2⟩ := ih rs ys hm hy
            refine ⟨a.tmps.getD t undef :: vs, ?_, .cons _ _ _ _ (he t) h2⟩
            rw [List.mapM_cons]
            simp only [Sem.run_bind, hf1, Sem.run_pure, Result.andThen_ok, h1]
        | cell t ty =>
          cases o with
          | none => simp [mtRes] at hm
          | some q =>
            obtain ⟨ag, sz⟩ := q
            simp only [mtRes, Bool.and_eq_true, beq_iff_eq] at hm
            obtain ⟨⟨⟨⟨⟨rfl, k1⟩, k2⟩, k3⟩, k4⟩, hm⟩ := hm
            simp only [resL, Option.bind_eq_some_iff, Option.map_eq_some_iff] at hx
            obtain ⟨z, hz, ys, hy, rfl⟩ := hx
            obtain ⟨vs, h1, h2⟩ := ih rs ys hm hy
            obtain ⟨v, q1, q2⟩ := ld_ok k1 k2 k3 k4 R hz (he t)
            refine ⟨v :: vs, ?_, .cons _ _ _ _ q2 h2⟩
            rw [List.mapM_cons]
            simp only [hf2]
            rw [Sem.run_bind, as_sure (ld_ptr hz (he t)), q1]
            simp only [Sem.run_bind, Sem.run_pure, Result.andThen_ok, h1]
  unfold results
  simp only [Sem.run_bind]
  have key : ∀ (f : ResultVar → Sem Value), (∀ t, f (.tmp t) = pure (a.tmps.getD t undef)) → (∀ t ty, f (.cell t ty) = (do loadVar ty (← asAddr (a.tmps.getD t undef)))) → ∃ vs : List Value, (fn.results.mapM f).run P w = .ok vs.toArray w ∧ Reps g xs vs := by
    intro f h1 h2
    obtain ⟨vs, q1, q2⟩ := gen f h1 h2 _ rs xs hr hx
    refine ⟨vs, ?_, q2⟩
    rw [← Array.toArray_toList (xs := fn.results), List.mapM_toArray, Sem.run_map, q1]
    rfl
  obtain ⟨vs, q1, q2⟩ := key (fun x => match x with
    | .tmp t => pure (a.tmps.getD t undef)
    | .cell b t => do loadVar t (← asAddr (a.tmps.getD b undef))) (fun t => rfl) (fun t ty => rfl)
  refine ⟨vs, ?_, q2⟩
  refine Eq.trans (congrArg (fun r => Result.andThen r _) q1) ?_
  rfl

theorem resV_ok {g : G} : ∀ {l : List V} {vs : List Value}, Reps g l vs → Rep g (resV l) (if h : vs.toArray.size = 1 then vs.toArray[0] else .tuple vs.toArray)
  | [], _, .nil => .tup [] [] .nil
  | [x], _, .cons _ _ v _ hx .nil => by simpa [resV] using hx
  | x :: y :: l, _, .cons _ _ v _ hx (.cons _ _ u us hy hs) => by
    rw [dif_neg (by simp)]
    exact .tup _ _ (.cons _ _ _ _ hx (.cons _ _ _ _ hy hs))

theorem look_suffix : ∀ {new base : List (Nat × Ob)} {n : Nat} {o : Ob}, ((new ++ base).map (·.1)).Nodup → look base n = some o → look (new ++ base) n = some o := by
  intro new base n o hd hb
  exact look_of_mem hd (List.mem_append_right _ (look_mem hb))

theorem finish_ok {fn : AF} {g0 g1 : G} {h0 h1 : Hp} {w0 w1 : World} {e : Env} {x : V} {h' : Hp} {xs : List V} {vs : List Value} (R0 : Rel g0 h0 w0) (R1 : Rel g1 h1 w1) (hle : Le g0 g1) (hx : resL e h1 fn.res = some xs) (H : finish fn h0 e h1 = some (x, h'))
    (hr : Reps g1 xs vs) : ∃ g', Le g0 g' ∧ Rel g' h' w1 ∧ Rep g' x (if h : vs.toArray.size = 1 then vs.toArray[0] else .tuple vs.toArray) := by
  unfold finish at H
  rw [hx] at H
  simp only [Option.bind_some] at H
  split at H
  · split at H
    case isFalse => cases H
    rename_i hsuf
    simp only [Option.map_eq_some_iff] at H
    obtain ⟨l, hl, heq⟩ := H
    cases heq
    -- the heap: new objects ahead of the old ones
    obtain ⟨new, hobjs⟩ : ∃ new, h1.objs = new ++ h0.objs := by
      refine ⟨h1.objs.take (h1.objs.length - h0.objs.length), ?_⟩
      have := objsBeq_eq hsuf
      exact ((List.take_append_drop _ _).symm.trans (congrArg (h1.objs.take (h1.objs.length - h0.objs.length) ++ ·) this.symm))
    have hold : ∀ n o, h0.get n = some o → h1.get n = some o := by
      intro n o hn
      unfold Hp.get at hn ⊢
      rw [hobjs]
      exact look_suffix (by rw [← hobjs]; exact R1.nd) hn
    have hnewN : ∀ n o, h1.get n = some o → g0.N ≤ n → h0.get n = none := by
      intro n o hn hge
      cases hq : h0.get n with
      | none => rfl
      | some q => have := (R0.ob n q hq).1; omega
    classical
    let nb : Nat → Prop := fun b => ∃ n o, h1.get n = some o ∧ g0.N ≤ n ∧ b = blk g1 n o
    let g2 : G := g1.back g0.N nb w1
    have hnbφ : ∀ b, nb b → g1.φ b = none := by
      rintro b ⟨n, o, hn, _, rfl⟩
      exact R1.out n o hn
    have hφ12 : ∀ b o, g1.φ b = some o → g2.φ b = some o := by
      intro b o hb
      show (if nb b then w1.heap[b]? else g1.φ b) = some o
      rw [if_neg (fun hn => by rw [hnbφ b hn] at hb; cases hb)]
      exact hb
    have hle2 : Le g0 g2 := ⟨fun b o hb => hφ12 b o (hle.φ b o hb), Nat.le_refl _, hle.B, hle.μ, hle.F, hle.C⟩
    have hlt1 : ∀ n o, h0.get n = some o → n < g0.N := fun n o hn => (R0.ob n o hn).1
    have R2 : Rel g2 h0 w1 := by
      refine ⟨R0.nx, fun b o hb => ?_, R0.nd, fun n o hn => ?_, fun n m o p hn hm hnm => R1.sep n m o p (hold n o hn) (hold m p hm) hnm, fun n o hn => ?_, fun b o hb => ?_, fun n o hn => R1.kpo n o (hold n o hn)⟩
      · have hb' : (if nb b then w1.heap[b]? else g1.φ b) = some o := hb
        split at hb'
        · exact hb'
        · exact R1.fr b o hb'
      · obtain ⟨a1, a2, a3⟩ := R0.ob n o hn
        obtain ⟨b1, b2, b3⟩ := R1.ob n o (hold n o hn)
        refine ⟨a1, b2, ?_⟩
        cases o with
        | arr es els =>
          obtain ⟨c0, ty0, vs0, p1, p2, p3, p4, p5, p6, p7⟩ := a3
          obtain ⟨c, ty, vs, q1, q2, q3, q4, q5, q6, q7⟩ := b3
          exact ⟨c, ty, vs, q1, q2, q3, q4, Reps.back (g0 := g0) (g1 := g1) (g2 := g2) (Nat.le_refl _) rfl rfl hφ12 p5 q5, q6, q7⟩
        | lp b0 ev s0 =>
          obtain ⟨r0, p1, p2, p3, p4⟩ := a3
          obtain ⟨r1, q1, q2, q3, q4⟩ := b3
          exact ⟨r1, q1, fun t => Rep.back (g0 := g0) (g1 := g1) (g2 := g2) (Nat.le_refl _) rfl rfl hφ12 (p2 t) (q2 t), q3, q4⟩
        | mp kvs =>
          obtain ⟨es0, cl0, p1, p2⟩ := a3
          obtain ⟨es, cl, q1, q2⟩ := b3
          exact ⟨es, cl, q1, RepKvs.back (g0 := g0) (g1 := g1) (g2 := g2) (Nat.le_refl _) rfl rfl hφ12 p2 q2⟩
      · show (if nb (blk g1 n o) then w1.heap[blk g1 n o]? else g1.φ (blk g1 n o)) = none
        rw [if_neg ?_]
        · exact R1.out n o (hold n o hn)
        · rintro ⟨m, p, hm, hge, he⟩
          exact R1.sep n m o p (hold n o hn) hm (by have := hlt1 n o hn; omega) he
      · refine ⟨(R1.kp b o hb).1, ?_⟩
        show (if nb b then w1.heap[b]? else g1.φ b) = none
        rw [if_neg ?_]
        · exact (R1.kp b o hb).2
        · rintro ⟨m, p, hm, _, he⟩
          have hk := R1.kpo m p hm
          rw [← he] at hk
          rw [show g2.F = g1.F from rfl, hk] at hb
          cases hb
    refine ⟨g2, hle2, R2, ?_⟩
    have hdeep := deep_ok (n0 := h0.next) (φ2 := g2.φ) R1 hφ12 (fun n es els hge hn => by
      show (if nb (blk g1 n (.arr es els)) then w1.heap[blk g1 n (.arr es els)]? else g1.φ (blk g1 n (.arr es els))) = w1.heap[blk g1 n (.arr es els)]?
      rw [if_pos ⟨n, _, hn, by rw [← R0.nx]; exact hge, rfl⟩]) 8
    have hback : ∀ {y : V} {z : V} {u : Value}, back1 h1 h0.next y = some z → Rep g1 y u → Rep g2 z u := by
      intro y z u hb hy
      unfold back1 at hb
      split at hb
      · rename_i q hq
        cases hb
        exact .d _ _ (hdeep.1 y q u hq hy)
      · split at hb
        · rename_i ho
          cases hb
          have hN2 : g2.N = h0.next := R0.nx.symm
          unfold old at ho
          split at ho <;> first | cases ho | skip
          · have hn := of_decide_eq_true ho
            cases hy with | ptr _ _ _ _ a1 a2 => exact Rep.ptr (g := g2) _ _ _ _ (by rw [hN2]; exact hn) a2
          · have hn := of_decide_eq_true ho
            cases hy with | own _ _ _ _ _ cap a he a1 a2 ha hl ht hc hs => exact Rep.own (g := g2) _ _ _ _ _ cap a he (by rw [hN2]; exact hn) a2 ha hl ht hc hs
          · have hn := of_decide_eq_true ho
            cases hy with | map _ a1 => exact Rep.map (g := g2) _ (by rw [hN2]; exact hn)
          · have hn := of_decide_eq_true ho
            cases hy with | yld _ a1 => exact Rep.yld (g := g2) _ (by rw [hN2]; exact hn)
        · cases hb
    have hall : ∀ (ys : List V) (zs : List V) (us : List Value), ys.mapM (back1 h1 h0.next) = some zs → Reps g1 ys us → Reps g2 zs us := by
      intro ys
      induction ys with
      | nil => intro zs us h1 h2; cases h1; cases h2; exact .nil
      | cons y ys ih =>
        intro zs us hz hu
        obtain ⟨z, s, q1, q2, rfl⟩ := mapM_cons hz
        cases hu with | cons _ _ u us hy hs =>
        exact .cons _ _ _ _ (hback q1 hy) (ih s us q2 hs)
    exact resV_ok (hall _ l vs hl hr)
  · cases H
    exact ⟨g1, hle, R1, resV_ok hr⟩

/-! ### Calls -/

/-- Values that stand for data, one by one. -/
inductive RepEs (φ : Nat → Option Obj) : List D → List Value → Prop
  | nil : RepEs φ [] []
  | cons (x : D) (l : List D) (v : Value) (vs : List Value) (h : RepD φ x v) (hs : RepEs φ l vs) : RepEs φ (x :: l) (v :: vs)

def fnOk (P : Program) (T : Tab) (f : Nat) (fn : AF) : Bool :=
  match P.funcs[f]? with
  | some F => match F.body with
    | some c => (isPr fn.body).isNone && mtC P T F.ntmps true c fn.body && mtRes P F.results.toList fn.res && decide (fn.np ≤ F.ntmps) && !(F.name == "runtime.NumGoroutine")
    | none => false
  | none => false

/-- A function that is no code: what the machine's call returns. -/
def PrimOk (P : Program) (f k : Nat) : Prop :=
  (∃ fn, P.funcs[f]? = some fn ∧ fn.body.isSome = true ∧ (fn.name == "runtime.NumGoroutine") = false) ∧
  ∀ (ds : List D) (y : D), prim k ds = some y → ∀ (φ : Nat → Option Obj) (w : World) (vals : List Value), (∀ b o, φ b = some o → w.heap[b]? = some o) → RepEs φ ds vals →
    Calls P f vals.toArray w fun e w' => ∃ v, e = .returned v ∧ (∀ ψ, RepD ψ y v) ∧ Fx w w' ∧ ∀ b, b < w.heap.size → w'.heap[b]? = w.heap[b]?

def TabOk (P : Program) (T : Tab) : Prop := ∀ f fn, f < RB → T f = some fn → fnOk P T f fn = true ∨ ∃ k, fn.body = .exit k ∧ PrimOk P f k

theorem primC_ok {f k : Nat} (H : PrimOk P f k) {vs : List V} {h : Hp} {r : V} {h' : Hp} (hc : primC k vs h = some (r, h')) {g : G} {w : World} {vals : List Value} (R : Rel g h w) (hr : Reps g vs vals) :
    Calls P f vals.toArray w fun e w' => ∃ v g', e = .returned v ∧ Le g g' ∧ Rel g' h' w' ∧ Rep g' r v ∧ Fx w w' := by
  unfold primC at hc
  simp only [Option.bind_eq_some_iff, Option.map_eq_some_iff] at hc
  obtain ⟨ds, hds, y, hy, hq⟩ := hc
  cases hq
  classical
  let nb : Nat → Prop := fun b => ∃ n o, h.get n = some o ∧ b = blk g n o
  let φ2 : Nat → Option Obj := fun b => if nb b then w.heap[b]? else g.φ b
  have hnbφ : ∀ b, nb b → g.φ b = none := by
    rintro b ⟨n, o, hn, rfl⟩
    exact R.out n o hn
  have hφ : ∀ b o, g.φ b = some o → φ2 b = some o := by
    intro b o hb
    show (if nb b then w.heap[b]? else g.φ b) = some o
    rw [if_neg (fun hn => by rw [hnbφ b hn] at hb; cases hb)]
    exact hb
  have hw : ∀ b o, φ2 b = some o → w.heap[b]? = some o := by
    intro b o hb
    have hb' : (if nb b then w.heap[b]? else g.φ b) = some o := hb
    split at hb'
    · exact hb'
    · exact R.fr b o hb'
  have hdeep := (deep_ok (n0 := 0) (φ2 := φ2) R hφ (fun n es els _ hn => by
      show (if nb (blk g n (.arr es els)) then w.heap[blk g n (.arr es els)]? else g.φ (blk g n (.arr es els))) = w.heap[blk g n (.arr es els)]?
      rw [if_pos ⟨n, _, hn, rfl⟩]) 8).1
  have hall : ∀ (ys : List V) (zs : List D) (us : List Value), ys.mapM (deep h 0 8) = some zs → Reps g ys us → RepEs φ2 zs us := by
    intro ys
    induction ys with
    | nil => intro zs us h1 h2; cases h1; cases h2; exact .nil
    | cons y ys ih =>
      intro zs us hz hu
      obtain ⟨z, s, q1, q2, rfl⟩ := mapM_cons hz
      cases hu with | cons _ _ u us hy hs =>
      exact .cons _ _ _ _ (hdeep y z u q1 hy) (ih s us q2 hs)
  refine (H.2 ds y hy φ2 w vals hw (hall vs ds vals hds hr)).mono ?_
  rintro e w' ⟨v, rfl, hv, hf, hb⟩
  exact ⟨v, g, rfl, Le.refl g, R.world hb, .d _ _ (hv _), hf⟩

theorem args_get : ∀ (vs : List V) (i t : Nat), Env.get (args i vs) t = if i ≤ t then (vs[t - i]?).getD .undef else .undef
  | [], i, t => by simp [args, Env.get]
  | v :: vs, i, t => by
    show (if t = i then v else Env.get (args (i + 1) vs) t) = _
    rw [args_get vs (i + 1) t]
    by_cases h : t = i
    · subst h; simp
    · rw [if_neg h]
      by_cases h2 : i + 1 ≤ t
      · rw [if_pos h2, if_pos (by omega), show t - i = (t - (i + 1)) + 1 from by omega, List.getElem?_cons_succ]
      · rw [if_neg h2, if_neg (by omega)]

theorem env_args {g : G} {vs : List V} {vals : List Value} (n : Nat) (hr : Reps g vs vals) : EnvRep g (args 0 vs) { tmps := vals.toArray ++ Array.replicate (n - vals.toArray.size) undef, defers := [] } := by
  intro t
  rw [args_get, if_pos (Nat.zero_le t), Nat.sub_zero]
  cases hv : vs[t]? with
  | none => exact .undef _
  | some x =>
    obtain ⟨v, h1, h2⟩ := hr.get hv
    have : (vals.toArray ++ Array.replicate (n - vals.toArray.size) undef).getD t undef = v := by
      rw [Array.getD_eq_getD_getElem?, Array.getElem?_append_left (by simpa using lt_of_get h1)]
      simp [h1]
    show Rep g x _
    rw [this]
    exact h2

theorem binds_get : ∀ (ps : List Nat) (vs : List V) (vals : List Value) (e : Env) (tmps : Array Value) {g : G}, (∀ t, t ∈ ps → t < tmps.size) → ps.length = vs.length → Reps g vs vals → (∀ t, Rep g (Env.get e t) (tmps.getD t undef)) →
    ∀ t, Rep g (Env.get (binds ps vs e) t) (((ps.zip vals).foldl (fun tmps (t, a) => tmps.setIfInBounds t a) tmps).getD t undef)
  | [], vs, vals, e, tmps, g, _, _, _, he => fun t => by
    cases vs <;> simpa [binds] using he t
  | p :: ps, [], vals, e, tmps, g, _, hl, _, _ => by simp at hl
  | p :: ps, v :: vs, _, e, tmps, g, hp, hl, .cons _ _ a vals hx hs, he => by
    intro t
    simp only [binds, List.zip_cons_cons, List.foldl_cons]
    refine binds_get ps vs vals ((p, v) :: e) (tmps.setIfInBounds p a) (fun u hu => by rw [Array.size_setIfInBounds]; exact hp u (List.mem_cons_of_mem _ hu)) (by simpa using hl) hs (fun u => ?_) t
    show Rep g (if u = p then v else Env.get e u) _
    rw [Array.getD_eq_getD_getElem?, Array.getElem?_setIfInBounds]
    by_cases hup : u = p
    · subst hup; rw [if_pos rfl, if_pos rfl, if_pos (hp u List.mem_cons_self)]; exact hx
    · rw [if_neg hup, if_neg (fun e => hup e.symm), ← Array.getD_eq_getD_getElem?]; exact he u

theorem Fx.put (w : World) (d : Nat) (o : Obj) : Fx w (w.putObj d o) := ⟨rfl, rfl, rfl, by rw [World.putObj_size]; exact Nat.le_refl _⟩

/-- A round is the machine's. -/
theorem rnd_ok {T : Tab} {c : Cs} (HC : CallOk P (LpC P T) c) (k : Nat) {n : Nat} {vs : List V} {h : Hp} {r : V} {h' : Hp} (H : rnd T (fun b => loopN b k) (callee c) n vs h = some (r, h')) (g : G) (w : World) (vals : List Value) (R : Rel g h w) (hC : g.C = LpC P T) (hN : n < g.N) (hr : Reps g vs vals) :
    ∃ f tmps asg bdy, (Instr.yield (g.μ n 0).b vals.toArray).run P w = .ok (.round (g.μ n 0).b f tmps asg bdy) w ∧
      RoundIn (FR none) 0 P (g.μ n 0).b f tmps asg bdy w fun e w' => ∃ v, e = .returned v ∧ ∃ g', Le g g' ∧ Rel g' h' w' ∧ Rep g' r v ∧ Fx w w' := by
  unfold rnd at H
  split at H
  case h_2 => cases H
  rename_i b e hget
  obtain ⟨k1, k2, r0, k3, k4, k5, k6, k7⟩ := R.ob _ _ hget
  rw [hC] at k5
  obtain ⟨fn, p, q, hT, hb, hsz, hps, hlt, hma, hmb⟩ := k5
  rw [hT] at H
  simp only [Option.bind_some] at H
  rw [hb] at H
  simp only at H
  split at H
  case isFalse => cases H
  rename_i hlen
  simp only [Option.bind_eq_some_iff] at H
  obtain ⟨⟨x1, e1, h1⟩, hex1, H⟩ := H
  split at H
  case h_2 => cases H
  rename_i b1 e1' hx1 hget1
  simp only at hx1 hget1
  subst hx1
  simp only [Option.bind_eq_some_iff] at H
  obtain ⟨⟨x2, e2, h2⟩, hex2, hend⟩ := H
  have hvl : vals.length = r0.params.size := by rw [hr.length, hlen, hsz]
  refine ⟨r0.fn, _, r0.assign, r0.body, run_yield k3 (by simpa using hvl), ?_⟩
  refine roundIn_of_wpIn (F := FR none) trivial ?_
  have htm : (r0.params.zip vals.toArray).foldl (fun tmps (x : Nat × Value) => match x with | (t, a) => tmps.setIfInBounds t a) r0.tmps = (r0.params.toList.zip vals).foldl (fun tmps (x : Nat × Value) => match x with | (t, a) => tmps.setIfInBounds t a) r0.tmps := by
    rw [← Array.foldl_toList, Array.toList_zip]
  have hE : EnvRep g (binds (fn.res.map (·.1)) vs e) { tmps := (r0.params.zip vals.toArray).foldl (fun tmps (x : Nat × Value) => match x with | (t, a) => tmps.setIfInBounds t a) r0.tmps, defers := [] } := by
    intro t
    show Rep g _ (((r0.params.zip vals.toArray).foldl _ r0.tmps).getD t undef)
    rw [htm, ← hps]
    exact binds_get _ vs vals e r0.tmps hlt (by rw [Array.length_toList, ← hvl, hr.length]) hr k4 t
  have hsize : ∀ (l : List (Nat × Value)) (a : Array Value), (l.foldl (fun tmps (x : Nat × Value) => match x with | (t, a) => tmps.setIfInBounds t a) a).size = a.size := by
    intro l
    induction l with
    | nil => intro a; rfl
    | cons x l ih => intro a; rw [List.foldl_cons, ih]; exact Array.size_setIfInBounds ..
  refine exec_ok HC k false (ro := some (g.μ n 0).b) (fun h => by cases h) r0.assign p hma hex1 hE R hC (by rw [htm]; exact hsize _ _) ?_
  intro a1 w1 g1 Ds l1 l2 l3 l4 l5 l6 l7
  show ∃ w₂, _ ∧ _
  obtain ⟨_, _, r1, q3, q4, q5, q6⟩ := l2.ob _ _ hget1
  have hμ1 : g1.μ n 0 = g.μ n 0 := l1.μ _ _ hN (Nat.zero_le _)
  rw [hμ1] at q3
  refine ⟨_, run_beginRound q3 q6.1, ?_⟩
  have hlt1 := (Array.getElem?_eq_some_iff.1 q3).1
  have R2 : Rel g1 (h1.set n (.lp b1 e1' (some .norm))) (w1.putObj (g.μ n 0).b (.loop { r1 with state := .busy })) := l2.set hget1 rfl (fun d hd hne => World.putObj_heap_other (by rw [← hμ1]; exact hne))
    ⟨{ r1 with state := .busy }, by rw [hμ1]; exact World.putObj_heap_same hlt1, q4, q5, rfl, q6.2⟩
  refine exec_ok HC k false (ro := some (g.μ n 0).b) (fun h => by cases h) r0.body q hmb hex2 l3 R2 (l1.C.trans hC) l4 ?_
  intro a2 w2 g2 Es m1 m2 m3 m4 m5 m6 m7
  unfold rndEnd at hend
  simp only at hend
  split at hend
  case h_2 => cases hend
  rename_i b2 e2' hget2
  cases hend
  obtain ⟨_, _, r2, p3, p4, p5, p6⟩ := m2.ob _ _ hget2
  have hμ2 : g2.μ n 0 = g.μ n 0 := by rw [m1.μ n 0 (Nat.lt_of_lt_of_le hN l1.N) (Nat.zero_le _)]; exact hμ1
  rw [hμ2] at p3
  have hlt2 := (Array.getElem?_eq_some_iff.1 p3).1
  have lF := l1.trans m1
  have fin : ∀ (s : Option Ex) (j : Option Code), (∀ q, s = some q → q ≠ .norm) → LpSt s (if j.isNone then .ready else .done) j → s = (if x2 = .norm then none else some x2) → j.isNone = decide (x2 = .norm) →
      ∃ v w', (Instr.endRound (g.μ n 0).b j).run P w2 = .ok v w' ∧ ∃ v', Ending.returned v = .returned v' ∧ ∃ g', Le g g' ∧ Rel g' (h2.set n (.lp b2 e2' (if x2 = .norm then none else some x2))) w' ∧ Rep g' (bool (decide (x2 = .norm))) v' ∧ Fx w w' := by
    intro s j _ hs hse hj
    refine ⟨_, _, run_endRound j p3, _, rfl, g2.un g.F, lF.back, ?_, ?_, ?_⟩
    · rw [← hse]
      have R3 : Rel g2 (h2.set n (.lp b2 e2' s)) (w2.putObj (g.μ n 0).b (.loop { r2 with state := if j.isNone then .ready else .done, pending := j })) := m2.set hget2 rfl (fun d hd hne => World.putObj_heap_other (by rw [← hμ2]; exact hne))
        ⟨{ r2 with state := if j.isNone then .ready else .done, pending := j }, by rw [hμ2]; exact World.putObj_heap_same hlt2, p4, p5, hs⟩
      exact R3.un (fun d o hd => R3.kp d o (lF.F d o hd)) (fun m o hm => by
        cases hq : g.F (blk g2 m o) with
        | none => rfl
        | some y => have := lF.F _ _ hq; rw [R3.kpo m o hm] at this; cases this)
    · rw [hj]; exact .d _ _ (.bool _)
    · exact (l7.trans (Fx.put ..)).trans (m7.trans (Fx.put ..))
  cases x2 with
  | norm => exact fin none none (fun _ h => by cases h) ⟨rfl, rfl⟩ rfl rfl
  | exit i => exact fin (some (.exit i)) (some (.exit i)) (fun _ h => by cases h; simp) ⟨rfl, rfl⟩ rfl rfl
  | ret => exact fin (some .ret) (some .ret) (fun _ h => by cases h; simp) ⟨rfl, rfl⟩ rfl rfl

/-- Behind a function: the marks are taken up. -/
theorem marks_ok {F : Func} {tmps : Array Value} {R : Ending → World → Prop} {g0 : G} {h : Hp} : ∀ (Ds : List Nat) {g1 : G} {w : World}, Rel (g1.un g0.F) h w → Ds.Nodup → (∀ D, D ∈ Ds → g0.F D = none ∧ g1.φ D = none ∧ w.heap[D]? = some (.deferred (some [])) ∧ ∀ n o, h.get n = some o → blk g1 n o ≠ D) →
    (∀ w', Rel (g1.un g0.F) h w' → Fx w w' → ∃ v, (results F tmps).run P w' = .ok v w' ∧ R (.returned v) w') → LeavesInM (FR none) 0 P F tmps R (Ds.map markOf ++ []) .returning w
  | [], g1, w, R1, _, _, K => K w R1 (Fx.refl w)
  | D :: Ds, g1, w, R1, hnd, hD, K => by
    rw [List.nodup_cons] at hnd
    obtain ⟨d1, d2, d3, d4⟩ := hD D List.mem_cons_self
    refine ⟨by simp, .inl ⟨D, _, rfl, run_takeDeferred d3, ?_⟩⟩
    have R2 : Rel (g1.un g0.F) h (w.putObj D (.deferred none)) := R1.other D (fun b hb => World.putObj_heap_other hb) d2 d1 (fun n o hn => d4 n o hn)
    have f2 : Fx w (w.putObj D (.deferred none)) := ⟨rfl, rfl, rfl, by rw [World.putObj_size]; exact Nat.le_refl _⟩
    refine marks_ok Ds (g1 := g1) R2 hnd.2 (fun E hE => ?_) (fun w' r f => K w' r (f2.trans f))
    obtain ⟨e1, e2, e3, e4⟩ := hD E (List.mem_cons_of_mem _ hE)
    exact ⟨e1, e2, by rw [World.putObj_heap_other (fun e => hnd.1 (by rw [← e]; exact hE))]; exact e3, e4⟩

theorem callK_ok {T : Tab} (HT : TabOk P T) : ∀ k, CallOk P (LpC P T) (callK T k)
  | 0 => ⟨fun f vs h r h' _ H => (by cases H), fun n vs h r h' H => (by cases H)⟩
  | k + 1 => by
    have ih := callK_ok HT k
    refine ⟨fun f vs h r h' hy H => ?_, fun n vs h r h' H g w vals R hC hN hr => ?_⟩
    · unfold callK body at H
      rw [if_neg hy] at H
      split at H
      case isFalse => cases H
      rename_i hrb
      simp only [Option.bind_eq_some_iff] at H
      obtain ⟨fn, hfn, H⟩ := H
      rcases HT f fn hrb hfn with hok | ⟨q, hb, hok⟩
      rotate_left
      · split at H
        case isFalse => cases H
        rw [show isPr fn.body = some q from by rw [hb]; rfl] at H
        exact ⟨hok.1, fun g w vals R _ hr => primC_ok hok H R hr⟩
      unfold fnOk at hok
      split at hok
      case h_2 => cases hok
      rename_i F hF
      split at hok
      case h_2 => cases hok
      rename_i c hc
      simp only [Bool.and_eq_true, decide_eq_true_eq, Bool.not_eq_true'] at hok
      obtain ⟨⟨⟨⟨hpr, hm⟩, hres⟩, hnp⟩, hname⟩ := hok
      have hpr : isPr fn.body = none := by cases hq : isPr fn.body with
        | none => rfl
        | some q => rw [hq] at hpr; cases hpr
      split at H
      case isFalse => cases H
      rename_i hlen
      rw [hpr] at H
      simp only [Option.bind_eq_some_iff] at H
      obtain ⟨⟨x, e1, h1⟩, hex, H⟩ := H
      refine ⟨⟨F, hF, by rw [hc]; rfl, hname⟩, fun g w vals R hC hr => ?_⟩
      have hsz : vals.length = fn.np := by rw [hr.length, hlen]
      refine callsIn_wide.1 (callsIn_of_wp_marks (F := FR none) (n := 0) hF hc trivial ?_)
      refine exec_ok ih k true (fun _ => rfl) c fn.body hm hex (env_args F.ntmps hr) R hC (by simp; omega) ?_
      intro a' w' g' Ds l1 l2 l3 l4 l5 l6 l7
      have fin : ∀ q : Option (V × Hp), q = some (r, h') → q = finish fn h e1 h1 → LeavesInM (FR none) 0 P F a'.tmps (fun e w' => ∃ v g', e = .returned v ∧ Le g g' ∧ Rel g' h' w' ∧ Rep g' r v ∧ Fx w w') a'.defers .returning w' := by
        intro q hq1 hq2
        rw [hq1] at hq2
        have R2 : Rel (g'.un g.F) h1 w' := l2.un (fun d o hd => l2.kp d o (l1.F d o hd)) (fun m o hm => by
          cases hq : g.F (blk g' m o) with
          | none => rfl
          | some y => have := l1.F _ _ hq; rw [l2.kpo m o hm] at this; cases this)
        rw [l5]
        refine marks_ok Ds (g1 := g') (g0 := g) R2 l6.nd (fun D hD => ⟨l6.new D hD, (l2.kp D _ (l6.kept D hD)).2, (l2.kp D _ (l6.kept D hD)).1, fun n o hn he => ?_⟩) ?_
        · have := l2.kpo n o hn
          rw [he, l6.kept D hD] at this; cases this
        · intro w2 R3 f2
          have hq3 := hq2.symm
          unfold finish at hq3
          simp only [Option.bind_eq_some_iff] at hq3
          obtain ⟨xs, hxs, _⟩ := hq3
          obtain ⟨vs, hrun, hrr⟩ := results_run (P := P) hres (l3.un (F := g.F)) R3 hxs
          obtain ⟨g2, m1, m2, m3⟩ := finish_ok R R3 l1.back hxs hq2.symm hrr
          exact ⟨_, hrun, _, g2, rfl, m1, m2, m3, l7.trans f2⟩
      cases x with
      | norm => exact fin _ H rfl
      | exit i => cases H
      | ret => exact fin _ H rfl
    · unfold callK body at H
      rw [if_pos rfl] at H
      exact rnd_ok ih k H g w vals R hC hN hr

/-- THE CALL: where the run without rounds gives a value, the machine's call returns what stands for it. -/
theorem callW_ok {T : Tab} (HT : TabOk P T) {f : Nat} {vs : List V} {h : Hp} {r : V} {h' : Hp} (hy : f ≠ YF) (H : callW T f vs h = some (r, h')) {g : G} {w : World} {vals : List Value} (R : Rel g h w) (hC : g.C = LpC P T) (hr : Reps g vs vals) :
    Calls P f vals.toArray w fun e w' => ∃ v g', e = .returned v ∧ Le g g' ∧ Rel g' h' w' ∧ Rep g' r v ∧ Fx w w' := by
  obtain ⟨k, hk⟩ := callW_some.1 H
  exact ((callK_ok HT k).fn f vs h r h' hy hk).2 g w vals R hC hr

end
end Zv
