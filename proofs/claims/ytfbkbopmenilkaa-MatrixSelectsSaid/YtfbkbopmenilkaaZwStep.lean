/-
  Steps of a run, as equations.
-/
import Derived.Test.YtfbkbopmenilkaaZwFix
import Derived.Test.YtfbkbopmenilkaaZwRow
import Derived.Test.YtfbkbopmenilkaaZwShift
set_option linter.unusedSimpArgs false
namespace Zs
open Go Zv

theorem ex_skip (T : Tab) (e : Env) (h : Hp) : ex T .skip e h = some (.norm, e, h) := rfl
theorem ex_reg (T : Tab) (its : List It) (kp : Option (List Nat)) (e : Env) (h : Hp) : ex T (.reg its kp) e h = (itsX (cW T) its e h).map fun r => (.norm, keepE kp r.1, r.2) := rfl
theorem ex_seq (T : Tab) (a b : AC) (e : Env) (h : Hp) : ex T (.seq a b) e h = (ex T a e h).bind (nxt (ex T b)) := rfl
theorem ex_cond (T : Tab) (c : Opd) (a b : AC) (e : Env) (h : Hp) : ex T (.cond c a b) e h = (condB (e.ev c)).bind fun t => if t = true then ex T a e h else ex T b e h := rfl
theorem ex_blk (T : Tab) (id : Nat) (a : AC) (e : Env) (h : Hp) : ex T (.blk id a) e h = (ex T a e h).map fun o => (if o.1 = .exit id then .norm else o.1, o.2) := rfl
theorem ex_exit (T : Tab) (id : Nat) (e : Env) (h : Hp) : ex T (.exit id) e h = some (.exit id, e, h) := rfl
theorem ex_ret (T : Tab) (e : Env) (h : Hp) : ex T .ret e h = some (.ret, e, h) := rfl
theorem ex_loop (T : Tab) (a : AC) (e : Env) (h : Hp) : ex T (.loop a) e h = (ex T a e h).bind (nxt (ex T (.loop a))) := loopW_eq _ e h

/-- What a body's end hands back. -/
def done (fn : AF) (h : Hp) (o : Out) : Option (V × Hp) := match o.1 with
  | .exit _ => none
  | _ => finish fn h o.2.1 o.2.2
theorem done_norm (fn : AF) (h : Hp) (e : Env) (h' : Hp) : done fn h (.norm, e, h') = finish fn h e h' := rfl
theorem done_ret (fn : AF) (h : Hp) (e : Env) (h' : Hp) : done fn h (.ret, e, h') = finish fn h e h' := rfl
theorem callW_fn {T : Tab} {f : Nat} {fn : AF} (hT : T f = some fn) {vs : List V} (hn : vs.length = fn.np) (h : Hp) (hp : isPr fn.body = none) (hf : f < RB := by decide) : callW T f vs h = (ex T fn.body (args 0 vs) h).bind (done fn h) := by
  rw [callW_eq]
  unfold body
  rw [if_neg (by unfold YF; unfold RB at hf; omega), if_pos hf, hT]
  simp only [Option.bind_some]
  rw [if_pos hn, hp]
  rfl
/-- A function that is no code. -/
theorem callW_pr {T : Tab} {f k : Nat} {fn : AF} (hT : T f = some fn) (hb : fn.body = .exit k) {vs : List V} (hn : vs.length = fn.np) (h : Hp) (hf : f < RB := by decide) : callW T f vs h = primC k vs h := by
  rw [callW_eq]
  unfold body
  rw [if_neg (by unfold YF; unfold RB at hf; omega), if_pos hf, hT]
  simp only [Option.bind_some]
  rw [if_pos hn, hb]
  rfl
theorem cW_clo (T : Tab) (f : Nat) (caps vs : List V) (h : Hp) : cW T (.clo f caps) vs h = if (f == 1000000000) = true then none else callW T f (vs ++ caps) h := by
  show (if f = YF then none else callW T f (vs ++ caps) h) = _
  unfold YF
  by_cases hf : f = 1000000000
  · rw [if_pos hf, if_pos (by simpa using hf)]
  · rw [if_neg hf, if_neg (by simpa using hf)]
/-- A range over a function. -/
theorem ex_rng {T : Tab} {g : Opd} {b : Nat} {e : Env} {h : Hp} {f : Nat} {caps : List V} {v : V} {h2 : Hp} {o : Out} (hg : e.ev g = .clo f caps) (H : callW T f (.yld h.next :: caps) (h.alloc (.lp b e none)) = some (v, h2)) (hend : rngEnd e h2 h.next = some o) (hf : f < RB := by decide) : ex T (.rng g b) e h = some o := by
  unfold ex exec
  rw [hg, show isClo (V.clo f caps) = true from rfl, if_pos rfl]
  show (Option.bind (if f = YF then none else callW T f ([.yld h.next] ++ caps) (h.alloc (.lp b e none))) fun r => rngEnd e r.2 h.next) = some o
  rw [if_neg (by unfold YF; unfold RB at hf; omega)]
  show (Option.bind (callW T f (.yld h.next :: caps) (h.alloc (.lp b e none))) fun r => rngEnd e r.2 h.next) = some o
  rw [H]
  exact hend
/-- A call of yield: a round. -/
theorem cW_yld {T : Tab} {n b : Nat} {e : Env} {vs : List V} {h : Hp} {fn : AF} {asg bdy : AC} {e1 : Env} {h1 : Hp} {b' : Nat} {e' : List (Nat × V)} {o : Out} (hg : h.get n = some (.lp b e none)) (hT : T (RB + b) = some fn) (hb : fn.body = .seq asg bdy) (hn : vs.length = fn.np)
    (h1' : ex T asg (binds (fn.res.map (·.1)) vs e) h = some (.norm, e1, h1)) (hg1 : h1.get n = some (.lp b' e' none)) (h2 : ex T bdy e1 (h1.set n (.lp b' e' (some .norm))) = some o) : cW T (.yld n) vs h = rndEnd n o := by
  show callW T YF (.yld n :: vs) h = _
  rw [callW_eq]
  unfold body
  rw [if_pos rfl]
  simp only
  unfold rnd
  rw [hg]
  simp only
  rw [hT]
  simp only [Option.bind_some]
  rw [hb]
  simp only
  rw [if_pos hn]
  show (Option.bind (ex T asg (binds (fn.res.map (·.1)) vs e) h) _) = _
  rw [h1']
  simp only [Option.bind_some]
  rw [hg1]
  simp only
  show (Option.bind (ex T bdy e1 (h1.set n (.lp b' e' (some .norm)))) _) = _
  rw [h2]
  rfl

theorem its_nil (cf : Cf) (e : Env) (h : Hp) : itsX cf [] e h = some (e, h) := rfl
theorem its_cons (cf : Cf) (i : It) (r : List It) (e : Env) (h : Hp) : itsX cf (i :: r) e h = (itX cf e h i).bind fun s => itsX cf r s.1 s.2 := rfl
theorem it_o (cf : Cf) (e : Env) (h : Hp) (dst : Option Nat) (op : AOp) : itX cf e h (.o dst op none) = (opX cf e h op).map fun r => (e.putO dst r.1, r.2) := rfl
theorem it_g (cf : Cf) (e : Env) (h : Hp) (dst : Option Nat) (op : AOp) (p : Nat × Bool) : itX cf e h (.o dst op (some p)) = (want e (some p)).bind fun w =>
      if w = true then (opX cf e h op).map fun r => (e.putO dst r.1, r.2) else some (e.putO dst (.tup []), h) := rfl

theorem get_nil (n : Nat) : Env.get [] n = .undef := rfl
theorem get_cons (t : Nat) (v : V) (r : Env) (n : Nat) : Env.get ((t, v) :: r) n = if n = t then v else Env.get r n := rfl
theorem putO_some (e : Env) (t : Nat) (v : V) : e.putO (some t) v = (t, v) :: e := rfl
theorem putO_none (e : Env) (v : V) : e.putO none v = e := rfl
theorem ev_t (e : Env) (n : Nat) : e.ev (.t n) = e.get n := rfl
theorem ev_c (e : Env) (v : V) : e.ev (.c v) = v := rfl
theorem keep_nil (e : Env) : Env.keep e [] = [] := rfl
theorem keep_cons (e : Env) (t : Nat) (l : List Nat) : Env.keep e (t :: l) = (t, e.get t) :: Env.keep e l := rfl
theorem keepE_some (e : Env) (l : List Nat) : keepE (some l) e = e.keep l := rfl
theorem args_nil (i : Nat) : args i [] = [] := rfl
theorem args_cons (i : Nat) (v : V) (r : List V) : args i (v :: r) = (i, v) :: args (i + 1) r := rfl
theorem nxt_n (k : Bf) (e : Env) (h : Hp) : nxt k (.norm, e, h) = k e h := rfl
theorem nxt_e (k : Bf) (i : Nat) (e : Env) (h : Hp) : nxt k (.exit i, e, h) = some (.exit i, e, h) := rfl
theorem nxt_r (k : Bf) (e : Env) (h : Hp) : nxt k (.ret, e, h) = some (.ret, e, h) := rfl
theorem want_none (e : Env) : want e none = some true := rfl
theorem pv_some (h : Hp) (v : V) : pureV h (some v) = some (v, h) := rfl
theorem condB_b (b : Bool) : condB (.d (.bool b)) = some b := rfl
theorem bin_i (op : BinOp) (k : IntKind) (a b : Int) : bin op (.d (.int k a)) (.d (.int k b)) = intBin op k a b := if_pos rfl

/-! ### The heap's end -/
theorem suf_refl (l : List (Nat × Ob)) : sufOk l l = true := by
  unfold sufOk; rw [Nat.sub_self]; exact objsBeq_refl l
theorem suf_app (n l : List (Nat × Ob)) : sufOk l (n ++ l) = true := by
  unfold sufOk
  rw [List.length_append, Nat.add_sub_cancel, List.drop_left]; exact objsBeq_refl l
theorem suf_one (x : Nat × Ob) (l : List (Nat × Ob)) : sufOk l (x :: l) = true := suf_app [x] l
theorem suf_two (x y : Nat × Ob) (l : List (Nat × Ob)) : sufOk l (x :: y :: l) = true := suf_app [x, y] l
theorem suf_three (x y z : Nat × Ob) (l : List (Nat × Ob)) : sufOk l (x :: y :: z :: l) = true := suf_app [x, y, z] l
theorem finish_scp {fn : AF} (hs : fn.scp = true) {h0 h : Hp} {e : Env} (H : sufOk h0.objs h.objs = true) : finish fn h0 e h = (resL e h fn.res).bind fun vs => (vs.mapM (back1 h h0.next)).map fun l => (resV l, h0) := by
  unfold finish; simp only [hs, H, if_true]
theorem finish_leak {fn : AF} (hs : fn.scp = false) (h0 h : Hp) (e : Env) : finish fn h0 e h = (resL e h fn.res).bind fun vs => some (resV vs, h) := by
  unfold finish; simp only [hs, Bool.false_eq_true, if_false]
theorem back_d (h : Hp) (n : Nat) (x : D) : back1 h n (.d x) = some (.d x) := rfl

theorem quiet_refl (h : Hp) (v : V) : quiet h (v, h) = some (v, h) := by
  unfold quiet; rw [if_pos ⟨objsBeq_refl _, rfl⟩]

/-! ### A row that is built up: nil first, then an object of its own -/

def rowV (h : Hp) (es : Nat) (l : List D) : V := if l = [] then .tl [] (some true) else .own h.next es l.length 0 l.length
def rowH (h : Hp) (es : Nat) (l : List D) : Hp := if l = [] then h else h.alloc (.arr es (l.map .d))

theorem toDs_map : ∀ l : List D, toDs (l.map V.d) = some l
  | [] => rfl
  | x :: l => by simp [toDs, toD, toDs_map l]

theorem norm_d (x : D) : norm (.d x) = .d x := rfl

theorem rowD_suf (h : Hp) (es : Nat) (l : List D) : sufOk h.objs (rowH h es l).objs = true := by
  unfold rowH
  split
  · exact suf_refl _
  · exact suf_one _ _

theorem deep_ds (h : Hp) (n0 k : Nat) : ∀ l : List D, (l.map V.d).mapM (deep h n0 (k + 1)) = some l
  | [] => rfl
  | x :: l => by
    rw [List.map_cons, List.mapM_cons, deep_ds h n0 k l]
    rfl

theorem row_get_alloc (h : Hp) (es : Nat) (els : List V) : (h.alloc (.arr es els)).row h.next els.length = some (es, els) := by
  unfold Hp.row
  rw [show (h.alloc (.arr es els)).get h.next = some (.arr es els) from if_pos rfl]
  simp

theorem rowD_back (h : Hp) (es : Nat) (l : List D) : back1 (rowH h es l) h.next (rowV h es l) = some (.d (.lst l)) := by
  unfold rowV rowH back1
  by_cases hl : l = []
  · subst hl; rfl
  · rw [if_neg hl, if_neg hl]
    have hr := row_get_alloc h es (l.map .d)
    rw [List.length_map] at hr
    have : deep (h.alloc (.arr es (l.map .d))) h.next 8 (.own h.next es l.length 0 l.length) = some (.lst l) := by
      unfold deep
      simp only [Nat.le_refl, if_true, hr, Option.bind_some, List.length_map, Nat.zero_add, List.drop_zero]
      rw [List.take_of_length_le (by simp), deep_ds]
      rfl
    rw [this]

theorem rowD_app (h : Hp) {es b : Nat} {l : List D} {x : D} (hx : x.cells.length = es) (hlen : (l.length + 1) * b ≤ roomB) (hl : ∀ y, y ∈ l → y.cells.length = es) :
    app es b (rowH h es l) (rowV h es l) (.tl [.d x] (some false)) = some (rowV h es (l ++ [x]), rowH h es (l ++ [x])) := by
  have hxs : allV es [V.d x] = true := by simp [allV, V.cells, hx]
  unfold app
  simp only [elems, Option.bind_some, List.map_cons, List.map_nil, norm_d, hxs, if_true]
  by_cases h0 : l = []
  · subst h0
    simp [rowV, rowH, allV]
    simpa using hlen
  · simp only [rowV, rowH, h0, if_false]
    have hr := row_get_alloc h es (l.map .d)
    rw [List.length_map] at hr
    simp only [hr, Option.bind_some, List.length_map, Nat.zero_add, Nat.le_refl, and_self, if_true, List.isEmpty_cons, Bool.false_eq_true, if_false, List.length_cons, List.length_nil]
    rw [if_neg (by omega), if_pos hlen, List.take_of_length_le (by simp)]
    have hne : l ++ [x] ≠ [] := by simp
    simp only [hne, if_false, List.length_append, List.length_cons, List.length_nil, List.map_append, List.map_cons, List.map_nil, Nat.zero_add]
    congr 2
    show ({ h.alloc (.arr es (l.map .d)) with objs := upd ((h.next, _) :: h.objs) h.next _ } : Hp) = _
    simp [upd, Hp.alloc]

/-! ### Values that are known -/
theorem ixOf_nat (k : IntKind) (n : Nat) : ixOf (.d (.int k (n : Int))) = some n := by simp [ixOf]
theorem ixOf_zero (k : IntKind) : ixOf (.d (.int k 0)) = some 0 := rfl
theorem ia_at {es : Nat} {l : List D} {n : Nat} {x : D} (k : IntKind) (h : l[n]? = some x) (hc : x.cells.length = es) : ia es (.d (.lst l)) (.d (.int k (n : Int))) = some (.fp x 0) := by
  simp [ia, ixOf_nat, h, hc]
theorem fa_fp (off : Nat) (x : D) (o : Nat) : fa off (.fp x o) = some (.fp x (o + off)) := rfl
theorem ld_fp (ag : Bool) (sz : Nat) (h : Hp) (x : D) (o : Nat) : ld ag sz h (.fp x o) = (partD ag o sz x.cells).map .d := rfl
theorem ldf_fp (ag : Bool) (sz : Nat) (h : Hp) (x : D) (o : Nat) : ldf ag sz h (.fp x o) = (partD ag o sz x.cells).map .d := rfl
theorem cells_agg (l : List D) : (D.agg l).cells = l := rfl
theorem partD_one (o sz : Nat) (l : List D) : partD false o sz l = l[o]? := rfl
theorem partD_all (l : List D) : partD true 0 l.length l = some (.agg l) := by simp [partD]
theorem lenL_lst (l : List D) : lenL (.d (.lst l)) = some (.d (.int .i64 l.length)) := rfl
theorem wrap_ok {n : Int} (h1 : -(2 ^ 63) ≤ n) (h2 : n < 2 ^ 63) : IntKind.i64.wrap n = n := by
  simp [IntKind.wrap, IntKind.signed, IntKind.bits, IntKind.min, IntKind.max]
  omega
theorem wrap_succ {n : Nat} (h : n < 2 ^ 62) : IntKind.i64.wrap ((n : Int) + 1) = ((n + 1 : Nat) : Int) := by
  rw [wrap_ok (by omega) (by omega)]; rfl

theorem stor_d (x : D) : stor (.d x) = true := rfl
theorem stor_own (n es tot off len : Nat) : stor (.own n es tot off len) = true := rfl
theorem stor_ptr (n tot i off : Nat) : stor (.ptr n tot i off) = true := rfl
theorem stor_tl (l : List V) (nl : Option Bool) : stor (.tl l nl) = true := rfl
theorem stor_agg (l : List V) : stor (.agg l) = true := rfl
theorem stor_clo (f : Nat) (l : List V) : stor (.clo f l) = true := rfl
theorem stor_map (n : Nat) : stor (.map n) = true := rfl
theorem vcells_d (x : D) : V.cells (.d x) = x.cells.map .d := rfl
theorem vcells_agg (l : List V) : V.cells (.agg l) = l := rfl
theorem vcells_own (n es tot off len : Nat) : V.cells (.own n es tot off len) = [.own n es tot off len] := rfl
theorem vcells_ptr (n tot i off : Nat) : V.cells (.ptr n tot i off) = [.ptr n tot i off] := rfl
theorem vcells_tl (l : List V) (nl : Option Bool) : V.cells (.tl l nl) = [.tl l nl] := rfl
theorem vcells_clo (f : Nat) (l : List V) : V.cells (.clo f l) = [.clo f l] := rfl
theorem vcells_map (n : Nat) : V.cells (.map n) = [.map n] := rfl
theorem cells_int (k : IntKind) (n : Int) : (D.int k n).cells = [.int k n] := rfl
theorem cells_bool (b : Bool) : (D.bool b).cells = [.bool b] := rfl
theorem cells_str (s : ByteArray) : (D.str s).cells = [.str s] := rfl
theorem cells_lst (l : List D) : (D.lst l).cells = [.lst l] := rfl
theorem asD_nil : asD [] = some [] := rfl
theorem asD_d (x : D) (r : List V) : asD (.d x :: r) = (asD r).map fun l => x :: l := rfl
theorem mkAgg_some {cs : List V} {ds : List D} (h : asD cs = some ds) : mkAgg cs = .d (.agg ds) := by unfold mkAgg; rw [h]
theorem mkAgg1 (a : D) : mkAgg [.d a] = .d (.agg [a]) := rfl
theorem mkAgg2 (a b : D) : mkAgg [.d a, .d b] = .d (.agg [a, b]) := rfl
theorem mkAgg3 (a b c : D) : mkAgg [.d a, .d b, .d c] = .d (.agg [a, b, c]) := rfl
theorem mkAgg4 (a b c d : D) : mkAgg [.d a, .d b, .d c, .d d] = .d (.agg [a, b, c, d]) := rfl
theorem lay_nil (cs : List V) : lay cs [] = some cs := rfl
theorem lay_cons (cs : List V) (off sz : Nat) (v : V) (r : List (Nat × Nat × V)) : lay cs ((off, sz, v) :: r) = if stor v = true ∧ v.cells.length = sz ∧ off + sz ≤ cs.length then lay (cs.take off ++ v.cells ++ cs.drop (off + sz)) r else none := rfl

theorem rowV_nil (h : Hp) (es : Nat) : rowV h es [] = .tl [] (some true) := rfl
theorem rowH_nil (h : Hp) (es : Nat) : rowH h es [] = h := rfl
theorem finish_row {fn : AF} (hs : fn.scp = true) {t es : Nat} (hr : fn.res = [(t, none)]) {e : Env} {h : Hp} {l : List D} (he : e.get t = rowV h es l) : finish fn h e (rowH h es l) = some (.d (.lst l), h) := by
  rw [finish_scp hs (rowD_suf h es l), hr]
  simp only [resL, Option.map_some, Option.bind_some, he]
  simp only [List.mapM_cons, List.mapM_nil, rowD_back]
  rfl

/-! ### The heap, object by object -/
theorem row_cons (m es : Nat) (els : List V) (r : List (Nat × Ob)) (nx n tot : Nat) : Hp.row ⟨(m, .arr es els) :: r, nx⟩ n tot = if n = m then (if els.length = tot then some (es, els) else none) else Hp.row ⟨r, nx⟩ n tot := by
  unfold Hp.row Hp.get
  show (match (if n = m then some (Ob.arr es els) else look r n) with
    | some (.arr es els) => if els.length = tot then some (es, els) else none
    | _ => none) = _
  by_cases h : n = m
  · rw [if_pos h, if_pos h]
  · rw [if_neg h, if_neg h]; rfl
theorem set_cons (m : Nat) (o : Ob) (r : List (Nat × Ob)) (nx n : Nat) (x : Ob) : Hp.set ⟨(m, o) :: r, nx⟩ n x = if n = m then ⟨(m, x) :: r, nx⟩ else ⟨(m, o) :: (Hp.set ⟨r, nx⟩ n x).objs, nx⟩ := by
  unfold Hp.set
  by_cases h : n = m
  · simp [upd, h]
  · simp [upd, h]
theorem alloc_mk (l : List (Nat × Ob)) (nx : Nat) (o : Ob) : Hp.alloc ⟨l, nx⟩ o = ⟨(nx, o) :: l, nx + 1⟩ := rfl
theorem nn1 (n : Nat) : (n = n + 1) = False := by simp
theorem nn2 (n : Nat) : (n + 1 = n) = False := by simp
theorem nilck_ptr (n tot i off : Nat) : nilck (.ptr n tot i off) = some (.ptr n tot i off) := rfl
theorem nilck_fp (x : D) (off : Nat) : nilck (.fp x off) = some (.fp x off) := rfl
theorem fa_ptr (off n tot i o : Nat) : fa off (.ptr n tot i o) = some (.ptr n tot i (o + off)) := rfl
theorem partV_one (o sz : Nat) (l : List V) : partV false o sz l = l[o]? := rfl
theorem lenL_own (n es tot off len : Nat) : lenL (.own n es tot off len) = some (.d (.int .i64 len)) := rfl
theorem lenL_tl (l : List V) (nl : Option Bool) : lenL (.tl l nl) = some (.d (.int .i64 l.length)) := rfl
theorem low_nil : Low ⟨[], 0⟩ := fun _ _ => rfl
theorem low_cons {l : List (Nat × Ob)} {m nx : Nat} {o : Ob} (L : Low ⟨l, nx⟩) (hm : m < nx) : Low ⟨(m, o) :: l, nx⟩ := by
  intro q hq
  have hq' : nx ≤ q := hq
  show (if q = m then some o else look l q) = none
  rw [if_neg (by omega)]
  exact L q hq
theorem low_up {l : List (Nat × Ob)} {nx nx' : Nat} (L : Low ⟨l, nx⟩) (h : nx ≤ nx') : Low ⟨l, nx'⟩ := fun q hq => L q (Nat.le_trans h hq)

theorem asD_own (n es tot off len : Nat) (r : List V) : asD (.own n es tot off len :: r) = none := rfl
theorem asD_ptr (n tot i off : Nat) (r : List V) : asD (.ptr n tot i off :: r) = none := rfl
theorem asD_fp (x : D) (off : Nat) (r : List V) : asD (.fp x off :: r) = none := rfl
theorem asD_tl (l : List V) (nl : Option Bool) (r : List V) : asD (.tl l nl :: r) = none := rfl
theorem asD_clo (f : Nat) (l : List V) (r : List V) : asD (.clo f l :: r) = none := rfl
theorem asD_map (n : Nat) (r : List V) : asD (.map n :: r) = none := rfl
theorem mkAgg_none {cs : List V} (h : asD cs = none) : mkAgg cs = .agg cs := by unfold mkAgg; rw [h]
theorem mkAgg5 (a b c d e : D) : mkAgg [.d a, .d b, .d c, .d d, .d e] = .d (.agg [a, b, c, d, e]) := rfl
theorem mkAgg6 (a b c d e f : D) : mkAgg [.d a, .d b, .d c, .d d, .d e, .d f] = .d (.agg [a, b, c, d, e, f]) := rfl
theorem nilBin_ptr (op : BinOp) (n tot i off : Nat) : nilBin .p op (.ptr n tot i off) = match op with
    | .eql => some (.d (.bool false))
    | .neq => some (.d (.bool true))
    | _ => none := by cases op <;> rfl
theorem nilBin_nil (op : BinOp) : nilBin .p op (.d .nilp) = match op with
    | .eql => some (.d (.bool true))
    | .neq => some (.d (.bool false))
    | _ => none := by cases op <;> rfl
theorem ext_tup (i : Nat) (l : List V) : ext i (.tup l) = l[i]? := rfl
theorem pick_b (c : Bool) (a b : V) : pick (.d (.bool c)) a b = some (if c = true then a else b) := rfl
theorem resV_two (a b : V) : resV [a, b] = .tup [a, b] := rfl
theorem resV_one (a : V) : resV [a] = a := rfl
theorem resV_three (a b c : V) : resV [a, b, c] = .tup [a, b, c] := rfl

theorem mkAgg_own (n es tot off len : Nat) (r : List V) : mkAgg (.own n es tot off len :: r) = .agg (.own n es tot off len :: r) := rfl
theorem mkAgg_ptr (n tot i off : Nat) (r : List V) : mkAgg (.ptr n tot i off :: r) = .agg (.ptr n tot i off :: r) := rfl
theorem mkAgg_tl (l : List V) (nl : Option Bool) (r : List V) : mkAgg (.tl l nl :: r) = .agg (.tl l nl :: r) := rfl
theorem mkAgg_map (n : Nat) (r : List V) : mkAgg (.map n :: r) = .agg (.map n :: r) := rfl
theorem mkAgg_clo (f : Nat) (l : List V) (r : List V) : mkAgg (.clo f l :: r) = .agg (.clo f l :: r) := rfl
theorem mkAgg_d_own (a : D) (n es tot off len : Nat) (r : List V) : mkAgg (.d a :: .own n es tot off len :: r) = .agg (.d a :: .own n es tot off len :: r) := rfl
theorem mkAgg_dd_own (a b : D) (n es tot off len : Nat) (r : List V) : mkAgg (.d a :: .d b :: .own n es tot off len :: r) = .agg (.d a :: .d b :: .own n es tot off len :: r) := rfl
theorem mkAgg_d_tl (a : D) (l : List V) (nl : Option Bool) (r : List V) : mkAgg (.d a :: .tl l nl :: r) = .agg (.d a :: .tl l nl :: r) := rfl
theorem mkAgg_dd_tl (a b : D) (l : List V) (nl : Option Bool) (r : List V) : mkAgg (.d a :: .d b :: .tl l nl :: r) = .agg (.d a :: .d b :: .tl l nl :: r) := rfl

theorem norm_ptr (n tot i off : Nat) : norm (.ptr n tot i off) = .ptr n tot i off := rfl
theorem norm_own (n es tot off len : Nat) : norm (.own n es tot off len) = .own n es tot off len := rfl
theorem norm_map (n : Nat) : norm (.map n) = .map n := rfl
def wantV (v : V) (b : Bool) : Option Bool := match v with
  | .d (.bool c) => some (c == b)
  | .tup [] => some false
  | _ => none
theorem want_some (e : Env) (p : Nat × Bool) : want e (some p) = wantV (e.get p.1) p.2 := rfl
theorem wantV_b (c b : Bool) : wantV (.d (.bool c)) b = some (c == b) := rfl
theorem wantV_t (b : Bool) : wantV (.tup []) b = some false := rfl

/-! ### Loops -/
theorem loop_from (T : Tab) (a : AC) (f : Nat → Env) (g : Nat → Hp) (N : Nat) (o : Out) (h : ∀ n, n < N → ex T a (f n) (g n) = some (.norm, f (n + 1), g (n + 1))) (hN : ex T a (f N) (g N) = some o) (ho : o.1 ≠ .norm) :
    ∀ k i, i + k = N → ex T (.loop a) (f i) (g i) = some o := by
  intro k
  induction k with
  | zero =>
    intro i hi
    have : i = N := by omega
    subst this
    rw [ex_loop, hN, Option.bind_some]
    obtain ⟨x, e, h'⟩ := o
    cases x with
    | norm => exact absurd rfl ho
    | exit i => rfl
    | ret => rfl
  | succ k ih =>
    intro i hi
    rw [ex_loop, h i (by omega), Option.bind_some, nxt_n]
    exact ih (i + 1) (by omega)
/-- A loop whose rounds are known, up to the one that leaves it. -/
theorem loop_to (T : Tab) (a : AC) (f : Nat → Env) (g : Nat → Hp) (N : Nat) (o : Out) (h : ∀ n, n < N → ex T a (f n) (g n) = some (.norm, f (n + 1), g (n + 1))) (hN : ex T a (f N) (g N) = some o) (ho : o.1 ≠ .norm) :
    ex T (.loop a) (f 0) (g 0) = some o := loop_from T a f g N o h hN ho N 0 (by omega)
/-- The first place of a list where something holds, or none. -/
theorem first_or {α : Type} (p : α → Bool) : ∀ l : List α, (∃ n, ∃ h : n < l.length, p l[n] = true ∧ (∀ m, (hm : m < n) → p (l[m]'(by omega)) = false) ∧ l.findIdx? p = some n) ∨ ((∀ x, x ∈ l → p x = false) ∧ l.findIdx? p = none)
  | [] => .inr ⟨fun x hx => (by cases hx), rfl⟩
  | a :: l => by
    by_cases ha : p a = true
    · left
      exact ⟨0, by simp, ha, fun m hm => by omega, by simp [List.findIdx?_cons, ha]⟩
    · rcases first_or p l with ⟨n, h, h1, h2, h3⟩ | ⟨h1, h2⟩
      · left
        refine ⟨n + 1, by simp; omega, by simpa using h1, fun m hm => ?_, by simp [List.findIdx?_cons, ha, h3]⟩
        cases m with
        | zero => simpa using ha
        | succ m => simpa using h2 m (by omega)
      · right
        refine ⟨fun x hx => ?_, by simp [List.findIdx?_cons, ha, h2]⟩
        rcases List.mem_cons.1 hx with rfl | hx
        · simpa using ha
        · exact h1 x hx

theorem back_nil (h : Hp) (n : Nat) (nl : Option Bool) : back1 h n (.tl [] nl) = some (.d (.lst [])) := rfl
theorem ia_to {es : Nat} {l : List D} {n : Nat} {x : D} {i : Int} (k : IntKind) (hi : i = (n : Int)) (h : l[n]? = some x) (hc : x.cells.length = es) : ia es (.d (.lst l)) (.d (.int k i)) = some (.fp x 0) := by
  subst hi; exact ia_at k h hc

theorem it_frz (cf : Cf) (e : Env) (h : Hp) (t : Nat) : itX cf e h (.frz t) = (Zv.frz h (e.get t)).map fun r => ((t, r.1) :: e, r.2) := rfl
def killX (t : Nat) (e : Env) (h : Hp) (v : V) : Option (Env × Hp) := match v with
  | .ptr n _ _ _ => some ((t, .undef) :: e, h.kill n)
  | .own n _ _ _ _ => some ((t, .undef) :: e, h.kill n)
  | _ => some ((t, .undef) :: e, h)
theorem it_kill (cf : Cf) (e : Env) (h : Hp) (t : Nat) : itX cf e h (.kill t) = killX t e h (e.get t) := rfl
theorem killX_ptr (t : Nat) (e : Env) (h : Hp) (n tot i off : Nat) : killX t e h (.ptr n tot i off) = some ((t, .undef) :: e, h.kill n) := rfl
theorem killX_own (t : Nat) (e : Env) (h : Hp) (n es tot off len : Nat) : killX t e h (.own n es tot off len) = some ((t, .undef) :: e, h.kill n) := rfl
theorem killX_fp (t : Nat) (e : Env) (h : Hp) (x : D) (o : Nat) : killX t e h (.fp x o) = some ((t, .undef) :: e, h) := rfl
theorem killX_d (t : Nat) (e : Env) (h : Hp) (x : D) : killX t e h (.d x) = some ((t, .undef) :: e, h) := rfl
theorem killX_undef (t : Nat) (e : Env) (h : Hp) : killX t e h .undef = some ((t, .undef) :: e, h) := rfl
theorem killX_tup (t : Nat) (e : Env) (h : Hp) (l : List V) : killX t e h (.tup l) = some ((t, .undef) :: e, h) := rfl
theorem kill_hd (n : Nat) (o : Ob) (l : List (Nat × Ob)) (nx : Nat) : Hp.kill ⟨(n, o) :: l, nx⟩ n = ⟨l, nx⟩ := by
  unfold Hp.kill; simp [del]
/-- A variable that is made, set and frozen in one go. -/
theorem frz_hd (n es nx : Nat) (x : D) (l : List (Nat × Ob)) (off : Nat) : Zv.frz ⟨(n, .arr es [.d x]) :: l, nx⟩ (.ptr n 1 0 off) = some (.fp x off, ⟨l, nx⟩) := by
  simp only [Zv.frz, row_cons, if_true, List.length_cons, List.length_nil, Option.bind_some, List.getElem?_cons_zero, Option.map_some, toD, kill_hd]

theorem norm_clo0 (f : Nat) (l : List V) : norm (.clo f l) = .clo f l := rfl

/-! ### The same, with nothing to look into -/
def goI (cf : Cf) (r : List It) : Option (Env × Hp) → Option (Env × Hp)
  | none => none
  | some s => itsX cf r s.1 s.2
theorem go_cons (cf : Cf) (i : It) (r : List It) (e : Env) (h : Hp) : itsX cf (i :: r) e h = goI cf r (itX cf e h i) := by
  show (itX cf e h i).bind _ = _
  cases itX cf e h i <;> rfl
theorem goI_some (cf : Cf) (r : List It) (e : Env) (h : Hp) : goI cf r (some (e, h)) = itsX cf r e h := rfl
def putR (dst : Option Nat) (e : Env) : Option (V × Hp) → Option (Env × Hp)
  | none => none
  | some s => some (e.putO dst s.1, s.2)
theorem putR_some (dst : Option Nat) (e : Env) (v : V) (h : Hp) : putR dst e (some (v, h)) = some (e.putO dst v, h) := rfl
theorem io (cf : Cf) (e : Env) (h : Hp) (dst : Option Nat) (op : AOp) : itX cf e h (.o dst op none) = putR dst e (opX cf e h op) := by
  rw [it_o]; cases opX cf e h op <;> rfl
def gdR (cf : Cf) (dst : Option Nat) (op : AOp) (e : Env) (h : Hp) : Option Bool → Option (Env × Hp)
  | none => none
  | some true => putR dst e (opX cf e h op)
  | some false => some (e.putO dst (.tup []), h)
theorem ig (cf : Cf) (e : Env) (h : Hp) (dst : Option Nat) (op : AOp) (t : Nat) (b : Bool) : itX cf e h (.o dst op (some (t, b))) = gdR cf dst op e h (wantV (e.get t) b) := by
  rw [it_g]
  show (wantV (e.get t) b).bind _ = _
  cases wantV (e.get t) b with
  | none => rfl
  | some w =>
    cases w with
    | true => simp only [Option.bind_some, if_true, gdR]; cases opX cf e h op <;> rfl
    | false => rfl
theorem gdR_t (cf : Cf) (dst : Option Nat) (op : AOp) (e : Env) (h : Hp) : gdR cf dst op e h (some true) = putR dst e (opX cf e h op) := rfl
theorem gdR_f (cf : Cf) (dst : Option Nat) (op : AOp) (e : Env) (h : Hp) : gdR cf dst op e h (some false) = some (e.putO dst (.tup []), h) := rfl
def regR (kp : Option (List Nat)) : Option (Env × Hp) → Option Out
  | none => none
  | some s => some (.norm, keepE kp s.1, s.2)
theorem xreg (T : Tab) (its : List It) (kp : Option (List Nat)) (e : Env) (h : Hp) : ex T (.reg its kp) e h = regR kp (itsX (cW T) its e h) := by
  rw [ex_reg]; cases itsX (cW T) its e h <;> rfl
theorem regR_some (kp : Option (List Nat)) (e : Env) (h : Hp) : regR kp (some (e, h)) = some (.norm, keepE kp e, h) := rfl
noncomputable def seqR (T : Tab) (b : AC) : Option Out → Option Out
  | none => none
  | some (.norm, e, h) => ex T b e h
  | some o => some o
theorem xseq (T : Tab) (a b : AC) (e : Env) (h : Hp) : ex T (.seq a b) e h = seqR T b (ex T a e h) := by
  rw [ex_seq]
  cases ex T a e h with
  | none => rfl
  | some o => obtain ⟨x, e', h'⟩ := o; cases x <;> rfl
theorem seqR_n (T : Tab) (b : AC) (e : Env) (h : Hp) : seqR T b (some (.norm, e, h)) = ex T b e h := rfl
theorem seqR_e (T : Tab) (b : AC) (i : Nat) (e : Env) (h : Hp) : seqR T b (some (.exit i, e, h)) = some (.exit i, e, h) := rfl
theorem seqR_r (T : Tab) (b : AC) (e : Env) (h : Hp) : seqR T b (some (.ret, e, h)) = some (.ret, e, h) := rfl
noncomputable def conR (T : Tab) (a b : AC) (e : Env) (h : Hp) : Option Bool → Option Out
  | none => none
  | some true => ex T a e h
  | some false => ex T b e h
theorem xcond (T : Tab) (c : Opd) (a b : AC) (e : Env) (h : Hp) : ex T (.cond c a b) e h = conR T a b e h (condB (e.ev c)) := by
  rw [ex_cond]
  cases condB (e.ev c) with
  | none => rfl
  | some t => cases t <;> rfl
theorem conR_t (T : Tab) (a b : AC) (e : Env) (h : Hp) : conR T a b e h (some true) = ex T a e h := rfl
theorem conR_f (T : Tab) (a b : AC) (e : Env) (h : Hp) : conR T a b e h (some false) = ex T b e h := rfl
def blkR (id : Nat) : Option Out → Option Out
  | none => none
  | some (.exit i, e, h) => if i = id then some (.norm, e, h) else some (.exit i, e, h)
  | some o => some o
theorem xblk (T : Tab) (id : Nat) (a : AC) (e : Env) (h : Hp) : ex T (.blk id a) e h = blkR id (ex T a e h) := by
  rw [ex_blk]
  cases ex T a e h with
  | none => rfl
  | some o =>
    obtain ⟨x, e', h'⟩ := o
    cases x with
    | exit i =>
      show some (if Ex.exit i = .exit id then Ex.norm else .exit i, e', h') = if i = id then _ else _
      by_cases hi : i = id
      · rw [if_pos hi, if_pos (by rw [hi])]
      · rw [if_neg hi, if_neg (by simpa using hi)]
    | norm => rfl
    | ret => rfl
theorem blkR_n (id : Nat) (e : Env) (h : Hp) : blkR id (some (.norm, e, h)) = some (.norm, e, h) := rfl
theorem blkR_r (id : Nat) (e : Env) (h : Hp) : blkR id (some (.ret, e, h)) = some (.ret, e, h) := rfl
theorem blkR_e (id i : Nat) (e : Env) (h : Hp) : blkR id (some (.exit i, e, h)) = if i = id then some (.norm, e, h) else some (.exit i, e, h) := rfl
def donR (fn : AF) (h : Hp) : Option Out → Option (V × Hp)
  | none => none
  | some o => done fn h o
theorem callX {T : Tab} {f : Nat} {fn : AF} (hT : T f = some fn) {vs : List V} (hn : vs.length = fn.np) (h : Hp) (hp : isPr fn.body = none := by rfl) (hf : f < RB := by decide) : callW T f vs h = donR fn h (ex T fn.body (args 0 vs) h) := by
  rw [callW_fn hT hn h hp hf]; cases ex T fn.body (args 0 vs) h <;> rfl
theorem donR_n (fn : AF) (h : Hp) (e : Env) (h' : Hp) : donR fn h (some (.norm, e, h')) = finish fn h e h' := rfl
theorem donR_r (fn : AF) (h : Hp) (e : Env) (h' : Hp) : donR fn h (some (.ret, e, h')) = finish fn h e h' := rfl

end Zs
