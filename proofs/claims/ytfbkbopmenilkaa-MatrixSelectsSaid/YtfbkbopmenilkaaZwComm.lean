/-
  Items of a region that change places.
-/
import Derived.Test.YtfbkbopmenilkaaZwReg
set_option linter.unusedSimpArgs false
namespace Zv
open Go

def Opd.us : Opd → List Nat
  | .t n => [n]
  | .c _ => []
def usO : Option Opd → List Nat
  | none => []
  | some x => x.us
def usL : List Opd → List Nat
  | [] => []
  | x :: l => x.us ++ usL l
def usP : List (Nat × Nat × Opd) → List Nat
  | [] => []
  | p :: l => p.2.2.us ++ usP l

def AOp.us : AOp → List Nat
  | .mv x | .box _ x | .ld _ _ x | .nilck x | .nilBin _ _ x | .un _ x | .conv _ x | .mksl _ _ _ x | .mkslT _ _ x | .fa _ x | .fld _ _ _ x
  | .lenS x | .lenL x | .lenM x | .ext _ x | .ldf _ _ x => x.us
  | .pick c a b => c.us ++ (a.us ++ b.us)
  | .alloc _ _ | .mkmap => []
  | .build _ ps => usP ps
  | .bsl _ xs | .bslO _ xs | .mkf _ xs => usL xs
  | .st _ x y | .bin _ x y | .binB _ x y | .aggBin _ _ x y | .ia _ x y | .ixS x y | .lk _ _ _ x y | .app _ _ x y | .appn _ _ x y | .appf _ _ x y | .appd _ _ x y | .cpy _ x y => x.us ++ y.us
  | .slcS x lo hi | .slc _ x lo hi => x.us ++ (usO lo ++ usO hi)
  | .slc3 _ x lo hi mx => x.us ++ (usO lo ++ (usO hi ++ usO mx))
  | .mu _ m k x => m.us ++ (k.us ++ x.us)
  | .call f _ xs | .calln f _ xs => f.us ++ usL xs

/-- 0: a value alone; 1: it reads the heap; 2: a call that leaves the heap as it is; 3: it makes an object; 4: any other -/
def AOp.kd : AOp → Nat
  | .ld .. | .lk .. | .lenM .. => 1
  | .calln .. => 2
  | .alloc .. | .box .. | .bslO .. | .mksl .. | .mkmap | .appn .. => 3
  | .st .. | .mu .. | .app .. | .appf .. | .cpy .. | .call .. => 4
  | _ => 0

variable {cf : Cf} {e e' : Env} {h : Hp}

theorem ev_congr {x : Opd} {l : List Nat} (H : ∀ t, t ∈ l → Env.get e t = Env.get e' t) (hs : ∀ t, t ∈ x.us → t ∈ l) : e.ev x = e'.ev x := by
  cases x with
  | t n => exact H n (hs n (by simp [Opd.us]))
  | c v => rfl
theorem evO_congr {x : Option Opd} {l : List Nat} (H : ∀ t, t ∈ l → Env.get e t = Env.get e' t) (hs : ∀ t, t ∈ usO x → t ∈ l) : x.map e.ev = x.map e'.ev := by
  cases x with
  | none => rfl
  | some y => exact congrArg some (ev_congr H hs)
theorem evL_congr {l : List Nat} (H : ∀ t, t ∈ l → Env.get e t = Env.get e' t) : ∀ {xs : List Opd}, (∀ t, t ∈ usL xs → t ∈ l) → xs.map e.ev = xs.map e'.ev
  | [], _ => rfl
  | x :: xs, hs => by
    rw [List.map_cons, List.map_cons, ev_congr H (fun t ht => hs t (List.mem_append_left _ ht)), evL_congr H (fun t ht => hs t (List.mem_append_right _ ht))]
theorem evP_congr {l : List Nat} (H : ∀ t, t ∈ l → Env.get e t = Env.get e' t) : ∀ {xs : List (Nat × Nat × Opd)}, (∀ t, t ∈ usP xs → t ∈ l) → xs.map (fun p => (p.1, p.2.1, e.ev p.2.2)) = xs.map (fun p => (p.1, p.2.1, e'.ev p.2.2))
  | [], _ => rfl
  | x :: xs, hs => by
    rw [List.map_cons, List.map_cons, ev_congr H (fun t ht => hs t (List.mem_append_left _ ht)), evP_congr H (fun t ht => hs t (List.mem_append_right _ ht))]

theorem opX_congr {op : AOp} (H : ∀ t, t ∈ op.us → Env.get e t = Env.get e' t) : opX cf e h op = opX cf e' h op := by
  cases op <;> simp only [AOp.us, List.mem_append] at H <;> simp only [opX]
  case mv x => rw [ev_congr H (fun t ht => ht)]
  case pick c a b => rw [ev_congr (x := c) (l := c.us) (fun t ht => H t (.inl ht)) (fun t ht => ht), ev_congr (x := a) (l := a.us) (fun t ht => H t (.inr (.inl ht))) (fun t ht => ht), ev_congr (x := b) (l := b.us) (fun t ht => H t (.inr (.inr ht))) (fun t ht => ht)]
  case box es x => rw [ev_congr H (fun t ht => ht)]
  case build z ps => rw [evP_congr H (fun t ht => ht)]
  case bsl es xs => rw [evL_congr H (fun t ht => ht), show (xs.map fun x => norm (e.ev x)) = (xs.map e.ev).map norm by rw [List.map_map]; rfl, evL_congr H (fun t ht => ht), List.map_map]; rfl
  case bslO es xs => rw [evL_congr H (fun t ht => ht), show (xs.map fun x => norm (e.ev x)) = (xs.map e.ev).map norm by rw [List.map_map]; rfl, evL_congr H (fun t ht => ht), List.map_map]; rfl
  case mkf f xs => rw [evL_congr H (fun t ht => ht)]
  case slcS x lo hi => rw [ev_congr (x := x) (l := x.us) (fun t ht => H t (.inl ht)) (fun t ht => ht), evO_congr (x := lo) (l := usO lo) (fun t ht => H t (.inr (.inl ht))) (fun t ht => ht), evO_congr (x := hi) (l := usO hi) (fun t ht => H t (.inr (.inr ht))) (fun t ht => ht)]
  case slc es x lo hi => rw [ev_congr (x := x) (l := x.us) (fun t ht => H t (.inl ht)) (fun t ht => ht), evO_congr (x := lo) (l := usO lo) (fun t ht => H t (.inr (.inl ht))) (fun t ht => ht), evO_congr (x := hi) (l := usO hi) (fun t ht => H t (.inr (.inr ht))) (fun t ht => ht)]
  case slc3 es x lo hi mx => rw [ev_congr (x := x) (l := x.us) (fun t ht => H t (.inl ht)) (fun t ht => ht), evO_congr (x := lo) (l := usO lo) (fun t ht => H t (.inr (.inl ht))) (fun t ht => ht), evO_congr (x := hi) (l := usO hi) (fun t ht => H t (.inr (.inr (.inl ht)))) (fun t ht => ht), evO_congr (x := mx) (l := usO mx) (fun t ht => H t (.inr (.inr (.inr ht)))) (fun t ht => ht)]
  case mu kk m k x => rw [ev_congr (x := m) (l := m.us) (fun t ht => H t (.inl ht)) (fun t ht => ht), ev_congr (x := k) (l := k.us) (fun t ht => H t (.inr (.inl ht))) (fun t ht => ht), ev_congr (x := x) (l := x.us) (fun t ht => H t (.inr (.inr ht))) (fun t ht => ht)]
  case call f nm xs => rw [ev_congr (x := f) (l := f.us) (fun t ht => H t (.inl ht)) (fun t ht => ht), evL_congr (xs := xs) (l := usL xs) (fun t ht => H t (.inr ht)) (fun t ht => ht)]
  case calln f nm xs => rw [ev_congr (x := f) (l := f.us) (fun t ht => H t (.inl ht)) (fun t ht => ht), evL_congr (xs := xs) (l := usL xs) (fun t ht => H t (.inr ht)) (fun t ht => ht)]
  all_goals first
    | rfl
    | rw [ev_congr H (fun t ht => ht)]
    | (rename_i x y; rw [ev_congr (x := x) (l := x.us) (fun t ht => H t (.inl ht)) (fun t ht => ht), ev_congr (x := y) (l := y.us) (fun t ht => H t (.inr ht)) (fun t ht => ht)])

theorem pureV_eq {h h' : Hp} {x : Option V} {v : V} (H : pureV h x = some (v, h')) : x = some v ∧ h' = h := by
  cases x with
  | none => cases H
  | some y => cases H; exact ⟨rfl, rfl⟩

theorem kd0 {op : AOp} {v : V} {h' : Hp} (hk : op.kd = 0) (H : opX cf e h op = some (v, h')) : h' = h ∧ ∀ h2, opX cf e h2 op = some (v, h2) := by
  cases op <;> (first | (exfalso; revert hk; simp [AOp.kd]; done) | skip) <;> simp only [opX] at H ⊢
  case mv x => cases H; exact ⟨rfl, fun _ => rfl⟩
  case mkf f xs => cases H; exact ⟨rfl, fun _ => rfl⟩
  case bsl es xs =>
    split at H
    · rename_i hc; cases H; exact ⟨rfl, fun h2 => by rw [if_pos hc]⟩
    · cases H
  case ldf ag sz a =>
    obtain ⟨h1, h2⟩ := pureV_eq H
    refine ⟨h2, fun h2 => ?_⟩
    unfold ldf at h1
    split at h1
    · rename_i x off hx
      rw [hx] at h1 ⊢
      simp only [ldf, ld] at h1 ⊢; rw [h1]; rfl
    · cases h1
  all_goals
    obtain ⟨h1, h2⟩ := pureV_eq H
    exact ⟨h2, fun h2 => by rw [h1]; rfl⟩

theorem kd2 {op : AOp} {v : V} {h' : Hp} (hk : op.kd ≤ 2) (H : opX cf e h op = some (v, h')) : h' = h := by
  by_cases h0 : op.kd = 0
  · exact (kd0 h0 H).1
  cases op <;> (first | (exfalso; revert hk h0; simp [AOp.kd]; done) | skip) <;> simp only [opX] at H
  case calln f nm xs =>
    simp only [Option.bind_eq_some_iff] at H
    obtain ⟨r, hr, hq⟩ := H
    unfold quiet at hq
    split at hq <;> cases hq
    rfl
  all_goals exact (pureV_eq H).2

theorem appn4 {es b : Nat} {h : Hp} {l k : List V} {nl : Option Bool} {v : V} {h' : Hp} (H : (if allV es k = true then (if (k.map norm).isEmpty = true then some (V.tl l nl, h) else if (l.length + (k.map norm).length) * b ≤ roomB ∧ allV es l = true then some (V.own h.next es (l.length + (k.map norm).length) 0 (l.length + (k.map norm).length), h.alloc (.arr es (l ++ k.map norm))) else none) else none) = some (v, h')) : h' = h ∨ ∃ ob, h' = h.alloc ob := by
  by_cases c1 : allV es k = true
  · rw [if_pos c1] at H
    by_cases c2 : (k.map norm).isEmpty = true
    · rw [if_pos c2] at H; cases H; exact .inl rfl
    · rw [if_neg c2] at H
      split at H <;> cases H
      exact .inr ⟨_, rfl⟩
  · rw [if_neg c1] at H; cases H

theorem appn3 {es b : Nat} {h : Hp} {s x : V} {v : V} {h' : Hp} (H : appn es b h s x = some (v, h')) : h' = h ∨ ∃ ob, h' = h.alloc ob := by
  cases s
  case tl l nl =>
   simp only [appn, app, Option.bind_eq_some_iff] at H
   obtain ⟨k, _, H⟩ := H
   exact appn4 H
  all_goals cases H

theorem kd3 {op : AOp} {v : V} {h' : Hp} (hk : op.kd = 3) (H : opX cf e h op = some (v, h')) : h' = h ∨ ∃ ob, h' = h.alloc ob := by
  cases op <;> (first | (exfalso; revert hk; simp [AOp.kd]; done) | skip) <;> simp only [opX] at H
  case alloc => cases H; exact .inr ⟨_, rfl⟩
  case mkmap => cases H; exact .inr ⟨_, rfl⟩
  case box => split at H <;> cases H; exact .inr ⟨_, rfl⟩
  case bslO => split at H <;> cases H; exact .inr ⟨_, rfl⟩
  case mksl =>
    simp only [mkslO, Option.bind_eq_some_iff] at H
    obtain ⟨k, _, H⟩ := H
    split at H <;> cases H
    exact .inr ⟨_, rfl⟩
  case appn ES b s x => exact appn3 H

def KeysLt (h : Hp) : Prop := ∀ n o, h.get n = some o → n < h.next
theorem KeysLt.alloc {ob : Ob} {n : Nat} {o : Ob} (K : KeysLt h) (H : h.get n = some o) : (h.alloc ob).get n = some o := by
  have := K n o H
  show (if n = h.next then some ob else look h.objs n) = some o
  rw [if_neg (by omega)]
  exact H
theorem KeysLt.row {ob : Ob} {n tot : Nat} {r : Nat × List V} (K : KeysLt h) (H : h.row n tot = some r) : (h.alloc ob).row n tot = some r := by
  unfold Hp.row at H ⊢
  split at H
  · rename_i es els hg
    rw [K.alloc hg]
    exact H
  · cases H
theorem KeysLt.entries {ob : Ob} {m : V} {r : List (D × V)} (K : KeysLt h) (H : entries h m = some r) : entries (h.alloc ob) m = some r := by
  unfold Zv.entries at H ⊢
  split at H
  · split at H
    · rename_i hg; rw [K.alloc hg]; exact H
    · cases H
  · exact H
  · cases H

theorem kd1 {op : AOp} {v : V} {h' : Hp} (hk : op.kd = 1) (K : KeysLt h) (ob : Ob) (H : opX cf e h op = some (v, h')) : opX cf e (h.alloc ob) op = some (v, h.alloc ob) := by
  cases op <;> (first | (exfalso; revert hk; simp [AOp.kd]; done) | skip) <;> simp only [opX] at H ⊢
  case ld ag sz a =>
    obtain ⟨h1, _⟩ := pureV_eq H
    have : ld ag sz (h.alloc ob) (e.ev a) = some v := by
      unfold ld at h1 ⊢
      split at h1
      · exact h1
      · simp only [Option.bind_eq_some_iff] at h1 ⊢
        obtain ⟨r, hr, h1⟩ := h1
        exact ⟨r, K.row hr, h1⟩
      · cases h1
    rw [this]; rfl
  case lk kk z ok m k =>
    obtain ⟨h1, _⟩ := pureV_eq H
    have : lk kk z ok (h.alloc ob) (e.ev m) (e.ev k) = some v := by
      unfold lk at h1 ⊢
      split at h1
      · simp only [Option.bind_eq_some_iff] at h1 ⊢
        obtain ⟨r, hr, h1⟩ := h1
        exact ⟨r, K.entries hr, h1⟩
      · cases h1
    rw [this]; rfl
  case lenM x =>
    obtain ⟨h1, _⟩ := pureV_eq H
    have : lenM (h.alloc ob) (e.ev x) = some v := by
      unfold lenM at h1 ⊢
      simp only [Option.map_eq_some_iff] at h1 ⊢
      obtain ⟨r, hr, h1⟩ := h1
      exact ⟨r, K.entries hr, h1⟩
    rw [this]; rfl

/-- The name that a value leads to at once is below N. -/
def NL (N : Nat) : V → Prop
  | .ptr n _ _ _ => n < N
  | .map n => n < N
  | _ => True
theorem NL.mono {N M : Nat} {v : V} (H : NL N v) (hle : N ≤ M) : NL M v := by
  cases v <;> first | trivial | exact Nat.lt_of_lt_of_le H hle
def AOp.addr : AOp → Option Opd
  | .ld _ _ a => some a
  | .lk _ _ _ m _ => some m
  | .lenM x => some x
  | _ => none
theorem row_back {ob : Ob} {n tot : Nat} (hn : n < h.next) : (h.alloc ob).row n tot = h.row n tot := by
  unfold Hp.row
  rw [show (h.alloc ob).get n = h.get n from if_neg (by omega)]
theorem entries_back {ob : Ob} {m : V} (hn : NL h.next m) : entries (h.alloc ob) m = entries h m := by
  unfold Zv.entries
  cases m with
  | map n => simp only; rw [show (h.alloc ob).get n = h.get n from if_neg (by have : n < h.next := hn; omega)]
  | d x => cases x <;> rfl
  | _ => rfl
theorem kd1r {op : AOp} {v : V} {h' : Hp} (hk : op.kd = 1) {ob : Ob} (hn : ∀ x, op.addr = some x → NL h.next (e.ev x)) (H : opX cf e (h.alloc ob) op = some (v, h')) : opX cf e h op = some (v, h) := by
  cases op <;> (first | (exfalso; revert hk; simp [AOp.kd]; done) | skip) <;> simp only [opX] at H ⊢
  case ld ag sz a =>
    obtain ⟨h1, _⟩ := pureV_eq H
    have hn' := hn a rfl
    have : ld ag sz h (e.ev a) = some v := by
      unfold ld at h1 ⊢
      split at h1
      · exact h1
      · rename_i hx
        rw [row_back (by rw [hx] at hn'; exact hn')] at h1
        exact h1
      · cases h1
    rw [this]; rfl
  case lk kk z ok m k =>
    obtain ⟨h1, _⟩ := pureV_eq H
    have hn' := hn m rfl
    have : lk kk z ok h (e.ev m) (e.ev k) = some v := by
      unfold lk at h1 ⊢
      rw [entries_back hn'] at h1
      exact h1
    rw [this]; rfl
  case lenM x =>
    obtain ⟨h1, _⟩ := pureV_eq H
    have hn' := hn x rfl
    have : lenM h (e.ev x) = some v := by
      unfold lenM at h1 ⊢
      rw [entries_back hn'] at h1
      exact h1
    rw [this]; rfl

/-! ### Items -/

def itV (cf : Cf) (e : Env) (h : Hp) (op : AOp) (g : Option (Nat × Bool)) : Option (V × Hp) :=
  (want e g).bind fun w => if w = true then opX cf e h op else some (.tup [], h)

theorem itX_eq (dst : Option Nat) (op : AOp) (g : Option (Nat × Bool)) : itX cf e h (.o dst op g) = (itV cf e h op g).map fun r => (e.putO dst r.1, r.2) := by
  simp only [itX, itV]
  cases want e g with
  | none => rfl
  | some w => cases w <;> rfl

def usG : Option (Nat × Bool) → List Nat
  | none => []
  | some p => [p.1]

theorem itV_congr {op : AOp} {g : Option (Nat × Bool)} (H : ∀ t, t ∈ usG g ++ op.us → Env.get e t = Env.get e' t) : itV cf e h op g = itV cf e' h op g := by
  have h1 : want e g = want e' g := by
    cases g with
    | none => rfl
    | some p => simp only [want]; rw [H p.1 (by simp [usG])]
  unfold itV
  rw [h1, opX_congr (fun t ht => H t (List.mem_append_right _ ht))]

theorem itV0 {op : AOp} {g : Option (Nat × Bool)} {v : V} {h' : Hp} (hk : op.kd = 0) (H : itV cf e h op g = some (v, h')) : h' = h ∧ ∀ h2, itV cf e h2 op g = some (v, h2) := by
  unfold itV at H ⊢
  simp only [Option.bind_eq_some_iff] at H ⊢
  obtain ⟨w, hw, H⟩ := H
  cases w with
  | true => exact ⟨(kd0 hk H).1, fun h2 => ⟨true, hw, (kd0 hk H).2 h2⟩⟩
  | false => cases H; exact ⟨rfl, fun h2 => ⟨false, hw, rfl⟩⟩
theorem itV2 {op : AOp} {g : Option (Nat × Bool)} {v : V} {h' : Hp} (hk : op.kd ≤ 2) (H : itV cf e h op g = some (v, h')) : h' = h := by
  unfold itV at H
  simp only [Option.bind_eq_some_iff] at H
  obtain ⟨w, hw, H⟩ := H
  cases w with
  | true => exact kd2 hk H
  | false => cases H; rfl
theorem itV3 {op : AOp} {g : Option (Nat × Bool)} {v : V} {h' : Hp} (hk : op.kd = 3) (H : itV cf e h op g = some (v, h')) : h' = h ∨ ∃ ob, h' = h.alloc ob := by
  unfold itV at H
  simp only [Option.bind_eq_some_iff] at H
  obtain ⟨w, hw, H⟩ := H
  cases w with
  | true => exact kd3 hk H
  | false => cases H; exact .inl rfl
theorem itV1 {op : AOp} {g : Option (Nat × Bool)} {v : V} {h' : Hp} (hk : op.kd = 1) (K : KeysLt h) (ob : Ob) (H : itV cf e h op g = some (v, h')) : itV cf e (h.alloc ob) op g = some (v, h.alloc ob) := by
  unfold itV at H ⊢
  simp only [Option.bind_eq_some_iff] at H ⊢
  obtain ⟨w, hw, H⟩ := H
  cases w with
  | true => exact ⟨true, hw, kd1 hk K ob H⟩
  | false => cases H; exact ⟨false, hw, rfl⟩

theorem itV1r {op : AOp} {g : Option (Nat × Bool)} {v : V} {h' : Hp} (hk : op.kd = 1) {ob : Ob} (hn : ∀ x, op.addr = some x → NL h.next (e.ev x)) (H : itV cf e (h.alloc ob) op g = some (v, h')) : itV cf e h op g = some (v, h) := by
  unfold itV at H ⊢
  simp only [Option.bind_eq_some_iff] at H ⊢
  obtain ⟨w, hw, H⟩ := H
  cases w with
  | true => exact ⟨true, hw, kd1r hk hn H⟩
  | false => cases H; exact ⟨false, hw, rfl⟩

def kdOk (x i : Nat) : Bool := x == 0 || i == 0 || (decide (x ≤ 2) && decide (i ≤ 2)) || (x == 1 && i == 3) || (x == 3 && i == 1)

def apartI (dx : Option Nat) (ux : List Nat) (di : Option Nat) (ui : List Nat) : Bool :=
  (match dx with
   | none => true
   | some d => !ui.contains d && !decide (di = some d)) &&
  (match di with
   | none => true
   | some d => !ux.contains d)

/-- May the second one go ahead of the first? -/
def indep : It → It → Bool
  | .o dx ox gx, .o di oi gi => kdOk ox.kd oi.kd && apartI dx (usG gx ++ ox.us) di (usG gi ++ oi.us)
  | _, _ => false

theorem apart_ok {dx di : Option Nat} {ux ui : List Nat} (H : apartI dx ux di ui = true) : (∀ d, dx = some d → d ∉ ui ∧ di ≠ some d) ∧ (∀ d, di = some d → d ∉ ux) := by
  unfold apartI at H
  simp only [Bool.and_eq_true] at H
  refine ⟨fun d hd => ?_, fun d hd => ?_⟩
  · have := H.1; subst hd; simpa using this
  · have := H.2; subst hd; simpa using this

theorem get_putO {d : Option Nat} {v : V} {t : Nat} (H : d ≠ some t) : Env.get (e.putO d v) t = Env.get e t := by
  cases d with
  | none => rfl
  | some q => show (if t = q then v else e.get t) = e.get t; rw [if_neg (fun hq => H (by rw [hq]))]

def EqE (e e' : Env) : Prop := ∀ t, Env.get e t = Env.get e' t

theorem EqE.putO {d : Option Nat} {v : V} (H : EqE e e') : EqE (e.putO d v) (e'.putO d v) := by
  cases d with
  | none => exact H
  | some q => intro t; show (if t = q then v else e.get t) = if t = q then v else e'.get t; rw [H t]

theorem putO_comm {d d' : Option Nat} {v v' : V} (H : ∀ q, d = some q → d' ≠ some q) : EqE ((e.putO d v).putO d' v') ((e.putO d' v').putO d v) := by
  intro t
  cases d with
  | none => rfl
  | some q =>
    cases d' with
    | none => rfl
    | some q' =>
      show (if t = q' then v' else if t = q then v else e.get t) = if t = q then v else if t = q' then v' else e.get t
      have := H q rfl
      by_cases h1 : t = q'
      · by_cases h2 : t = q
        · exfalso; subst h1; subst h2; exact this rfl
        · simp [h1, h2]
          intro h3; subst h3; exact absurd rfl this
      · simp [h1]

theorem swap {dx di : Option Nat} {ox oi : AOp} {gx gi : Option (Nat × Bool)} {vx vi : V} {h1 h2 : Hp} (hi : indep (.o dx ox gx) (.o di oi gi) = true) (hK : oi.kd = 3 → KeysLt h) (hN : oi.kd = 1 → ∀ x, oi.addr = some x → NL h.next (e.ev x))
    (Hx : itV cf e h ox gx = some (vx, h1)) (Hi : itV cf (e.putO dx vx) h1 oi gi = some (vi, h2)) :
    ∃ h3, itV cf e h oi gi = some (vi, h3) ∧ itV cf (e.putO di vi) h3 ox gx = some (vx, h2) := by
  simp only [indep, Bool.and_eq_true] at hi
  obtain ⟨hk, ha⟩ := hi
  obtain ⟨a1, a2⟩ := apart_ok ha
  rw [itV_congr (e' := e) (fun t ht => get_putO (fun hd => (a1 t hd).1 ht))] at Hi
  have cx : ∀ h', itV cf (e.putO di vi) h' ox gx = itV cf e h' ox gx := fun h' => itV_congr fun t ht => get_putO (fun hd => a2 t hd ht)
  simp only [kdOk, Bool.or_eq_true, Bool.and_eq_true, beq_iff_eq, decide_eq_true_eq] at hk
  rcases hk with (((hk | hk) | ⟨hk, hk'⟩) | ⟨hk, hk'⟩) | ⟨hk, hk'⟩
  · obtain ⟨rfl, h5⟩ := itV0 hk Hx
    exact ⟨h2, Hi, by rw [cx]; exact h5 h2⟩
  · obtain ⟨rfl, h5⟩ := itV0 hk Hi
    exact ⟨h, h5 h, by rw [cx]; exact Hx⟩
  · have e1 := itV2 hk Hx
    subst e1
    have e2 := itV2 hk' Hi
    subst e2
    exact ⟨_, Hi, by rw [cx]; exact Hx⟩
  · have e1 := itV2 (by omega) Hx
    subst e1
    refine ⟨h2, Hi, ?_⟩
    rw [cx]
    rcases itV3 hk' Hi with rfl | ⟨ob, rfl⟩
    · exact Hx
    · exact itV1 hk (hK hk') ob Hx
  · have e2 := itV2 (by omega) Hi
    subst e2
    refine ⟨h, ?_, by rw [cx]; exact Hx⟩
    rcases itV3 hk Hx with rfl | ⟨ob, rfl⟩
    · exact Hi
    · exact itV1r hk' (hN hk') Hi

theorem itsX_congr : ∀ {its : List It} {e e' : Env} {h : Hp} {e1 : Env} {h1 : Hp}, EqE e e' → itsX cf its e h = some (e1, h1) → ∃ e1', itsX cf its e' h = some (e1', h1) ∧ EqE e1 e1'
  | [], _, _, _, _, _, hq, H => by cases H; exact ⟨_, rfl, hq⟩
  | i :: r, e, e', h, e1, h1, hq, H => by
    simp only [itsX, Option.bind_eq_some_iff] at H ⊢
    obtain ⟨⟨e2, h2⟩, hi, H⟩ := H
    have : ∃ e2', itX cf e' h i = some (e2', h2) ∧ EqE e2 e2' := by
      cases i with
      | o dst op g =>
        rw [itX_eq] at hi ⊢
        rw [← itV_congr (fun t _ => hq t)]
        simp only [Option.map_eq_some_iff] at hi ⊢
        obtain ⟨⟨v, h3⟩, h4, h5⟩ := hi
        cases h5
        exact ⟨_, ⟨_, h4, rfl⟩, hq.putO⟩
      | frz t =>
        simp only [itX] at hi ⊢
        rw [← hq t]
        simp only [Option.map_eq_some_iff] at hi ⊢
        obtain ⟨⟨v, h3⟩, h4, h5⟩ := hi
        cases h5
        exact ⟨_, ⟨_, h4, rfl⟩, hq.putO (d := some t)⟩
      | kill t =>
        simp only [itX] at hi ⊢
        rw [← hq t]
        split at hi <;> cases hi <;> exact ⟨_, rfl, hq.putO (d := some t)⟩
    obtain ⟨e2', k1, k2⟩ := this
    obtain ⟨e1', k3, k4⟩ := itsX_congr k2 H
    exact ⟨e1', ⟨_, k1, k3⟩, k4⟩

theorem EqE.trans {a b c : Env} (h : EqE a b) (k : EqE b c) : EqE a c := fun t => (h t).trans (k t)
theorem EqE.symm {a b : Env} (h : EqE a b) : EqE b a := fun t => (h t).symm

theorem bubble {di : Option Nat} {oi : AOp} {gi : Option (Nat × Bool)} {post : List It} {h2 : Hp} {e1 : Env} : ∀ {pre : List It} {e : Env} {h : Hp}, (∀ x, x ∈ pre → indep x (.o di oi gi) = true) → (oi.kd = 3 → KeysLt h) → (oi.kd = 1 → ∀ x, oi.addr = some x → NL h.next (e.ev x)) →
    itsX cf (pre ++ .o di oi gi :: post) e h = some (e1, h2) → ∃ vi h3 e1', itV cf e h oi gi = some (vi, h3) ∧ itsX cf (pre ++ post) (e.putO di vi) h3 = some (e1', h2) ∧ EqE e1' e1
  | [], e, h, _, _, _, H => by
    simp only [List.nil_append, itsX, itX_eq, Option.bind_eq_some_iff, Option.map_eq_some_iff] at H ⊢
    obtain ⟨a, ⟨⟨v, h3⟩, h4, h5⟩, H⟩ := H
    cases h5
    exact ⟨v, h3, e1, h4, H, fun _ => rfl⟩
  | x :: r, e, h, hin, hK, hN, H => by
    have hix := hin x (List.mem_cons_self ..)
    cases x with
    | o dx ox gx =>
      simp only [List.cons_append, itsX, Option.bind_eq_some_iff] at H
      obtain ⟨⟨ex, hx⟩, hxi, H⟩ := H
      dsimp only at H
      rw [itX_eq] at hxi
      simp only [Option.map_eq_some_iff] at hxi
      obtain ⟨⟨vx, hx'⟩, hv, hq⟩ := hxi
      injection hq with hq1 hq2
      subst hq1; subst hq2
      have hK' : oi.kd = 3 → KeysLt hx' := by
        intro h3
        have hk : ox.kd ≤ 2 := by
          simp only [indep, kdOk, h3, Bool.and_eq_true, Bool.or_eq_true, beq_iff_eq, decide_eq_true_eq] at hix
          omega
        rw [itV2 hk hv]
        exact hK h3
      have hN' : oi.kd = 1 → ∀ x, oi.addr = some x → NL hx'.next ((e.putO dx vx).ev x) := by
        intro h1 x hx
        have hk : ox.kd ≤ 3 := by
          simp only [indep, kdOk, h1, Bool.and_eq_true, Bool.or_eq_true, beq_iff_eq, decide_eq_true_eq] at hix
          omega
        have hle : h.next ≤ hx'.next := by
          by_cases h3 : ox.kd = 3
          · rcases itV3 h3 hv with rfl | ⟨ob, rfl⟩
            · exact Nat.le_refl _
            · exact Nat.le_succ _
          · rw [itV2 (by omega) hv]; exact Nat.le_refl _
        have hap := hix
        simp only [indep, Bool.and_eq_true] at hap
        obtain ⟨a1, _⟩ := apart_ok hap.2
        have hev : (e.putO dx vx).ev x = e.ev x := by
          refine ev_congr (l := x.us) (fun t ht => get_putO (fun hd => (a1 t hd).1 ?_)) (fun t ht => ht)
          refine List.mem_append_right _ ?_
          cases oi <;> simp only [AOp.addr, Option.some.injEq, reduceCtorEq] at hx <;> subst hx <;> simp [AOp.us, ht]
        rw [hev]
        exact (hN h1 x hx).mono hle
      obtain ⟨vi, h3, e1', k1, k2, k3⟩ := bubble (pre := r) (fun y hy => hin y (List.mem_cons_of_mem _ hy)) hK' hN' H
      obtain ⟨h4, s1, s2⟩ := swap hix hK hN hv k1
      simp only [indep, Bool.and_eq_true] at hix
      obtain ⟨a1, a2⟩ := apart_ok hix.2
      obtain ⟨e1'', k4, k5⟩ := itsX_congr (putO_comm (fun q hq => (a1 q hq).2)) k2
      refine ⟨vi, h4, e1'', s1, ?_, k5.symm.trans k3⟩
      simp only [List.cons_append, itsX, Option.bind_eq_some_iff, itX_eq, s2, Option.map_some]
      exact ⟨_, rfl, k4⟩
    | frz t => cases hix
    | kill t => cases hix

end Zv
