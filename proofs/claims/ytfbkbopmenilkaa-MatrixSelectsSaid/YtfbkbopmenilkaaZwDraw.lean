/-
  Regions whose order is drawn.
-/
import Derived.Test.YtfbkbopmenilkaaZwSound
import Derived.Test.YtfbkbopmenilkaaZwComm
set_option linter.unusedSimpArgs false
namespace Zv
open Go

/-! ### Values under another state of knowledge -/

mutual
/-- A value that stood under less, stands with fewer names. -/
theorem Rep.back {g0 g1 g2 : G} (hN : g0.N ≤ g2.N) (hB : g2.B = g1.B) (hμ : g2.μ = g1.μ) (hφ : ∀ b o, g1.φ b = some o → g2.φ b = some o) :
    ∀ {x : V} {v u : Value}, Rep g0 x v → Rep g1 x u → Rep g2 x u
  | _, _, _, .d x v _, .d _ u h => .d x u (h.mono hφ)
  | _, _, _, .tl l nl es0 a0 vs0 hes0 hr0 ha0 hn0 hf0, .tl _ _ es a vs hes hr ha hn hf =>
    .tl l nl es a vs hes (Reps.back hN hB hμ hφ hr0 hr) (ha.imp id fun ⟨b, p, e, hat⟩ => ⟨b, p, e, hat.mono hφ⟩) hn hf
  | _, _, _, .own n es tot off len cap0 a0 he0 hN0 hB0 ha0 hl0 ht0 hc0 hs0, .own _ _ _ _ _ cap a he hN1 hB1 ha hl ht hc hs =>
    .own n es tot off len cap a (by rw [hμ]; exact he) (Nat.lt_of_lt_of_le hN0 hN) (by rw [hB]; exact hB1) (by rw [hμ]; exact ha) hl ht hc (by rw [hμ]; exact hs)
  | _, _, _, .ptr n tot i off hN0 hB0, .ptr _ _ _ _ hN1 hB1 => by
    have := Rep.ptr (g := g2) n tot i off (Nat.lt_of_lt_of_le hN0 hN) (by rw [hB]; exact hB1)
    rw [hμ] at this
    exact this
  | _, _, _, .fp x off b0 p0 vs0 hr0 ha0, .fp _ _ b p vs hr ha => .fp x off b p vs (hr.mono hφ) (ha.mono hφ)
  | _, _, _, .clo f caps vs0 hr0, .clo _ _ vs hr => .clo f caps vs (Reps.back hN hB hμ hφ hr0 hr)
  | _, _, _, .agg l vs0 hr0 hf0, .agg _ vs hr hf => .agg l vs (Reps.back hN hB hμ hφ hr0 hr) hf
  | _, _, _, .tup l vs0 hr0, .tup _ vs hr => .tup l vs (Reps.back hN hB hμ hφ hr0 hr)
  | _, _, _, .map n hN0, .map _ hN1 => by
    have := Rep.map (g := g2) n (Nat.lt_of_lt_of_le hN0 hN)
    rw [hμ] at this
    exact this
  | _, _, _, .yld n hN0, .yld _ hN1 => by
    have := Rep.yld (g := g2) n (Nat.lt_of_lt_of_le hN0 hN)
    rw [hμ] at this
    exact this
  | _, _, _, .ub _, .ub b => .ub b
  | _, _, _, .undef v, .undef u => .undef u
theorem Reps.back {g0 g1 g2 : G} (hN : g0.N ≤ g2.N) (hB : g2.B = g1.B) (hμ : g2.μ = g1.μ) (hφ : ∀ b o, g1.φ b = some o → g2.φ b = some o) :
    ∀ {x : List V} {v u : List Value}, Reps g0 x v → Reps g1 x u → Reps g2 x u
  | _, _, _, .nil, .nil => .nil
  | _, _, _, .cons x l v vs hx hs, .cons _ _ u us hu hus => .cons x l u us (Rep.back hN hB hμ hφ hx hu) (Reps.back hN hB hμ hφ hs hus)
end

theorem RepKvs.back {g0 g1 g2 : G} (hN : g0.N ≤ g2.N) (hB : g2.B = g1.B) (hμ : g2.μ = g1.μ) (hφ : ∀ b o, g1.φ b = some o → g2.φ b = some o) :
    ∀ {l : List (D × V)} {es fs : List MapEntry}, RepKvs g0 l es → RepKvs g1 l fs → RepKvs g2 l fs
  | _, _, _, .nil, .nil => .nil
  | _, _, _, .cons k x l e es hk hx hs, .cons _ _ _ f fs hk1 hx1 hs1 => .cons k x l f fs (hk1.mono hφ) (Rep.back hN hB hμ hφ hx hx1) (RepKvs.back hN hB hμ hφ hs hs1)


def G.un (g : G) (F : Nat → Option Obj) : G := { g with F := F }

theorem Rep.un {g : G} {F : Nat → Option Obj} {x : V} {v : Value} (h : Rep g x v) : Rep (g.un F) x v := Rep.back (g0 := g) (g1 := g) (g2 := g.un F) (Nat.le_refl _) rfl rfl (fun _ _ h => h) h h
theorem Reps.un {g : G} {F : Nat → Option Obj} {x : List V} {v : List Value} (h : Reps g x v) : Reps (g.un F) x v := Reps.back (g0 := g) (g1 := g) (g2 := g.un F) (Nat.le_refl _) rfl rfl (fun _ _ h => h) h h
theorem RepKvs.un {g : G} {F : Nat → Option Obj} {l : List (D × V)} {es : List MapEntry} (h : RepKvs g l es) : RepKvs (g.un F) l es := RepKvs.back (g0 := g) (g1 := g) (g2 := g.un F) (Nat.le_refl _) rfl rfl (fun _ _ h => h) h h
theorem ObRep.un {g : G} {F : Nat → Option Obj} {w : World} {n : Nat} {o : Ob} (h : ObRep g w n o) : ObRep (g.un F) w n o := by
  cases o with
  | arr es els =>
    obtain ⟨c, ty, vs, h1, h2, h3, h4, h5, h6, h7⟩ := h
    exact ⟨c, ty, vs, h1, h2, h3, h4, h5.un, h6, h7⟩
  | mp kvs =>
    obtain ⟨es, cl, h1, h2⟩ := h
    exact ⟨es, cl, h1, h2.un⟩
  | lp b e s =>
    obtain ⟨r, h1, h2, h3⟩ := h
    exact ⟨r, h1, fun t => (h2 t).un, h3⟩
theorem EnvRep.un {g : G} {F : Nat → Option Obj} {e : Env} {a : Act} (h : EnvRep g e a) : EnvRep (g.un F) e a := fun t => (h t).un

theorem Rel.un {g : G} {h : Hp} {w : World} {F : Nat → Option Obj} (R : Rel g h w) (hF : ∀ b o, F b = some o → w.heap[b]? = some o ∧ g.φ b = none) (hO : ∀ n o, h.get n = some o → F (blk g n o) = none) : Rel (g.un F) h w :=
  ⟨R.nx, R.fr, R.nd, fun n o hn => ⟨(R.ob n o hn).1, (R.ob n o hn).2.1, (R.ob n o hn).2.2.un⟩, R.sep, R.out, hF, hO⟩

theorem Rel.old {g : G} {h : Hp} {w : World} (R : Rel g h w) : g.φ w.heap.size = none ∧ g.F w.heap.size = none ∧ ∀ n o, h.get n = some o → blk g n o ≠ w.heap.size := by
  refine ⟨?_, ?_, fun n o hn => ?_⟩
  · cases hp : g.φ w.heap.size with
    | none => rfl
    | some o => have := (Array.getElem?_eq_some_iff.1 (R.fr _ _ hp)).1; omega
  · cases hp : g.F w.heap.size with
    | none => rfl
    | some o => have := (Array.getElem?_eq_some_iff.1 (R.kp _ _ hp).1).1; omega
  · have := (R.ob n o hn).2.2
    cases o with
    | arr es els => obtain ⟨c, ty, vs, h1, _⟩ := this; exact Nat.ne_of_lt (Array.getElem?_eq_some_iff.1 h1).1
    | mp kvs => obtain ⟨es, cl, h1, _⟩ := this; exact Nat.ne_of_lt (Array.getElem?_eq_some_iff.1 h1).1
    | lp b e s => obtain ⟨r, h1, _⟩ := this; exact Nat.ne_of_lt (Array.getElem?_eq_some_iff.1 h1).1

/-- A block that was kept becomes an object. -/
theorem Rel.mat {g : G} {h : Hp} {w : World} (R : Rel g h w) {b : Nat} {z : V} {zv : Value} {ty : TypeId} {es : Nat} {F1 : Nat → Option Obj} (hb : g.F b = some (.cells zv.cells ty (0, 0))) (hr : ∀ g, Rep g z zv) (hs : stor z = true) (hl : z.cells.length = es)
    (hF : ∀ c o, F1 c = some o → g.F c = some o ∧ c ≠ b) :
    ∃ g', Le (g.un F1) g' ∧ Rel g' (h.alloc (.arr es [z])) w ∧ Rep g' (.ptr h.next 1 0 0) (.pointer (some ⟨b, 0, none⟩)) ∧ g'.F = F1 := by
  have R1 : Rel (g.un F1) h w := R.un (fun c o hc => R.kp c o (hF c o hc).1) (fun n o hn => by
    cases hq : F1 (blk g n o) with
    | none => rfl
    | some q => have := (hF _ _ hq).1; rw [R.kpo n o hn] at this; cases this)
  obtain ⟨xr, xf⟩ := (hr (g.un F1)).cells hs
  have hvs : zv.cells.size = es := by have := xr.length; rw [Array.length_toList] at this; omega
  have hput := R1.put (h' := h.alloc (.arr es [z])) (w' := w) h.next (.arr es [z]) ⟨b, 0, es, zv.cells.size⟩ (.inr R.nx) (by show h.next + 1 = max g.N (h.next + 1); have := R.nx; omega) (nodup_alloc R _) (fun m o hm => by
      rw [get_alloc] at hm
      split at hm
      · cases hm; exact .inl ⟨by assumption, rfl⟩
      · exact .inr ⟨by assumption, hm⟩)
    (.inr (.inr ⟨(R.kp b _ hb).2, (by
        show F1 b = none
        cases hq : F1 b with
        | none => rfl
        | some q => exact absurd rfl (hF _ _ hq).2), fun n o hn hq => (by
          have h1 := R.kpo n o hn
          rw [show blk g n o = b from hq, hb] at h1; cases h1)⟩)) (fun _ _ _ => rfl) (by
      simp only [ObRep, Ob.tot, List.length_singleton]
      rw [show ((g.un F1).put h.next 1 ⟨b, 0, es, zv.cells.size⟩).μ h.next 1 = ⟨b, 0, es, zv.cells.size⟩ from by simp [G.put]]
      exact ⟨zv.cells, ty, zv.cells.toList, (R.kp b _ hb).1, rfl, ⟨rfl, by simp [hvs]⟩, by simpa using hl, by simpa using ((hr ((g.un F1).put h.next 1 ⟨b, 0, es, zv.cells.size⟩)).cells hs).1, xf, fun j u hj => by rw [Nat.zero_add, ← Array.getElem?_toList]; exact hj⟩)
  refine ⟨_, hput.1, hput.2, ?_, rfl⟩
  have := Rep.ptr (g := (g.un F1).put h.next 1 ⟨b, 0, es, zv.cells.size⟩) h.next 1 0 0 (by show h.next < max g.N (h.next + 1); omega) (by simp [G.put])
  rw [show ((g.un F1).put h.next 1 ⟨b, 0, es, zv.cells.size⟩).μ h.next 1 = ⟨b, 0, es, zv.cells.size⟩ from by simp [G.put]] at this
  show Rep ((g.un F1).put h.next 1 ⟨b, 0, es, zv.cells.size⟩) _ _
  simpa using this

/-! ### What may change places -/

def pre (o : Oper) : List Nat := (o.after.toList.filter (Region.binds .any)).map (·.on)

/-- What must stand before each operation, as bits. -/
def mks : List Oper → List Nat → List Nat
  | [], acc => acc
  | o :: r, acc => mks r (acc ++ [(pre o).foldl (fun s j => s ||| (2 ^ j ||| acc.getD j 0)) 0])

def chk1 (m : Nat) (it : It) : Nat → List It → Bool
  | _, [] => true
  | k, x :: r => (m.testBit k || indep x it) && chk1 m it (k + 1) r

/-- A variable's declaration: its block may be made ahead of its place. -/
def isAl : It → Bool
  | .o (some _) (.alloc _ _) none => true
  | _ => false

def isO : It → Bool
  | .o .. => true
  | _ => false

def backs : Nat → List Oper → Bool
  | _, [] => true
  | i, o :: r => (pre o).all (fun j => decide (j < i)) && backs (i + 1) r

def dstI : It → Option Nat
  | .o d _ _ => d
  | _ => none
def usI : It → List Nat
  | .o _ op g => usG g ++ op.us
  | _ => []
def ok2 (x i : It) : Bool := if isAl i = true then isO x && apartI (dstI x) (usI x) (dstI i) (usI i) else indep x i
def chk2 (m : Nat) (it : It) : Nat → List It → Bool
  | _, [] => true
  | k, x :: r => (m.testBit k || ok2 x it) && chk2 m it (k + 1) r
def chkA (m : Nat) : Nat → List It → List It → Bool
  | _, _, [] => true
  | k, bef, x :: r => (!(isAl x && m.testBit k) || chk1 m x 0 bef) && chkA m (k + 1) (bef ++ [x]) r
def chk : List It → List Nat → List It → Bool
  | it :: r, m :: ms, prev => chk2 m it 0 prev && (prev.all (fun x => !isAl x) || chkA m 0 [] prev) && chk r ms (prev ++ [it])
  | [], _, _ => true
  | _ :: _, [], _ => false

def mtDraw1 (P : Program) (ops : Array Oper) (N : Nat) (its : List It) : Bool :=
  P.follows .mixedOrders && mtIts P ops N 0 (its.takeWhile isO) && (its.dropWhile isO).all (fun x => !isO x) && backs 0 ops.toList && chk (its.takeWhile isO) (mks ops.toList []) []
/-- Words without a counterpart may stand ahead, and behind. -/
def mtDraw (P : Program) (ops : Array Oper) (N : Nat) (its : List It) : Bool := mtDraw1 P ops N (its.dropWhile fun x => !isO x)

theorem chk1_ok {m : Nat} {it : It} : ∀ {l : List It} {k x : Nat} {itx : It}, chk1 m it k l = true → l[x]? = some itx → m.testBit (k + x) = true ∨ indep itx it = true
  | [], _, _, _, _, hx => by simp at hx
  | y :: r, k, x, itx, H, hx => by
    simp only [chk1, Bool.and_eq_true, Bool.or_eq_true] at H
    cases x with
    | zero => simp at hx; subst hx; exact H.1
    | succ x =>
      have := chk1_ok H.2 (x := x) (by simpa using hx)
      rwa [show k + 1 + x = k + (x + 1) by omega] at this

theorem chk2_ok {m : Nat} {it : It} : ∀ {l : List It} {k x : Nat} {itx : It}, chk2 m it k l = true → l[x]? = some itx → m.testBit (k + x) = true ∨ ok2 itx it = true
  | [], _, _, _, _, hx => by simp at hx
  | y :: r, k, x, itx, H, hx => by
    simp only [chk2, Bool.and_eq_true, Bool.or_eq_true] at H
    cases x with
    | zero => simp at hx; subst hx; exact H.1
    | succ x =>
      have := chk2_ok H.2 (x := x) (by simpa using hx)
      rwa [show k + 1 + x = k + (x + 1) by omega] at this

theorem chkA_ok {m : Nat} : ∀ {r : List It} {bef : List It} {x y : Nat} {itx ity : It}, chkA m bef.length bef r = true → (bef ++ r)[x]? = some itx → bef.length ≤ x → isAl itx = true → m.testBit x = true → y < x → (bef ++ r)[y]? = some ity → m.testBit y = true ∨ indep ity itx = true
  | [], bef, x, y, itx, ity, H, hx, hle, _, _, _, _ => by
    rw [List.append_nil] at hx
    have := (List.getElem?_eq_some_iff.1 hx).1
    omega
  | z :: r, bef, x, y, itx, ity, H, hx, hle, ha, ht, hy, hity => by
    simp only [chkA, Bool.and_eq_true, Bool.or_eq_true, Bool.not_eq_true', Bool.and_eq_false_iff] at H
    by_cases hq : x = bef.length
    · subst hq
      rw [List.getElem?_append_right (Nat.le_refl _), Nat.sub_self] at hx
      simp at hx
      subst hx
      rcases H.1 with (h | h) | h
      · rw [ha] at h; cases h
      · rw [ht] at h; cases h
      · rw [List.getElem?_append_left hy] at hity
        have := chk1_ok h hity
        rwa [Nat.zero_add] at this
    · have h2 : chkA m (bef ++ [z]).length (bef ++ [z]) r = true := by rw [List.length_append]; exact H.2
      exact chkA_ok (bef := bef ++ [z]) h2 (by rw [List.append_assoc]; exact hx) (by simp; omega) ha ht hy (by rw [List.append_assoc]; exact hity)

theorem chk_ok : ∀ {rest : List It} {ms : List Nat} {prev : List It} {j : Nat} {it : It}, chk rest ms prev = true → rest[j]? = some it →
    ∃ m, ms[j]? = some m ∧ (∀ x itx, (prev ++ rest)[x]? = some itx → x < prev.length + j → m.testBit x = true ∨ ok2 itx it = true) ∧
      (∀ x itx, (prev ++ rest)[x]? = some itx → x < prev.length + j → isAl itx = true → m.testBit x = true → ∀ y ity, y < x → (prev ++ rest)[y]? = some ity → m.testBit y = true ∨ indep ity itx = true)
  | [], _, _, _, _, _, hj => by simp at hj
  | y :: r, [], _, _, _, H, _ => by cases H
  | y :: r, m :: ms, prev, j, it, H, hj => by
    simp only [chk, Bool.and_eq_true] at H
    cases j with
    | zero =>
      simp at hj; subst hj
      refine ⟨m, rfl, fun x itx hx hlt => ?_, fun x itx hx hlt ha ht z itz hz hitz => ?_⟩
      · rw [List.getElem?_append_left (by omega)] at hx
        have := chk2_ok H.1.1 hx
        rwa [Nat.zero_add] at this
      · rw [List.getElem?_append_left (by omega)] at hx
        rw [List.getElem?_append_left (by omega)] at hitz
        have h2 := H.1.2
        rw [Bool.or_eq_true] at h2
        rcases h2 with h2 | h2
        · have := List.all_eq_true.1 h2 itx (List.mem_of_getElem? hx)
          rw [ha] at this; cases this
        · exact chkA_ok (bef := []) h2 (by simpa using hx) (Nat.zero_le _) ha ht hz (by simpa using hitz)
    | succ j =>
      obtain ⟨m', h1, h2, h3⟩ := chk_ok (j := j) H.2 (by simpa using hj)
      refine ⟨m', by simpa using h1, fun x itx hx hlt => ?_, fun x itx hx hlt ha ht z itz hz hitz => ?_⟩
      · exact h2 x itx (by rw [List.append_assoc]; exact hx) (by simp; omega)
      · exact h3 x itx (by rw [List.append_assoc]; exact hx) (by simp; omega) ha ht z itz hz (by rw [List.append_assoc]; exact hitz)

/-- A set of operations in which everything stands on what it needs. -/
def Shut (ops : Array Oper) (L : Nat → Prop) : Prop := ∀ k o, ops[k]? = some o → L k → ∀ p, p ∈ pre o → L p

def GoodM (ops : Array Oper) (j m : Nat) : Prop := ∀ L : Nat → Prop, Shut ops L → (∀ o, ops[j]? = some o → ∀ p, p ∈ pre o → L p) → ∀ x, m.testBit x = true → L x

theorem fold_bits {acc : List Nat} {x : Nat} : ∀ {l : List Nat} {s : Nat}, (l.foldl (fun s j => s ||| (2 ^ j ||| acc.getD j 0)) s).testBit x = true → s.testBit x = true ∨ ∃ j, j ∈ l ∧ (x = j ∨ (acc.getD j 0).testBit x = true)
  | [], s, h => .inl h
  | j :: l, s, h => by
    rcases fold_bits (l := l) h with h | ⟨i, hi, h⟩
    · rw [Nat.testBit_or, Nat.testBit_or, Bool.or_eq_true, Bool.or_eq_true] at h
      rcases h with h | h | h
      · exact .inl h
      · rw [Nat.testBit_two_pow] at h
        exact .inr ⟨j, List.mem_cons_self .., .inl (of_decide_eq_true h).symm⟩
      · exact .inr ⟨j, List.mem_cons_self .., .inr h⟩
    · exact .inr ⟨i, List.mem_cons_of_mem _ hi, h⟩

theorem mks_ok {ops : Array Oper} : ∀ {r : List Oper} {acc : List Nat}, ops.toList.drop acc.length = r → (∀ j m, acc[j]? = some m → GoodM ops j m) → ∀ j m, (mks r acc)[j]? = some m → GoodM ops j m
  | [], acc, _, ha, j, m, hm => ha j m hm
  | o :: r, acc, hr, ha, j, m, hm => by
    have ho : ops[acc.length]? = some o := by
      have : (ops.toList.drop acc.length)[0]? = some o := by rw [hr]; rfl
      rw [List.getElem?_drop, Nat.add_zero] at this
      rw [← Array.getElem?_toList]
      exact this
    refine mks_ok (r := r) (acc := acc ++ [_]) ?_ ?_ j m hm
    · rw [List.length_append, List.length_singleton, ← List.drop_drop, hr]; rfl
    · intro j m hj
      rcases Nat.lt_or_ge j acc.length with h | h
      · rw [List.getElem?_append_left h] at hj; exact ha j m hj
      · rw [List.getElem?_append_right h] at hj
        cases hz : j - acc.length with
        | succ z => rw [hz] at hj; simp at hj
        | zero =>
          rw [hz] at hj
          simp only [List.getElem?_cons_zero, Option.some.injEq] at hj
          have hj' : j = acc.length := by omega
          subst hj'
          subst hj
          intro L hL hp x hx
          rcases fold_bits hx with h | ⟨i, hi, h⟩
          · simp at h
          · have hLi := hp o ho i hi
            rcases h with rfl | h
            · exact hLi
            · rw [List.getD_eq_getElem?_getD] at h
              cases hai : acc[i]? with
              | none => rw [hai] at h; simp at h
              | some mi =>
                rw [hai] at h
                exact ha i mi hai L hL (fun o' ho' p hp' => hL i o' ho' hLi p hp') x h

theorem backs_ok : ∀ {r : List Oper} {i j : Nat} {o : Oper}, backs i r = true → r[j]? = some o → ∀ p, p ∈ pre o → p < i + j
  | [], _, _, _, _, h => by simp at h
  | q :: r, i, j, o, H, h => by
    simp only [backs, Bool.and_eq_true, List.all_eq_true, decide_eq_true_eq] at H
    cases j with
    | zero => simp at h; subst h; exact H.1
    | succ j =>
      intro p hp
      have := backs_ok H.2 (by simpa using h) p hp
      omega

theorem mtIts_at {P : Program} {ops : Array Oper} {N : Nat} : ∀ {its : List It} {i j : Nat} {it : It}, (∀ x, x ∈ its → isO x = true) → mtIts P ops N i its = true → its[j]? = some it →
    ∃ dst op gd o, it = .o dst op gd ∧ ops[i + j]? = some o ∧ o.dst = dst ∧ dstOk N dst = true ∧ mtG ops o.guard gd = true ∧ mtOp P o op = true
  | [], _, _, _, _, _, h => by simp at h
  | .o dst op gd :: r, i, j, it, ha, hm, h => by
    simp only [mtIts, Bool.and_eq_true] at hm
    obtain ⟨h1, h2⟩ := hm
    cases j with
    | zero =>
      simp at h
      subst h
      split at h1
      · rename_i o ho
        simp only [Bool.and_eq_true, decide_eq_true_eq] at h1
        exact ⟨dst, op, gd, o, rfl, ho, h1.1.1.1, h1.1.1.2, h1.1.2, h1.2⟩
      · cases h1
    | succ j =>
      have := mtIts_at (fun x hx => ha x (List.mem_cons_of_mem _ hx)) h2 (j := j) (by simpa using h)
      rwa [show i + 1 + j = i + (j + 1) by omega] at this
  | .frz t :: r, _, _, _, ha, _, _ => by have := ha _ (List.mem_cons_self ..); cases this
  | .kill t :: r, _, _, _, ha, _, _ => by have := ha _ (List.mem_cons_self ..); cases this
theorem mtIts_len {P : Program} {ops : Array Oper} {N : Nat} : ∀ {its : List It} {i : Nat}, (∀ x, x ∈ its → isO x = true) → mtIts P ops N i its = true → i + its.length = ops.size
  | [], i, _, hm => by simp only [mtIts, beq_iff_eq] at hm; simpa using hm
  | .o dst op gd :: r, i, ha, hm => by
    simp only [mtIts, Bool.and_eq_true] at hm
    have := mtIts_len (fun x hx => ha x (List.mem_cons_of_mem _ hx)) hm.2
    simp; omega
  | .frz t :: r, _, ha, _ => by have := ha _ (List.mem_cons_self ..); cases this
  | .kill t :: r, _, ha, _ => by have := ha _ (List.mem_cons_self ..); cases this

theorem ghosts_ok {c : Cs} {gs : List It} (hg : ∀ x, x ∈ gs → isO x = false) : ∀ {g : G} {h : Hp} {w : World} {e e' : Env} {a : Act} {h' : Hp},
    itsX (callee c) gs e h = some (e', h') → EnvRep g e a → Rel g h w → ∃ g', Le g g' ∧ Rel g' h' w ∧ EnvRep g' e' a := by
  induction gs with
  | nil => intro g h w e e' a h' H he R; cases H; exact ⟨g, Le.refl g, R, he⟩
  | cons x r ih =>
    intro g h w e e' a h' H he R
    have ih' := @ih (fun y hy => hg y (List.mem_cons_of_mem _ hy))
    cases x with
    | o dst op gd => have := hg _ (List.mem_cons_self ..); cases this
    | frz t =>
      simp only [itsX, itX, Option.bind_eq_some_iff, Option.map_eq_some_iff] at H
      obtain ⟨⟨e1, h1'⟩, ⟨⟨y, h2⟩, hf, heq⟩, hr⟩ := H
      cases heq
      obtain ⟨g', l1, l2, l3⟩ := frz_ok R hf (he t)
      obtain ⟨g2, k1, k2, k3⟩ := ih' hr (env_put_same t (he.mono l1) l3) l2
      exact ⟨g2, l1.trans k1, k2, k3⟩
    | kill t =>
      simp only [itsX, Option.bind_eq_some_iff] at H
      obtain ⟨⟨e1, h1'⟩, hk, hr⟩ := H
      have : e1 = e.put t .undef ∧ (h1' = h ∨ ∃ n, h1' = h.kill n) := by
        simp only [itX] at hk
        split at hk <;> cases hk
        · exact ⟨rfl, .inr ⟨_, rfl⟩⟩
        · exact ⟨rfl, .inr ⟨_, rfl⟩⟩
        · exact ⟨rfl, .inl rfl⟩
      obtain ⟨rfl, hh⟩ := this
      have R' : Rel g h1' w := by
        rcases hh with rfl | ⟨n, rfl⟩
        · exact R
        · exact R.kill n
      exact ih' hr (env_put_same t he (.undef _)) R'

/-! ### A state between two operations -/

def PB (F0 : Nat → Option Obj) (its : List It) (g : G) (a : Act) (p : Nat × Nat) : Prop :=
  ∃ t es z zv ty, its[p.1]? = some (.o (some t) (.alloc es z) none) ∧ (∀ g, Rep g z zv) ∧ stor z = true ∧ z.cells.length = es ∧ g.F p.2 = some (.cells zv.cells ty (0, 0)) ∧ F0 p.2 = none ∧ a.tmps.getD t undef = .pointer (some ⟨p.2, 0, none⟩)

structure St (CC : CTy) (c : Cs) (ops : Array Oper) (its gs : List It) (N : Nat) (F0 : Nat → Option Obj) (ef : Env) (hf : Hp) (Q : Exit → Act → World → Prop)
    (lst : Array Bool) (rem : List (Nat × It)) (pend : List (Nat × Nat)) (g : G) (h : Hp) (e : Env) (a : Act) (w : World) : Prop where
  sz : lst.size = ops.size
  iff : ∀ j, j < ops.size → (lst.getD j true = false ↔ (∃ it, (j, it) ∈ rem) ∧ j ∉ pend.map (·.1))
  ord : rem.Pairwise (fun p q => p.1 < q.1)
  at_ : ∀ p, p ∈ rem → its[p.1]? = some p.2
  shut : Shut ops (fun k => lst.getD k false = true)
  pin : ∀ p, p ∈ pend → ∃ it, (p.1, it) ∈ rem
  nd1 : (pend.map (·.1)).Nodup
  nd2 : (pend.map (·.2)).Nodup
  pb : ∀ p, p ∈ pend → PB F0 its g a p
  F : ∀ b, b ∉ pend.map (·.2) → g.F b = F0 b
  run : ∃ e1, itsX (callee c) (rem.map (·.2) ++ gs) e h = some (e1, hf) ∧ EqE e1 ef
  env : EnvRep g e a
  rel : Rel g h w
  tn : a.tmps.size = N
  K : ∀ e2 a' w' g', EqE e2 ef → Le (g.un F0) g' → Rel g' hf w' → EnvRep g' e2 a' → a'.tmps.size = N → a'.defers = a.defers → Fx w w' → Q .normal a' w'
  cc : g.C = CC


theorem getD_lst {lst : Array Bool} {j : Nat} (h : j < lst.size) (b : Bool) : lst.getD j b = lst[j] := by simp [h]

/-- Items that do not look at a word let it be anything. -/
theorem put_its {cf : Cf} {t : Nat} {u : V} {post : List It} {h2 : Hp} {e1 : Env} : ∀ {pr : List It} {e : Env} {h : Hp} {es : Nat} {z : V}, (∀ x, x ∈ pr → isO x = true ∧ apartI (dstI x) (usI x) (some t) [] = true) →
    itsX cf (pr ++ .o (some t) (.alloc es z) none :: post) e h = some (e1, h2) → ∃ e1', itsX cf (pr ++ .o (some t) (.alloc es z) none :: post) (e.put t u) h = some (e1', h2) ∧ EqE e1 e1'
  | [], e, h, es, z, _, H => by
    simp only [List.nil_append, itsX, itX, want, opX, Option.bind_some, if_true, Option.map_some] at H ⊢
    refine itsX_congr (fun q => ?_) H
    show (if q = t then _ else e.get q) = (if q = t then _ else if q = t then u else e.get q)
    split <;> rfl
  | x :: r, e, h, es, z, hin, H => by
    obtain ⟨hO, hap⟩ := hin x (List.mem_cons_self ..)
    cases x with
    | o dx ox gx =>
      obtain ⟨a1, a2⟩ := apart_ok hap
      simp only [List.cons_append, itsX, Option.bind_eq_some_iff, itX_eq, Option.map_eq_some_iff] at H ⊢
      obtain ⟨⟨ex, hx⟩, ⟨⟨v, hv⟩, hi, hq⟩, H⟩ := H
      injection hq with q1 q2
      subst q1; subst q2
      obtain ⟨e2, k1, k2⟩ := put_its (u := u) (fun y hy => hin y (List.mem_cons_of_mem _ hy)) H
      have hc : itV cf (e.put t u) h ox gx = itV cf e h ox gx := itV_congr fun q hq => by
        show (if q = t then u else e.get q) = e.get q
        rw [if_neg (fun heq => a2 t rfl (by rw [heq] at hq; exact hq))]
      have hcomm : EqE ((e.putO dx v).put t u) ((e.put t u).putO dx v) := putO_comm (d := dx) (d' := some t) (fun q hq => (a1 q hq).2)
      obtain ⟨e3, k3, k4⟩ := itsX_congr hcomm k1
      exact ⟨e3, ⟨_, ⟨_, by rw [hc]; exact hi, rfl⟩, k3⟩, k2.trans k4⟩
    | frz _ => cases hO
    | kill _ => cases hO

theorem nodup_inj {α : Type} {f : α → Nat} : ∀ {l : List α}, (l.map f).Nodup → ∀ x y, x ∈ l → y ∈ l → f x = f y → x = y
  | [], _, x, y, hx, _, _ => by cases hx
  | z :: l, hn, x, y, hx, hy, he => by
    rw [List.map_cons, List.nodup_cons] at hn
    rcases List.mem_cons.1 hx with h1 | h1
    · rcases List.mem_cons.1 hy with h2 | h2
      · rw [h1, h2]
      · exact absurd (List.mem_map.2 ⟨y, h2, by rw [← he, h1]⟩) hn.1
    · rcases List.mem_cons.1 hy with h2 | h2
      · exact absurd (List.mem_map.2 ⟨x, h1, by rw [he, h2]⟩) hn.1
      · exact nodup_inj hn.2 x y h1 h2 he
theorem filter_len : ∀ {l : List (Nat × Nat)} {x b : Nat}, (l.map (·.1)).Nodup → (x, b) ∈ l → (l.filter (fun p => p.1 ≠ x)).length + 1 = l.length
  | [], _, _, _, h => by cases h
  | p :: r, x, b, hn, h => by
    rw [List.map_cons, List.nodup_cons] at hn
    by_cases hpx : p.1 = x
    · have hall : ∀ q, q ∈ r → decide (q.1 ≠ x) = true := fun q hq => decide_eq_true (fun he => hn.1 (List.mem_map.2 ⟨q, hq, by rw [he, hpx]⟩))
      rw [List.filter_cons, if_neg (by simp [hpx]), List.filter_eq_self.2 hall, List.length_cons]
    · rcases List.mem_cons.1 h with h | h
      · subst h; exact absurd rfl hpx
      · rw [List.filter_cons, if_pos (by simp [hpx]), List.length_cons, List.length_cons, filter_len hn.2 h]

theorem isAl_eq {it : It} (h : isAl it = true) : ∃ t es z, it = .o (some t) (.alloc es z) none := by
  unfold isAl at h
  split at h
  · exact ⟨_, _, _, rfl⟩
  · cases h

section
variable {P : Program} {CC : CTy} {ro : Option Nat} {c : Cs} {ops : Array Oper} {its gs : List It} {N : Nat} {F0 : Nat → Option Obj} {ef : Env} {hf : Hp} {Q : Exit → Act → World → Prop} {lst : Array Bool} {rem : List (Nat × It)} {pend : List (Nat × Nat)} {g : G} {h : Hp} {e : Env} {a : Act} {w : World}

theorem keysLt (R : Rel g h w) : KeysLt h := fun n ob hn => by rw [R.nx]; exact (R.ob n ob hn).1

/-- A block that was made ahead becomes the object of its place. -/
theorem St.mat (S : St CC c ops its gs N F0 ef hf Q lst rem pend g h e a w) {x b : Nat} {it : It} {pr po : List (Nat × It)} (hp : (x, b) ∈ pend) (hr : rem = pr ++ (x, it) :: po) (hi : ∀ y, y ∈ pr → indep y.2 it = true) :
    ∃ g' h' e', St CC c ops its gs N F0 ef hf Q lst (pr ++ po) (pend.filter (fun p => p.1 ≠ x)) g' h' e' a w := by
  subst hr
  obtain ⟨t, es, z, zv, ty, h1, h2, h3, h4, h5, h6, h7⟩ := S.pb _ hp
  have hmem : (x, it) ∈ pr ++ (x, it) :: po := List.mem_append_right _ (List.mem_cons_self ..)
  have hit : it = .o (some t) (.alloc es z) none := by have := S.at_ _ hmem; simp only at this h1; rw [h1] at this; exact (Option.some.inj this).symm
  subst hit
  have hsub : (pr ++ po).Sublist (pr ++ (x, It.o (some t) (.alloc es z) none) :: po) := List.Sublist.append_left (List.sublist_cons_self ..) _
  have hfs : (pend.filter (fun p => p.1 ≠ x)).Sublist pend := List.filter_sublist
  have huniq : ∀ b', (x, b') ∈ pend → b' = b := by
    intro b' hb'
    have := nodup_inj S.nd1 _ _ hb' hp rfl
    cases this; rfl
  have hnb : ∀ p, p ∈ pend → p.1 ≠ x → p.2 ≠ b := by
    intro p hp' hne he
    have := nodup_inj S.nd2 _ _ hp' hp he
    exact hne (by rw [this])
  obtain ⟨g', m1, m2, m3, m4⟩ := S.rel.mat (F1 := fun d => if d = b then none else g.F d) h5 h2 h3 h4 (fun d o hd => by
    have hd' : (if d = b then none else g.F d) = some o := hd
    split at hd'
    · cases hd'
    · exact ⟨hd', by assumption⟩)
  obtain ⟨e1, H, hq⟩ := S.run
  simp only [List.map_append, List.map_cons, List.append_assoc, List.cons_append] at H
  obtain ⟨vi, h3', e1', b1, b2, b3⟩ := bubble (fun y hy => by obtain ⟨y', hy', rfl⟩ := List.mem_map.1 hy; exact hi y' hy') (fun _ => keysLt S.rel) (fun hk => by cases hk) H
  simp only [itV, want, opX, Option.bind_some, if_true, Option.some.injEq, Prod.mk.injEq] at b1
  obtain ⟨rfl, rfl⟩ := b1
  have hle : ∀ F, Le (g.un F) (g'.un F) := fun F => ⟨m1.φ, m1.N, m1.B, m1.μ, rfl, m1.C⟩
  refine ⟨g', _, e.putO (some t) (.ptr h.next 1 0 0), S.sz, fun j hj => ?_, S.ord.sublist hsub, fun p hp' => S.at_ p (hsub.subset hp'), S.shut, fun p hp' => ?_, S.nd1.sublist (hfs.map _), S.nd2.sublist (hfs.map _), fun p hp' => ?_, fun d hd => ?_, ⟨e1', by simpa using b2, b3.trans hq⟩, ?_, m2, S.tn, ?_, m1.C.trans S.cc⟩
  · rw [S.iff j hj]
    have hord := S.ord
    rw [List.pairwise_append, List.pairwise_cons] at hord
    constructor
    · rintro ⟨⟨it', hm⟩, hn⟩
      refine ⟨⟨it', ?_⟩, fun hm' => hn ((hfs.map _).subset hm')⟩
      rcases List.mem_append.1 hm with hm | hm
      · exact List.mem_append_left _ hm
      · rcases List.mem_cons.1 hm with hm | hm
        · cases hm; exact absurd (List.mem_map.2 ⟨_, hp, rfl⟩) hn
        · exact List.mem_append_right _ hm
    · rintro ⟨⟨it', hm⟩, hn⟩
      refine ⟨⟨it', hsub.subset hm⟩, fun hm' => hn ?_⟩
      obtain ⟨p, hp', rfl⟩ := List.mem_map.1 hm'
      refine List.mem_map.2 ⟨p, List.mem_filter.2 ⟨hp', ?_⟩, rfl⟩
      simp only [ne_eq, decide_not, Bool.not_eq_true', decide_eq_false_iff_not]
      intro hpx
      rcases List.mem_append.1 hm with hm | hm
      · have := hord.2.2 _ hm (x, _) (List.mem_cons_self ..); simp only at this; omega
      · have := hord.2.1.1 _ hm; simp only at this; omega
  · obtain ⟨hp1, hp2⟩ := List.mem_filter.1 hp'
    obtain ⟨it', hm⟩ := S.pin p hp1
    refine ⟨it', ?_⟩
    rcases List.mem_append.1 hm with hm | hm
    · exact List.mem_append_left _ hm
    · rcases List.mem_cons.1 hm with hm | hm
      · simp only [Prod.mk.injEq] at hm; simp [hm.1] at hp2
      · exact List.mem_append_right _ hm
  · obtain ⟨hp1, hp2⟩ := List.mem_filter.1 hp'
    obtain ⟨t', es', z', zv', ty', k1, k2, k3, k4, k5, k6, k7⟩ := S.pb p hp1
    refine ⟨t', es', z', zv', ty', k1, k2, k3, k4, ?_, k6, k7⟩
    rw [m4]
    simp only
    rw [if_neg (hnb p hp1 (by simpa using hp2))]
    exact k5
  · rw [m4]
    simp only
    split
    · rename_i hdb; subst hdb; exact h6.symm
    · rename_i hdb
      refine S.F d (fun hm => hd ?_)
      obtain ⟨p, hp', rfl⟩ := List.mem_map.1 hm
      refine List.mem_map.2 ⟨p, List.mem_filter.2 ⟨hp', ?_⟩, rfl⟩
      simp only [ne_eq, decide_not, Bool.not_eq_true', decide_eq_false_iff_not]
      intro hpx
      obtain ⟨p1, p2⟩ := p
      simp only at hpx hdb
      subst hpx
      exact hdb (huniq _ hp')
  · have he1 : EnvRep g' e a := fun q => (((S.env q).un (F := fun d => if d = b then none else g.F d)).mono m1)
    refine env_put_same t he1 ?_
    rw [h7]; exact m3
  · intro e2 a' w' g2 k0 k1
    exact S.K e2 a' w' g2 k0 ((hle F0).trans k1)

/-- All that is left was made ahead. -/
theorem St.fin (hG : ∀ x, x ∈ gs → isO x = false) : ∀ (rem : List (Nat × It)) {pend : List (Nat × Nat)} {g : G} {h : Hp} {e : Env}, St CC c ops its gs N F0 ef hf Q lst rem pend g h e a w → (∀ p, p ∈ rem → p.1 ∈ pend.map (·.1)) → Q .normal a w
  | [], pend, g, h, e, S, _ => by
    obtain ⟨e1, H, hq⟩ := S.run
    obtain ⟨g', l1, l2, l3⟩ := ghosts_ok hG H S.env S.rel
    have hp : pend = [] := by
      cases pend with
      | nil => rfl
      | cons p r => obtain ⟨it, hm⟩ := S.pin p (List.mem_cons_self ..); cases hm
    subst hp
    have hgF : g.un F0 = g := by
      have : g.F = F0 := funext fun b => S.F b (by simp)
      cases g; simp only [G.un] at this ⊢; simp_all
    exact S.K e1 a w g' hq (by rw [hgF]; exact l1) l2 l3 S.tn rfl (Fx.refl w)
  | (x, it) :: r, pend, g, h, e, S, ha => by
    obtain ⟨⟨x', b⟩, hp, hx⟩ := List.mem_map.1 (ha _ (List.mem_cons_self ..))
    simp only at hx
    subst hx
    obtain ⟨g', h', e', S'⟩ := S.mat (pr := []) (po := r) hp rfl (fun y hy => by cases hy)
    refine St.fin hG r S' (fun p hp' => ?_)
    obtain ⟨q, hq, hqp⟩ := List.mem_map.1 (ha p (List.mem_cons_of_mem _ hp'))
    refine List.mem_map.2 ⟨q, List.mem_filter.2 ⟨hq, ?_⟩, hqp⟩
    have hord := S.ord
    rw [List.pairwise_cons] at hord
    have := hord.1 p hp'
    simp only at this
    have hne : q.1 ≠ x' := by omega
    simp [hne]

/-- What an operation stands on is no more a block made ahead. -/
theorem St.clean {m : Nat} (hl : ∀ x, m.testBit x = true → lst.getD x false = true) :
    ∀ (n : Nat) {rem : List (Nat × It)} {pend : List (Nat × Nat)} {g : G} {h : Hp} {e : Env}, pend.length ≤ n → St CC c ops its gs N F0 ef hf Q lst rem pend g h e a w →
    (∀ x b, (x, b) ∈ pend → m.testBit x = true → ∀ it, its[x]? = some it → ∀ y ity, y < x → its[y]? = some ity → m.testBit y = true ∨ indep ity it = true) →
    ∃ rem' pend' g' h' e', St CC c ops its gs N F0 ef hf Q lst rem' pend' g' h' e' a w ∧ (∀ p, p ∈ pend' → m.testBit p.1 = false) ∧ rem'.length + pend.length = rem.length + pend'.length := by
  intro n
  induction n with
  | zero =>
    intro rem pend g h e hn S _
    have : pend = [] := List.eq_nil_of_length_eq_zero (by omega)
    subst this
    exact ⟨rem, [], g, h, e, S, (fun p hp => by cases hp), rfl⟩
  | succ n ih =>
    intro rem pend g h e hn S hS
    by_cases hex : ∃ x, ∃ b, (x, b) ∈ pend ∧ m.testBit x = true
    · -- the first one
      obtain ⟨x, ⟨b, hp, hx⟩, hmin⟩ : ∃ x, (∃ b, (x, b) ∈ pend ∧ m.testBit x = true) ∧ ∀ y, y < x → ¬ ∃ b, (y, b) ∈ pend ∧ m.testBit y = true := by
        classical
        obtain ⟨x, hx⟩ := hex
        induction x using Nat.strongRecOn with
        | _ x ihx =>
          by_cases hlt : ∃ y, y < x ∧ ∃ b, (y, b) ∈ pend ∧ m.testBit y = true
          · obtain ⟨y, hy, hyb⟩ := hlt; exact ihx y hy hyb
          · exact ⟨x, hx, fun y hy hyb => hlt ⟨y, hy, hyb⟩⟩
      obtain ⟨it, hmem⟩ := S.pin _ hp
      have hat := S.at_ _ hmem
      obtain ⟨pr, po, hr⟩ := List.append_of_mem hmem
      have hord := S.ord
      rw [hr, List.pairwise_append, List.pairwise_cons] at hord
      have hind : ∀ y, y ∈ pr → indep y.2 it = true := by
        intro y hy
        have hyr : y ∈ rem := by rw [hr]; exact List.mem_append_left _ hy
        have hyx : y.1 < x := hord.2.2 _ hy (x, it) (List.mem_cons_self ..)
        rcases hS x b hp hx it hat y.1 y.2 hyx (S.at_ _ hyr) with h1 | h1
        · exfalso
          have hly := hl _ h1
          have hlt : y.1 < ops.size := by
            rcases Nat.lt_or_ge y.1 ops.size with h | h
            · exact h
            · rw [← S.sz] at h; simp [Array.getElem?_eq_none h] at hly
          have hyp : y.1 ∈ pend.map (·.1) := by
            by_cases hn : y.1 ∈ pend.map (·.1)
            · exact hn
            · have := (S.iff y.1 hlt).2 ⟨⟨y.2, hyr⟩, hn⟩
              rw [getD_lst (by rw [S.sz]; exact hlt)] at this hly
              rw [this] at hly; cases hly
          obtain ⟨⟨q1, q2⟩, hq, hqe⟩ := List.mem_map.1 hyp
          simp only at hqe
          subst hqe
          exact hmin _ hyx ⟨q2, hq, h1⟩
        · exact h1
      obtain ⟨g', h', e', S'⟩ := S.mat hp hr hind
      have hfl : (pend.filter (fun p => p.1 ≠ x)).length + 1 = pend.length := by
        exact filter_len S.nd1 hp
      obtain ⟨rem', pend', g2, h2, e2, S2, c1, c2⟩ := ih (by omega) S' (fun x' b' hp' => hS x' b' ((List.filter_sublist).subset hp'))
      refine ⟨rem', pend', g2, h2, e2, S2, c1, ?_⟩
      have : rem.length = (pr ++ po).length + 1 := by rw [hr]; simp; omega
      omega
    · exact ⟨rem, pend, g, h, e, S, fun p hp => by
        cases hq : m.testBit p.1 with
        | false => rfl
        | true => exact absurd ⟨p.1, p.2, hp, hq⟩ hex, rfl⟩
end

theorem al_run {P : Program} {o : Oper} {es : Nat} {z : V} (hm : mtOp P o (.alloc es z) = true) : ∃ zv ty, (∀ g, Rep g z zv) ∧ stor z = true ∧ z.cells.length = es ∧
    ∀ (a : Act) (w : World), (execOp a.eval o).run P w = .ok (.value (.pointer (some ⟨w.heap.size, 0, none⟩))) (w.alloc (.cells zv.cells ty)) := by
  simp only [mtOp] at hm
  split at hm
  · rename_i t hz
    split at hm
    · rename_i zv hzv
      simp only [Bool.and_eq_true, beq_iff_eq] at hm
      obtain ⟨i, hi, hzz⟩ := zeroT_ok hzv
      refine ⟨zv, t, fun g => rc_ok hm.1.1, hm.1.2, hm.2, fun a w => ?_⟩
      simp only [execOp, hz]
      simp [Instr.alloc, zeroValue, typeInfo, hi, hzz]
      rfl
    · cases hm
  · cases hm

section
variable {P : Program} {CC : CTy} {ro : Option Nat} {c : Cs} {ops : Array Oper} {its gs : List It} {N : Nat} {F0 : Nat → Option Obj} {ef : Env} {hf : Hp} {Q : Exit → Act → World → Prop} {lst : Array Bool} {rem : List (Nat × It)} {pend : List (Nat × Nat)} {g : G} {h : Hp} {e : Env} {a : Act} {w : World}

theorem shut_set (hs : Shut ops (fun k => lst.getD k false = true)) {i : Nat} (hr : ∀ o, ops[i]? = some o → ∀ p, p ∈ pre o → lst.getD p false = true) : Shut ops (fun k => (lst.setIfInBounds i true).getD k false = true) := by
  intro k o ho hk p hp
  by_cases hki : i = k
  · subst hki
    exact getD_set_true (hr o ho p hp)
  · have hk' : (lst.setIfInBounds i true).getD k false = true := hk
    rw [getD_set_ne false hki] at hk'
    exact getD_set_true (hs k o ho hk' p hp)

/-- A variable's block is made ahead. -/
theorem St.al (S : St CC c ops its gs N F0 ef hf Q lst rem pend g h e a w) {i t es : Nat} {z : V} {zv : Value} {ty : TypeId} {pr po : List (Nat × It)} (hlt : i < ops.size) (htN : t < N) (hr : rem = pr ++ (i, .o (some t) (.alloc es z) none) :: po) (hnp : i ∉ pend.map (·.1))
    (hready : ∀ o, ops[i]? = some o → ∀ p, p ∈ pre o → lst.getD p false = true) (hap : ∀ y, y ∈ pr → isO y.2 = true ∧ apartI (dstI y.2) (usI y.2) (some t) [] = true)
    (hne : ∀ p, p ∈ pend → ∀ t' es' z', its[p.1]? = some (.o (some t') (.alloc es' z') none) → t' ≠ t) (h2 : ∀ g, Rep g z zv) (h3 : stor z = true) (h4 : z.cells.length = es) :
    St CC c ops its gs N F0 ef hf Q (lst.setIfInBounds i true) rem ((i, w.heap.size) :: pend) (g.un (fun b => if b = w.heap.size then some (.cells zv.cells ty (0, 0)) else g.F b)) h (e.put t .undef) (a.put (some t) (.pointer (some ⟨w.heap.size, 0, none⟩))) (w.alloc (.cells zv.cells ty)) := by
  obtain ⟨a1, a2, a3⟩ := heap_alloc w (.cells zv.cells ty)
  obtain ⟨o1, o2, o3⟩ := S.rel.old
  have hmem : (i, It.o (some t) (.alloc es z) none) ∈ rem := by rw [hr]; exact List.mem_append_right _ (List.mem_cons_self ..)
  have hlsz : i < lst.size := by rw [S.sz]; exact hlt
  have hnew : ∀ p, p ∈ pend → p.2 ≠ w.heap.size := by
    intro p hp he
    obtain ⟨t', es', z', zv', ty', k1, k2, k3, k4, k5, k6, k7⟩ := S.pb p hp
    rw [he, o2] at k5; cases k5
  have hF0 : F0 w.heap.size = none := by
    rw [← S.F w.heap.size (fun hm => by obtain ⟨p, hp, hpe⟩ := List.mem_map.1 hm; exact hnew p hp hpe)]
    exact o2
  have R' : Rel g h (w.alloc (.cells zv.cells ty)) := S.rel.world a2
  refine ⟨by simp [S.sz], fun j hj => ?_, S.ord, S.at_, shut_set S.shut hready, fun p hp => ?_, ?_, ?_, fun p hp => ?_, fun b hb => ?_, ?_, ?_, ?_, ?_, ?_, S.cc⟩
  · by_cases hji : i = j
    · subst hji
      have : (lst.setIfInBounds i true).getD i true = true := by simp [hlsz]
      rw [this]
      constructor
      · intro h; cases h
      · rintro ⟨_, hn⟩; exact absurd (List.mem_cons_self ..) hn
    · rw [getD_set_ne true hji, S.iff j hj]
      simp only [List.map_cons, List.mem_cons, not_or]
      exact ⟨fun ⟨p, q⟩ => ⟨p, fun h => hji h.symm, q⟩, fun ⟨p, _, q⟩ => ⟨p, q⟩⟩
  · rcases List.mem_cons.1 hp with rfl | hp
    · exact ⟨_, hmem⟩
    · exact S.pin p hp
  · rw [List.map_cons, List.nodup_cons]; exact ⟨hnp, S.nd1⟩
  · rw [List.map_cons, List.nodup_cons]
    exact ⟨fun hm => by obtain ⟨p, hp, hpe⟩ := List.mem_map.1 hm; exact hnew p hp hpe, S.nd2⟩
  · rcases List.mem_cons.1 hp with rfl | hp
    · refine ⟨t, es, z, zv, ty, S.at_ _ hmem, h2, h3, h4, ?_, hF0, ?_⟩
      · show (if w.heap.size = w.heap.size then _ else _) = _
        rw [if_pos rfl]
      · simp [Act.put, S.tn, htN]
    · obtain ⟨t', es', z', zv', ty', k1, k2, k3, k4, k5, k6, k7⟩ := S.pb p hp
      refine ⟨t', es', z', zv', ty', k1, k2, k3, k4, ?_, k6, ?_⟩
      · show (if p.2 = w.heap.size then _ else _) = _
        rw [if_neg (hnew p hp)]; exact k5
      · rw [put_other (fun he => hne p hp t' es' z' k1 (Option.some.inj he).symm)]; exact k7
  · simp only [List.map_cons, List.mem_cons, not_or] at hb
    show (if b = w.heap.size then _ else _) = _
    rw [if_neg hb.1]; exact S.F b hb.2
  · obtain ⟨e1, H, hq⟩ := S.run
    subst hr
    simp only [List.map_append, List.map_cons, List.append_assoc, List.cons_append] at H ⊢
    obtain ⟨e1', k1, k2⟩ := put_its (u := .undef) (fun y hy => by obtain ⟨y', hy', rfl⟩ := List.mem_map.1 hy; exact hap y' hy') H
    exact ⟨e1', k1, k2.symm.trans hq⟩
  · refine EnvRep.un (fun q => ?_)
    show Rep g (if q = t then .undef else e.get q) _
    split
    · exact .undef _
    · rename_i hqt
      rw [put_other (fun he => hqt (Option.some.inj he).symm)]
      exact S.env q
  · refine R'.un (fun b o hb => ?_) (fun n o hn => ?_)
    · have hb' : (if b = w.heap.size then some (Obj.cells zv.cells ty (0, 0)) else g.F b) = some o := hb
      split at hb'
      · rename_i he; subst he; cases hb'; exact ⟨a1, o1⟩
      · exact R'.kp b o hb'
    · show (if blk g n o = w.heap.size then _ else g.F (blk g n o)) = none
      rw [if_neg (o3 n o hn)]; exact R'.kpo n o hn
  · rw [(put_size a _ _).1]; exact S.tn
  · intro e2 a' w' g2 k0 k1 k2 k3 k4 k5 k6
    exact S.K e2 a' w' g2 k0 k1 k2 k3 k4 (k5.trans (put_size a _ _).2) (a3.trans k6)

theorem draw_main (HC : CallOk P CC c) (hO : ∀ x, x ∈ its → isO x = true) (hG : ∀ x, x ∈ gs → isO x = false) (hmt : mtIts P ops N 0 its = true) (hb : backs 0 ops.toList = true) (hc : chk its (mks ops.toList []) [] = true) :
    ∀ (fuel : Nat) (lst : Array Bool) (rem : List (Nat × It)) (pend : List (Nat × Nat)) {g : G} {h : Hp} {e : Env} {a : Act} {w : World}, St CC c ops its gs N F0 ef hf Q lst rem pend g h e a w → rem.length ≤ fuel + pend.length →
    wpAnyIn (FR ro) 0 P .any ops Q fuel lst a w := by
  have noReady : ∀ (lst : Array Bool) (rem : List (Nat × It)) (pend : List (Nat × Nat)) (g : G) (h : Hp) (e : Env) (a : Act) (w : World), St CC c ops its gs N F0 ef hf Q lst rem pend g h e a w → Region.ready .any ops lst = [] → Q .normal a w := by
    intro lst rem pend g h e a w S hr
    refine St.fin hG rem S (fun p hp => ?_)
    -- the first that was not made
    have key : ∀ n, ∀ p, p ∈ rem → p.1 = n → p.1 ∈ pend.map (·.1) := by
      intro n
      induction n using Nat.strongRecOn with
      | _ n ihn =>
        intro p hp hpn
        by_cases hin : p.1 ∈ pend.map (·.1)
        · exact hin
        · exfalso
          obtain ⟨dst, op, gd, o, _, ho, _⟩ := mtIts_at hO hmt (S.at_ _ hp)
          rw [Nat.zero_add] at ho
          have hlt : p.1 < ops.size := (Array.getElem?_eq_some_iff.1 ho).1
          have hi : p.1 ∈ Region.ready .any ops lst := by
            refine mem_ready.2 ⟨(S.iff p.1 hlt).2 ⟨⟨p.2, hp⟩, hin⟩, o, ho, fun ed hed hbd => ?_⟩
            have hpr : ed.on ∈ pre o := List.mem_map.2 ⟨ed, List.mem_filter.2 ⟨Array.mem_toList_iff.2 hed, hbd⟩, rfl⟩
            have hltp := backs_ok hb (by rw [Array.getElem?_toList]; exact ho) _ hpr
            rw [Nat.zero_add] at hltp
            have hps : ed.on < lst.size := by rw [S.sz]; omega
            rw [getD_lst hps]
            cases hv : lst[ed.on] with
            | true => rfl
            | false =>
              exfalso
              obtain ⟨⟨it', hm⟩, hn⟩ := (S.iff ed.on (by omega)).1 (by rw [getD_lst hps]; exact hv)
              exact hn (ihn ed.on (by omega) (ed.on, it') hm rfl)
          rw [hr] at hi
          cases hi
    exact key p.1 p hp rfl
  intro fuel
  induction fuel with
  | zero =>
    intro lst rem pend g h e a w S hl
    have hnr : Region.ready .any ops lst = [] := by
      cases hr : Region.ready .any ops lst with
      | nil => rfl
      | cons i l =>
        exfalso
        have hi : i ∈ Region.ready .any ops lst := by rw [hr]; exact List.mem_cons_self ..
        obtain ⟨h0, o, ho, _⟩ := mem_ready.1 hi
        obtain ⟨⟨it, hm⟩, hn⟩ := (S.iff i (Array.getElem?_eq_some_iff.1 ho).1).1 h0
        -- all of the blocks made ahead, and i, are left
        have hsub : ∀ (l : List Nat) (l2 : List Nat), l.Nodup → (∀ x, x ∈ l → x ∈ l2) → l.length ≤ l2.length := by
          intro l
          induction l with
          | nil => intro _ _ _; exact Nat.zero_le _
          | cons x l ihl =>
            intro l2 hnd hs
            rw [List.nodup_cons] at hnd
            have hx := hs x (List.mem_cons_self ..)
            have := ihl (l2.erase x) hnd.2 (fun y hy => (List.mem_erase_of_ne (fun (he : y = x) => hnd.1 (by rw [← he]; exact hy))).2 (hs y (List.mem_cons_of_mem _ hy)))
            rw [List.length_erase_of_mem hx] at this
            have hpos : 0 < l2.length := List.length_pos_of_mem hx
            simp only [List.length_cons]
            omega
        have := hsub (i :: pend.map (·.1)) (rem.map (·.1)) (List.nodup_cons.2 ⟨hn, S.nd1⟩) (fun x hx => by
          rcases List.mem_cons.1 hx with rfl | hx
          · exact List.mem_map.2 ⟨_, hm, rfl⟩
          · obtain ⟨p, hp, rfl⟩ := List.mem_map.1 hx
            obtain ⟨it', hm'⟩ := S.pin p hp
            exact List.mem_map.2 ⟨_, hm', rfl⟩)
        simp at this
        omega
    exact ⟨hnr, noReady lst rem pend g h e a w S hnr⟩
  | succ fuel ih =>
    intro lst rem pend g h e a w S hl
    refine ⟨fun hr => noReady lst rem pend g h e a w S hr, fun i hi => ?_⟩
    obtain ⟨h0, o, ho, hall⟩ := mem_ready.1 hi
    have hlt : i < ops.size := (Array.getElem?_eq_some_iff.1 ho).1
    have hready : ∀ o', ops[i]? = some o' → ∀ p, p ∈ pre o' → lst.getD p false = true := by
      intro o' ho' p hp
      rw [ho] at ho'; cases ho'
      obtain ⟨ed, hed, rfl⟩ := List.mem_map.1 hp
      obtain ⟨hed, hbd⟩ := List.mem_filter.1 hed
      exact hall ed (Array.mem_toList_iff.1 hed) hbd
    obtain ⟨⟨it, hm0⟩, _⟩ := (S.iff i hlt).1 h0
    have hat := S.at_ _ hm0
    simp only at hat
    obtain ⟨m, hm1, hm2, hm3⟩ := chk_ok hc hat
    simp only [List.nil_append, List.length_nil, Nat.zero_add] at hm2 hm3
    have good : ∀ j mj, (mks ops.toList [])[j]? = some mj → GoodM ops j mj := mks_ok (ops := ops) (r := ops.toList) (acc := []) (by simp) (by simp)
    have hlisted : ∀ x, m.testBit x = true → lst.getD x false = true := good i m hm1 (fun k => lst.getD k false = true) S.shut hready
    have hbelow : ∀ x, m.testBit x = true → x < i := by
      refine good i m hm1 (fun k => k < i) (fun k o' ho' hk p hp => ?_) (fun o' ho' p hp => ?_)
      · have := backs_ok hb (by rw [Array.getElem?_toList]; exact ho') p hp; omega
      · have := backs_ok hb (by rw [Array.getElem?_toList]; exact ho') p hp; omega
    obtain ⟨rem', pend', g', h', e', S', hcl, hlen⟩ := S.clean hlisted pend.length (Nat.le_refl _) (fun x b hp hx itx hitx y ity hy hity => by
      obtain ⟨t, es, z, zv, ty, k1, _⟩ := S.pb _ hp
      simp only at k1
      rw [hitx] at k1
      cases k1
      exact hm3 x _ hitx (hbelow x hx) rfl hx y ity hy hity)
    clear S hm0
    obtain ⟨⟨it', hm⟩, hnp⟩ := (S'.iff i hlt).1 h0
    have hat' := S'.at_ _ hm
    simp only at hat'
    rw [hat] at hat'
    cases hat'
    obtain ⟨pr, po, hrm⟩ := List.append_of_mem hm
    have hord := S'.ord
    rw [hrm, List.pairwise_append, List.pairwise_cons] at hord
    have listedPend : ∀ x itx, (x, itx) ∈ rem' → lst.getD x false = true → x ∈ pend'.map (·.1) := by
      intro x itx hx hl
      by_cases hn : x ∈ pend'.map (·.1)
      · exact hn
      · exfalso
        have hlt : x < ops.size := by
          rcases Nat.lt_or_ge x ops.size with h | h
          · exact h
          · rw [← S'.sz] at h; simp [Array.getElem?_eq_none h] at hl
        have := (S'.iff x hlt).2 ⟨⟨itx, hx⟩, hn⟩
        rw [getD_lst (by rw [S'.sz]; exact hlt)] at this hl
        rw [this] at hl; cases hl
    have hpr : ∀ y, y ∈ pr → ok2 y.2 it = true := by
      intro y hy
      have hyr : y ∈ rem' := by rw [hrm]; exact List.mem_append_left _ hy
      have hyi : y.1 < i := hord.2.2 _ hy (i, it) (List.mem_cons_self ..)
      rcases hm2 y.1 y.2 (S'.at_ _ hyr) hyi with h1 | h1
      · exfalso
        obtain ⟨q, hq, hqe⟩ := List.mem_map.1 (listedPend y.1 y.2 hyr (hlisted _ h1))
        have := hcl q hq
        rw [hqe, h1] at this; cases this
      · exact h1
    -- the words of the blocks made ahead are not i's
    have hap2 : ∀ p, p ∈ pend' → ∀ t' es' z', its[p.1]? = some (.o (some t') (.alloc es' z') none) → dstI it ≠ some t' := by
      intro p hp t' es' z' hpt
      rcases Nat.lt_trichotomy p.1 i with hlt' | heq | hgt
      · rcases hm2 p.1 _ hpt hlt' with h1 | h1
        · have := hcl p hp; rw [h1] at this; cases this
        · have hapI : apartI (some t') (usI (It.o (some t') (.alloc es' z') none)) (dstI it) (usI it) = true := by
            unfold ok2 at h1
            split at h1
            · simp only [Bool.and_eq_true] at h1; exact h1.2
            · cases it with
              | o di oi gi => simp only [indep, Bool.and_eq_true] at h1; exact h1.2
              | frz _ => have := hO _ (List.mem_of_getElem? hat); cases this
              | kill _ => have := hO _ (List.mem_of_getElem? hat); cases this
          exact ((apart_ok hapI).1 t' rfl).2
      · exact absurd (List.mem_map.2 ⟨p, hp, heq⟩) hnp
      · obtain ⟨mp, q1, q2, _⟩ := chk_ok hc hpt
        simp only [List.nil_append, List.length_nil, Nat.zero_add] at q2
        rcases q2 i it hat hgt with h1 | h1
        · exfalso
          have hpl : lst.getD p.1 false = true := by
            obtain ⟨_, _, _, o', _, ho', _⟩ := mtIts_at hO hmt hpt
            rw [Nat.zero_add] at ho'
            have hplt := (Array.getElem?_eq_some_iff.1 ho').1
            cases hv : lst.getD p.1 true with
            | false => exact absurd (List.mem_map.2 ⟨p, hp, rfl⟩) ((S'.iff p.1 hplt).1 hv).2
            | true =>
              rw [getD_lst (by rw [S'.sz]; exact hplt)] at hv ⊢; exact hv
          have := good p.1 mp q1 (fun k => lst.getD k false = true) S'.shut (fun o' ho' q hq => S'.shut p.1 o' ho' hpl q hq) i h1
          rw [getD_lst (by rw [S'.sz]; exact hlt)] at h0 this
          rw [h0] at this; cases this
        · unfold ok2 at h1
          rw [if_pos (show isAl (.o (some t') (.alloc es' z') none) = true from rfl)] at h1
          simp only [Bool.and_eq_true] at h1
          intro hd
          exact ((apart_ok h1.2).1 t' hd).2 rfl
    obtain ⟨dst, op, gd, o', rfl, ho', hd, hdn, hg, hmop⟩ := mtIts_at hO hmt hat
    rw [Nat.zero_add, ho] at ho'
    cases ho'
    by_cases hal : isAl (.o dst op gd) = true
    · obtain ⟨t, es, z, heq⟩ := isAl_eq hal
      cases heq
      obtain ⟨zv, ty, z1, z2, z3, z4⟩ := al_run hmop
      have hw : Region.wanted o (yielded ops a.tmps) = true := want_ok hg S'.env rfl
      have htN : t < N := by simpa [dstOk] using hdn
      simp only [wpOpIn, ho, hw, if_true]
      refine ⟨fun _ _ => trivial, ?_⟩
      rw [Oper.semAt_eq _ _ _ (mtOp_nd hmop), z4 a w]
      simp only [Oper.uponIn, hd]
      refine ih _ rem' _ (S'.al hlt htN hrm hnp hready (fun y hy => ?_) (fun p hp t' es' z' hpt he => hap2 p hp t' es' z' hpt (by rw [he]; rfl)) z1 z2 z3) (by simp only [List.length_cons]; omega)
      have := hpr y hy
      unfold ok2 at this
      rw [if_pos (show isAl (.o (some t) (.alloc es z) none) = true from rfl)] at this
      simp only [Bool.and_eq_true] at this
      exact this
    · have hind : ∀ x, x ∈ pr.map (·.2) → indep x (.o dst op gd) = true := by
        intro x hx
        obtain ⟨y, hy, rfl⟩ := List.mem_map.1 hx
        have := hpr y hy
        unfold ok2 at this
        rw [if_neg hal] at this
        exact this
      have hNL : op.kd = 1 → ∀ x, op.addr = some x → NL h'.next (e'.ev x) := by
        intro _ x hx
        have hrp : ∃ v, Rep g' (e'.ev x) v := by
          cases op <;> simp only [AOp.addr, Option.some.injEq, reduceCtorEq] at hx <;> subst hx <;> simp only [mtOp] at hmop <;> split at hmop <;> (try cases hmop) <;> simp only [Bool.and_eq_true] at hmop <;>
            first
              | exact ⟨_, opd_ok hmop.2 S'.env⟩
              | exact ⟨_, opd_ok hmop.1.2 S'.env⟩
        obtain ⟨v, hv⟩ := hrp
        rw [S'.rel.nx]
        generalize e'.ev x = y at hv
        cases hv with
        | ptr n tot i off hN hB => exact hN
        | map n hN => exact hN
        | _ => trivial
      obtain ⟨e1, H, hq⟩ := S'.run
      rw [hrm] at H
      simp only [List.map_append, List.map_cons, List.append_assoc, List.cons_append] at H
      obtain ⟨vi, h3, e1', b1, b2, b3⟩ := bubble hind (fun _ => keysLt S'.rel) hNL H
      have hstep : itX (callee c) e' h' (.o dst op gd) = some (e'.putO dst vi, h3) := by rw [itX_eq, b1]; rfl
      refine step_ok HC ho hd (fun d hd' => by subst hd'; simpa [dstOk] using hdn) hg hmop S'.env S'.rel S'.cc S'.tn hstep (fun a' w' g2 l1 l2 l3 l4 l5 l6 l7 => ?_)
      have hsub : (pr ++ po).Sublist (pr ++ (i, It.o dst op gd) :: po) := List.Sublist.append_left (List.sublist_cons_self ..) _
      have hilt : i < lst.size := by rw [S'.sz]; exact hlt
      refine ih _ (pr ++ po) pend' (g := g2) (h := h3) (e := e'.putO dst vi) ⟨by simp [S'.sz], fun j hj => ?_, ?_, fun p hp => ?_, shut_set S'.shut hready, fun p hp => ?_, S'.nd1, S'.nd2, fun p hp => ?_, fun b hb' => ?_, ⟨e1', by simpa using b2, b3.trans hq⟩, l3, l2, l4, ?_, l1.C.trans S'.cc⟩ ?_
      · by_cases hji : i = j
        · subst hji
          have : (lst.setIfInBounds i true).getD i true = true := by simp [hilt]
          rw [this]
          constructor
          · intro h; cases h
          · rintro ⟨⟨it', hm'⟩, _⟩
            rcases List.mem_append.1 hm' with hm' | hm'
            · have := hord.2.2 _ hm' (i, _) (List.mem_cons_self ..); exact absurd this (Nat.lt_irrefl _)
            · have := hord.2.1.1 _ hm'; exact absurd this (Nat.lt_irrefl _)
        · rw [getD_set_ne true hji, S'.iff j hj, hrm]
          constructor
          · rintro ⟨⟨it', hm'⟩, hn⟩
            refine ⟨⟨it', ?_⟩, hn⟩
            rcases List.mem_append.1 hm' with hm' | hm'
            · exact List.mem_append_left _ hm'
            · rcases List.mem_cons.1 hm' with hm' | hm'
              · cases hm'; exact absurd rfl hji
              · exact List.mem_append_right _ hm'
          · rintro ⟨⟨it', hm'⟩, hn⟩
            exact ⟨⟨it', hsub.subset hm'⟩, hn⟩
      · have := S'.ord; rw [hrm] at this; exact this.sublist hsub
      · exact S'.at_ p (by rw [hrm]; exact hsub.subset hp)
      · obtain ⟨it', hm'⟩ := S'.pin p hp
        refine ⟨it', ?_⟩
        rw [hrm] at hm'
        rcases List.mem_append.1 hm' with hm' | hm'
        · exact List.mem_append_left _ hm'
        · rcases List.mem_cons.1 hm' with hm' | hm'
          · simp only [Prod.mk.injEq] at hm'
            exact absurd (List.mem_map.2 ⟨p, hp, hm'.1⟩) hnp
          · exact List.mem_append_right _ hm'
      · obtain ⟨t', es', z', zv', ty', k1, k2, k3, k4, k5, k6, k7⟩ := S'.pb p hp
        refine ⟨t', es', z', zv', ty', k1, k2, k3, k4, by rw [l1.F]; exact k5, k6, ?_⟩
        rw [l7 t' (hap2 p hp t' es' z' k1)]; exact k7
      · rw [l1.F]; exact S'.F b hb'
      · have hle : Le (g'.un F0) (g2.un F0) := ⟨l1.φ, l1.N, l1.B, l1.μ, rfl, l1.C⟩
        exact fun e2 a2 w2 g3 k0 k1 k2 k3 k4 k5 k6 => S'.K e2 a2 w2 g3 k0 (hle.trans k1) k2 k3 k4 (k5.trans l5) (l6.trans k6)
      · have : rem'.length = (pr ++ po).length + 1 := by rw [hrm]; simp; omega
        omega
end

theorem takeWhile_isO : ∀ (l : List It) x, x ∈ l.takeWhile isO → isO x = true
  | [], _, h => by simp at h
  | y :: l, x, h => by
    rw [List.takeWhile_cons] at h
    split at h
    · rcases List.mem_cons.1 h with rfl | h
      · assumption
      · exact takeWhile_isO l x h
    · cases h

def enum : Nat → List It → List (Nat × It)
  | _, [] => []
  | i, x :: r => (i, x) :: enum (i + 1) r
theorem enum_snd : ∀ (i : Nat) (l : List It), (enum i l).map (·.2) = l
  | _, [] => rfl
  | i, x :: r => by simp [enum, enum_snd (i + 1) r]
theorem enum_mem : ∀ {i : Nat} {l : List It} {p : Nat × It}, p ∈ enum i l ↔ i ≤ p.1 ∧ l[p.1 - i]? = some p.2
  | i, [], p => by simp [enum]
  | i, x :: r, p => by
    simp only [enum, List.mem_cons, enum_mem (i := i + 1) (l := r)]
    constructor
    · rintro (rfl | ⟨h1, h2⟩)
      · simp
      · refine ⟨by omega, ?_⟩
        rw [show p.1 - i = (p.1 - (i + 1)) + 1 by omega]
        simpa using h2
    · rintro ⟨h1, h2⟩
      by_cases h : p.1 = i
      · left
        rw [h, Nat.sub_self] at h2
        simp at h2
        obtain ⟨a, b⟩ := p
        simp_all
      · right
        refine ⟨by omega, ?_⟩
        rw [show p.1 - i = (p.1 - (i + 1)) + 1 by omega] at h2
        simpa using h2
theorem enum_ord : ∀ (i : Nat) (l : List It), (enum i l).Pairwise (fun p q => p.1 < q.1)
  | _, [] => List.Pairwise.nil
  | i, x :: r => List.Pairwise.cons (fun p hp => by have := (enum_mem.1 hp).1; simp only; omega) (enum_ord (i + 1) r)

theorem Fx.drawn (w : World) : Fx w { w with drawn := w.drawn + 1 } := ⟨rfl, rfl, rfl, Nat.le_refl _⟩



theorem draw_ok1 {P : Program} {g : G} {h : Hp} {w : World} {CC : CTy} {c : Cs} {ro : Option Nat} (HC : CallOk P CC c) {id : Nat} {ops : Array Oper} {Q : Exit → Act → World → Prop} {N : Nat} {its : List It} {e e' : Env} {a : Act} {h' : Hp}
    (hm : mtDraw1 P ops N its = true) (H : itsX (callee c) its e h = some (e', h')) (he : EnvRep g e a) (R : Rel g h w) (hCC : g.C = CC) (hN : a.tmps.size = N)
    (K : ∀ e2 a' w' g', (∀ t, Env.get e2 t = Env.get e' t) → Le g g' → Rel g' h' w' → EnvRep g' e2 a' → a'.tmps.size = N → a'.defers = a.defers → Fx w w' → Q .normal a' w') : (Code.region id ops true).wpIn (FR ro) 0 P Q a w := by
  simp only [mtDraw1, Bool.and_eq_true] at hm
  obtain ⟨⟨⟨⟨h1, h2⟩, h3⟩, h4⟩, h5⟩ := hm
  refine wpIn_region_any h1 ?_
  have hO := takeWhile_isO its
  have hlen := mtIts_len hO h2
  have R' : Rel g h { w with drawn := w.drawn + 1 } := R.world (fun _ _ => rfl)
  have hgF : g.un g.F = g := rfl
  refine draw_main HC (its := its.takeWhile isO) (gs := its.dropWhile isO) (F0 := g.F) (ef := e') (hf := h') hO (fun x hx => ?_) h2 h4 h5 ops.size _ (enum 0 (its.takeWhile isO)) [] (g := g) (h := h) (e := e) ⟨by simp, fun j hj => ?_, enum_ord _ _, fun p hp => ?_, fun k o ho hk => ?_, fun p hp => (by cases hp), List.nodup_nil, List.nodup_nil, fun p hp => (by cases hp), fun _ _ => rfl, ⟨e', ?_, fun _ => rfl⟩, he, R', hN, ?_, hCC⟩ ?_
  · have := List.all_eq_true.1 h3 x hx; simpa using this
  · have : (Array.replicate ops.size false).getD j true = false := by simp [hj]
    rw [this]
    simp only [true_iff]
    have hjl : j < (its.takeWhile isO).length := by omega
    exact ⟨⟨(its.takeWhile isO)[j], enum_mem.2 ⟨Nat.zero_le _, by simp [hjl]⟩⟩, by simp⟩
  · have := (enum_mem.1 hp).2
    rwa [Nat.sub_zero] at this
  · have hlt : k < ops.size := (Array.getElem?_eq_some_iff.1 ho).1
    simp [hlt] at hk
  · rw [enum_snd, List.takeWhile_append_dropWhile]; exact H
  · exact fun e2 a' w' g' k0 k1 k2 k3 k4 k5 k6 => K e2 a' w' g' k0 k1 k2 k3 k4 k5 ((Fx.drawn w).trans k6)
  · have : (enum 0 (its.takeWhile isO)).length = (its.takeWhile isO).length := by rw [← List.length_map (f := (·.2)), enum_snd]
    simp only [List.length_nil]
    omega

theorem itsX_app {cf : Cf} : ∀ {l r : List It} {e : Env} {h : Hp} {q : Env × Hp}, itsX cf (l ++ r) e h = some q → ∃ e1 h1, itsX cf l e h = some (e1, h1) ∧ itsX cf r e1 h1 = some q
  | [], _, e, h, _, H => ⟨e, h, rfl, H⟩
  | x :: l, r, e, h, q, H => by
    simp only [List.cons_append, itsX, Option.bind_eq_some_iff] at H ⊢
    obtain ⟨s, hs, H⟩ := H
    obtain ⟨e1, h1, k1, k2⟩ := itsX_app H
    exact ⟨e1, h1, ⟨s, hs, k1⟩, k2⟩
theorem takeWhile_not : ∀ (l : List It) x, x ∈ l.takeWhile (fun x => !isO x) → isO x = false
  | [], _, h => by simp at h
  | y :: l, x, h => by
    rw [List.takeWhile_cons] at h
    split at h
    · rename_i hy
      rcases List.mem_cons.1 h with rfl | h
      · simpa using hy
      · exact takeWhile_not l x h
    · cases h

theorem draw_ok {P : Program} {g : G} {h : Hp} {w : World} {CC : CTy} {c : Cs} {ro : Option Nat} (HC : CallOk P CC c) {id : Nat} {ops : Array Oper} {Q : Exit → Act → World → Prop} {N : Nat} {its : List It} {e e' : Env} {a : Act} {h' : Hp}
    (hm : mtDraw P ops N its = true) (H : itsX (callee c) its e h = some (e', h')) (he : EnvRep g e a) (R : Rel g h w) (hCC : g.C = CC) (hN : a.tmps.size = N)
    (K : ∀ e2 a' w' g', (∀ t, Env.get e2 t = Env.get e' t) → Le g g' → Rel g' h' w' → EnvRep g' e2 a' → a'.tmps.size = N → a'.defers = a.defers → Fx w w' → Q .normal a' w') : (Code.region id ops true).wpIn (FR ro) 0 P Q a w := by
  rw [← List.takeWhile_append_dropWhile (p := fun x => !isO x) (l := its)] at H
  obtain ⟨e1, h1, k1, k2⟩ := itsX_app H
  obtain ⟨g1, l1, l2, l3⟩ := ghosts_ok (takeWhile_not its) k1 he R
  exact draw_ok1 HC hm k2 l3 l2 (l1.C.trans hCC) hN (fun e2 a' w' g' m0 m1 m2 m3 m4 m5 m6 => K e2 a' w' g' m0 (l1.trans m1) m2 m3 m4 m5 m6)

end Zv
