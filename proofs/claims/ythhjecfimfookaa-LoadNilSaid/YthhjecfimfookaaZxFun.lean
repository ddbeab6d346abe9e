/-
  Parts of the proof.
-/
import Derived.Test.YthhjecfimfookaaZxComm
import Derived.Test.YthhjecfimfookaaZxOpG
import Derived.Recover
section
set_option linter.unusedSimpArgs false
set_option linter.unusedVariables false
set_option linter.unusedSimpArgs false
namespace Zv
open Go

/-! ### Values under another state of knowledge -/

mutual
/-- A value that stood under less, stands with fewer names. -/
theorem Rep.back {g0 g1 g2 : G} (hN : g0.N ≤ g2.N) (hB : g2.B = g1.B) (hμ : g2.μ = g1.μ) (hφ : ∀ b o, g1.φ b = some o → g2.φ b = some o) :
    ∀ {x : V} {v u : Value}, Rep g0 x v → Rep g1 x u → Rep g2 x u
  | _, _, _, .d x v _, .d _ u h => .d x u (h.mono hφ)
  | _, _, _, .tl l nl es0 a0 vs0 hes0 hr0 ha0 hn0 hf0, .tl _ _ es a vs hes hr ha hn hf =>
    .tl l nl es a vs hes (Reps.back hN hB hμ hφ hr0 hr) (ha.imp id fun ⟨b, p, e, hat⟩ => ⟨b, p, e, hat.mono hφ⟩) hn hf
  | _, _, _, .own n es tot off len cap0 a0 he0 hN0 hB0 ha0 hl0 ht0 hc0 hs0, .own _ _ _ _ _ cap a he hN1 hB1 ha hl ht hc hs =>
    .own n es tot off len cap a (by rw [hμ]; exact he) (Nat.lt_of_lt_of_le hN0 hN) (by rw [hB]; exact hB1) (by rw [hμ]; exact ha) hl ht hc (by rw [hμ]; exact hs)
  | _, _, _, .ptr n tot i off hN0 hB0, .ptr _ _ _ _ hN1 hB1 => by
    have := Rep.ptr (g := g2) n tot i off (Nat.lt_of_lt_of_le hN0 hN) (by rw [hB]; exact hB1)
    rw [hμ] at this
    exact this
  | _, _, _, .fp x off b0 p0 vs0 hr0 ha0, .fp _ _ b p vs hr ha => .fp x off b p vs (hr.mono hφ) (ha.mono hφ)
  | _, _, _, .clo f caps vs0 hr0, .clo _ _ vs hr => .clo f caps vs (Reps.back hN hB hμ hφ hr0 hr)
  | _, _, _, .agg l vs0 hr0 hf0, .agg _ vs hr hf => .agg l vs (Reps.back hN hB hμ hφ hr0 hr) hf
  | _, _, _, .tup l vs0 hr0, .tup _ vs hr => .tup l vs (Reps.back hN hB hμ hφ hr0 hr)
  | _, _, _, .map n hN0, .map _ hN1 => by
    have := Rep.map (g := g2) n (Nat.lt_of_lt_of_le hN0 hN)
    rw [hμ] at this
    exact this
  | _, _, _, .yld n hN0, .yld _ hN1 => by
    have := Rep.yld (g := g2) n (Nat.lt_of_lt_of_le hN0 hN)
    rw [hμ] at this
    exact this
  | _, _, _, .ub _, .ub b => .ub b
  | _, _, _, .undef v, .undef u => .undef u
  | _, _, _, .ifc t x v _, .ifc _ _ u h => .ifc t x u (h.mono hφ)
  | _, _, _, .nif, .nif => .nif
theorem Reps.back {g0 g1 g2 : G} (hN : g0.N ≤ g2.N) (hB : g2.B = g1.B) (hμ : g2.μ = g1.μ) (hφ : ∀ b o, g1.φ b = some o → g2.φ b = some o) :
    ∀ {x : List V} {v u : List Value}, Reps g0 x v → Reps g1 x u → Reps g2 x u
  | _, _, _, .nil, .nil => .nil
  | _, _, _, .cons x l v vs hx hs, .cons _ _ u us hu hus => .cons x l u us (Rep.back hN hB hμ hφ hx hu) (Reps.back hN hB hμ hφ hs hus)
end

theorem RepKvs.back {g0 g1 g2 : G} (hN : g0.N ≤ g2.N) (hB : g2.B = g1.B) (hμ : g2.μ = g1.μ) (hφ : ∀ b o, g1.φ b = some o → g2.φ b = some o) :
    ∀ {l : List (D × V)} {es fs : List MapEntry}, RepKvs g0 l es → RepKvs g1 l fs → RepKvs g2 l fs
  | _, _, _, .nil, .nil => .nil
  | _, _, _, .cons k x l e es hk hx hs, .cons _ _ _ f fs hk1 hx1 hs1 => .cons k x l f fs (hk1.mono hφ) (Rep.back hN hB hμ hφ hx hx1) (RepKvs.back hN hB hμ hφ hs hs1)


def G.un (g : G) (F : Nat → Option Obj) : G := { g with F := F }

theorem Rep.un {g : G} {F : Nat → Option Obj} {x : V} {v : Value} (h : Rep g x v) : Rep (g.un F) x v := Rep.back (g0 := g) (g1 := g) (g2 := g.un F) (Nat.le_refl _) rfl rfl (fun _ _ h => h) h h
theorem Reps.un {g : G} {F : Nat → Option Obj} {x : List V} {v : List Value} (h : Reps g x v) : Reps (g.un F) x v := Reps.back (g0 := g) (g1 := g) (g2 := g.un F) (Nat.le_refl _) rfl rfl (fun _ _ h => h) h h
theorem RepKvs.un {g : G} {F : Nat → Option Obj} {l : List (D × V)} {es : List MapEntry} (h : RepKvs g l es) : RepKvs (g.un F) l es := RepKvs.back (g0 := g) (g1 := g) (g2 := g.un F) (Nat.le_refl _) rfl rfl (fun _ _ h => h) h h
theorem ObRep.un {g : G} {F : Nat → Option Obj} {w : World} {n : Nat} {o : Ob} (h : ObRep g w n o) : ObRep (g.un F) w n o := by
  cases o with
  | arr es els =>
    obtain ⟨c, ty, vs, h1, h2, h3, h4, h5, h6, h7⟩ := h
    exact ⟨c, ty, vs, h1, h2, h3, h4, h5.un, h6, h7⟩
  | mp kvs =>
    obtain ⟨es, cl, h1, h2⟩ := h
    exact ⟨es, cl, h1, h2.un⟩
  | lp b e s =>
    obtain ⟨r, h1, h2, h3⟩ := h
    exact ⟨r, h1, fun t => (h2 t).un, h3⟩
theorem EnvRep.un {g : G} {F : Nat → Option Obj} {e : Env} {a : Act} (h : EnvRep g e a) : EnvRep (g.un F) e a := fun t => (h t).un

theorem Rel.un {g : G} {h : Hp} {w : World} {F : Nat → Option Obj} (R : Rel g h w) (hF : ∀ b o, F b = some o → w.heap[b]? = some o ∧ g.φ b = none) (hO : ∀ n o, h.get n = some o → F (blk g n o) = none) : Rel (g.un F) h w :=
  ⟨R.nx, R.fr, R.nd, fun n o hn => ⟨(R.ob n o hn).1, (R.ob n o hn).2.1, (R.ob n o hn).2.2.un⟩, R.sep, R.out, hF, hO⟩

theorem Rel.old {g : G} {h : Hp} {w : World} (R : Rel g h w) : g.φ w.heap.size = none ∧ g.F w.heap.size = none ∧ ∀ n o, h.get n = some o → blk g n o ≠ w.heap.size := by
  refine ⟨?_, ?_, fun n o hn => ?_⟩
  · cases hp : g.φ w.heap.size with
    | none => rfl
    | some o => have := (Array.getElem?_eq_some_iff.1 (R.fr _ _ hp)).1; omega
  · cases hp : g.F w.heap.size with
    | none => rfl
    | some o => have := (Array.getElem?_eq_some_iff.1 (R.kp _ _ hp).1).1; omega
  · have := (R.ob n o hn).2.2
    cases o with
    | arr es els => obtain ⟨c, ty, vs, h1, _⟩ := this; exact Nat.ne_of_lt (Array.getElem?_eq_some_iff.1 h1).1
    | mp kvs => obtain ⟨es, cl, h1, _⟩ := this; exact Nat.ne_of_lt (Array.getElem?_eq_some_iff.1 h1).1
    | lp b e s => obtain ⟨r, h1, _⟩ := this; exact Nat.ne_of_lt (Array.getElem?_eq_some_iff.1 h1).1

/-- A block that was kept becomes an object. -/
theorem Rel.mat {g : G} {h : Hp} {w : World} (R : Rel g h w) {b : Nat} {z : V} {zv : Value} {ty : TypeId} {es : Nat} {F1 : Nat → Option Obj} (hb : g.F b = some (.cells zv.cells ty (0, 0))) (hr : ∀ g, Rep g z zv) (hs : stor z = true) (hl : z.cells.length = es)
    (hF : ∀ c o, F1 c = some o → g.F c = some o ∧ c ≠ b) :
    ∃ g', Le (g.un F1) g' ∧ Rel g' (h.alloc (.arr es [z])) w ∧ Rep g' (.ptr h.next 1 0 0) (.pointer (some ⟨b, 0, none⟩)) ∧ g'.F = F1 := by
  have R1 : Rel (g.un F1) h w := R.un (fun c o hc => R.kp c o (hF c o hc).1) (fun n o hn => by
    cases hq : F1 (blk g n o) with
    | none => rfl
    | some q => have := (hF _ _ hq).1; rw [R.kpo n o hn] at this; cases this)
  obtain ⟨xr, xf⟩ := (hr (g.un F1)).cells hs
  have hvs : zv.cells.size = es := by have := xr.length; rw [Array.length_toList] at this; omega
  have hput := R1.put (h' := h.alloc (.arr es [z])) (w' := w) h.next (.arr es [z]) ⟨b, 0, es, zv.cells.size⟩ (.inr R.nx) (by show h.next + 1 = max g.N (h.next + 1); have := R.nx; omega) (nodup_alloc R _) (fun m o hm => by
      rw [get_alloc] at hm
      split at hm
      · cases hm; exact .inl ⟨by assumption, rfl⟩
      · exact .inr ⟨by assumption, hm⟩)
    (.inr (.inr ⟨(R.kp b _ hb).2, (by
        show F1 b = none
        cases hq : F1 b with
        | none => rfl
        | some q => exact absurd rfl (hF _ _ hq).2), fun n o hn hq => (by
          have h1 := R.kpo n o hn
          rw [show blk g n o = b from hq, hb] at h1; cases h1)⟩)) (fun _ _ _ => rfl) (by
      simp only [ObRep, Ob.tot, List.length_singleton]
      rw [show ((g.un F1).put h.next 1 ⟨b, 0, es, zv.cells.size⟩).μ h.next 1 = ⟨b, 0, es, zv.cells.size⟩ from by simp [G.put]]
      exact ⟨zv.cells, ty, zv.cells.toList, (R.kp b _ hb).1, rfl, ⟨rfl, by simp [hvs]⟩, by simpa using hl, by simpa using ((hr ((g.un F1).put h.next 1 ⟨b, 0, es, zv.cells.size⟩)).cells hs).1, xf, fun j u hj => by rw [Nat.zero_add, ← Array.getElem?_toList]; exact hj⟩)
  refine ⟨_, hput.1, hput.2, ?_, rfl⟩
  have := Rep.ptr (g := (g.un F1).put h.next 1 ⟨b, 0, es, zv.cells.size⟩) h.next 1 0 0 (by show h.next < max g.N (h.next + 1); omega) (by simp [G.put])
  rw [show ((g.un F1).put h.next 1 ⟨b, 0, es, zv.cells.size⟩).μ h.next 1 = ⟨b, 0, es, zv.cells.size⟩ from by simp [G.put]] at this
  show Rep ((g.un F1).put h.next 1 ⟨b, 0, es, zv.cells.size⟩) _ _
  simpa using this

/-! ### What may change places -/

def pre (o : Oper) : List Nat := (o.after.toList.filter (Region.binds .any)).map (·.on)

/-- What must stand before each operation, as bits. -/
def mks : List Oper → List Nat → List Nat
  | [], acc => acc
  | o :: r, acc => mks r (acc ++ [(pre o).foldl (fun s j => s ||| (2 ^ j ||| acc.getD j 0)) 0])

def chk1 (m : Nat) (it : It) : Nat → List It → Bool
  | _, [] => true
  | k, x :: r => (m.testBit k || indep x it) && chk1 m it (k + 1) r

/-- A variable's declaration: its block may be made ahead of its place. -/
def isAl : It → Bool
  | .o (some _) (.alloc _ _) none => true
  | _ => false

def isO : It → Bool
  | .o .. => true
  | _ => false

def backs : Nat → List Oper → Bool
  | _, [] => true
  | i, o :: r => (pre o).all (fun j => decide (j < i)) && backs (i + 1) r

def dstI : It → Option Nat
  | .o d _ _ => d
  | _ => none
def usI : It → List Nat
  | .o _ op g => usG g ++ op.us
  | _ => []
def ok2 (x i : It) : Bool := if isAl i = true then isO x && apartI (dstI x) (usI x) (dstI i) (usI i) else indep x i
def chk2 (m : Nat) (it : It) : Nat → List It → Bool
  | _, [] => true
  | k, x :: r => (m.testBit k || ok2 x it) && chk2 m it (k + 1) r
def chkA (m : Nat) : Nat → List It → List It → Bool
  | _, _, [] => true
  | k, bef, x :: r => (!(isAl x && m.testBit k) || chk1 m x 0 bef) && chkA m (k + 1) (bef ++ [x]) r
def chk : List It → List Nat → List It → Bool
  | it :: r, m :: ms, prev => chk2 m it 0 prev && (prev.all (fun x => !isAl x) || chkA m 0 [] prev) && chk r ms (prev ++ [it])
  | [], _, _ => true
  | _ :: _, [], _ => false

def mtDraw1 (P : Program) (ops : Array Oper) (N : Nat) (its : List It) : Bool :=
  P.follows .mixedOrders && mtIts P ops N 0 (its.takeWhile isO) && (its.dropWhile isO).all (fun x => !isO x) && backs 0 ops.toList && chk (its.takeWhile isO) (mks ops.toList []) []
/-- Words without a counterpart may stand ahead, and behind. -/
def mtDraw (P : Program) (ops : Array Oper) (N : Nat) (its : List It) : Bool := mtDraw1 P ops N (its.dropWhile fun x => !isO x)

theorem chk1_ok {m : Nat} {it : It} : ∀ {l : List It} {k x : Nat} {itx : It}, chk1 m it k l = true → l[x]? = some itx → m.testBit (k + x) = true ∨ indep itx it = true
  | [], _, _, _, _, hx => by simp at hx
  | y :: r, k, x, itx, H, hx => by
    simp only [chk1, Bool.and_eq_true, Bool.or_eq_true] at H
    cases x with
    | zero => simp at hx; subst hx; exact H.1
    | succ x =>
      have := chk1_ok H.2 (x := x) (by simpa using hx)
      rwa [show k + 1 + x = k + (x + 1) by omega] at this

theorem chk2_ok {m : Nat} {it : It} : ∀ {l : List It} {k x : Nat} {itx : It}, chk2 m it k l = true → l[x]? = some itx → m.testBit (k + x) = true ∨ ok2 itx it = true
  | [], _, _, _, _, hx => by simp at hx
  | y :: r, k, x, itx, H, hx => by
    simp only [chk2, Bool.and_eq_true, Bool.or_eq_true] at H
    cases x with
    | zero => simp at hx; subst hx; exact H.1
    | succ x =>
      have := chk2_ok H.2 (x := x) (by simpa using hx)
      rwa [show k + 1 + x = k + (x + 1) by omega] at this

theorem chkA_ok {m : Nat} : ∀ {r : List It} {bef : List It} {x y : Nat} {itx ity : It}, chkA m bef.length bef r = true → (bef ++ r)[x]? = some itx → bef.length ≤ x → isAl itx = true → m.testBit x = true → y < x → (bef ++ r)[y]? = some ity → m.testBit y = true ∨ indep ity itx = true
  | [], bef, x, y, itx, ity, H, hx, hle, _, _, _, _ => by
    rw [List.append_nil] at hx
    have := (List.getElem?_eq_some_iff.1 hx).1
    omega
  | z :: r, bef, x, y, itx, ity, H, hx, hle, ha, ht, hy, hity => by
    simp only [chkA, Bool.and_eq_true, Bool.or_eq_true, Bool.not_eq_true', Bool.and_eq_false_iff] at H
    by_cases hq : x = bef.length
    · subst hq
      rw [List.getElem?_append_right (Nat.le_refl _), Nat.sub_self] at hx
      simp at hx
      subst hx
      rcases H.1 with (h | h) | h
      · rw [ha] at h; cases h
      · rw [ht] at h; cases h
      · rw [List.getElem?_append_left hy] at hity
        have := chk1_ok h hity
        rwa [Nat.zero_add] at this
    · have h2 : chkA m (bef ++ [z]).length (bef ++ [z]) r = true := by rw [List.length_append]; exact H.2
      exact chkA_ok (bef := bef ++ [z]) h2 (by rw [List.append_assoc]; exact hx) (by simp; omega) ha ht hy (by rw [List.append_assoc]; exact hity)

theorem chk_ok : ∀ {rest : List It} {ms : List Nat} {prev : List It} {j : Nat} {it : It}, chk rest ms prev = true → rest[j]? = some it →
    ∃ m, ms[j]? = some m ∧ (∀ x itx, (prev ++ rest)[x]? = some itx → x < prev.length + j → m.testBit x = true ∨ ok2 itx it = true) ∧
      (∀ x itx, (prev ++ rest)[x]? = some itx → x < prev.length + j → isAl itx = true → m.testBit x = true → ∀ y ity, y < x → (prev ++ rest)[y]? = some ity → m.testBit y = true ∨ indep ity itx = true)
  | [], _, _, _, _, _, hj => by simp at hj
  | y :: r, [], _, _, _, H, _ => by cases H
  | y :: r, m :: ms, prev, j, it, H, hj => by
    simp only [chk, Bool.and_eq_true] at H
    cases j with
    | zero =>
      simp at hj; subst hj
      refine ⟨m, rfl, fun x itx hx hlt => ?_, fun x itx hx hlt ha ht z itz hz hitz => ?_⟩
      · rw [List.getElem?_append_left (by omega)] at hx
        have := chk2_ok H.1.1 hx
        rwa [Nat.zero_add] at this
      · rw [List.getElem?_append_left (by omega)] at hx
        rw [List.getElem?_append_left (by omega)] at hitz
        have h2 := H.1.2
        rw [Bool.or_eq_true] at h2
        rcases h2 with h2 | h2
        · have := List.all_eq_true.1 h2 itx (List.mem_of_getElem? hx)
          rw [ha] at this; cases this
        · exact chkA_ok (bef := []) h2 (by simpa using hx) (Nat.zero_le _) ha ht hz (by simpa using hitz)
    | succ j =>
      obtain ⟨m', h1, h2, h3⟩ := chk_ok (j := j) H.2 (by simpa using hj)
      refine ⟨m', by simpa using h1, fun x itx hx hlt => ?_, fun x itx hx hlt ha ht z itz hz hitz => ?_⟩
      · exact h2 x itx (by rw [List.append_assoc]; exact hx) (by simp; omega)
      · exact h3 x itx (by rw [List.append_assoc]; exact hx) (by simp; omega) ha ht z itz hz (by rw [List.append_assoc]; exact hitz)

/-- A set of operations in which everything stands on what it needs. -/
def Shut (ops : Array Oper) (L : Nat → Prop) : Prop := ∀ k o, ops[k]? = some o → L k → ∀ p, p ∈ pre o → L p

def GoodM (ops : Array Oper) (j m : Nat) : Prop := ∀ L : Nat → Prop, Shut ops L → (∀ o, ops[j]? = some o → ∀ p, p ∈ pre o → L p) → ∀ x, m.testBit x = true → L x

theorem fold_bits {acc : List Nat} {x : Nat} : ∀ {l : List Nat} {s : Nat}, (l.foldl (fun s j => s ||| (2 ^ j ||| acc.getD j 0)) s).testBit x = true → s.testBit x = true ∨ ∃ j, j ∈ l ∧ (x = j ∨ (acc.getD j 0).testBit x = true)
  | [], s, h => .inl h
  | j :: l, s, h => by
    rcases fold_bits (l := l) h with h | ⟨i, hi, h⟩
    · rw [Nat.testBit_or, Nat.testBit_or, Bool.or_eq_true, Bool.or_eq_true] at h
      rcases h with h | h | h
      · exact .inl h
      · rw [Nat.testBit_two_pow] at h
        exact .inr ⟨j, List.mem_cons_self .., .inl (of_decide_eq_true h).symm⟩
      · exact .inr ⟨j, List.mem_cons_self .., .inr h⟩
    · exact .inr ⟨i, List.mem_cons_of_mem _ hi, h⟩

theorem mks_ok {ops : Array Oper} : ∀ {r : List Oper} {acc : List Nat}, ops.toList.drop acc.length = r → (∀ j m, acc[j]? = some m → GoodM ops j m) → ∀ j m, (mks r acc)[j]? = some m → GoodM ops j m
  | [], acc, _, ha, j, m, hm => ha j m hm
  | o :: r, acc, hr, ha, j, m, hm => by
    have ho : ops[acc.length]? = some o := by
      have : (ops.toList.drop acc.length)[0]? = some o := by rw [hr]; rfl
      rw [List.getElem?_drop, Nat.add_zero] at this
      rw [← Array.getElem?_toList]
      exact this
    refine mks_ok (r := r) (acc := acc ++ [_]) ?_ ?_ j m hm
    · rw [List.length_append, List.length_singleton, ← List.drop_drop, hr]; rfl
    · intro j m hj
      rcases Nat.lt_or_ge j acc.length with h | h
      · rw [List.getElem?_append_left h] at hj; exact ha j m hj
      · rw [List.getElem?_append_right h] at hj
        cases hz : j - acc.length with
        | succ z => rw [hz] at hj; simp at hj
        | zero =>
          rw [hz] at hj
          simp only [List.getElem?_cons_zero, Option.some.injEq] at hj
          have hj' : j = acc.length := by omega
          subst hj'
          subst hj
          intro L hL hp x hx
          rcases fold_bits hx with h | ⟨i, hi, h⟩
          · simp at h
          · have hLi := hp o ho i hi
            rcases h with rfl | h
            · exact hLi
            · rw [List.getD_eq_getElem?_getD] at h
              cases hai : acc[i]? with
              | none => rw [hai] at h; simp at h
              | some mi =>
                rw [hai] at h
                exact ha i mi hai L hL (fun o' ho' p hp' => hL i o' ho' hLi p hp') x h

theorem backs_ok : ∀ {r : List Oper} {i j : Nat} {o : Oper}, backs i r = true → r[j]? = some o → ∀ p, p ∈ pre o → p < i + j
  | [], _, _, _, _, h => by simp at h
  | q :: r, i, j, o, H, h => by
    simp only [backs, Bool.and_eq_true, List.all_eq_true, decide_eq_true_eq] at H
    cases j with
    | zero => simp at h; subst h; exact H.1
    | succ j =>
      intro p hp
      have := backs_ok H.2 (by simpa using h) p hp
      omega

theorem mtIts_at {P : Program} {ops : Array Oper} {N : Nat} : ∀ {its : List It} {i j : Nat} {it : It}, (∀ x, x ∈ its → isO x = true) → mtIts P ops N i its = true → its[j]? = some it →
    ∃ dst op gd o, it = .o dst op gd ∧ ops[i + j]? = some o ∧ o.dst = dst ∧ dstOk N dst = true ∧ mtG ops o.guard gd = true ∧ mtOp P o op = true
  | [], _, _, _, _, _, h => by simp at h
  | .o dst op gd :: r, i, j, it, ha, hm, h => by
    simp only [mtIts, Bool.and_eq_true] at hm
    obtain ⟨h1, h2⟩ := hm
    cases j with
    | zero =>
      simp at h
      subst h
      split at h1
      · rename_i o ho
        simp only [Bool.and_eq_true, decide_eq_true_eq] at h1
        exact ⟨dst, op, gd, o, rfl, ho, h1.1.1.1, h1.1.1.2, h1.1.2, h1.2⟩
      · cases h1
    | succ j =>
      have := mtIts_at (fun x hx => ha x (List.mem_cons_of_mem _ hx)) h2 (j := j) (by simpa using h)
      rwa [show i + 1 + j = i + (j + 1) by omega] at this
  | .frz t :: r, _, _, _, ha, _, _ => by have := ha _ (List.mem_cons_self ..); cases this
  | .fzd t :: r, _, _, _, ha, _, _ => by have := ha _ (List.mem_cons_self ..); cases this
  | .kill t :: r, _, _, _, ha, _, _ => by have := ha _ (List.mem_cons_self ..); cases this
theorem mtIts_len {P : Program} {ops : Array Oper} {N : Nat} : ∀ {its : List It} {i : Nat}, (∀ x, x ∈ its → isO x = true) → mtIts P ops N i its = true → i + its.length = ops.size
  | [], i, _, hm => by simp only [mtIts, beq_iff_eq] at hm; simpa using hm
  | .o dst op gd :: r, i, ha, hm => by
    simp only [mtIts, Bool.and_eq_true] at hm
    have := mtIts_len (fun x hx => ha x (List.mem_cons_of_mem _ hx)) hm.2
    simp; omega
  | .frz t :: r, _, ha, _ => by have := ha _ (List.mem_cons_self ..); cases this
  | .fzd t :: r, _, ha, _ => by have := ha _ (List.mem_cons_self ..); cases this
  | .kill t :: r, _, ha, _ => by have := ha _ (List.mem_cons_self ..); cases this

theorem ghosts_ok {c : Cs} {gs : List It} (hg : ∀ x, x ∈ gs → isO x = false) : ∀ {g : G} {h : Hp} {w : World} {e e' : Env} {a : Act} {h' : Hp},
    itsX (callee c) gs e h = some (e', h') → EnvRep g e a → Rel g h w → ∃ g', Le g g' ∧ Rel g' h' w ∧ EnvRep g' e' a := by
  induction gs with
  | nil => intro g h w e e' a h' H he R; cases H; exact ⟨g, Le.refl g, R, he⟩
  | cons x r ih =>
    intro g h w e e' a h' H he R
    have ih' := @ih (fun y hy => hg y (List.mem_cons_of_mem _ hy))
    cases x with
    | o dst op gd => have := hg _ (List.mem_cons_self ..); cases this
    | frz t =>
      simp only [itsX, itX, Option.bind_eq_some_iff, Option.map_eq_some_iff] at H
      obtain ⟨⟨e1, h1'⟩, ⟨⟨y, h2⟩, hf, heq⟩, hr⟩ := H
      cases heq
      obtain ⟨g', l1, l2, l3⟩ := frz_ok R hf (he t)
      obtain ⟨g2, k1, k2, k3⟩ := ih' hr (env_put_same t (he.mono l1) l3) l2
      exact ⟨g2, l1.trans k1, k2, k3⟩
    | fzd t =>
      simp only [itsX, itX, Option.bind_eq_some_iff, Option.map_eq_some_iff] at H
      obtain ⟨⟨e1, h1'⟩, ⟨⟨y, h2⟩, hf, heq⟩, hr⟩ := H
      cases heq
      obtain ⟨g', l1, l2, l3⟩ := fzd_ok R hf (he t)
      obtain ⟨g2, k1, k2, k3⟩ := ih' hr (env_put_same t (he.mono l1) l3) l2
      exact ⟨g2, l1.trans k1, k2, k3⟩
    | kill t =>
      simp only [itsX, Option.bind_eq_some_iff] at H
      obtain ⟨⟨e1, h1'⟩, hk, hr⟩ := H
      have : e1 = e.put t .undef ∧ (h1' = h ∨ ∃ n, h1' = h.kill n) := by
        simp only [itX] at hk
        split at hk <;> cases hk
        · exact ⟨rfl, .inr ⟨_, rfl⟩⟩
        · exact ⟨rfl, .inr ⟨_, rfl⟩⟩
        · exact ⟨rfl, .inl rfl⟩
      obtain ⟨rfl, hh⟩ := this
      have R' : Rel g h1' w := by
        rcases hh with rfl | ⟨n, rfl⟩
        · exact R
        · exact R.kill n
      exact ih' hr (env_put_same t he (.undef _)) R'

/-! ### A state between two operations -/

def PB (F0 : Nat → Option Obj) (its : List It) (g : G) (a : Act) (p : Nat × Nat) : Prop :=
  ∃ t es z zv ty, its[p.1]? = some (.o (some t) (.alloc es z) none) ∧ (∀ g, Rep g z zv) ∧ stor z = true ∧ z.cells.length = es ∧ g.F p.2 = some (.cells zv.cells ty (0, 0)) ∧ F0 p.2 = none ∧ a.tmps.getD t undef = .pointer (some ⟨p.2, 0, none⟩)

structure St (CC : CTy) (c : Cs) (ops : Array Oper) (its gs : List It) (N : Nat) (F0 : Nat → Option Obj) (ef : Env) (hf : Hp) (Q : Exit → Act → World → Prop)
    (lst : Array Bool) (rem : List (Nat × It)) (pend : List (Nat × Nat)) (g : G) (h : Hp) (e : Env) (a : Act) (w : World) : Prop where
  sz : lst.size = ops.size
  iff : ∀ j, j < ops.size → (lst.getD j true = false ↔ (∃ it, (j, it) ∈ rem) ∧ j ∉ pend.map (·.1))
  ord : rem.Pairwise (fun p q => p.1 < q.1)
  at_ : ∀ p, p ∈ rem → its[p.1]? = some p.2
  shut : Shut ops (fun k => lst.getD k false = true)
  pin : ∀ p, p ∈ pend → ∃ it, (p.1, it) ∈ rem
  nd1 : (pend.map (·.1)).Nodup
  nd2 : (pend.map (·.2)).Nodup
  pb : ∀ p, p ∈ pend → PB F0 its g a p
  F : ∀ b, b ∉ pend.map (·.2) → g.F b = F0 b
  run : ∃ e1, itsX (callee c) (rem.map (·.2) ++ gs) e h = some (e1, hf) ∧ EqE e1 ef
  env : EnvRep g e a
  rel : Rel g h w
  tn : a.tmps.size = N
  K : ∀ e2 a' w' g', EqE e2 ef → Le (g.un F0) g' → Rel g' hf w' → EnvRep g' e2 a' → a'.tmps.size = N → a'.defers = a.defers → Fx w w' → Q .normal a' w'
  cc : g.C = CC


theorem getD_lst {lst : Array Bool} {j : Nat} (h : j < lst.size) (b : Bool) : lst.getD j b = lst[j] := by simp [h]

/-- Items that do not look at a word let it be anything. -/
theorem put_its {cf : Cf} {t : Nat} {u : V} {post : List It} {h2 : Hp} {e1 : Env} : ∀ {pr : List It} {e : Env} {h : Hp} {es : Nat} {z : V}, (∀ x, x ∈ pr → isO x = true ∧ apartI (dstI x) (usI x) (some t) [] = true) →
    itsX cf (pr ++ .o (some t) (.alloc es z) none :: post) e h = some (e1, h2) → ∃ e1', itsX cf (pr ++ .o (some t) (.alloc es z) none :: post) (e.put t u) h = some (e1', h2) ∧ EqE e1 e1'
  | [], e, h, es, z, _, H => by
    simp only [List.nil_append, itsX, itX, want, opX, Option.bind_some, if_true, Option.map_some] at H ⊢
    refine itsX_congr (fun q => ?_) H
    show (if q = t then _ else e.get q) = (if q = t then _ else if q = t then u else e.get q)
    split <;> rfl
  | x :: r, e, h, es, z, hin, H => by
    obtain ⟨hO, hap⟩ := hin x (List.mem_cons_self ..)
    cases x with
    | o dx ox gx =>
      obtain ⟨a1, a2⟩ := apart_ok hap
      simp only [List.cons_append, itsX, Option.bind_eq_some_iff, itX_eq, Option.map_eq_some_iff] at H ⊢
      obtain ⟨⟨ex, hx⟩, ⟨⟨v, hv⟩, hi, hq⟩, H⟩ := H
      injection hq with q1 q2
      subst q1; subst q2
      obtain ⟨e2, k1, k2⟩ := put_its (u := u) (fun y hy => hin y (List.mem_cons_of_mem _ hy)) H
      have hc : itV cf (e.put t u) h ox gx = itV cf e h ox gx := itV_congr fun q hq => by
        show (if q = t then u else e.get q) = e.get q
        rw [if_neg (fun heq => a2 t rfl (by rw [heq] at hq; exact hq))]
      have hcomm : EqE ((e.putO dx v).put t u) ((e.put t u).putO dx v) := putO_comm (d := dx) (d' := some t) (fun q hq => (a1 q hq).2)
      obtain ⟨e3, k3, k4⟩ := itsX_congr hcomm k1
      exact ⟨e3, ⟨_, ⟨_, by rw [hc]; exact hi, rfl⟩, k3⟩, k2.trans k4⟩
    | frz _ => cases hO
    | fzd _ => cases hO
    | kill _ => cases hO

theorem nodup_inj {α : Type} {f : α → Nat} : ∀ {l : List α}, (l.map f).Nodup → ∀ x y, x ∈ l → y ∈ l → f x = f y → x = y
  | [], _, x, y, hx, _, _ => by cases hx
  | z :: l, hn, x, y, hx, hy, he => by
    rw [List.map_cons, List.nodup_cons] at hn
    rcases List.mem_cons.1 hx with h1 | h1
    · rcases List.mem_cons.1 hy with h2 | h2
      · rw [h1, h2]
      · exact absurd (List.mem_map.2 ⟨y, h2, by rw [← he, h1]⟩) hn.1
    · rcases List.mem_cons.1 hy with h2 | h2
      · exact absurd (List.mem_map.2 ⟨x, h1, by rw [he, h2]⟩) hn.1
      · exact nodup_inj hn.2 x y h1 h2 he
theorem filter_len : ∀ {l : List (Nat × Nat)} {x b : Nat}, (l.map (·.1)).Nodup → (x, b) ∈ l → (l.filter (fun p => p.1 ≠ x)).length + 1 = l.length
  | [], _, _, _, h => by cases h
  | p :: r, x, b, hn, h => by
    rw [List.map_cons, List.nodup_cons] at hn
    by_cases hpx : p.1 = x
    · have hall : ∀ q, q ∈ r → decide (q.1 ≠ x) = true := fun q hq => decide_eq_true (fun he => hn.1 (List.mem_map.2 ⟨q, hq, by rw [he, hpx]⟩))
      rw [List.filter_cons, if_neg (by simp [hpx]), List.filter_eq_self.2 hall, List.length_cons]
    · rcases List.mem_cons.1 h with h | h
      · subst h; exact absurd rfl hpx
      · rw [List.filter_cons, if_pos (by simp [hpx]), List.length_cons, List.length_cons, filter_len hn.2 h]

theorem isAl_eq {it : It} (h : isAl it = true) : ∃ t es z, it = .o (some t) (.alloc es z) none := by
  unfold isAl at h
  split at h
  · exact ⟨_, _, _, rfl⟩
  · cases h

section
variable {P : Program} {CC : CTy} {ro : Option Nat} {c : Cs} {ops : Array Oper} {its gs : List It} {N : Nat} {F0 : Nat → Option Obj} {ef : Env} {hf : Hp} {Q : Exit → Act → World → Prop} {lst : Array Bool} {rem : List (Nat × It)} {pend : List (Nat × Nat)} {g : G} {h : Hp} {e : Env} {a : Act} {w : World}

theorem keysLt (R : Rel g h w) : KeysLt h := fun n ob hn => by rw [R.nx]; exact (R.ob n ob hn).1

/-- A block that was made ahead becomes the object of its place. -/
theorem St.mat (S : St CC c ops its gs N F0 ef hf Q lst rem pend g h e a w) {x b : Nat} {it : It} {pr po : List (Nat × It)} (hp : (x, b) ∈ pend) (hr : rem = pr ++ (x, it) :: po) (hi : ∀ y, y ∈ pr → indep y.2 it = true) :
    ∃ g' h' e', St CC c ops its gs N F0 ef hf Q lst (pr ++ po) (pend.filter (fun p => p.1 ≠ x)) g' h' e' a w := by
  subst hr
  obtain ⟨t, es, z, zv, ty, h1, h2, h3, h4, h5, h6, h7⟩ := S.pb _ hp
  have hmem : (x, it) ∈ pr ++ (x, it) :: po := List.mem_append_right _ (List.mem_cons_self ..)
  have hit : it = .o (some t) (.alloc es z) none := by have := S.at_ _ hmem; simp only at this h1; rw [h1] at this; exact (Option.some.inj this).symm
  subst hit
  have hsub : (pr ++ po).Sublist (pr ++ (x, It.o (some t) (.alloc es z) none) :: po) := List.Sublist.append_left (List.sublist_cons_self ..) _
  have hfs : (pend.filter (fun p => p.1 ≠ x)).Sublist pend := List.filter_sublist
  have huniq : ∀ b', (x, b') ∈ pend → b' = b := by
    intro b' hb'
    have := nodup_inj S.nd1 _ _ hb' hp rfl
    cases this; rfl
  have hnb : ∀ p, p ∈ pend → p.1 ≠ x → p.2 ≠ b := by
    intro p hp' hne he
    have := nodup_inj S.nd2 _ _ hp' hp he
    exact hne (by rw [this])
  obtain ⟨g', m1, m2, m3, m4⟩ := S.rel.mat (F1 := fun d => if d = b then none else g.F d) h5 h2 h3 h4 (fun d o hd => by
    have hd' : (if d = b then none else g.F d) = some o := hd
    split at hd'
    · cases hd'
    · exact ⟨hd', by assumption⟩)
  obtain ⟨e1, H, hq⟩ := S.run
  simp only [List.map_append, List.map_cons, List.append_assoc, List.cons_append] at H
  obtain ⟨vi, h3', e1', b1, b2, b3⟩ := bubble (fun y hy => by obtain ⟨y', hy', rfl⟩ := List.mem_map.1 hy; exact hi y' hy') (fun _ => keysLt S.rel) (fun hk => by cases hk) H
  simp only [itV, want, opX, Option.bind_some, if_true, Option.some.injEq, Prod.mk.injEq] at b1
  obtain ⟨rfl, rfl⟩ := b1
  have hle : ∀ F, Le (g.un F) (g'.un F) := fun F => ⟨m1.φ, m1.N, m1.B, m1.μ, rfl, m1.C⟩
  refine ⟨g', _, e.putO (some t) (.ptr h.next 1 0 0), S.sz, fun j hj => ?_, S.ord.sublist hsub, fun p hp' => S.at_ p (hsub.subset hp'), S.shut, fun p hp' => ?_, S.nd1.sublist (hfs.map _), S.nd2.sublist (hfs.map _), fun p hp' => ?_, fun d hd => ?_, ⟨e1', by simpa using b2, b3.trans hq⟩, ?_, m2, S.tn, ?_, m1.C.trans S.cc⟩
  · rw [S.iff j hj]
    have hord := S.ord
    rw [List.pairwise_append, List.pairwise_cons] at hord
    constructor
    · rintro ⟨⟨it', hm⟩, hn⟩
      refine ⟨⟨it', ?_⟩, fun hm' => hn ((hfs.map _).subset hm')⟩
      rcases List.mem_append.1 hm with hm | hm
      · exact List.mem_append_left _ hm
      · rcases List.mem_cons.1 hm with hm | hm
        · cases hm; exact absurd (List.mem_map.2 ⟨_, hp, rfl⟩) hn
        · exact List.mem_append_right _ hm
    · rintro ⟨⟨it', hm⟩, hn⟩
      refine ⟨⟨it', hsub.subset hm⟩, fun hm' => hn ?_⟩
      obtain ⟨p, hp', rfl⟩ := List.mem_map.1 hm'
      refine List.mem_map.2 ⟨p, List.mem_filter.2 ⟨hp', ?_⟩, rfl⟩
      simp only [ne_eq, decide_not, Bool.not_eq_true', decide_eq_false_iff_not]
      intro hpx
      rcases List.mem_append.1 hm with hm | hm
      · have := hord.2.2 _ hm (x, _) (List.mem_cons_self ..); simp only at this; omega
      · have := hord.2.1.1 _ hm; simp only at this; omega
  · obtain ⟨hp1, hp2⟩ := List.mem_filter.1 hp'
    obtain ⟨it', hm⟩ := S.pin p hp1
    refine ⟨it', ?_⟩
    rcases List.mem_append.1 hm with hm | hm
    · exact List.mem_append_left _ hm
    · rcases List.mem_cons.1 hm with hm | hm
      · simp only [Prod.mk.injEq] at hm; simp [hm.1] at hp2
      · exact List.mem_append_right _ hm
  · obtain ⟨hp1, hp2⟩ := List.mem_filter.1 hp'
    obtain ⟨t', es', z', zv', ty', k1, k2, k3, k4, k5, k6, k7⟩ := S.pb p hp1
    refine ⟨t', es', z', zv', ty', k1, k2, k3, k4, ?_, k6, k7⟩
    rw [m4]
    simp only
    rw [if_neg (hnb p hp1 (by simpa using hp2))]
    exact k5
  · rw [m4]
    simp only
    split
    · rename_i hdb; subst hdb; exact h6.symm
    · rename_i hdb
      refine S.F d (fun hm => hd ?_)
      obtain ⟨p, hp', rfl⟩ := List.mem_map.1 hm
      refine List.mem_map.2 ⟨p, List.mem_filter.2 ⟨hp', ?_⟩, rfl⟩
      simp only [ne_eq, decide_not, Bool.not_eq_true', decide_eq_false_iff_not]
      intro hpx
      obtain ⟨p1, p2⟩ := p
      simp only at hpx hdb
      subst hpx
      exact hdb (huniq _ hp')
  · have he1 : EnvRep g' e a := fun q => (((S.env q).un (F := fun d => if d = b then none else g.F d)).mono m1)
    refine env_put_same t he1 ?_
    rw [h7]; exact m3
  · intro e2 a' w' g2 k0 k1
    exact S.K e2 a' w' g2 k0 ((hle F0).trans k1)

/-- All that is left was made ahead. -/
theorem St.fin (hG : ∀ x, x ∈ gs → isO x = false) : ∀ (rem : List (Nat × It)) {pend : List (Nat × Nat)} {g : G} {h : Hp} {e : Env}, St CC c ops its gs N F0 ef hf Q lst rem pend g h e a w → (∀ p, p ∈ rem → p.1 ∈ pend.map (·.1)) → Q .normal a w
  | [], pend, g, h, e, S, _ => by
    obtain ⟨e1, H, hq⟩ := S.run
    obtain ⟨g', l1, l2, l3⟩ := ghosts_ok hG H S.env S.rel
    have hp : pend = [] := by
      cases pend with
      | nil => rfl
      | cons p r => obtain ⟨it, hm⟩ := S.pin p (List.mem_cons_self ..); cases hm
    subst hp
    have hgF : g.un F0 = g := by
      have : g.F = F0 := funext fun b => S.F b (by simp)
      cases g; simp only [G.un] at this ⊢; simp_all
    exact S.K e1 a w g' hq (by rw [hgF]; exact l1) l2 l3 S.tn rfl (Fx.refl w)
  | (x, it) :: r, pend, g, h, e, S, ha => by
    obtain ⟨⟨x', b⟩, hp, hx⟩ := List.mem_map.1 (ha _ (List.mem_cons_self ..))
    simp only at hx
    subst hx
    obtain ⟨g', h', e', S'⟩ := S.mat (pr := []) (po := r) hp rfl (fun y hy => by cases hy)
    refine St.fin hG r S' (fun p hp' => ?_)
    obtain ⟨q, hq, hqp⟩ := List.mem_map.1 (ha p (List.mem_cons_of_mem _ hp'))
    refine List.mem_map.2 ⟨q, List.mem_filter.2 ⟨hq, ?_⟩, hqp⟩
    have hord := S.ord
    rw [List.pairwise_cons] at hord
    have := hord.1 p hp'
    simp only at this
    have hne : q.1 ≠ x' := by omega
    simp [hne]

/-- What an operation stands on is no more a block made ahead. -/
theorem St.clean {m : Nat} (hl : ∀ x, m.testBit x = true → lst.getD x false = true) :
    ∀ (n : Nat) {rem : List (Nat × It)} {pend : List (Nat × Nat)} {g : G} {h : Hp} {e : Env}, pend.length ≤ n → St CC c ops its gs N F0 ef hf Q lst rem pend g h e a w →
    (∀ x b, (x, b) ∈ pend → m.testBit x = true → ∀ it, its[x]? = some it → ∀ y ity, y < x → its[y]? = some ity → m.testBit y = true ∨ indep ity it = true) →
    ∃ rem' pend' g' h' e', St CC c ops its gs N F0 ef hf Q lst rem' pend' g' h' e' a w ∧ (∀ p, p ∈ pend' → m.testBit p.1 = false) ∧ rem'.length + pend.length = rem.length + pend'.length := by
  intro n
  induction n with
  | zero =>
    intro rem pend g h e hn S _
    have : pend = [] := List.eq_nil_of_length_eq_zero (by omega)
    subst this
    exact ⟨rem, [], g, h, e, S, (fun p hp => by cases hp), rfl⟩
  | succ n ih =>
    intro rem pend g h e hn S hS
    by_cases hex : ∃ x, ∃ b, (x, b) ∈ pend ∧ m.testBit x = true
    · -- the first one
      obtain ⟨x, ⟨b, hp, hx⟩, hmin⟩ : ∃ x, (∃ b, (x, b) ∈ pend ∧ m.testBit x = true) ∧ ∀ y, y < x → ¬ ∃ b, (y, b) ∈ pend ∧ m.testBit y = true := by
        classical
        obtain ⟨x, hx⟩ := hex
        induction x using Nat.strongRecOn with
        | _ x ihx =>
          by_cases hlt : ∃ y, y < x ∧ ∃ b, (y, b) ∈ pend ∧ m.testBit y = true
          · obtain ⟨y, hy, hyb⟩ := hlt; exact ihx y hy hyb
          · exact ⟨x, hx, fun y hy hyb => hlt ⟨y, hy, hyb⟩⟩
      obtain ⟨it, hmem⟩ := S.pin _ hp
      have hat := S.at_ _ hmem
      obtain ⟨pr, po, hr⟩ := List.append_of_mem hmem
      have hord := S.ord
      rw [hr, List.pairwise_append, List.pairwise_cons] at hord
      have hind : ∀ y, y ∈ pr → indep y.2 it = true := by
        intro y hy
        have hyr : y ∈ rem := by rw [hr]; exact List.mem_append_left _ hy
        have hyx : y.1 < x := hord.2.2 _ hy (x, it) (List.mem_cons_self ..)
        rcases hS x b hp hx it hat y.1 y.2 hyx (S.at_ _ hyr) with h1 | h1
        · exfalso
          have hly := hl _ h1
          have hlt : y.1 < ops.size := by
            rcases Nat.lt_or_ge y.1 ops.size with h | h
            · exact h
            · rw [← S.sz] at h; simp [Array.getElem?_eq_none h] at hly
          have hyp : y.1 ∈ pend.map (·.1) := by
            by_cases hn : y.1 ∈ pend.map (·.1)
            · exact hn
            · have := (S.iff y.1 hlt).2 ⟨⟨y.2, hyr⟩, hn⟩
              rw [getD_lst (by rw [S.sz]; exact hlt)] at this hly
              rw [this] at hly; cases hly
          obtain ⟨⟨q1, q2⟩, hq, hqe⟩ := List.mem_map.1 hyp
          simp only at hqe
          subst hqe
          exact hmin _ hyx ⟨q2, hq, h1⟩
        · exact h1
      obtain ⟨g', h', e', S'⟩ := S.mat hp hr hind
      have hfl : (pend.filter (fun p => p.1 ≠ x)).length + 1 = pend.length := by
        exact filter_len S.nd1 hp
      obtain ⟨rem', pend', g2, h2, e2, S2, c1, c2⟩ := ih (by omega) S' (fun x' b' hp' => hS x' b' ((List.filter_sublist).subset hp'))
      refine ⟨rem', pend', g2, h2, e2, S2, c1, ?_⟩
      have : rem.length = (pr ++ po).length + 1 := by rw [hr]; simp; omega
      omega
    · exact ⟨rem, pend, g, h, e, S, fun p hp => by
        cases hq : m.testBit p.1 with
        | false => rfl
        | true => exact absurd ⟨p.1, p.2, hp, hq⟩ hex, rfl⟩
end

theorem al_run {P : Program} {o : Oper} {es : Nat} {z : V} (hm : mtOp P o (.alloc es z) = true) : ∃ zv ty, (∀ g, Rep g z zv) ∧ stor z = true ∧ z.cells.length = es ∧
    ∀ (a : Act) (w : World), (execOp a.eval o).run P w = .ok (.value (.pointer (some ⟨w.heap.size, 0, none⟩))) (w.alloc (.cells zv.cells ty)) := by
  simp only [mtOp] at hm
  split at hm
  · rename_i t hz
    split at hm
    · rename_i zv hzv
      simp only [Bool.and_eq_true, beq_iff_eq] at hm
      obtain ⟨i, hi, hzz⟩ := zeroT_ok hzv
      refine ⟨zv, t, fun g => rc_ok hm.1.1, hm.1.2, hm.2, fun a w => ?_⟩
      simp only [execOp, hz]
      simp [Instr.alloc, zeroValue, typeInfo, hi, hzz]
      rfl
    · cases hm
  · cases hm

section
variable {P : Program} {CC : CTy} {ro : Option Nat} {c : Cs} {ops : Array Oper} {its gs : List It} {N : Nat} {F0 : Nat → Option Obj} {ef : Env} {hf : Hp} {Q : Exit → Act → World → Prop} {lst : Array Bool} {rem : List (Nat × It)} {pend : List (Nat × Nat)} {g : G} {h : Hp} {e : Env} {a : Act} {w : World}

theorem shut_set (hs : Shut ops (fun k => lst.getD k false = true)) {i : Nat} (hr : ∀ o, ops[i]? = some o → ∀ p, p ∈ pre o → lst.getD p false = true) : Shut ops (fun k => (lst.setIfInBounds i true).getD k false = true) := by
  intro k o ho hk p hp
  by_cases hki : i = k
  · subst hki
    exact getD_set_true (hr o ho p hp)
  · have hk' : (lst.setIfInBounds i true).getD k false = true := hk
    rw [getD_set_ne false hki] at hk'
    exact getD_set_true (hs k o ho hk' p hp)

/-- A variable's block is made ahead. -/
theorem St.al (S : St CC c ops its gs N F0 ef hf Q lst rem pend g h e a w) {i t es : Nat} {z : V} {zv : Value} {ty : TypeId} {pr po : List (Nat × It)} (hlt : i < ops.size) (htN : t < N) (hr : rem = pr ++ (i, .o (some t) (.alloc es z) none) :: po) (hnp : i ∉ pend.map (·.1))
    (hready : ∀ o, ops[i]? = some o → ∀ p, p ∈ pre o → lst.getD p false = true) (hap : ∀ y, y ∈ pr → isO y.2 = true ∧ apartI (dstI y.2) (usI y.2) (some t) [] = true)
    (hne : ∀ p, p ∈ pend → ∀ t' es' z', its[p.1]? = some (.o (some t') (.alloc es' z') none) → t' ≠ t) (h2 : ∀ g, Rep g z zv) (h3 : stor z = true) (h4 : z.cells.length = es) :
    St CC c ops its gs N F0 ef hf Q (lst.setIfInBounds i true) rem ((i, w.heap.size) :: pend) (g.un (fun b => if b = w.heap.size then some (.cells zv.cells ty (0, 0)) else g.F b)) h (e.put t .undef) (a.put (some t) (.pointer (some ⟨w.heap.size, 0, none⟩))) (w.alloc (.cells zv.cells ty)) := by
  obtain ⟨a1, a2, a3⟩ := heap_alloc w (.cells zv.cells ty)
  obtain ⟨o1, o2, o3⟩ := S.rel.old
  have hmem : (i, It.o (some t) (.alloc es z) none) ∈ rem := by rw [hr]; exact List.mem_append_right _ (List.mem_cons_self ..)
  have hlsz : i < lst.size := by rw [S.sz]; exact hlt
  have hnew : ∀ p, p ∈ pend → p.2 ≠ w.heap.size := by
    intro p hp he
    obtain ⟨t', es', z', zv', ty', k1, k2, k3, k4, k5, k6, k7⟩ := S.pb p hp
    rw [he, o2] at k5; cases k5
  have hF0 : F0 w.heap.size = none := by
    rw [← S.F w.heap.size (fun hm => by obtain ⟨p, hp, hpe⟩ := List.mem_map.1 hm; exact hnew p hp hpe)]
    exact o2
  have R' : Rel g h (w.alloc (.cells zv.cells ty)) := S.rel.world a2
  refine ⟨by simp [S.sz], fun j hj => ?_, S.ord, S.at_, shut_set S.shut hready, fun p hp => ?_, ?_, ?_, fun p hp => ?_, fun b hb => ?_, ?_, ?_, ?_, ?_, ?_, S.cc⟩
  · by_cases hji : i = j
    · subst hji
      have : (lst.setIfInBounds i true).getD i true = true := by simp [hlsz]
      rw [this]
      constructor
      · intro h; cases h
      · rintro ⟨_, hn⟩; exact absurd (List.mem_cons_self ..) hn
    · rw [getD_set_ne true hji, S.iff j hj]
      simp only [List.map_cons, List.mem_cons, not_or]
      exact ⟨fun ⟨p, q⟩ => ⟨p, fun h => hji h.symm, q⟩, fun ⟨p, _, q⟩ => ⟨p, q⟩⟩
  · rcases List.mem_cons.1 hp with rfl | hp
    · exact ⟨_, hmem⟩
    · exact S.pin p hp
  · rw [List.map_cons, List.nodup_cons]; exact ⟨hnp, S.nd1⟩
  · rw [List.map_cons, List.nodup_cons]
    exact ⟨fun hm => by obtain ⟨p, hp, hpe⟩ := List.mem_map.1 hm; exact hnew p hp hpe, S.nd2⟩
  · rcases List.mem_cons.1 hp with rfl | hp
    · refine ⟨t, es, z, zv, ty, S.at_ _ hmem, h2, h3, h4, ?_, hF0, ?_⟩
      · show (if w.heap.size = w.heap.size then _ else _) = _
        rw [if_pos rfl]
      · simp [Act.put, S.tn, htN]
    · obtain ⟨t', es', z', zv', ty', k1, k2, k3, k4, k5, k6, k7⟩ := S.pb p hp
      refine ⟨t', es', z', zv', ty', k1, k2, k3, k4, ?_, k6, ?_⟩
      · show (if p.2 = w.heap.size then _ else _) = _
        rw [if_neg (hnew p hp)]; exact k5
      · rw [put_other (fun he => hne p hp t' es' z' k1 (Option.some.inj he).symm)]; exact k7
  · simp only [List.map_cons, List.mem_cons, not_or] at hb
    show (if b = w.heap.size then _ else _) = _
    rw [if_neg hb.1]; exact S.F b hb.2
  · obtain ⟨e1, H, hq⟩ := S.run
    subst hr
    simp only [List.map_append, List.map_cons, List.append_assoc, List.cons_append] at H ⊢
    obtain ⟨e1', k1, k2⟩ := put_its (u := .undef) (fun y hy => by obtain ⟨y', hy', rfl⟩ := List.mem_map.1 hy; exact hap y' hy') H
    exact ⟨e1', k1, k2.symm.trans hq⟩
  · refine EnvRep.un (fun q => ?_)
    show Rep g (if q = t then .undef else e.get q) _
    split
    · exact .undef _
    · rename_i hqt
      rw [put_other (fun he => hqt (Option.some.inj he).symm)]
      exact S.env q
  · refine R'.un (fun b o hb => ?_) (fun n o hn => ?_)
    · have hb' : (if b = w.heap.size then some (Obj.cells zv.cells ty (0, 0)) else g.F b) = some o := hb
      split at hb'
      · rename_i he; subst he; cases hb'; exact ⟨a1, o1⟩
      · exact R'.kp b o hb'
    · show (if blk g n o = w.heap.size then _ else g.F (blk g n o)) = none
      rw [if_neg (o3 n o hn)]; exact R'.kpo n o hn
  · rw [(put_size a _ _).1]; exact S.tn
  · intro e2 a' w' g2 k0 k1 k2 k3 k4 k5 k6
    exact S.K e2 a' w' g2 k0 k1 k2 k3 k4 (k5.trans (put_size a _ _).2) (a3.trans k6)

theorem draw_main (HC : CallOk P CC c) (hO : ∀ x, x ∈ its → isO x = true) (hG : ∀ x, x ∈ gs → isO x = false) (hmt : mtIts P ops N 0 its = true) (hb : backs 0 ops.toList = true) (hc : chk its (mks ops.toList []) [] = true) :
    ∀ (fuel : Nat) (lst : Array Bool) (rem : List (Nat × It)) (pend : List (Nat × Nat)) {g : G} {h : Hp} {e : Env} {a : Act} {w : World}, St CC c ops its gs N F0 ef hf Q lst rem pend g h e a w → rem.length ≤ fuel + pend.length →
    wpAnyIn (FR ro) 0 P .any ops Q fuel lst a w := by
  have noReady : ∀ (lst : Array Bool) (rem : List (Nat × It)) (pend : List (Nat × Nat)) (g : G) (h : Hp) (e : Env) (a : Act) (w : World), St CC c ops its gs N F0 ef hf Q lst rem pend g h e a w → Region.ready .any ops lst = [] → Q .normal a w := by
    intro lst rem pend g h e a w S hr
    refine St.fin hG rem S (fun p hp => ?_)
    -- the first that was not made
    have key : ∀ n, ∀ p, p ∈ rem → p.1 = n → p.1 ∈ pend.map (·.1) := by
      intro n
      induction n using Nat.strongRecOn with
      | _ n ihn =>
        intro p hp hpn
        by_cases hin : p.1 ∈ pend.map (·.1)
        · exact hin
        · exfalso
          obtain ⟨dst, op, gd, o, _, ho, _⟩ := mtIts_at hO hmt (S.at_ _ hp)
          rw [Nat.zero_add] at ho
          have hlt : p.1 < ops.size := (Array.getElem?_eq_some_iff.1 ho).1
          have hi : p.1 ∈ Region.ready .any ops lst := by
            refine mem_ready.2 ⟨(S.iff p.1 hlt).2 ⟨⟨p.2, hp⟩, hin⟩, o, ho, fun ed hed hbd => ?_⟩
            have hpr : ed.on ∈ pre o := List.mem_map.2 ⟨ed, List.mem_filter.2 ⟨Array.mem_toList_iff.2 hed, hbd⟩, rfl⟩
            have hltp := backs_ok hb (by rw [Array.getElem?_toList]; exact ho) _ hpr
            rw [Nat.zero_add] at hltp
            have hps : ed.on < lst.size := by rw [S.sz]; omega
            rw [getD_lst hps]
            cases hv : lst[ed.on] with
            | true => rfl
            | false =>
              exfalso
              obtain ⟨⟨it', hm⟩, hn⟩ := (S.iff ed.on (by omega)).1 (by rw [getD_lst hps]; exact hv)
              exact hn (ihn ed.on (by omega) (ed.on, it') hm rfl)
          rw [hr] at hi
          cases hi
    exact key p.1 p hp rfl
  intro fuel
  induction fuel with
  | zero =>
    intro lst rem pend g h e a w S hl
    have hnr : Region.ready .any ops lst = [] := by
      cases hr : Region.ready .any ops lst with
      | nil => rfl
      | cons i l =>
        exfalso
        have hi : i ∈ Region.ready .any ops lst := by rw [hr]; exact List.mem_cons_self ..
        obtain ⟨h0, o, ho, _⟩ := mem_ready.1 hi
        obtain ⟨⟨it, hm⟩, hn⟩ := (S.iff i (Array.getElem?_eq_some_iff.1 ho).1).1 h0
        -- all of the blocks made ahead, and i, are left
        have hsub : ∀ (l : List Nat) (l2 : List Nat), l.Nodup → (∀ x, x ∈ l → x ∈ l2) → l.length ≤ l2.length := by
          intro l
          induction l with
          | nil => intro _ _ _; exact Nat.zero_le _
          | cons x l ihl =>
            intro l2 hnd hs
            rw [List.nodup_cons] at hnd
            have hx := hs x (List.mem_cons_self ..)
            have := ihl (l2.erase x) hnd.2 (fun y hy => (List.mem_erase_of_ne (fun (he : y = x) => hnd.1 (by rw [← he]; exact hy))).2 (hs y (List.mem_cons_of_mem _ hy)))
            rw [List.length_erase_of_mem hx] at this
            have hpos : 0 < l2.length := List.length_pos_of_mem hx
            simp only [List.length_cons]
            omega
        have := hsub (i :: pend.map (·.1)) (rem.map (·.1)) (List.nodup_cons.2 ⟨hn, S.nd1⟩) (fun x hx => by
          rcases List.mem_cons.1 hx with rfl | hx
          · exact List.mem_map.2 ⟨_, hm, rfl⟩
          · obtain ⟨p, hp, rfl⟩ := List.mem_map.1 hx
            obtain ⟨it', hm'⟩ := S.pin p hp
            exact List.mem_map.2 ⟨_, hm', rfl⟩)
        simp at this
        omega
    exact ⟨hnr, noReady lst rem pend g h e a w S hnr⟩
  | succ fuel ih =>
    intro lst rem pend g h e a w S hl
    refine ⟨fun hr => noReady lst rem pend g h e a w S hr, fun i hi => ?_⟩
    obtain ⟨h0, o, ho, hall⟩ := mem_ready.1 hi
    have hlt : i < ops.size := (Array.getElem?_eq_some_iff.1 ho).1
    have hready : ∀ o', ops[i]? = some o' → ∀ p, p ∈ pre o' → lst.getD p false = true := by
      intro o' ho' p hp
      rw [ho] at ho'; cases ho'
      obtain ⟨ed, hed, rfl⟩ := List.mem_map.1 hp
      obtain ⟨hed, hbd⟩ := List.mem_filter.1 hed
      exact hall ed (Array.mem_toList_iff.1 hed) hbd
    obtain ⟨⟨it, hm0⟩, _⟩ := (S.iff i hlt).1 h0
    have hat := S.at_ _ hm0
    simp only at hat
    obtain ⟨m, hm1, hm2, hm3⟩ := chk_ok hc hat
    simp only [List.nil_append, List.length_nil, Nat.zero_add] at hm2 hm3
    have good : ∀ j mj, (mks ops.toList [])[j]? = some mj → GoodM ops j mj := mks_ok (ops := ops) (r := ops.toList) (acc := []) (by simp) (by simp)
    have hlisted : ∀ x, m.testBit x = true → lst.getD x false = true := good i m hm1 (fun k => lst.getD k false = true) S.shut hready
    have hbelow : ∀ x, m.testBit x = true → x < i := by
      refine good i m hm1 (fun k => k < i) (fun k o' ho' hk p hp => ?_) (fun o' ho' p hp => ?_)
      · have := backs_ok hb (by rw [Array.getElem?_toList]; exact ho') p hp; omega
      · have := backs_ok hb (by rw [Array.getElem?_toList]; exact ho') p hp; omega
    obtain ⟨rem', pend', g', h', e', S', hcl, hlen⟩ := S.clean hlisted pend.length (Nat.le_refl _) (fun x b hp hx itx hitx y ity hy hity => by
      obtain ⟨t, es, z, zv, ty, k1, _⟩ := S.pb _ hp
      simp only at k1
      rw [hitx] at k1
      cases k1
      exact hm3 x _ hitx (hbelow x hx) rfl hx y ity hy hity)
    clear S hm0
    obtain ⟨⟨it', hm⟩, hnp⟩ := (S'.iff i hlt).1 h0
    have hat' := S'.at_ _ hm
    simp only at hat'
    rw [hat] at hat'
    cases hat'
    obtain ⟨pr, po, hrm⟩ := List.append_of_mem hm
    have hord := S'.ord
    rw [hrm, List.pairwise_append, List.pairwise_cons] at hord
    have listedPend : ∀ x itx, (x, itx) ∈ rem' → lst.getD x false = true → x ∈ pend'.map (·.1) := by
      intro x itx hx hl
      by_cases hn : x ∈ pend'.map (·.1)
      · exact hn
      · exfalso
        have hlt : x < ops.size := by
          rcases Nat.lt_or_ge x ops.size with h | h
          · exact h
          · rw [← S'.sz] at h; simp [Array.getElem?_eq_none h] at hl
        have := (S'.iff x hlt).2 ⟨⟨itx, hx⟩, hn⟩
        rw [getD_lst (by rw [S'.sz]; exact hlt)] at this hl
        rw [this] at hl; cases hl
    have hpr : ∀ y, y ∈ pr → ok2 y.2 it = true := by
      intro y hy
      have hyr : y ∈ rem' := by rw [hrm]; exact List.mem_append_left _ hy
      have hyi : y.1 < i := hord.2.2 _ hy (i, it) (List.mem_cons_self ..)
      rcases hm2 y.1 y.2 (S'.at_ _ hyr) hyi with h1 | h1
      · exfalso
        obtain ⟨q, hq, hqe⟩ := List.mem_map.1 (listedPend y.1 y.2 hyr (hlisted _ h1))
        have := hcl q hq
        rw [hqe, h1] at this; cases this
      · exact h1
    -- the words of the blocks made ahead are not i's
    have hap2 : ∀ p, p ∈ pend' → ∀ t' es' z', its[p.1]? = some (.o (some t') (.alloc es' z') none) → dstI it ≠ some t' := by
      intro p hp t' es' z' hpt
      rcases Nat.lt_trichotomy p.1 i with hlt' | heq | hgt
      · rcases hm2 p.1 _ hpt hlt' with h1 | h1
        · have := hcl p hp; rw [h1] at this; cases this
        · have hapI : apartI (some t') (usI (It.o (some t') (.alloc es' z') none)) (dstI it) (usI it) = true := by
            unfold ok2 at h1
            split at h1
            · simp only [Bool.and_eq_true] at h1; exact h1.2
            · cases it with
              | o di oi gi => simp only [indep, Bool.and_eq_true] at h1; exact h1.2
              | frz _ => have := hO _ (List.mem_of_getElem? hat); cases this
              | fzd _ => have := hO _ (List.mem_of_getElem? hat); cases this
              | kill _ => have := hO _ (List.mem_of_getElem? hat); cases this
          exact ((apart_ok hapI).1 t' rfl).2
      · exact absurd (List.mem_map.2 ⟨p, hp, heq⟩) hnp
      · obtain ⟨mp, q1, q2, _⟩ := chk_ok hc hpt
        simp only [List.nil_append, List.length_nil, Nat.zero_add] at q2
        rcases q2 i it hat hgt with h1 | h1
        · exfalso
          have hpl : lst.getD p.1 false = true := by
            obtain ⟨_, _, _, o', _, ho', _⟩ := mtIts_at hO hmt hpt
            rw [Nat.zero_add] at ho'
            have hplt := (Array.getElem?_eq_some_iff.1 ho').1
            cases hv : lst.getD p.1 true with
            | false => exact absurd (List.mem_map.2 ⟨p, hp, rfl⟩) ((S'.iff p.1 hplt).1 hv).2
            | true =>
              rw [getD_lst (by rw [S'.sz]; exact hplt)] at hv ⊢; exact hv
          have := good p.1 mp q1 (fun k => lst.getD k false = true) S'.shut (fun o' ho' q hq => S'.shut p.1 o' ho' hpl q hq) i h1
          rw [getD_lst (by rw [S'.sz]; exact hlt)] at h0 this
          rw [h0] at this; cases this
        · unfold ok2 at h1
          rw [if_pos (show isAl (.o (some t') (.alloc es' z') none) = true from rfl)] at h1
          simp only [Bool.and_eq_true] at h1
          intro hd
          exact ((apart_ok h1.2).1 t' hd).2 rfl
    obtain ⟨dst, op, gd, o', rfl, ho', hd, hdn, hg, hmop⟩ := mtIts_at hO hmt hat
    rw [Nat.zero_add, ho] at ho'
    cases ho'
    by_cases hal : isAl (.o dst op gd) = true
    · obtain ⟨t, es, z, heq⟩ := isAl_eq hal
      cases heq
      obtain ⟨zv, ty, z1, z2, z3, z4⟩ := al_run hmop
      have hw : Region.wanted o (yielded ops a.tmps) = true := want_ok hg S'.env rfl
      have htN : t < N := by simpa [dstOk] using hdn
      simp only [wpOpIn, ho, hw, if_true]
      refine ⟨fun _ _ => trivial, ?_⟩
      rw [Oper.semAt_eq _ _ _ (mtOp_nd hmop), z4 a w]
      simp only [Oper.uponIn, hd]
      refine ih _ rem' _ (S'.al hlt htN hrm hnp hready (fun y hy => ?_) (fun p hp t' es' z' hpt he => hap2 p hp t' es' z' hpt (by rw [he]; rfl)) z1 z2 z3) (by simp only [List.length_cons]; omega)
      have := hpr y hy
      unfold ok2 at this
      rw [if_pos (show isAl (.o (some t) (.alloc es z) none) = true from rfl)] at this
      simp only [Bool.and_eq_true] at this
      exact this
    · have hind : ∀ x, x ∈ pr.map (·.2) → indep x (.o dst op gd) = true := by
        intro x hx
        obtain ⟨y, hy, rfl⟩ := List.mem_map.1 hx
        have := hpr y hy
        unfold ok2 at this
        rw [if_neg hal] at this
        exact this
      have hNL : op.kd = 1 → ∀ x, op.addr = some x → NL h'.next (e'.ev x) := by
        intro _ x hx
        have hrp : ∃ v, Rep g' (e'.ev x) v := by
          cases op <;> simp only [AOp.addr, Option.some.injEq, reduceCtorEq] at hx <;> subst hx <;> simp only [mtOp] at hmop <;> split at hmop <;> (try cases hmop) <;> simp only [Bool.and_eq_true] at hmop <;>
            first
              | exact ⟨_, opd_ok hmop.2 S'.env⟩
              | exact ⟨_, opd_ok hmop.1.2 S'.env⟩
        obtain ⟨v, hv⟩ := hrp
        rw [S'.rel.nx]
        generalize e'.ev x = y at hv
        cases hv with
        | ptr n tot i off hN hB => exact hN
        | map n hN => exact hN
        | _ => trivial
      obtain ⟨e1, H, hq⟩ := S'.run
      rw [hrm] at H
      simp only [List.map_append, List.map_cons, List.append_assoc, List.cons_append] at H
      obtain ⟨vi, h3, e1', b1, b2, b3⟩ := bubble hind (fun _ => keysLt S'.rel) hNL H
      have hstep : itX (callee c) e' h' (.o dst op gd) = some (e'.putO dst vi, h3) := by rw [itX_eq, b1]; rfl
      refine step_ok HC ho hd (fun d hd' => by subst hd'; simpa [dstOk] using hdn) hg hmop S'.env S'.rel S'.cc S'.tn hstep (fun a' w' g2 l1 l2 l3 l4 l5 l6 l7 => ?_)
      have hsub : (pr ++ po).Sublist (pr ++ (i, It.o dst op gd) :: po) := List.Sublist.append_left (List.sublist_cons_self ..) _
      have hilt : i < lst.size := by rw [S'.sz]; exact hlt
      refine ih _ (pr ++ po) pend' (g := g2) (h := h3) (e := e'.putO dst vi) ⟨by simp [S'.sz], fun j hj => ?_, ?_, fun p hp => ?_, shut_set S'.shut hready, fun p hp => ?_, S'.nd1, S'.nd2, fun p hp => ?_, fun b hb' => ?_, ⟨e1', by simpa using b2, b3.trans hq⟩, l3, l2, l4, ?_, l1.C.trans S'.cc⟩ ?_
      · by_cases hji : i = j
        · subst hji
          have : (lst.setIfInBounds i true).getD i true = true := by simp [hilt]
          rw [this]
          constructor
          · intro h; cases h
          · rintro ⟨⟨it', hm'⟩, _⟩
            rcases List.mem_append.1 hm' with hm' | hm'
            · have := hord.2.2 _ hm' (i, _) (List.mem_cons_self ..); exact absurd this (Nat.lt_irrefl _)
            · have := hord.2.1.1 _ hm'; exact absurd this (Nat.lt_irrefl _)
        · rw [getD_set_ne true hji, S'.iff j hj, hrm]
          constructor
          · rintro ⟨⟨it', hm'⟩, hn⟩
            refine ⟨⟨it', ?_⟩, hn⟩
            rcases List.mem_append.1 hm' with hm' | hm'
            · exact List.mem_append_left _ hm'
            · rcases List.mem_cons.1 hm' with hm' | hm'
              · cases hm'; exact absurd rfl hji
              · exact List.mem_append_right _ hm'
          · rintro ⟨⟨it', hm'⟩, hn⟩
            exact ⟨⟨it', hsub.subset hm'⟩, hn⟩
      · have := S'.ord; rw [hrm] at this; exact this.sublist hsub
      · exact S'.at_ p (by rw [hrm]; exact hsub.subset hp)
      · obtain ⟨it', hm'⟩ := S'.pin p hp
        refine ⟨it', ?_⟩
        rw [hrm] at hm'
        rcases List.mem_append.1 hm' with hm' | hm'
        · exact List.mem_append_left _ hm'
        · rcases List.mem_cons.1 hm' with hm' | hm'
          · simp only [Prod.mk.injEq] at hm'
            exact absurd (List.mem_map.2 ⟨p, hp, hm'.1⟩) hnp
          · exact List.mem_append_right _ hm'
      · obtain ⟨t', es', z', zv', ty', k1, k2, k3, k4, k5, k6, k7⟩ := S'.pb p hp
        refine ⟨t', es', z', zv', ty', k1, k2, k3, k4, by rw [l1.F]; exact k5, k6, ?_⟩
        rw [l7 t' (hap2 p hp t' es' z' k1)]; exact k7
      · rw [l1.F]; exact S'.F b hb'
      · have hle : Le (g'.un F0) (g2.un F0) := ⟨l1.φ, l1.N, l1.B, l1.μ, rfl, l1.C⟩
        exact fun e2 a2 w2 g3 k0 k1 k2 k3 k4 k5 k6 => S'.K e2 a2 w2 g3 k0 (hle.trans k1) k2 k3 k4 (k5.trans l5) (l6.trans k6)
      · have : rem'.length = (pr ++ po).length + 1 := by rw [hrm]; simp; omega
        omega
end

theorem takeWhile_isO : ∀ (l : List It) x, x ∈ l.takeWhile isO → isO x = true
  | [], _, h => by simp at h
  | y :: l, x, h => by
    rw [List.takeWhile_cons] at h
    split at h
    · rcases List.mem_cons.1 h with rfl | h
      · assumption
      · exact takeWhile_isO l x h
    · cases h

def enum : Nat → List It → List (Nat × It)
  | _, [] => []
  | i, x :: r => (i, x) :: enum (i + 1) r
theorem enum_snd : ∀ (i : Nat) (l : List It), (enum i l).map (·.2) = l
  | _, [] => rfl
  | i, x :: r => by simp [enum, enum_snd (i + 1) r]
theorem enum_mem : ∀ {i : Nat} {l : List It} {p : Nat × It}, p ∈ enum i l ↔ i ≤ p.1 ∧ l[p.1 - i]? = some p.2
  | i, [], p => by simp [enum]
  | i, x :: r, p => by
    simp only [enum, List.mem_cons, enum_mem (i := i + 1) (l := r)]
    constructor
    · rintro (rfl | ⟨h1, h2⟩)
      · simp
      · refine ⟨by omega, ?_⟩
        rw [show p.1 - i = (p.1 - (i + 1)) + 1 by omega]
        simpa using h2
    · rintro ⟨h1, h2⟩
      by_cases h : p.1 = i
      · left
        rw [h, Nat.sub_self] at h2
        simp at h2
        obtain ⟨a, b⟩ := p
        simp_all
      · right
        refine ⟨by omega, ?_⟩
        rw [show p.1 - i = (p.1 - (i + 1)) + 1 by omega] at h2
        simpa using h2
theorem enum_ord : ∀ (i : Nat) (l : List It), (enum i l).Pairwise (fun p q => p.1 < q.1)
  | _, [] => List.Pairwise.nil
  | i, x :: r => List.Pairwise.cons (fun p hp => by have := (enum_mem.1 hp).1; simp only; omega) (enum_ord (i + 1) r)

theorem Fx.drawn (w : World) : Fx w { w with drawn := w.drawn + 1 } := ⟨rfl, rfl, rfl, Nat.le_refl _⟩



theorem draw_ok1 {P : Program} {g : G} {h : Hp} {w : World} {CC : CTy} {c : Cs} {ro : Option Nat} (HC : CallOk P CC c) {id : Nat} {ops : Array Oper} {Q : Exit → Act → World → Prop} {N : Nat} {its : List It} {e e' : Env} {a : Act} {h' : Hp}
    (hm : mtDraw1 P ops N its = true) (H : itsX (callee c) its e h = some (e', h')) (he : EnvRep g e a) (R : Rel g h w) (hCC : g.C = CC) (hN : a.tmps.size = N)
    (K : ∀ e2 a' w' g', (∀ t, Env.get e2 t = Env.get e' t) → Le g g' → Rel g' h' w' → EnvRep g' e2 a' → a'.tmps.size = N → a'.defers = a.defers → Fx w w' → Q .normal a' w') : (Code.region id ops true).wpIn (FR ro) 0 P Q a w := by
  simp only [mtDraw1, Bool.and_eq_true] at hm
  obtain ⟨⟨⟨⟨h1, h2⟩, h3⟩, h4⟩, h5⟩ := hm
  refine wpIn_region_any h1 ?_
  have hO := takeWhile_isO its
  have hlen := mtIts_len hO h2
  have R' : Rel g h { w with drawn := w.drawn + 1 } := R.world (fun _ _ => rfl)
  have hgF : g.un g.F = g := rfl
  refine draw_main HC (its := its.takeWhile isO) (gs := its.dropWhile isO) (F0 := g.F) (ef := e') (hf := h') hO (fun x hx => ?_) h2 h4 h5 ops.size _ (enum 0 (its.takeWhile isO)) [] (g := g) (h := h) (e := e) ⟨by simp, fun j hj => ?_, enum_ord _ _, fun p hp => ?_, fun k o ho hk => ?_, fun p hp => (by cases hp), List.nodup_nil, List.nodup_nil, fun p hp => (by cases hp), fun _ _ => rfl, ⟨e', ?_, fun _ => rfl⟩, he, R', hN, ?_, hCC⟩ ?_
  · have := List.all_eq_true.1 h3 x hx; simpa using this
  · have : (Array.replicate ops.size false).getD j true = false := by simp [hj]
    rw [this]
    simp only [true_iff]
    have hjl : j < (its.takeWhile isO).length := by omega
    exact ⟨⟨(its.takeWhile isO)[j], enum_mem.2 ⟨Nat.zero_le _, by simp [hjl]⟩⟩, by simp⟩
  · have := (enum_mem.1 hp).2
    rwa [Nat.sub_zero] at this
  · have hlt : k < ops.size := (Array.getElem?_eq_some_iff.1 ho).1
    simp [hlt] at hk
  · rw [enum_snd, List.takeWhile_append_dropWhile]; exact H
  · exact fun e2 a' w' g' k0 k1 k2 k3 k4 k5 k6 => K e2 a' w' g' k0 k1 k2 k3 k4 k5 ((Fx.drawn w).trans k6)
  · have : (enum 0 (its.takeWhile isO)).length = (its.takeWhile isO).length := by rw [← List.length_map (f := (·.2)), enum_snd]
    simp only [List.length_nil]
    omega

theorem itsX_app {cf : Cf} : ∀ {l r : List It} {e : Env} {h : Hp} {q : Env × Hp}, itsX cf (l ++ r) e h = some q → ∃ e1 h1, itsX cf l e h = some (e1, h1) ∧ itsX cf r e1 h1 = some q
  | [], _, e, h, _, H => ⟨e, h, rfl, H⟩
  | x :: l, r, e, h, q, H => by
    simp only [List.cons_append, itsX, Option.bind_eq_some_iff] at H ⊢
    obtain ⟨s, hs, H⟩ := H
    obtain ⟨e1, h1, k1, k2⟩ := itsX_app H
    exact ⟨e1, h1, ⟨s, hs, k1⟩, k2⟩
theorem takeWhile_not : ∀ (l : List It) x, x ∈ l.takeWhile (fun x => !isO x) → isO x = false
  | [], _, h => by simp at h
  | y :: l, x, h => by
    rw [List.takeWhile_cons] at h
    split at h
    · rename_i hy
      rcases List.mem_cons.1 h with rfl | h
      · simpa using hy
      · exact takeWhile_not l x h
    · cases h

theorem draw_ok {P : Program} {g : G} {h : Hp} {w : World} {CC : CTy} {c : Cs} {ro : Option Nat} (HC : CallOk P CC c) {id : Nat} {ops : Array Oper} {Q : Exit → Act → World → Prop} {N : Nat} {its : List It} {e e' : Env} {a : Act} {h' : Hp}
    (hm : mtDraw P ops N its = true) (H : itsX (callee c) its e h = some (e', h')) (he : EnvRep g e a) (R : Rel g h w) (hCC : g.C = CC) (hN : a.tmps.size = N)
    (K : ∀ e2 a' w' g', (∀ t, Env.get e2 t = Env.get e' t) → Le g g' → Rel g' h' w' → EnvRep g' e2 a' → a'.tmps.size = N → a'.defers = a.defers → Fx w w' → Q .normal a' w') : (Code.region id ops true).wpIn (FR ro) 0 P Q a w := by
  rw [← List.takeWhile_append_dropWhile (p := fun x => !isO x) (l := its)] at H
  obtain ⟨e1, h1, k1, k2⟩ := itsX_app H
  obtain ⟨g1, l1, l2, l3⟩ := ghosts_ok (takeWhile_not its) k1 he R
  exact draw_ok1 HC hm k2 l3 l2 (l1.C.trans hCC) hN (fun e2 a' w' g' m0 m1 m2 m3 m4 m5 m6 => K e2 a' w' g' m0 (l1.trans m1) m2 m3 m4 m5 m6)

end Zv
end
section
set_option linter.unusedSimpArgs false
set_option linter.unusedVariables false
set_option linter.unusedSimpArgs false
namespace Zv
open Go

def quietI : It → Bool
  | .o _ op _ => rdk op.kd
  | _ => false
def panicky : It → Bool
  | .o _ (.call ..) _ => true
  | .o _ (.callk (.t _) ..) _ => true
  | .o _ (.pnc _) _ => true
  | _ => false
/-- What may panic stands behind quiet items alone, and ahead of what must wait for it. -/
def drawP : List It → List Nat → List It → Bool
  | it :: r, m :: ms, prev => (!panicky it || (prev.all quietI && ms.all fun q => q.testBit prev.length)) && drawP r ms (prev ++ [it])
  | [], _, _ => true
  | _ :: _, [], _ => false

theorem drawP_ok : ∀ {rest : List It} {ms : List Nat} {prev : List It} {j : Nat} {it : It}, drawP rest ms prev = true → rest[j]? = some it → panicky it = true →
    (∀ x itx, (prev ++ rest)[x]? = some itx → x < prev.length + j → quietI itx = true) ∧ ∀ k m, ms[k]? = some m → j < k → m.testBit (prev.length + j) = true
  | [], _, _, _, _, _, h, _ => by simp at h
  | y :: r, [], _, _, _, H, _, _ => by cases H
  | y :: r, m :: ms, prev, j, it, H, h, hp => by
    simp only [drawP, Bool.and_eq_true, Bool.or_eq_true, Bool.not_eq_true'] at H
    obtain ⟨H1, H2⟩ := H
    cases j with
    | zero =>
      simp only [List.getElem?_cons_zero, Option.some.injEq] at h
      subst h
      rcases H1 with H1 | ⟨H1, H3⟩
      · rw [hp] at H1; cases H1
      · refine ⟨fun x itx hx hlt => ?_, fun k q hk hlt => ?_⟩
        · rw [List.getElem?_append_left (by omega)] at hx
          exact List.all_eq_true.1 H1 _ (List.mem_of_getElem? hx)
        · obtain ⟨k, rfl⟩ : ∃ k', k = k' + 1 := ⟨k - 1, by omega⟩
          simp only [List.getElem?_cons_succ] at hk
          exact List.all_eq_true.1 H3 _ (List.mem_of_getElem? hk)
    | succ j =>
      simp only [List.getElem?_cons_succ] at h
      obtain ⟨q1, q2⟩ := drawP_ok H2 h hp
      rw [List.length_append, List.length_cons, List.length_nil] at q1 q2
      refine ⟨fun x itx hx hlt => ?_, fun k q hk hlt => ?_⟩
      · refine q1 x itx ?_ (by omega)
        rw [List.append_assoc]; exact hx
      · obtain ⟨k, rfl⟩ : ∃ k', k = k' + 1 := ⟨k - 1, by omega⟩
        simp only [List.getElem?_cons_succ] at hk
        have := q2 k q hk (by omega)
        rwa [show prev.length + (j + 1) = prev.length + (0 + 1) + j by omega]

theorem itP_o {cf : Cf} {e : Env} {h : Hp} {i : It} {p : Nat × D} {e1 : Env} {h1 : Hp} (H : itP cf e h i = some (some p, e1, h1)) : isO i = true := by
  cases i with
  | o => rfl
  | _ => simp only [itP, Option.map_eq_some_iff] at H; obtain ⟨s, _, hs⟩ := H; cases hs
theorem itsP_front {cf : Cf} : ∀ {A B : List It} {e : Env} {h : Hp} {p : Nat × D} {e1 : Env} {h1 : Hp}, (∀ x, x ∈ B → isO x = false) → itsP cf (A ++ B) e h = some (some p, e1, h1) → itsP cf A e h = some (some p, e1, h1)
  | [], B, e, h, p, e1, h1, hB, H => by
    exfalso
    induction B generalizing e h with
    | nil => cases H
    | cons b B ih =>
      simp only [List.nil_append, itsP, Option.bind_eq_some_iff] at H
      obtain ⟨⟨q, e2, h2⟩, hi, hr⟩ := H
      cases q with
      | some q => have := itP_o hi; rw [hB b (.head _)] at this; cases this
      | none => exact ih _ _ (fun x hx => hB x (.tail _ hx)) hr
  | a :: A, B, e, h, p, e1, h1, hB, H => by
    simp only [List.cons_append, itsP, Option.bind_eq_some_iff] at H ⊢
    obtain ⟨⟨q, e2, h2⟩, hi, hr⟩ := H
    refine ⟨_, hi, ?_⟩
    cases q with
    | some q => exact hr
    | none => exact itsP_front hB hr
theorem itsP_ghost {cf : Cf} : ∀ {A B : List It} {e : Env} {h : Hp} {p : Nat × D} {e1 : Env} {h1 : Hp}, (∀ x, x ∈ A → isO x = false) → itsP cf (A ++ B) e h = some (some p, e1, h1) → ∃ e2 h2, itsX cf A e h = some (e2, h2) ∧ itsP cf B e2 h2 = some (some p, e1, h1)
  | [], B, e, h, p, e1, h1, hB, H => ⟨e, h, rfl, H⟩
  | a :: A, B, e, h, p, e1, h1, hB, H => by
    simp only [List.cons_append, itsP, Option.bind_eq_some_iff] at H
    obtain ⟨⟨q, e2, h2⟩, hi, hr⟩ := H
    cases q with
    | some q => have := itP_o hi; rw [hB a (.head _)] at this; cases this
    | none =>
      obtain ⟨e3, h3, k1, k2⟩ := itsP_ghost (fun x hx => hB x (.tail _ hx)) hr
      exact ⟨e3, h3, by simp only [itsX, itP_X hi, Option.bind_some]; exact k1, k2⟩
theorem itsP_split {cf : Cf} : ∀ {A : List It} {e : Env} {h : Hp} {p : Nat × D} {e1 : Env} {h1 : Hp}, itsP cf A e h = some (some p, e1, h1) → ∃ pr it po eJ hJ e2, A = pr ++ it :: po ∧ itsX cf pr e h = some (eJ, hJ) ∧ itP cf eJ hJ it = some (some p, e2, h1)
  | [], e, h, p, e1, h1, H => by cases H
  | a :: A, e, h, p, e1, h1, H => by
    simp only [itsP, Option.bind_eq_some_iff] at H
    obtain ⟨⟨q, e2, h2⟩, hi, hr⟩ := H
    cases q with
    | some q => cases hr; exact ⟨[], a, A, e, h, e2, rfl, rfl, hi⟩
    | none =>
      obtain ⟨pr, it, po, eJ, hJ, e3, rfl, k1, k2⟩ := itsP_split hr
      exact ⟨a :: pr, it, po, eJ, hJ, e3, rfl, by simp only [itsX, itP_X hi, Option.bind_some]; exact k1, k2⟩

/-- The same item at an environment that is alike where it looks. -/
theorem itP_congr {cf : Cf} {dst : Option Nat} {op : AOp} {g : Option (Nat × Bool)} {e e' : Env} {h : Hp} {p : Nat × D} {e1 : Env} {h1 : Hp} (H : ∀ t, t ∈ usG g ++ op.us → Env.get e t = Env.get e' t) (k : itP cf e h (.o dst op g) = some (some p, e1, h1)) : ∃ e2, itP cf e' h (.o dst op g) = some (some p, e2, h1) := by
  have hw : want e g = want e' g := by
    cases g with
    | none => rfl
    | some p => simp only [want]; rw [H p.1 (by simp [usG])]
  have ho : opX cf e h op = opX cf e' h op := opX_congr (fun t ht => H t (List.mem_append_right _ ht))
  simp only [itP, Option.bind_eq_some_iff] at k ⊢
  obtain ⟨b, hb, k⟩ := k
  rw [hw] at hb
  split at k
  · rename_i hbt
    rw [ho] at k
    simp only [Option.bind_eq_some_iff, Option.map_eq_some_iff, Prod.mk.injEq] at k
    obtain ⟨r, hr, q, hq, k1, _, k2⟩ := k
    exact ⟨e'.putO dst r.1, b, hb, by rw [if_pos hbt, hr]; simp only [Option.bind_some, hq, Option.map_some, k1, k2]⟩
  · cases k
/-- Quiet items leave the heap, and what they do not set. -/
theorem quiet_its {cf : Cf} : ∀ {l : List It} {e : Env} {h : Hp} {e1 : Env} {h1 : Hp}, (∀ x, x ∈ l → quietI x = true) → itsX cf l e h = some (e1, h1) → h1 = h ∧ ∀ t, t ∉ dstsI l → Env.get e1 t = Env.get e t
  | [], e, h, e1, h1, _, H => by cases H; exact ⟨rfl, fun _ _ => rfl⟩
  | .o dst op g :: l, e, h, e1, h1, hq, H => by
    simp only [itsX, Option.bind_eq_some_iff, itX_eq, Option.map_eq_some_iff] at H
    obtain ⟨s, ⟨⟨v, h2⟩, hv, rfl⟩, H⟩ := H
    have hk : rdk op.kd = true := hq _ (.head _)
    obtain rfl := itV2r hk hv
    obtain ⟨rfl, k⟩ := quiet_its (fun x hx => hq x (.tail _ hx)) H
    refine ⟨rfl, fun t ht => ?_⟩
    cases dst with
    | none => exact k t ht
    | some d =>
      have ht : t ∉ d :: dstsI l := ht
      rw [List.mem_cons, not_or] at ht
      rw [k t ht.2]
      show (if t = d then v else e.get t) = _
      rw [if_neg ht.1]
  | .frz _ :: l, _, _, _, _, hq, _ => by have := hq _ (.head _); cases this
  | .fzd _ :: l, _, _, _, _, hq, _ => by have := hq _ (.head _); cases this
  | .kill _ :: l, _, _, _, _, hq, _ => by have := hq _ (.head _); cases this
theorem dstsI_mem {d : Nat} : ∀ {l : List It}, d ∈ dstsI l → ∃ x, x ∈ l ∧ dstI x = some d
  | [], h => by cases h
  | .o (some q) op g :: l, h => by
    have h : d ∈ q :: dstsI l := h
    rcases List.mem_cons.1 h with rfl | h
    · exact ⟨_, .head _, rfl⟩
    · obtain ⟨x, h1, h2⟩ := dstsI_mem h; exact ⟨x, .tail _ h1, h2⟩
  | .o none op g :: l, h => by obtain ⟨x, h1, h2⟩ := dstsI_mem (l := l) h; exact ⟨x, .tail _ h1, h2⟩
  | .frz _ :: l, h => by obtain ⟨x, h1, h2⟩ := dstsI_mem (l := l) h; exact ⟨x, .tail _ h1, h2⟩
  | .fzd _ :: l, h => by obtain ⟨x, h1, h2⟩ := dstsI_mem (l := l) h; exact ⟨x, .tail _ h1, h2⟩
  | .kill _ :: l, h => by obtain ⟨x, h1, h2⟩ := dstsI_mem (l := l) h; exact ⟨x, .tail _ h1, h2⟩
theorem mem_dstsI {d : Nat} : ∀ {l : List It} {x : It}, x ∈ l → dstI x = some d → d ∈ dstsI l
  | [], x, h, _ => by cases h
  | y :: l, x, h, hd => by
    have sub : ∀ y : It, d ∈ dstsI l → d ∈ dstsI (y :: l) := by
      intro y hh
      cases y with
      | o q op g => cases q with
        | none => exact hh
        | some q => exact .tail _ hh
      | _ => exact hh
    rcases List.mem_cons.1 h with rfl | h
    · cases x with
      | o q op g =>
        have hd : q = some d := hd
        subst hd
        exact .head _
      | _ => cases hd
    · exact sub y (mem_dstsI h hd)

section
variable {P : Program} {CC : CTy} {c : Cs} {ops : Array Oper} {its : List It} {N J t : Nat} {y : D} {h h1 : Hp} {eJ : Env} {Q : Exit → Act → World → Prop} {ro : Option Nat}

structure StP (CC : CTy) (c : Cs) (ops : Array Oper) (its : List It) (N J t : Nat) (y : D) (h h1 : Hp) (eJ : Env) (Q : Exit → Act → World → Prop)
    (lst : Array Bool) (rem : List (Nat × It)) (g : G) (e : Env) (a : Act) (w : World) : Prop where
  sz : lst.size = ops.size
  iff : ∀ j, j < J → (lst.getD j true = false ↔ ∃ it, (j, it) ∈ rem)
  hi : ∀ j, J ≤ j → j < ops.size → lst.getD j true = false
  ord : rem.Pairwise (fun p q => p.1 < q.1)
  at_ : ∀ p, p ∈ rem → its[p.1]? = some p.2
  lt : ∀ p, p ∈ rem → p.1 < J
  shut : Shut ops (fun k => lst.getD k false = true)
  run : ∃ e1, itsX (callee c) (rem.map (·.2)) e h = some (e1, h) ∧ EqE e1 eJ
  env : EnvRep g e a
  rel : Rel g h w
  tn : a.tmps.size = N
  K : ∀ a' w' g' v, Le g g' → Rel g' h1 w' → (∀ t, t ∉ dstsI its → a'.tmps.getD t undef = a.tmps.getD t undef) → RepD g'.φ y v → a'.tmps.size = N → a'.defers = a.defers → Fx w w' → Q (.panic (chainOf t v)) a' w'
  cc : g.C = CC

theorem panM (HC : CallOk P CC c) (hO : ∀ x, x ∈ its → isO x = true) (hmt : mtIts P ops N 0 its = true) (hb : backs 0 ops.toList = true) (hc : chk its (mks ops.toList []) [] = true) {itJ : It} (hJ : its[J]? = some itJ)
    (hquiet : ∀ x itx, its[x]? = some itx → x < J → quietI itx = true) (hafter : ∀ k m, (mks ops.toList [])[k]? = some m → J < k → m.testBit J = true) {e2 : Env} (hpan : itP (callee c) eJ h itJ = some (some (t, y), e2, h1)) :
    ∀ (fuel : Nat) (lst : Array Bool) (rem : List (Nat × It)) {g : G} {e : Env} {a : Act} {w : World}, StP CC c ops its N J t y h h1 eJ Q lst rem g e a w → rem.length + 1 ≤ fuel →
    wpAnyIn (FR ro) 0 P .any ops Q fuel lst a w := by
  have good : ∀ j mj, (mks ops.toList [])[j]? = some mj → GoodM ops j mj := mks_ok (ops := ops) (r := ops.toList) (acc := []) (by simp) (by simp)
  have hlen := mtIts_len hO hmt
  have hJlt : J < ops.size := by have := (List.getElem?_eq_some_iff.1 hJ).1; omega
  have hal : isAl itJ = false := by
    cases itJ with
    | o dst op gd =>
      cases hq : isAl (.o dst op gd) with
      | false => rfl
      | true =>
        obtain ⟨t', es, z, heq⟩ := isAl_eq hq
        cases heq
        simp only [itP, want, Option.bind_some, if_true, opX, Option.map_some] at hpan
        cases hpan
    | _ => rfl
  intro fuel
  induction fuel with
  | zero => intro lst rem g e a w S hl; omega
  | succ fuel ih =>
    intro lst rem g e a w S hl
    refine ⟨fun hr => ?_, fun i hi => ?_⟩
    · -- something is ready
      exfalso
      have key : ∀ i, lst.getD i true = false → i < ops.size → (∀ j, j < i → lst.getD j true = true) → False := by
        intro i h0 hlt hall
        have ho : ∃ o, ops[i]? = some o := ⟨ops[i], Array.getElem?_eq_getElem hlt⟩
        obtain ⟨o, ho⟩ := ho
        have hi : i ∈ Region.ready .any ops lst := by
          refine mem_ready.2 ⟨h0, o, ho, fun ed hed hbd => ?_⟩
          have hpr : ed.on ∈ pre o := List.mem_map.2 ⟨ed, List.mem_filter.2 ⟨Array.mem_toList_iff.2 hed, hbd⟩, rfl⟩
          have hltp := backs_ok hb (by rw [Array.getElem?_toList]; exact ho) _ hpr
          rw [Nat.zero_add] at hltp
          have hps : ed.on < lst.size := by rw [S.sz]; omega
          have := hall ed.on hltp
          rw [getD_lst hps] at this ⊢
          exact this
        rw [hr] at hi; cases hi
      have done : ∀ j, j < J → (∀ it, (j, it) ∉ rem) → lst.getD j true = true := by
        intro j hj hn
        cases hv : lst.getD j true with
        | true => rfl
        | false =>
          obtain ⟨it, hm⟩ := (S.iff j hj).1 hv
          exact absurd hm (hn it)
      cases hrem : rem with
      | nil => exact key J (S.hi J (Nat.le_refl _) hJlt) hJlt fun j hj => done j hj fun it hm => by rw [hrem] at hm; cases hm
      | cons p r =>
        have hp : p ∈ rem := by rw [hrem]; exact .head _
        have hpl := S.lt p hp
        refine key p.1 ((S.iff p.1 hpl).2 ⟨p.2, hp⟩) (by omega) fun j hj => done j (by omega) fun it hm => ?_
        have hord := S.ord
        rw [hrem] at hm hord
        rw [List.pairwise_cons] at hord
        rcases List.mem_cons.1 hm with e | hm
        · rw [← e] at hj; exact Nat.lt_irrefl _ hj
        · have := hord.1 _ hm; simp only at this; omega
    · obtain ⟨h0, o, ho, hall⟩ := mem_ready.1 hi
      have hlt : i < ops.size := (Array.getElem?_eq_some_iff.1 ho).1
      have hready : ∀ o', ops[i]? = some o' → ∀ p, p ∈ pre o' → lst.getD p false = true := by
        intro o' ho' p hp
        rw [ho] at ho'; cases ho'
        obtain ⟨ed, hed, rfl⟩ := List.mem_map.1 hp
        obtain ⟨hed, hbd⟩ := List.mem_filter.1 hed
        exact hall ed (Array.mem_toList_iff.1 hed) hbd
      have hat : ∃ it, its[i]? = some it := ⟨its[i]'(by omega), List.getElem?_eq_getElem (by omega)⟩
      obtain ⟨it, hat⟩ := hat
      obtain ⟨m, hm1, hm2, hm3⟩ := chk_ok hc hat
      simp only [List.nil_append, List.length_nil, Nat.zero_add] at hm2 hm3
      have hlisted : ∀ x, m.testBit x = true → lst.getD x false = true := good i m hm1 (fun k => lst.getD k false = true) S.shut hready
      have hundone : ∀ p, p ∈ rem → lst.getD p.1 false = false := by
        intro p hp
        have hpl := S.lt p hp
        have := (S.iff p.1 hpl).2 ⟨p.2, hp⟩
        rw [getD_lst (by rw [S.sz]; omega)] at this ⊢
        exact this
      -- what is left ahead of i changes places with it
      have hfree : ∀ q, q ∈ rem → q.1 < i → ok2 q.2 it = true := by
        intro q hq hqi
        rcases hm2 q.1 q.2 (S.at_ q hq) hqi with h1 | h1
        · have := hlisted _ h1; rw [hundone q hq] at this; cases this
        · exact h1
      rcases Nat.lt_trichotomy i J with hij | hij | hij
      · -- a quiet one
        obtain ⟨it', hm⟩ := (S.iff i hij).1 h0
        have hat' := S.at_ _ hm
        simp only at hat'
        rw [hat] at hat'
        cases hat'
        obtain ⟨pr, po, hrm⟩ := List.append_of_mem hm
        have hord := S.ord
        rw [hrm, List.pairwise_append, List.pairwise_cons] at hord
        obtain ⟨dst, op, gd, o', rfl, ho', hd, hdn, hg, hmop⟩ := mtIts_at hO hmt hat
        rw [Nat.zero_add, ho] at ho'
        cases ho'
        have hkd : rdk op.kd = true := hquiet i _ hat hij
        have hnal : isAl (.o dst op gd) = false := by
          cases hq : isAl (.o dst op gd) with
          | false => rfl
          | true =>
            obtain ⟨t', es, z, heq⟩ := isAl_eq hq
            cases heq
            simp [rdk, AOp.kd] at hkd
        have hind : ∀ x, x ∈ pr.map (·.2) → indep x (.o dst op gd) = true := by
          intro x hx
          obtain ⟨q, hq, rfl⟩ := List.mem_map.1 hx
          have := hfree q (by rw [hrm]; exact List.mem_append_left _ hq) (hord.2.2 _ hq (i, _) (List.mem_cons_self ..))
          unfold ok2 at this
          rw [if_neg (by rw [hnal]; simp)] at this
          exact this
        have hNL : op.kd = 1 → ∀ x, op.addr = some x → NL h.next (e.ev x) := by
          intro _ x hx
          have hrp : ∃ v, Rep g (e.ev x) v := by
            cases op <;> simp only [AOp.addr, Option.some.injEq, reduceCtorEq] at hx <;> subst hx <;> simp only [mtOp] at hmop <;> split at hmop <;> (try cases hmop) <;> simp only [Bool.and_eq_true] at hmop <;>
              first
                | exact ⟨_, opd_ok hmop.2 S.env⟩
                | exact ⟨_, opd_ok hmop.1.2 S.env⟩
          obtain ⟨v, hv⟩ := hrp
          rw [S.rel.nx]
          generalize e.ev x = z at hv
          cases hv with
          | ptr n tot i off hN hB => exact hN
          | map n hN => exact hN
          | _ => trivial
        obtain ⟨e1, H, hq⟩ := S.run
        rw [hrm] at H
        simp only [List.map_append, List.map_cons] at H
        obtain ⟨vi, h3, e1', b1, b2, b3⟩ := bubble hind (fun _ => keysLt S.rel) hNL H
        obtain rfl := itV2r hkd b1
        have hstep : itX (callee c) e h3 (.o dst op gd) = some (e.putO dst vi, h3) := by rw [itX_eq, b1]; rfl
        refine step_ok HC ho hd (fun d hd' => by subst hd'; simpa [dstOk] using hdn) hg hmop S.env S.rel S.cc S.tn hstep (fun a' w' g2 l1 l2 l3 l4 l5 l6 l7 => ?_)
        have hsub : (pr ++ po).Sublist (pr ++ (i, It.o dst op gd) :: po) := List.Sublist.append_left (List.sublist_cons_self ..) _
        have hilt : i < lst.size := by rw [S.sz]; exact hlt
        refine ih _ (pr ++ po) (g := g2) (e := e.putO dst vi) ⟨by simp [S.sz], fun j hj => ?_, fun j hj hjs => ?_, ?_, fun p hp => ?_, fun p hp => ?_, shut_set S.shut hready, ⟨e1', by simpa using b2, b3.trans hq⟩, l3, l2, l4, ?_, l1.C.trans S.cc⟩ ?_
        · by_cases hji : i = j
          · subst hji
            have : (lst.setIfInBounds i true).getD i true = true := by simp [hilt]
            rw [this]
            constructor
            · intro h; cases h
            · rintro ⟨it', hm'⟩
              rcases List.mem_append.1 hm' with hm' | hm'
              · have := hord.2.2 _ hm' (i, _) (List.mem_cons_self ..); exact absurd this (Nat.lt_irrefl _)
              · have := hord.2.1.1 _ hm'; exact absurd this (Nat.lt_irrefl _)
          · rw [getD_set_ne true hji, S.iff j hj, hrm]
            constructor
            · rintro ⟨it', hm'⟩
              refine ⟨it', ?_⟩
              rcases List.mem_append.1 hm' with hm' | hm'
              · exact List.mem_append_left _ hm'
              · rcases List.mem_cons.1 hm' with hm' | hm'
                · cases hm'; exact absurd rfl hji
                · exact List.mem_append_right _ hm'
            · rintro ⟨it', hm'⟩
              exact ⟨it', hsub.subset hm'⟩
        · rw [getD_set_ne true (show i ≠ j by omega)]; exact S.hi j hj hjs
        · have := S.ord; rw [hrm] at this; exact this.sublist hsub
        · exact S.at_ p (by rw [hrm]; exact hsub.subset hp)
        · exact S.lt p (by rw [hrm]; exact hsub.subset hp)
        · intro a2 w2 g3 v k1 k2 k3 k4 k5 k6 k7
          refine S.K a2 w2 g3 v (l1.trans k1) k2 (fun u hu => ?_) k4 k5 (k6.trans l5) (l6.trans k7)
          rw [k3 u hu, l7 u]
          intro hdu
          exact hu (mem_dstsI (List.mem_of_getElem? hat) hdu)
        · have : rem.length = (pr ++ po).length + 1 := by rw [hrm]; simp; omega
          omega
      · -- the one that panics
        subst hij
        rw [hJ] at hat
        cases hat
        obtain ⟨dst, op, gd, o', rfl, ho', hd, hdn, hg, hmop⟩ := mtIts_at hO hmt hJ
        rw [Nat.zero_add, ho] at ho'
        cases ho'
        obtain ⟨e1, H, hq⟩ := S.run
        have hqu : ∀ x, x ∈ rem.map (·.2) → quietI x = true := by
          intro x hx
          obtain ⟨q, hq, rfl⟩ := List.mem_map.1 hx
          exact hquiet q.1 q.2 (S.at_ q hq) (S.lt q hq)
        have hget := (quiet_its hqu H).2
        have hus : ∀ u, u ∈ usG gd ++ op.us → Env.get eJ u = Env.get e u := by
          intro u hu
          rw [← hq u]
          refine hget u fun hin => ?_
          obtain ⟨x, hx, hdx⟩ := dstsI_mem hin
          obtain ⟨q, hq, rfl⟩ := List.mem_map.1 hx
          have := hfree q hq (S.lt q hq)
          unfold ok2 at this
          rw [if_neg (by rw [hal]; simp)] at this
          obtain ⟨qi, qq⟩ := q
          cases qq with
          | o d2 o2 g2 =>
            simp only [indep, Bool.and_eq_true] at this
            have hap := (apart_ok this.2).1 u hdx
            exact hap.1 hu
          | _ => cases hdx
        obtain ⟨e3, hp⟩ := itP_congr hus hpan
        exact step_pan HC ho hg hmop S.env S.rel S.cc hp fun w' g' v l1 l2 l3 l4 => S.K a w' g' v l1 l2 (fun _ _ => rfl) l3 S.tn rfl l4
      · -- what waits for it is not ready
        exfalso
        have hbit := hafter i m hm1 hij
        have := hlisted J hbit
        have h2 := S.hi J (Nat.le_refl _) hJlt
        rw [getD_lst (by rw [S.sz]; exact hJlt)] at this h2
        rw [h2] at this; cases this
end

def mtPan (ops : Array Oper) (its : List It) : Bool := drawP ((its.dropWhile fun x => !isO x).takeWhile isO) (mks ops.toList []) []

theorem draw_pan {P : Program} {g : G} {h : Hp} {w : World} {CC : CTy} {c : Cs} {ro : Option Nat} (HC : CallOk P CC c) {id : Nat} {ops : Array Oper} {Q : Exit → Act → World → Prop} {N t : Nat} {y : D} {its : List It} {e e' : Env} {a : Act} {h' : Hp}
    (hm : mtDraw P ops N its = true) (hmp : mtPan ops its = true) (H : itsP (callee c) its e h = some (some (t, y), e', h')) (he : EnvRep g e a) (R : Rel g h w) (hCC : g.C = CC) (hN : a.tmps.size = N)
    (K : ∀ a' w' g' v, Le g g' → Rel g' h' w' → (∀ t, t ∉ dstsI its → a'.tmps.getD t undef = a.tmps.getD t undef) → RepD g'.φ y v → a'.tmps.size = N → a'.defers = a.defers → Fx w w' → Q (.panic (chainOf t v)) a' w') : (Code.region id ops true).wpIn (FR ro) 0 P Q a w := by
  rw [← List.takeWhile_append_dropWhile (p := fun x => !isO x) (l := its)] at H
  obtain ⟨e1, h1, k1, k2⟩ := itsP_ghost (takeWhile_not its) H
  obtain ⟨g1, l1, l2, l3⟩ := ghosts_ok (takeWhile_not its) k1 he R
  have hsubd : ∀ {A B : List It} u, u ∈ dstsI B → (∀ x, x ∈ B → x ∈ A) → u ∈ dstsI A := by
    intro A B u hu hs
    obtain ⟨x, hx, hd⟩ := dstsI_mem hu
    exact mem_dstsI (hs x hx) hd
  unfold mtPan at hmp
  unfold mtDraw at hm
  have hsub0 : ∀ x, x ∈ its.dropWhile (fun x => !isO x) → x ∈ its := fun x hx => (List.dropWhile_sublist _).subset hx
  generalize its.dropWhile (fun x => !isO x) = its1 at hm hmp k2 hsub0
  simp only [mtDraw1, Bool.and_eq_true] at hm
  obtain ⟨⟨⟨⟨m1, m2⟩, m3⟩, m4⟩, m5⟩ := hm
  rw [← List.takeWhile_append_dropWhile (p := isO) (l := its1)] at k2
  have k3 := itsP_front (fun x hx => by have := List.all_eq_true.1 m3 x hx; simpa using this) k2
  have hO := takeWhile_isO its1
  have hsub1 : ∀ x, x ∈ its1.takeWhile isO → x ∈ its := fun x hx => hsub0 x ((List.takeWhile_sublist _).subset hx)
  generalize its1.takeWhile isO = A at m2 m5 hmp k3 hO hsub1
  obtain ⟨pr, it, po, eJ, hJ, e2, hA, q1, q2⟩ := itsP_split k3
  have hJat : A[pr.length]? = some it := by rw [hA]; simp
  have hlen := mtIts_len hO m2
  -- the item that panics is one of those that may
  obtain ⟨dst, op, gd, o, rfl, ho, hd, hdn, hg, hmop⟩ := mtIts_at hO m2 hJat
  have hpk : panicky (.o dst op gd) = true := by
    simp only [itP, Option.bind_eq_some_iff] at q2
    obtain ⟨b, hb, q2⟩ := q2
    split at q2
    · simp only [Option.bind_eq_some_iff, Option.map_eq_some_iff, Prod.mk.injEq] at q2
      obtain ⟨⟨x, hh⟩, hop, p, hp, rfl, _, _⟩ := q2
      have hop := (panF_some hp).2
      rcases opP_cases hop with ⟨z, rfl⟩ | ⟨f, nm, xs, rfl | ⟨k, rfl⟩⟩
      · rfl
      · rfl
      · cases k with
        | t n => rfl
        | c v => cases hop
    · cases q2
  obtain ⟨d1, d2⟩ := drawP_ok hmp hJat hpk
  simp only [List.nil_append, List.length_nil, Nat.zero_add] at d1 d2
  refine wpIn_region_any m1 ?_
  have R' : Rel g1 h1 { w with drawn := w.drawn + 1 } := l2.world (fun _ _ => rfl)
  have hprq : ∀ x, x ∈ pr → quietI x = true := by
    intro x hx
    obtain ⟨k, hk⟩ := List.mem_iff_getElem?.1 hx
    have hkl := (List.getElem?_eq_some_iff.1 hk).1
    exact d1 k x (by rw [hA, List.getElem?_append_left hkl]; exact hk) hkl
  obtain ⟨rfl, _⟩ := quiet_its hprq q1
  have hprl : pr.length < A.length := by rw [hA]; simp
  refine panM HC (its := A) (J := pr.length) (h := hJ) (h1 := h') (eJ := eJ) (t := t) (y := y) hO m2 m4 m5 hJat d1 d2 q2 ops.size _ (enum 0 pr) (g := g1) (e := e1) ⟨by simp, fun j hj => ?_, fun j hj hjs => ?_, enum_ord _ _, fun p hp => ?_, fun p hp => ?_, fun k o ho hk => ?_, ⟨eJ, ?_, fun _ => rfl⟩, l3, R', hN, ?_, l1.C.trans hCC⟩ ?_
  · have hjs : j < ops.size := by omega
    have : (Array.replicate ops.size false).getD j true = false := by simp [hjs]
    rw [this]
    simp only [true_iff]
    exact ⟨pr[j], enum_mem.2 ⟨Nat.zero_le _, by simp [hj]⟩⟩
  · simp [hjs]
  · have := (enum_mem.1 hp).2
    rw [Nat.sub_zero] at this
    have hl := (List.getElem?_eq_some_iff.1 this).1
    rw [hA, List.getElem?_append_left hl]; exact this
  · have := (enum_mem.1 hp).2
    rw [Nat.sub_zero] at this
    exact (List.getElem?_eq_some_iff.1 this).1
  · have hlt : k < ops.size := (Array.getElem?_eq_some_iff.1 ho).1
    simp [hlt] at hk
  · rw [enum_snd]; exact q1
  · intro a' w' g' v k1 k2 k3 k4 k5 k6 k7
    exact K a' w' g' v (l1.trans k1) k2 (fun u hu => k3 u fun hin => hu (hsubd u hin hsub1)) k4 k5 k6 ((Fx.drawn w).trans k7)
  · have : (enum 0 pr).length = pr.length := by rw [← List.length_map (f := (·.2)), enum_snd]
    omega

end Zv
end
section
set_option linter.unusedSimpArgs false
set_option linter.unusedVariables false
set_option linter.unusedSimpArgs false
namespace Zv
open Go

section
variable {P : Program}

def mtC (P : Program) (T : Tab) (N : Nat) (rg : Bool) : Code → AC → Bool
  | .skip, .skip => true
  | .region _ ops draw, .reg its _ => if draw = true then mtDraw P ops N its && mtPan ops its else mtIts P ops N 0 its
  | .seq a b, .seq x y => mtC P T N rg a x && mtC P T N rg b y
  | .cond c a b, .cond x p q => mtOpd c x && mtC P T N rg a p && mtC P T N rg b q
  | .seq (.seq z (.cond c a b)) d, .amb y x p q r => mtC P T N rg z y && mtOpd c x && mtC P T N rg a p && mtC P T N rg b q && mtC P T N rg d r
  | .block i a, .blk j x => i == j && mtC P T N rg a x
  | .loop a, .loop x => mtC P T N rg a x
  | .exit i, .exit j => i == j
  | .ret, .ret => true
  | .rangeFunc g ps asg bdy, .rng x b => rg && mtOpd g x && (match T (RB + b) with
    | some fn => (match fn.body with
      | .seq p q => decide (ps.size = fn.np) && decide (ps.toList = fn.res.map (·.1)) && ps.toList.all (fun t => decide (t < N)) && mtC P T N false asg p && mtC P T N false bdy q
      | _ => false)
    | none => false)
  | _, _ => false

/-- The code of a round, by its number. -/
def LpC (P : Program) (T : Tab) : CTy := fun b ps asg bdy N => ∃ fn p q, T (RB + b) = some fn ∧ fn.body = .seq p q ∧ ps.size = fn.np ∧ ps.toList = fn.res.map (·.1) ∧ (∀ t, t ∈ ps.toList → t < N) ∧ mtC P T N false asg p = true ∧ mtC P T N false bdy q = true

def exitOf : Ex → Exit
  | .norm => .normal
  | .exit i => .exit i
  | .ret => .ret
  | .pan => .outgrown
/-- How a piece of code is left, and what is known then. -/
def EndR (g : G) (x : Ex) (e : Env) (a : Act) (ex : Exit) : Prop := match x with
  | .pan => ∃ t y v e1, e = (PK, .pan t y) :: e1 ∧ ex = .panic (chainOf t v) ∧ RepD g.φ y v ∧ EnvRep g e1 a
  | x => ex = exitOf x ∧ EnvRep g e a
theorem EndR.ne {g : G} {x : Ex} {e : Env} {a : Act} {ex : Exit} (h : EndR g x e a ex) (hx : x ≠ .norm) : ex ≠ .normal := by
  cases x with
  | norm => exact absurd rfl hx
  | exit i => rw [h.1]; simp [exitOf]
  | ret => rw [h.1]; simp [exitOf]
  | pan => obtain ⟨t, y, v, e1, _, rfl, _⟩ := h; simp
theorem EndR.then {g : G} {x : Ex} {e : Env} {a : Act} {ex : Exit} (h : EndR g x e a ex) (hx : x ≠ .norm) (nx : Act → World → Prop) (Q : Exit → Act → World → Prop) (w : World) : Exit.then nx Q ex a w = Q ex a w := by
  have := h.ne hx
  cases ex <;> first | rfl | exact absurd rfl this

/-! ### More is known later; what is kept may grow -/
structure LeF (g g' : G) : Prop where
  φ : ∀ b o, g.φ b = some o → g'.φ b = some o
  N : g.N ≤ g'.N
  B : ∀ n, n < g.N → g.B n ≤ g'.B n
  μ : ∀ n t, n < g.N → t ≤ g.B n → g'.μ n t = g.μ n t
  F : ∀ b o, g.F b = some o → g'.F b = some o
  C : g'.C = g.C
theorem Le.toF {g g' : G} (h : Le g g') : LeF g g' := ⟨h.φ, h.N, h.B, h.μ, fun b o hb => by rw [h.F]; exact hb, h.C⟩
theorem LeF.refl (g : G) : LeF g g := (Le.refl g).toF
theorem LeF.trans {a b c : G} (h : LeF a b) (k : LeF b c) : LeF a c :=
  ⟨fun _ _ x => k.φ _ _ (h.φ _ _ x), Nat.le_trans h.N k.N, fun n hn => Nat.le_trans (h.B n hn) (k.B n (Nat.lt_of_lt_of_le hn h.N)),
    fun n t hn ht => (k.μ n t (Nat.lt_of_lt_of_le hn h.N) (Nat.le_trans ht (h.B n hn))).trans (h.μ n t hn ht), fun _ _ x => k.F _ _ (h.F _ _ x), k.C.trans h.C⟩
theorem LeF.un {g g' : G} (h : LeF g g') : Le (g.un g'.F) g' := ⟨h.φ, h.N, h.B, h.μ, rfl, h.C⟩
theorem Rep.monoF {g g' : G} (h : LeF g g') {x : V} {v : Value} (hx : Rep g x v) : Rep g' x v := hx.un.mono h.un
theorem EnvRep.monoF {g g' : G} {e : Env} {a : Act} (hle : LeF g g') (he : EnvRep g e a) : EnvRep g' e a := fun t => (he t).monoF hle
/-- The same, with the kept blocks as they were. -/
theorem LeF.back {g g' : G} (h : LeF g g') : Le g (g'.un g.F) := ⟨h.φ, h.N, h.B, h.μ, rfl, h.C⟩

/-- A block that nobody knows. -/
theorem Rel.other {g : G} {h : Hp} {w w' : World} (R : Rel g h w) (d : Nat) (hw : ∀ b, b ≠ d → w'.heap[b]? = w.heap[b]?) (h1 : g.φ d = none) (h2 : g.F d = none) (h3 : ∀ n o, h.get n = some o → blk g n o ≠ d) : Rel g h w' := by
  refine ⟨R.nx, fun b o hb => ?_, R.nd, fun n q hn => ?_, R.sep, R.out, fun b o hb => ?_, R.kpo⟩
  · rw [hw b (fun e => by subst e; rw [h1] at hb; cases hb)]; exact R.fr b o hb
  · obtain ⟨k1, k2, k3⟩ := R.ob n q hn
    exact ⟨k1, k2, k3.mono (Le.refl g) k1 (by omega) (hw _ (h3 n q hn))⟩
  · rw [hw b (fun e => by subst e; rw [h2] at hb; cases hb)]; exact R.kp b o hb
/-- An object is gone; its block may turn. -/
theorem Rel.gone {g : G} {h : Hp} {w w' : World} (R : Rel g h w) {n : Nat} {o : Ob} (hn : h.get n = some o) (hw : ∀ b, b ≠ blk g n o → w'.heap[b]? = w.heap[b]?) : Rel g (h.kill n) w' := by
  have hg : ∀ m q, (h.kill n).get m = some q → m ≠ n ∧ h.get m = some q := by
    intro m q hm
    unfold Hp.get Hp.kill at hm
    rw [look_del m R.nd] at hm
    split at hm
    · cases hm
    · exact ⟨by assumption, hm⟩
  exact (R.kill n).other _ hw (R.out n o hn) (R.kpo n o hn) (fun m q hm => R.sep m n q o (hg m q hm).2 hn (hg m q hm).1)

/-- The marks of the ranges over functions that were entered: their blocks are kept. -/
def markOf (D : Nat) : Deferred := { target := .collected D, args := #[] }
structure Marks (g g' : G) (Ds : List Nat) : Prop where
  nd : Ds.Nodup
  new : ∀ D, D ∈ Ds → g.F D = none
  kept : ∀ D, D ∈ Ds → g'.F D = some (.deferred (some []))
theorem Marks.nil (g g' : G) : Marks g g' [] := ⟨List.nodup_nil, fun _ h => (by cases h), fun _ h => (by cases h)⟩
theorem Marks.app {g g1 g2 : G} {Ds Es : List Nat} (l : LeF g g1) (k : LeF g1 g2) (h1 : Marks g g1 Ds) (h2 : Marks g1 g2 Es) : Marks g g2 (Es ++ Ds) := by
  refine ⟨?_, fun D hD => ?_, fun D hD => ?_⟩
  · rw [List.nodup_append]
    refine ⟨h2.nd, h1.nd, ?_⟩
    rintro a ha b hb rfl
    have := h1.kept a hb
    rw [h2.new a ha] at this; cases this
  · rcases List.mem_append.1 hD with hD | hD
    · cases hq : g.F D with
      | none => rfl
      | some o => have := l.F _ _ hq; rw [h2.new D hD] at this; cases this
    · exact h1.new D hD
  · rcases List.mem_append.1 hD with hD | hD
    · exact h2.kept D hD
    · exact k.F _ _ (h1.kept D hD)

/-- What is handed on behind a piece of code. -/
def Post (N : Nat) (rg : Bool) (g : G) (w : World) (a : Act) (x : Ex) (e' : Env) (h' : Hp) (Q : Exit → Act → World → Prop) : Prop :=
  ∀ a' w' g' Ds ex, LeF g g' → Rel g' h' w' → EndR g' x e' a' ex → a'.tmps.size = N → a'.defers = Ds.map markOf ++ a.defers → Marks g g' Ds → Fx w w' → (rg = false → Ds = []) → Q ex a' w'

theorem get_keep (e : Env) : ∀ (l : List Nat) (t : Nat), Env.get (e.keep l) t = .undef ∨ Env.get (e.keep l) t = e.get t
  | [], _ => .inl rfl
  | u :: l, t => by
    show (if t = u then e.get u else Env.get (Env.keep e l) t) = .undef ∨ (if t = u then e.get u else Env.get (Env.keep e l) t) = e.get t
    by_cases h : t = u
    · subst h; rw [if_pos rfl]; exact .inr rfl
    · rw [if_neg h]; exact get_keep e l t
theorem env_keep {g : G} {e : Env} {a : Act} (kp : Option (List Nat)) (he : EnvRep g e a) : EnvRep g (keepE kp e) a := by
  cases kp with
  | none => exact he
  | some l =>
    intro t
    rcases get_keep e l t with h | h
    · show Rep g (Env.get (e.keep l) t) _; rw [h]; exact .undef _
    · show Rep g (Env.get (e.keep l) t) _; rw [h]; exact he t

theorem env_eq {g : G} {e e2 : Env} {a : Act} (h : ∀ t, Env.get e2 t = Env.get e t) (he : EnvRep g e2 a) : EnvRep g e a := fun t => by rw [← h t]; exact he t

theorem Post.next {N : Nat} {rg : Bool} {g g1 : G} {w w1 : World} {a a1 : Act} {x : Ex} {e' : Env} {h' : Hp} {Q : Exit → Act → World → Prop} (K : Post N rg g w a x e' h' Q) {Ds : List Nat} (l1 : LeF g g1) (d : a1.defers = Ds.map markOf ++ a.defers) (m : Marks g g1 Ds) (f : Fx w w1) (hd : rg = false → Ds = []) : Post N rg g1 w1 a1 x e' h' Q :=
  fun a2 w2 g2 Es ex m1 m2 m3 m4 m5 m6 m7 m8 => K a2 w2 g2 (Es ++ Ds) ex (l1.trans m1) m2 m3 m4 (by rw [m5, d, List.map_append, List.append_assoc]) (m.app l1 m1 m6) (f.trans m7) (fun h => by rw [m8 h, hd h]; rfl)

theorem condB_ok {g : G} {x : V} {b : Bool} {v : Value} (h : condB x = some b) (hx : Rep g x v) : v = .bool b := by
  unfold condB at h
  split at h
  · cases h; exact hx.boolI
  · cases h

theorem joinV_ok {g : G} {a b c : V} {v : Value} (h : joinV a b = some c) : (Rep g a v → Rep g c v) ∧ (Rep g b v → Rep g c v) := by
  unfold joinV at h
  split at h
  · rename_i hb; cases h
    have := V.beq_eq hb
    subst this
    exact ⟨id, id⟩
  · split at h
    · cases h
      constructor
      · intro r
        cases r with | tl _ _ es a vs hes hr ha hn hf => exact .tl [] none es a vs hes hr ha (fun q hq => by cases hq) hf
      · intro r
        cases r with | tl _ _ es a vs hes hr ha hn hf => exact .tl [] none es a vs hes hr ha (fun q hq => by cases hq) hf
    · cases h
theorem joinE_ok {g : G} {a : Act} : ∀ {e f j : List (Nat × V)}, joinE e f = some j → ∀ t, (Rep g (Env.get e t) (a.tmps.getD t undef) → Rep g (Env.get j t) (a.tmps.getD t undef)) ∧ (Rep g (Env.get f t) (a.tmps.getD t undef) → Rep g (Env.get j t) (a.tmps.getD t undef))
  | [], [], _, h, t => by cases h; exact ⟨id, id⟩
  | (u, x) :: r, (u', y) :: s, j, h, t => by
    unfold joinE at h
    split at h
    case isFalse => cases h
    rename_i hu
    subst hu
    simp only [Option.bind_eq_some_iff, Option.map_eq_some_iff] at h
    obtain ⟨v, h1, k, h2, rfl⟩ := h
    show (Rep g (if t = u then x else Env.get r t) _ → Rep g (if t = u then v else Env.get k t) _) ∧ (Rep g (if t = u then y else Env.get s t) _ → Rep g (if t = u then v else Env.get k t) _)
    by_cases ht : t = u
    · rw [if_pos ht, if_pos ht, if_pos ht]; exact joinV_ok h1
    · rw [if_neg ht, if_neg ht, if_neg ht]; exact joinE_ok h2 t
  | [], _ :: _, _, h, _ => by cases h
  | _ :: _, [], _, h, _ => by cases h
theorem outJoin_np {o q r : Out} (h : outJoin o q = some r) : r.1 ≠ .pan := by
  unfold outJoin at h
  split at h
  · rename_i hc
    simp only [Option.map_eq_some_iff] at h
    obtain ⟨e, he, rfl⟩ := h
    exact hc.2.1
  · cases h
theorem outJoin_eq {o q r : Out} (h : outJoin o q = some r) : o.1 = r.1 ∧ q.1 = r.1 ∧ o.2.2 = r.2.2 ∧ q.2.2 = r.2.2 ∧ joinE o.2.1 q.2.1 = some r.2.1 := by
  unfold outJoin at h
  split at h
  · rename_i hc
    obtain ⟨h1, _, h2, h3⟩ := hc
    simp only [Option.map_eq_some_iff] at h
    obtain ⟨e, he, rfl⟩ := h
    refine ⟨rfl, h1.symm, rfl, ?_, he⟩
    obtain ⟨x, e1, ob, nx⟩ := o
    obtain ⟨x', e2, ob', nx'⟩ := q
    cases objsBeq_eq h2; cases h3; rfl
  · cases h

theorem exec_ok {T : Tab} {c : Cs} (HC : CallOk P (LpC P T) c) (k : Nat) {N : Nat} (rg : Bool) {ro : Option Nat} (hro : rg = true → ro = none) : ∀ (code : Code) (ac : AC) {g : G} {h : Hp} {w : World} {e : Env} {a : Act} {x : Ex} {e' : Env} {h' : Hp} {Q : Exit → Act → World → Prop},
    mtC P T N rg code ac = true → exec (fun b => loopN b k) (callee c) ac e h = some (x, e', h') → EnvRep g e a → Rel g h w → g.C = LpC P T → a.tmps.size = N → Post N rg g w a x e' h' Q → code.wpIn (FR ro) 0 P Q a w := by
  intro code ac
  induction ac generalizing code with
  | skip =>
    intro g h w e a x e' h' Q hm H he R hC hN K
    cases code <;> simp only [mtC, Bool.false_eq_true] at hm
    unfold exec at H
    cases H
    exact wpIn_skip (K a w g [] _ (LeF.refl g) R ⟨rfl, he⟩ hN rfl (Marks.nil g g) (Fx.refl w) (fun _ => rfl))
  | reg its kp =>
    intro g h w e a x e' h' Q hm H he R hC hN K
    cases code <;> simp only [mtC, Bool.false_eq_true] at hm
    rename_i id ops draw
    unfold exec at H
    simp only [Option.map_eq_some_iff] at H
    obtain ⟨⟨pn, e1, h1⟩, hi, hq⟩ := H
    cases pn with
    | none =>
      cases hq
      have hi := itsP_X hi
      cases draw with
      | true =>
        rw [if_pos rfl, Bool.and_eq_true] at hm
        exact draw_ok HC hm.1 hi he R hC hN (fun e2 a' w' g' heq l1 l2 l3 l4 l5 l6 => K a' w' g' [] _ l1.toF l2 ⟨rfl, env_keep kp (env_eq heq l3)⟩ l4 l5 (Marks.nil g g') l6 (fun _ => rfl))
      | false =>
        rw [if_neg (by simp)] at hm
        refine wpIn_region ?_
        have := its_ok HC (ro := ro) (Q := Q) its 0 hm hi he R hC hN (fun a' w' g' l1 l2 l3 l4 l5 l6 => K a' w' g' [] _ l1.toF l2 ⟨rfl, env_keep kp l3⟩ l4 l5 (Marks.nil g g') l6 (fun _ => rfl))
        rw [Nat.sub_zero] at this
        rw [List.range_eq_range']
        exact this
    | some pn =>
      obtain ⟨t, y⟩ := pn
      cases hq
      cases draw with
      | true =>
        rw [if_pos rfl, Bool.and_eq_true] at hm
        exact draw_pan HC hm.1 hm.2 hi he R hC hN (fun a' w' g' v l1 l2 l3 l4 l5 l6 l7 => K a' w' g' [] _ l1.toF l2 ⟨t, y, v, _, rfl, rfl, l4, env_keepP kp he l1 l3⟩ l5 l6 (Marks.nil g g') l7 (fun _ => rfl))
      | false =>
        rw [if_neg (by simp)] at hm
        refine wpIn_region ?_
        have := its_pan HC (ro := ro) (Q := Q) its 0 hm hi he R hC hN (fun a' w' g' v l1 l2 l3 l4 l5 l6 l7 => K a' w' g' [] _ l1.toF l2 ⟨t, y, v, _, rfl, rfl, l4, env_keepP kp he l1 l3⟩ l5 l6 (Marks.nil g g') l7 (fun _ => rfl))
        rw [Nat.sub_zero] at this
        rw [List.range_eq_range']
        exact this
  | seq p q ihp ihq =>
    intro g h w e a x e' h' Q hm H he R hC hN K
    cases code <;> simp only [mtC, Bool.false_eq_true] at hm
    rename_i c1 c2
    simp only [Bool.and_eq_true] at hm
    unfold exec at H
    simp only [Option.bind_eq_some_iff] at H
    obtain ⟨⟨x1, e1, h1⟩, h2, h3⟩ := H
    refine wpIn_seq ?_
    refine ihp c1 hm.1 h2 he R hC hN ?_
    intro a1 w1 g1 Ds ex l1 l2 l3 l4 l5 l6 l7 l8
    cases x1 with
    | norm =>
      obtain ⟨rfl, l3⟩ := l3
      show c2.wpIn (FR ro) 0 P Q a1 w1
      exact ihq c2 hm.2 h3 l3 l2 (l1.C.trans hC) l4 (K.next l1 l5 l6 l7 l8)
    | exit i => cases h3; rw [l3.then (by simp)]; exact K a1 w1 g1 Ds ex l1 l2 l3 l4 l5 l6 l7 l8
    | ret => cases h3; rw [l3.then (by simp)]; exact K a1 w1 g1 Ds ex l1 l2 l3 l4 l5 l6 l7 l8
    | pan => cases h3; rw [l3.then (by simp)]; exact K a1 w1 g1 Ds ex l1 l2 l3 l4 l5 l6 l7 l8
  | cond cx p q ihp ihq =>
    intro g h w e a x e' h' Q hm H he R hC hN K
    cases code <;> simp only [mtC, Bool.false_eq_true] at hm
    rename_i cc c1 c2
    simp only [Bool.and_eq_true] at hm
    unfold exec at H
    simp only [Option.bind_eq_some_iff] at H
    obtain ⟨t, ht, H⟩ := H
    have hv := condB_ok ht (opd_ok hm.1.1 he)
    refine wpIn_cond hv ?_
    cases t with
    | true => rw [if_pos rfl] at H; exact ihp c1 hm.1.2 H he R hC hN K
    | false => rw [if_neg (by simp)] at H; exact ihq c2 hm.2 H he R hC hN K
  | amb pz cx p q r' ihz ihp ihq ihr =>
    intro g h w e a x e' h' Q hm H he R hC hN K
    have hshape : ∃ cz cc c1 c2 c3, code = .seq (.seq cz (.cond cc c1 c2)) c3 := by
      cases code with
      | seq c0 c3 =>
        cases c0 with
        | seq cz c0 =>
          cases c0 with
          | cond cc c1 c2 => exact ⟨_, _, _, _, _, rfl⟩
          | _ => simp [mtC] at hm
        | _ => simp [mtC] at hm
      | _ => simp [mtC] at hm
    obtain ⟨cz, cc, c1, c2, c3, rfl⟩ := hshape
    simp only [mtC] at hm
    simp only [Bool.and_eq_true] at hm
    unfold exec at H
    simp only [Option.bind_eq_some_iff] at H
    obtain ⟨⟨x0, e0, h0⟩, hz2, hz3⟩ := H
    refine wpIn_seq (wpIn_seq ?_)
    refine ihz cz hm.1.1.1.1 hz2 he R hC hN ?_
    intro a0 w0 g0 Ds0 ex0 l1 l2 l3 l4 l5 l6 l7 l8
    cases x0 with
    | exit i => cases hz3; rw [l3.then (by simp), l3.then (by simp)]; exact K a0 w0 g0 Ds0 ex0 l1 l2 l3 l4 l5 l6 l7 l8
    | ret => cases hz3; rw [l3.then (by simp), l3.then (by simp)]; exact K a0 w0 g0 Ds0 ex0 l1 l2 l3 l4 l5 l6 l7 l8
    | pan => cases hz3; rw [l3.then (by simp), l3.then (by simp)]; exact K a0 w0 g0 Ds0 ex0 l1 l2 l3 l4 l5 l6 l7 l8
    | norm =>
    obtain ⟨rfl, l3⟩ := l3
    show (Code.cond cc c1 c2).wpIn (FR ro) 0 P (Exit.then (c3.wpIn (FR ro) 0 P Q) Q) a0 w0
    have K0 := K.next l1 l5 l6 l7 l8
    have hz4 : ambB cx (exec (fun b => loopN b k) (callee c) p) (exec (fun b => loopN b k) (callee c) q) (exec (fun b => loopN b k) (callee c) r') e0 h0 = some (x, e', h') := hz3
    have hC0 := l1.C.trans hC
    have sq : ∀ (e' : Env) (cp : Code) (p : AC), (∀ {g : G} {h : Hp} {w : World} {e : Env} {a : Act} {x : Ex} {e' : Env} {h' : Hp} {Q : Exit → Act → World → Prop},
        exec (fun b => loopN b k) (callee c) p e h = some (x, e', h') → EnvRep g e a → Rel g h w → g.C = LpC P T → a.tmps.size = N → Post N rg g w a x e' h' Q → cp.wpIn (FR ro) 0 P Q a w) →
        (exec (fun b => loopN b k) (callee c) p e0 h0).bind (nxt (exec (fun b => loopN b k) (callee c) r')) = some (x, e', h') → Post N rg g0 w0 a0 x e' h' Q → cp.wpIn (FR ro) 0 P (Exit.then (c3.wpIn (FR ro) 0 P Q) Q) a0 w0 := by
      intro e' cp p ihp' H K0
      simp only [Option.bind_eq_some_iff] at H
      obtain ⟨⟨x1, e1, h1⟩, h2, h3⟩ := H
      refine ihp' h2 l3 l2 hC0 l4 ?_
      intro a1 w1 g1 Ds ex m1 m2 m3 m4 m5 m6 m7 m8
      cases x1 with
      | norm =>
        obtain ⟨rfl, m3⟩ := m3
        show c3.wpIn (FR ro) 0 P Q a1 w1
        exact ihr c3 hm.2 h3 m3 m2 (m1.C.trans hC0) m4 (K0.next m1 m5 m6 m7 m8)
      | exit i => cases h3; rw [m3.then (by simp)]; exact K0 a1 w1 g1 Ds ex m1 m2 m3 m4 m5 m6 m7 m8
      | ret => cases h3; rw [m3.then (by simp)]; exact K0 a1 w1 g1 Ds ex m1 m2 m3 m4 m5 m6 m7 m8
      | pan => cases h3; rw [m3.then (by simp)]; exact K0 a1 w1 g1 Ds ex m1 m2 m3 m4 m5 m6 m7 m8
    unfold ambB at hz4
    have hop := opd_ok hm.1.1.1.2 l3
    split at hz4
    · rename_i hu
      rw [hu] at hop
      rw [Option.bind_eq_some_iff] at hz4
      obtain ⟨o1, h1, hz4⟩ := hz4
      rw [Option.bind_eq_some_iff] at hz4
      obtain ⟨⟨y2, f2, k2⟩, h2, h3⟩ := hz4
      obtain ⟨y1, f1, k1⟩ := o1
      have hxp := outJoin_np h3
      obtain ⟨q1, q2, q3, q4, q5⟩ := outJoin_eq h3
      simp only at q1 q2 q3 q4 q5
      subst q1 q2 q3 q4
      have jn : ∀ (f : Env), (∀ (g : G) (a : Act) t, Rep g (Env.get f t) (a.tmps.getD t undef) → Rep g (Env.get e' t) (a.tmps.getD t undef)) → ∀ g a ex, EndR g y2 f a ex → EndR g y2 e' a ex := by
        intro f hf g a ex hr
        cases y2 with
        | pan => exact absurd rfl hxp
        | norm => exact ⟨hr.1, fun t => hf g a t (hr.2 t)⟩
        | exit i => exact ⟨hr.1, fun t => hf g a t (hr.2 t)⟩
        | ret => exact ⟨hr.1, fun t => hf g a t (hr.2 t)⟩
      generalize hfe : a0.eval cc = fv at hop
      cases hop with | ub t =>
      refine wpIn_cond hfe ?_
      cases t with
      | true => exact sq f1 c1 p (fun H he R hC hN K => ihp c1 hm.1.1.2 H he R hC hN K) h1 (fun a w g Ds ex r1 r2 r3 r4 r5 r6 r7 r8 => K0 a w g Ds ex r1 r2 (jn f1 (fun g a t => (joinE_ok q5 t).1) g a ex r3) r4 r5 r6 r7 r8)
      | false => exact sq f2 c2 q (fun H he R hC hN K => ihq c2 hm.1.2 H he R hC hN K) h2 (fun a w g Ds ex r1 r2 r3 r4 r5 r6 r7 r8 => K0 a w g Ds ex r1 r2 (jn f2 (fun g a t => (joinE_ok q5 t).2) g a ex r3) r4 r5 r6 r7 r8)
    · rw [Option.bind_eq_some_iff] at hz4
      obtain ⟨t, ht, H⟩ := hz4
      have hv := condB_ok ht hop
      refine wpIn_cond hv ?_
      cases t with
      | true => rw [if_pos rfl] at H; exact sq e' c1 p (fun H he R hC hN K => ihp c1 hm.1.1.2 H he R hC hN K) H K0
      | false => rw [if_neg (by simp)] at H; exact sq e' c2 q (fun H he R hC hN K => ihq c2 hm.1.2 H he R hC hN K) H K0
  | blk id p ihp =>
    intro g h w e a x e' h' Q hm H he R hC hN K
    cases code <;> simp only [mtC, Bool.false_eq_true] at hm
    rename_i i c1
    simp only [Bool.and_eq_true, beq_iff_eq] at hm
    obtain ⟨rfl, hm⟩ := hm
    unfold exec at H
    simp only [Option.map_eq_some_iff] at H
    obtain ⟨⟨x1, e1, h1⟩, h2, h3⟩ := H
    cases h3
    refine wpIn_block ?_
    refine ihp c1 hm h2 he R hC hN ?_
    intro a1 w1 g1 Ds ex l1 l2 l3 l4 l5 l6 l7 l8
    cases x1 with
    | norm =>
      obtain ⟨rfl, l3⟩ := l3
      exact K a1 w1 g1 Ds _ l1 l2 ⟨rfl, l3⟩ l4 l5 l6 l7 l8
    | exit j =>
      obtain ⟨rfl, l3⟩ := l3
      show if j = i then Q .normal a1 w1 else Q (.exit j) a1 w1
      by_cases hj : j = i
      · subst hj
        rw [if_pos rfl]
        exact K a1 w1 g1 Ds _ l1 l2 (by rw [if_pos rfl]; exact ⟨rfl, l3⟩) l4 l5 l6 l7 l8
      · rw [if_neg hj]
        exact K a1 w1 g1 Ds _ l1 l2 (by rw [if_neg (by simpa using hj)]; exact ⟨rfl, l3⟩) l4 l5 l6 l7 l8
    | ret =>
      obtain ⟨rfl, l3⟩ := l3
      exact K a1 w1 g1 Ds _ l1 l2 ⟨rfl, l3⟩ l4 l5 l6 l7 l8
    | pan =>
      obtain ⟨t, y, v, e2, h4, rfl, h5, h6⟩ := l3
      exact K a1 w1 g1 Ds _ l1 l2 ⟨t, y, v, e2, h4, rfl, h5, h6⟩ l4 l5 l6 l7 l8
  | loop p ihp =>
    intro g h w e a x e' h' Q hm H he R hC hN K
    cases code <;> simp only [mtC, Bool.false_eq_true] at hm
    rename_i c1
    unfold exec at H
    have key : ∀ n, ∀ (g : G) (h : Hp) (w : World) (e : Env) (a : Act), loopN (exec (fun b => loopN b k) (callee c) p) n e h = some (x, e', h') → EnvRep g e a → Rel g h w → g.C = LpC P T → a.tmps.size = N → Post N rg g w a x e' h' Q →
        ∀ (b : Frame) (kk : List Item) (cs : List Frame), b.roundOf = (FR ro).round → (FR ro).fn b.fn → (FR ro).room (cs.length + 1 + 0) → ∃ e a' w', Q e a' w' ∧ ArrivesIn (Machine.fenced P (FR ro)) P (lone (b.atR a (.code c1 :: .inLoop c1 :: kk)) cs w) b kk cs e a' w' := by
      intro n
      induction n with
      | zero => intro g h w e a hn; cases hn
      | succ n ih =>
        intro g h w e a hn he R hC hN K b kk cs hb1 hb2 hb3
        unfold loopN at hn
        simp only [Option.bind_eq_some_iff] at hn
        obtain ⟨⟨x1, e1, h1⟩, h2, h3⟩ := hn
        -- one round, with what follows as its post
        let Q1 : Exit → Act → World → Prop := fun ex a1 w1 => match x1 with
          | .norm => ex = .normal ∧ ∀ (b : Frame) (kk : List Item) (cs : List Frame), b.roundOf = (FR ro).round → (FR ro).fn b.fn → (FR ro).room (cs.length + 1 + 0) → ∃ e a' w', Q e a' w' ∧ ArrivesIn (Machine.fenced P (FR ro)) P (lone (b.atR a1 (.code c1 :: .inLoop c1 :: kk)) cs w1) b kk cs e a' w'
          | _ => ex ≠ .normal ∧ Q ex a1 w1
        have hround : c1.wpIn (FR ro) 0 P Q1 a w := by
          refine ihp c1 hm h2 he R hC hN ?_
          intro a1 w1 g1 Ds ex l1 l2 l3 l4 l5 l6 l7 l8
          cases x1 with
          | norm => exact ⟨l3.1, ih g1 h1 w1 e1 a1 h3 l3.2 l2 (l1.C.trans hC) l4 (K.next l1 l5 l6 l7 l8)⟩
          | exit i => cases h3; exact ⟨l3.ne (by simp), K a1 w1 g1 Ds ex l1 l2 l3 l4 l5 l6 l7 l8⟩
          | ret => cases h3; exact ⟨l3.ne (by simp), K a1 w1 g1 Ds ex l1 l2 l3 l4 l5 l6 l7 l8⟩
          | pan => cases h3; exact ⟨l3.ne (by simp), K a1 w1 g1 Ds ex l1 l2 l3 l4 l5 l6 l7 l8⟩
        obtain ⟨ex, a1, w1, hq, harr⟩ := hround b (.inLoop c1 :: kk) cs hb1 hb2 hb3
        cases x1 with
        | norm =>
          obtain ⟨rfl, hrest⟩ := hq
          obtain ⟨e2, a2, w2, q2, harr2⟩ := hrest b kk cs hb1 hb2 hb3
          exact ⟨e2, a2, w2, q2, .of_steps (StepsIn.trans harr (.one (fenced_calm hb2 hb3 rfl) stepR_inLoop)) harr2⟩
        | exit i =>
          obtain ⟨hne, hq⟩ := hq
          exact ⟨_, a1, w1, hq, .pass (x := .inLoop c1) rfl (fun _ _ => .inl hne) harr⟩
        | ret =>
          obtain ⟨hne, hq⟩ := hq
          exact ⟨_, a1, w1, hq, .pass (x := .inLoop c1) rfl (fun _ _ => .inl hne) harr⟩
        | pan =>
          obtain ⟨hne, hq⟩ := hq
          exact ⟨_, a1, w1, hq, .pass (x := .inLoop c1) rfl (fun _ _ => .inl hne) harr⟩
    intro b kk cs hb1 hb2 hb3
    obtain ⟨e2, a2, w2, q2, harr⟩ := key k g h w e a H he R hC hN K b kk cs hb1 hb2 hb3
    exact ⟨e2, a2, w2, q2, .of_steps (.one (fenced_calm hb2 hb3 rfl) stepR_loop) harr⟩
  | exit id =>
    intro g h w e a x e' h' Q hm H he R hC hN K
    cases code <;> simp only [mtC, Bool.false_eq_true] at hm
    simp only [beq_iff_eq] at hm
    subst hm
    unfold exec at H
    cases H
    exact wpIn_exit (K a w g [] _ (LeF.refl g) R ⟨rfl, he⟩ hN rfl (Marks.nil g g) (Fx.refl w) (fun _ => rfl))
  | ret =>
    intro g h w e a x e' h' Q hm H he R hC hN K
    cases code <;> simp only [mtC, Bool.false_eq_true] at hm
    unfold exec at H
    cases H
    exact wpIn_ret (K a w g [] _ (LeF.refl g) R ⟨rfl, he⟩ hN rfl (Marks.nil g g) (Fx.refl w) (fun _ => rfl))
  | rng gx b =>
    intro g h w e a x e' h' Q hm H he R hC hN K
    cases code <;> simp only [mtC, Bool.false_eq_true] at hm
    rename_i gop ps asg bdy
    simp only [Bool.and_eq_true] at hm
    obtain ⟨⟨hrg, hmo⟩, hm⟩ := hm
    obtain rfl := hro hrg
    have hL : LpC P T b ps asg bdy N := by
      split at hm
      · rename_i fn hT
        split at hm
        · rename_i p q hb
          simp only [Bool.and_eq_true, decide_eq_true_eq, List.all_eq_true] at hm
          exact ⟨fn, p, q, hT, hb, hm.1.1.1.1, hm.1.1.1.2, hm.1.1.2, hm.1.2, hm.2⟩
        · cases hm
      · cases hm
    clear hm
    unfold exec at H
    split at H
    case isFalse => cases H
    rename_i hclo
    simp only [Option.bind_eq_some_iff] at H
    obtain ⟨⟨rv, h2⟩, hcall0, hend⟩ := H
    obtain ⟨hcall, hrv⟩ := np_some hcall0
    have hfr := opd_ok hmo he
    generalize e.ev gx = fv at hcall hfr hclo
    cases fv with
    | clo fid caps =>
      simp only [callee] at hcall
      split at hcall
      · cases hcall
      rename_i hy
      obtain ⟨⟨fn, hfn, hbd, hname⟩, hc⟩ := HC.fn _ _ _ _ _ hy hcall
      generalize hfe : a.eval gop = fval at hfr
      cases hfr with | clo _ _ cv hcr =>
      refine wpIn_rangeFunc (fun fno _ => ?_)
      -- the record
      let rec0 : Loop := { state := .ready, pending := none, fn := fno, tmps := a.tmps, params := ps, assign := asg, body := bdy, defers := w.heap.size }
      let w1 := w.alloc (.deferred (some []))
      let w2 := w1.alloc (.loop rec0)
      obtain ⟨a1, a2, a3⟩ := heap_alloc w (.deferred (some []))
      obtain ⟨b1, b2, b3⟩ := heap_alloc w1 (.loop rec0)
      have hs1 : w1.heap.size = w.heap.size + 1 := World.size_alloc ..
      obtain ⟨o1, o2, o3⟩ := R.old
      let F1 : Nat → Option Obj := fun d => if d = w.heap.size then some (.deferred (some [])) else g.F d
      have R1 : Rel (g.un F1) h w1 := (R.world a2).un (fun d o hd => by
          have hd' : (if d = w.heap.size then some (Obj.deferred (some [])) else g.F d) = some o := hd
          split at hd'
          · rename_i he; subst he; cases hd'; exact ⟨a1, o1⟩
          · exact (R.world a2).kp d o hd') (fun n o hn => by
          show (if blk g n o = w.heap.size then _ else g.F (blk g n o)) = none
          rw [if_neg (o3 n o hn)]; exact (R.world a2).kpo n o hn)
      have hput := R1.put (h' := h.alloc (.lp b e none)) (w' := w2) h.next (.lp b e none) ⟨w1.heap.size, 0, 0, 0⟩ (.inr R.nx) (by show h.next + 1 = max g.N (h.next + 1); have := R.nx; omega) (nodup_alloc R _) (fun m o hm => by
          rw [get_alloc] at hm
          split at hm
          · cases hm; exact .inl ⟨by assumption, rfl⟩
          · exact .inr ⟨by assumption, hm⟩) (.inl rfl) (fun d hd _ => b2 d hd) (by
          refine ⟨rec0, ?_, fun t => ?_, ?_, rfl, rfl⟩
          · show w2.heap[((g.un F1).put h.next 0 ⟨w1.heap.size, 0, 0, 0⟩).μ h.next 0 |>.b]? = _
            have : (((g.un F1).put h.next 0 ⟨w1.heap.size, 0, 0, 0⟩).μ h.next 0).b = w1.heap.size := by simp [G.put]
            rw [this]; exact b1
          · exact ((he t).un (F := F1)).mono (Le.put (g := g.un F1) (.inr R.nx))
          · show g.C b ps asg bdy a.tmps.size
            rw [hC, hN]; exact hL)
      obtain ⟨le1, R2⟩ := hput
      have hμ : (((g.un F1).put h.next (Ob.lp b e none).tot ⟨w1.heap.size, 0, 0, 0⟩).μ h.next 0) = ⟨w1.heap.size, 0, 0, 0⟩ := by simp [G.put, Ob.tot]
      generalize hg1 : (g.un F1).put h.next (Ob.lp b e none).tot ⟨w1.heap.size, 0, 0, 0⟩ = g1 at le1 R2 hμ
      have lF1 : LeF g g1 := ⟨le1.φ, le1.N, le1.B, le1.μ, fun d o hd => by
        rw [le1.F]
        show (if d = w.heap.size then some (Obj.deferred (some [])) else g.F d) = some o
        rw [if_neg (fun e => by subst e; rw [o2] at hd; cases hd)]; exact hd, le1.C⟩
      have hNn : h.next < g1.N := by rw [← hg1]; show h.next < max g.N (h.next + 1); omega
      have hyv : Rep g1 (.yld h.next) (.func (.yield (w.heap.size + 1)) #[] #[]) := by
        have := Rep.yld (g := g1) h.next hNn
        rw [hμ, hs1] at this
        exact this
      have hcc : g1.C = LpC P T := le1.C.trans hC
      refine ⟨w.heap.size + 1, [markOf w.heap.size], w2, ⟨.fn (.func fid) cv.toArray, #[.func (.yield (w.heap.size + 1)) #[] #[]]⟩, w2, fid, (.func (.yield (w.heap.size + 1)) #[] #[] :: cv).toArray, w2, ?_, ?_, fun _ _ => trivial, ?_, fun hd => (by cases hd), ?_⟩
      · exact run_enterLoop_outer ..
      · have hev : ∀ v : Value, a.eval (.const v) = v := fun _ => rfl
        simp only [resolve, rangeCall, hfe, Deferred.ofValue, Sem.run_bind, Sem.run_pure, Result.andThen_ok]
        congr 2
        simp [hev]
      · have hb' : fn.body.isNone = false := by cases hq : fn.body <;> simp_all
        simp only [invoke, callFunc, Sem.run_bind, Sem.run_pure, Result.andThen_ok, run_program, hfn, hname, hb', Bool.false_eq_true, if_false]
        congr 2
        apply Array.ext'
        simp
      · refine callsIn_wide.2 ((hc g1 w2 _ R2 hcc (.cons _ _ _ _ hyv (hcr.un.mono le1))).mono ?_)
        rintro e3 w3 ⟨g2, m1, m2, m3', m4⟩
        obtain ⟨v, rfl, m3⟩ := m3'.np hrv
        unfold rngEnd at hend
        have key : ∀ s, (∃ b' e'', h2.get h.next = some (.lp b' e'' s)) → s ≠ some .norm → s ≠ some .pan → (x = (match s with | none => Ex.norm | some y => y)) → e' = e → h' = h2.kill h.next → rangePost (FR none) (0 - 1) P (w.heap.size + 1) Q { a with defers := [markOf w.heap.size] ++ a.defers } (.returned v) w3 := by
          rintro s ⟨b', e'', hget⟩ hs hsp rfl rfl rfl
          obtain ⟨q1, q2, r, q3, q4, q5, q6⟩ := m2.ob _ _ hget
          have hμ2 : (g2.μ h.next 0) = ⟨w1.heap.size, 0, 0, 0⟩ := by rw [m1.μ _ _ hNn (Nat.zero_le _)]; exact hμ
          rw [hμ2] at q3
          simp only at q3
          rw [hs1] at q3
          have hst : r.state ≠ .busy := by
            cases s with
            | none => rw [q6.1]; simp
            | some y => cases y with
              | norm => exact absurd rfl hs
              | exit i => rw [q6.1]; simp
              | ret => rw [q6.1]; simp
              | pan => exact absurd rfl hsp
          refine ⟨r.pending, _, run_endLoop q3 hst, ?_⟩
          have hblk : blk g2 h.next (.lp b' e'' s) = w.heap.size + 1 := by
            show (g2.μ h.next 0).b = _; rw [hμ2]; exact hs1
          have R4 : Rel g2 (h2.kill h.next) (w3.putObj (w.heap.size + 1) (.loop { r with state := .exhausted })) := m2.gone hget (fun d hd => World.putObj_heap_other (by rw [← hblk]; exact hd))
          have hFx : Fx w (w3.putObj (w.heap.size + 1) (.loop { r with state := .exhausted })) := (a3.trans (b3.trans m4)).trans ⟨rfl, rfl, rfl, by rw [World.putObj_size]; exact Nat.le_refl _⟩
          have hM : Marks g g2 [w.heap.size] := by
            refine ⟨by simp, fun D hD => ?_, fun D hD => ?_⟩
            · simp at hD; subst hD; exact o2
            · simp at hD; subst hD
              rw [m1.F, le1.F]
              show (if w.heap.size = w.heap.size then some (Obj.deferred (some [])) else g.F _) = _
              rw [if_pos rfl]
          have hK := fun ex hex => K { a with defers := [markOf w.heap.size] ++ a.defers } _ g2 [w.heap.size] ex (lF1.trans m1.toF) R4 hex hN rfl hM hFx (fun h => by rw [hrg] at h; cases h)
          have hev := he.monoF (lF1.trans m1.toF)
          cases s with
          | none => simp only [q6.2] at hK ⊢; exact hK _ ⟨rfl, hev⟩
          | some y => cases y with
            | norm => exact absurd rfl hs
            | exit i => simp only [q6.2] at hK ⊢; exact wpIn_exit (hK _ ⟨rfl, hev⟩)
            | ret => simp only [q6.2] at hK ⊢; exact wpIn_ret (hK _ ⟨rfl, hev⟩)
            | pan => exact absurd rfl hsp
        split at hend
        · rename_i b' e'' hget; cases hend; exact key none ⟨b', e'', hget⟩ (by simp) (by simp) rfl rfl rfl
        · rename_i b' e'' i hget; cases hend; exact key (some (.exit i)) ⟨b', e'', hget⟩ (by simp) (by simp) rfl rfl rfl
        · rename_i b' e'' hget; cases hend; exact key (some .ret) ⟨b', e'', hget⟩ (by simp) (by simp) rfl rfl rfl
        · cases hend
    | _ => cases hclo
  | dfr its kp f xs r' ih => intro g h w e a x e' h' Q hm H; cases H
  | rcv d d2 kp r' ih => intro g h w e a x e' h' Q hm H; cases H

end
end Zv
end
section
set_option linter.unusedSimpArgs false
set_option linter.unusedVariables false
set_option linter.unusedSimpArgs false
namespace Zv
open Go

section
variable {P : Program}

/-! ### The state behind a function that hands back data -/

/-- The state behind the call: new blocks stay as they are; no new name is in use. -/
def G.back (g1 : G) (n0 : Nat) (new : Nat → Prop) [DecidablePred new] (w : World) : G :=
  { φ := fun b => if new b then w.heap[b]? else g1.φ b, μ := g1.μ, N := n0, B := g1.B, F := g1.F, C := g1.C }

theorem mapM_cons {α β : Type} {f : α → Option β} {a : α} {l : List α} {r : List β} (h : (a :: l).mapM f = some r) : ∃ b s, f a = some b ∧ l.mapM f = some s ∧ r = b :: s := by
  rw [List.mapM_cons] at h
  cases hb : f a with
  | none => rw [hb] at h; cases h
  | some b =>
    rw [hb] at h
    cases hs : l.mapM f with
    | none => rw [hs] at h; cases h
    | some s => rw [hs] at h; cases h; exact ⟨b, s, rfl, rfl, rfl⟩
theorem mapM_length {α β : Type} {f : α → Option β} : ∀ {l : List α} {r : List β}, l.mapM f = some r → r.length = l.length
  | [], r, h => by cases h; rfl
  | a :: l, r, h => by
    obtain ⟨b, s, _, h2, rfl⟩ := mapM_cons h
    simp [mapM_length h2]

section
variable {g1 : G} {h : Hp} {w : World} {φ2 : Nat → Option Obj} {n0 : Nat}

/-- What is read deeply as data: blocks of new rows stay as they are. -/
theorem deep_ok (R : Rel g1 h w) (hφ : ∀ b o, g1.φ b = some o → φ2 b = some o) (hnew : ∀ n es els, n0 ≤ n → h.get n = some (.arr es els) → φ2 (blk g1 n (.arr es els)) = w.heap[blk g1 n (.arr es els)]?) :
    ∀ (k : Nat), (∀ (x : V) (y : D) (v : Value), deep h n0 k x = some y → Rep g1 x v → RepD φ2 y v) ∧
      (∀ (x : V) (y : D) (seg : List Value), deep h n0 k x = some y → Reps g1 x.cells seg → (∀ u, u ∈ seg → leaf u) → RepDs φ2 y.cells seg ∧ y.cells.length = x.cells.length)
  | 0 => ⟨fun x y v H => by simp [deep] at H, fun x y seg H => by simp [deep] at H⟩
  | k + 1 => by
    obtain ⟨ih1, ih2⟩ := deep_ok R hφ hnew k
    -- lists of whole elements
    have flat : ∀ (l : List V) (ds : List D) (vs : List Value), l.mapM (deep h n0 k) = some ds → Reps g1 (l.flatMap V.cells) vs → (∀ u, u ∈ vs → leaf u) → RepDs φ2 (ds.flatMap D.cells) vs ∧ ∀ es, (∀ x, x ∈ l → x.cells.length = es) → ∀ y, y ∈ ds → y.cells.length = es := by
      intro l
      induction l with
      | nil =>
        intro ds vs H hr hf
        cases H
        cases hr
        exact ⟨.nil, fun _ _ y hy => by cases hy⟩
      | cons x l ih =>
        intro ds vs H hr hf
        obtain ⟨y, s, h1, h2, rfl⟩ := mapM_cons H
        rw [List.flatMap_cons] at hr
        obtain ⟨r1, r2⟩ := hr.split
        obtain ⟨q1, q2⟩ := ih2 x y _ h1 r1 (fun u hu => hf u (List.mem_of_mem_take hu))
        obtain ⟨q3, q4⟩ := ih s _ h2 r2 (fun u hu => hf u (List.mem_of_mem_drop hu))
        refine ⟨?_, fun es hes z hz => ?_⟩
        · rw [List.flatMap_cons, ← List.take_append_drop x.cells.length vs]
          exact q1.app q3
        · rcases List.mem_cons.1 hz with rfl | hz
          · rw [q2]; exact hes x (by simp)
          · exact q4 es (fun u hu => hes u (by simp [hu])) z hz
    -- cells, one by one
    have cells : ∀ (l : List V) (ds : List D) (vs : List Value), l.mapM (deep h n0 k) = some ds → Reps g1 l vs → (∀ u, u ∈ vs → leaf u) → RepDs φ2 ds vs := by
      intro l
      induction l with
      | nil => intro ds vs H hr hf; cases H; cases hr; exact .nil
      | cons x l ih =>
        intro ds vs H hr hf
        obtain ⟨y, s, h1, h2, rfl⟩ := mapM_cons H
        cases hr with | cons _ _ v vs hx hs =>
        exact .cons y s v vs (ih1 x y v h1 hx) (ih s vs h2 hs (fun u hu => hf u (List.mem_cons_of_mem _ hu))) (hf v List.mem_cons_self)
    have one : ∀ (x : V) (y : D) (v : Value), deep h n0 (k + 1) x = some y → Rep g1 x v → RepD φ2 y v := by
      intro x y v H hx
      cases x with
      | d z => simp only [deep] at H; cases H; exact hx.dI.mono hφ
      | tl l nl =>
        simp only [deep, Option.map_eq_some_iff] at H
        obtain ⟨ds, hds, rfl⟩ := H
        cases hx with | tl _ _ es a vs hes hr ha hn hf =>
        obtain ⟨q1, q2⟩ := flat l ds vs hds hr hf
        rw [show l.length = ds.length from (mapM_length hds).symm]
        refine .lst ds es ds.length a vs (q2 es hes) (Nat.le_refl _) q1 (ha.imp (fun e => by subst e; cases hds; rfl) fun ⟨b, p, e, hat⟩ => ⟨b, p, e, hat.mono hφ⟩)
      | agg l =>
        simp only [deep, Option.map_eq_some_iff] at H
        obtain ⟨ds, hds, rfl⟩ := H
        cases hx with | agg _ vs hr hf =>
        exact .agg ds vs (cells l ds vs hds hr hf)
      | own n e tot off len =>
        simp only [deep] at H
        split at H
        case isFalse => cases H
        rename_i hn0
        simp only [Option.bind_eq_some_iff] at H
        obtain ⟨⟨es, els⟩, hrow, H⟩ := H
        obtain ⟨hn, rfl⟩ := row_get hrow
        simp only at H
        split at H
        case isFalse => cases H
        rename_i hle
        simp only [Option.map_eq_some_iff] at H
        obtain ⟨ds, hds, rfl⟩ := H
        obtain ⟨hnN, hnB, c, ty, vs, h1, h2, h3, h4, h5, h6, h7⟩ := R.ob n _ hn
        have hblk := hnew n es els hn0 hn
        rw [show w.heap[blk g1 n (.arr es els)]? = some (.cells c ty (0, 0)) from h1] at hblk
        cases hx with | own _ _ _ _ _ cap q hes hN hB hz0 hl hto hc hsz =>
        have hl2 : ((els.drop off).take len).length = len := by rw [List.length_take, List.length_drop]; omega
        have hdl : ds.length = len := by rw [mapM_length hds, hl2]
        have hr : Reps g1 (((els.drop off).take len).flatMap V.cells) ((vs.drop (off * es)).take (len * es)) := by
          rw [← flat_take len (fun x hx => h4 x (List.mem_of_mem_drop hx)), ← flat_drop off h4]
          exact (h5.drop _).take _
        obtain ⟨q1, q2⟩ := flat _ ds _ hds hr (fun u hu => h6 u (List.mem_of_mem_drop (List.mem_of_mem_take hu)))
        rw [← hdl]
        refine .lst ds es cap (some q) ((vs.drop (off * es)).take (len * es)) (q2 es (fun y hy => h4 y (List.mem_of_mem_drop (List.mem_of_mem_take hy)))) (by omega) q1 ?_
        rcases Nat.eq_zero_or_pos len with h0 | h0
        · left; exact List.eq_nil_of_length_eq_zero (by omega)
        · right
          rcases hz0 with hz0 | hz0
          · omega
          · refine ⟨_, _, congrArg some hz0, fun j v hj => ?_⟩
            rw [List.getElem?_take] at hj
            split at hj
            · rw [List.getElem?_drop] at hj
              have := h7 _ _ hj
              unfold cellφ
              rw [show φ2 (g1.μ n els.length).b = some (.cells c ty (0, 0)) from hblk]
              rw [h3.1]
              show c[_]? = some v
              rw [← this]
              congr 1
              omega
            · cases hj
      | _ => simp only [deep] at H; cases H
    refine ⟨one, fun x y seg H hr hf => ?_⟩
    cases x with
    | d z =>
      simp only [deep] at H
      cases H
      exact ⟨(Reps.to_map_d hr hf).mono hφ, by simp [V.cells]⟩
    | agg l =>
      simp only [deep, Option.map_eq_some_iff] at H
      obtain ⟨ds, hds, rfl⟩ := H
      exact ⟨cells l ds seg hds hr hf, mapM_length hds⟩
    | tl l nl =>
      have H' := H
      simp only [deep, Option.map_eq_some_iff] at H'
      obtain ⟨ds, hds, rfl⟩ := H'
      cases hr with | cons _ _ v vs hx hs =>
      cases hs
      exact ⟨.cons _ _ _ _ (one _ _ v H hx) .nil (hf v List.mem_cons_self), rfl⟩
    | own n e tot off len =>
      have hy : ∃ ds, y = .lst ds := by
        have H' := H
        simp only [deep] at H'
        split at H'
        case isFalse => cases H'
        simp only [Option.bind_eq_some_iff] at H'
        obtain ⟨r, _, H'⟩ := H'
        split at H'
        case isFalse => cases H'
        simp only [Option.map_eq_some_iff] at H'
        obtain ⟨ds, _, rfl⟩ := H'
        exact ⟨ds, rfl⟩
      obtain ⟨ds, rfl⟩ := hy
      cases hr with | cons _ _ v vs hx hs =>
      cases hs
      exact ⟨.cons _ _ _ _ (one _ _ v H hx) .nil (hf v List.mem_cons_self), rfl⟩
    | _ => simp only [deep] at H; cases H
end

/-! ### Results -/

def mtRes (P : Program) : List ResultVar → List (Nat × Option (Bool × Nat)) → Bool
  | [], [] => true
  | .tmp t :: l, (u, none) :: r => t == u && mtRes P l r
  | .cell t ty :: l, (u, some (ag, sz)) :: r => t == u && (P.underlying ty).isSome && (P.info? ty).isSome && agOf P ty == ag && P.cellsOf ty == sz && mtRes P l r
  | _, _ => false

theorem as_sure {a : Value} {ty : TypeId} {w : World} (h : ∃ q, a = .pointer (some q)) : (do loadVar ty (← asAddr a) : Sem Value).run P w = (Instr.loadAt ty a).run P w := by
  obtain ⟨q, rfl⟩ := h
  simp [Instr.loadAt, asAddr, Instr.sureAddr, Sem.run_bind]
theorem ld_ptr {ag : Bool} {sz : Nat} {h : Hp} {x z : V} {g : G} {a : Value} (H : ld ag sz h x = some z) (hx : Rep g x a) : ∃ q, a = .pointer (some q) := by
  cases hx <;> simp only [ld] at H <;> first | exact ⟨_, rfl⟩ | cases H

theorem results_run {fn : Func} {rs : List (Nat × Option (Bool × Nat))} (hr : mtRes P fn.results.toList rs = true) {g : G} {h : Hp} {e : Env} {a : Act} {w : World} {xs : List V} (he : EnvRep g e a) (R : Rel g h w) (hx : resL e h rs = some xs) :
    ∃ vs : List Value, (results fn a.tmps).run P w = .ok (if h : vs.toArray.size = 1 then vs.toArray[0] else .tuple vs.toArray) w ∧ Reps g xs vs := by
  have gen : ∀ (f : ResultVar → Sem Value), (∀ t, f (.tmp t) = pure (a.tmps.getD t undef)) → (∀ t ty, f (.cell t ty) = (do loadVar ty (← asAddr (a.tmps.getD t undef)))) → ∀ (l : List ResultVar) (rs : List (Nat × Option (Bool × Nat))) (xs : List V), mtRes P l rs = true → resL e h rs = some xs →
      ∃ vs : List Value, (l.mapM f).run P w = .ok vs w ∧ Reps g xs vs := by
    intro f hf1 hf2 l
    induction l with
    | nil =>
      intro rs xs hm hx
      cases rs with
      | nil => cases hx; exact ⟨[], rfl, .nil⟩
      | cons r rs => cases hm
    | cons v l ih =>
      intro rs xs hm hx
      cases rs with
      | nil => cases v <;> cases hm
      | cons r rs =>
        obtain ⟨u, o⟩ := r
        cases v with
        | tmp t =>
          cases o with
          | some q => simp [mtRes] at hm
          | none =>
            simp only [mtRes, Bool.and_eq_true, beq_iff_eq] at hm
            obtain ⟨rfl, hm⟩ := hm
            simp only [resL, Option.map_eq_some_iff] at hx
            obtain ⟨ys, hy, rfl⟩ := hx
            obtain ⟨vs, h1, h2⟩ := ih rs ys hm hy
            refine ⟨a.tmps.getD t undef :: vs, ?_, .cons _ _ _ _ (he t) h2⟩
            rw [List.mapM_cons]
            simp only [Sem.run_bind, hf1, Sem.run_pure, Result.andThen_ok, h1]
        | cell t ty =>
          cases o with
          | none => simp [mtRes] at hm
          | some q =>
            obtain ⟨ag, sz⟩ := q
            simp only [mtRes, Bool.and_eq_true, beq_iff_eq] at hm
            obtain ⟨⟨⟨⟨⟨rfl, k1⟩, k2⟩, k3⟩, k4⟩, hm⟩ := hm
            simp only [resL, Option.bind_eq_some_iff, Option.map_eq_some_iff] at hx
            obtain ⟨z, hz, ys, hy, rfl⟩ := hx
            obtain ⟨vs, h1, h2⟩ := ih rs ys hm hy
            obtain ⟨v, q1, q2⟩ := ld_ok k1 k2 k3 k4 R hz (he t)
            refine ⟨v :: vs, ?_, .cons _ _ _ _ q2 h2⟩
            rw [List.mapM_cons]
            simp only [hf2]
            rw [Sem.run_bind, as_sure (ld_ptr hz (he t)), q1]
            simp only [Sem.run_bind, Sem.run_pure, Result.andThen_ok, h1]
  unfold results
  simp only [Sem.run_bind]
  have key : ∀ (f : ResultVar → Sem Value), (∀ t, f (.tmp t) = pure (a.tmps.getD t undef)) → (∀ t ty, f (.cell t ty) = (do loadVar ty (← asAddr (a.tmps.getD t undef)))) → ∃ vs : List Value, (fn.results.mapM f).run P w = .ok vs.toArray w ∧ Reps g xs vs := by
    intro f h1 h2
    obtain ⟨vs, q1, q2⟩ := gen f h1 h2 _ rs xs hr hx
    refine ⟨vs, ?_, q2⟩
    rw [← Array.toArray_toList (xs := fn.results), List.mapM_toArray, Sem.run_map, q1]
    rfl
  obtain ⟨vs, q1, q2⟩ := key (fun x => match x with
    | .tmp t => pure (a.tmps.getD t undef)
    | .cell b t => do loadVar t (← asAddr (a.tmps.getD b undef))) (fun t => rfl) (fun t ty => rfl)
  refine ⟨vs, ?_, q2⟩
  refine Eq.trans (congrArg (fun r => Result.andThen r _) q1) ?_
  rfl

theorem resV_ok {g : G} : ∀ {l : List V} {vs : List Value}, Reps g l vs → Rep g (resV l) (if h : vs.toArray.size = 1 then vs.toArray[0] else .tuple vs.toArray)
  | [], _, .nil => .tup [] [] .nil
  | [x], _, .cons _ _ v _ hx .nil => by simpa [resV] using hx
  | x :: y :: l, _, .cons _ _ v _ hx (.cons _ _ u us hy hs) => by
    rw [dif_neg (by simp)]
    exact .tup _ _ (.cons _ _ _ _ hx (.cons _ _ _ _ hy hs))

theorem look_suffix : ∀ {new base : List (Nat × Ob)} {n : Nat} {o : Ob}, ((new ++ base).map (·.1)).Nodup → look base n = some o → look (new ++ base) n = some o := by
  intro new base n o hd hb
  exact look_of_mem hd (List.mem_append_right _ (look_mem hb))

theorem finish_ok {fn : AF} {g0 g1 : G} {h0 h1 : Hp} {w0 w1 : World} {e : Env} {x : V} {h' : Hp} {xs : List V} {vs : List Value} (R0 : Rel g0 h0 w0) (R1 : Rel g1 h1 w1) (hle : Le g0 g1) (hx : resL e h1 fn.res = some xs) (H : finish fn h0 e h1 = some (x, h'))
    (hr : Reps g1 xs vs) : ∃ g', Le g0 g' ∧ Rel g' h' w1 ∧ Rep g' x (if h : vs.toArray.size = 1 then vs.toArray[0] else .tuple vs.toArray) := by
  unfold finish at H
  rw [hx] at H
  simp only [Option.bind_some] at H
  split at H
  · split at H
    case isFalse => cases H
    rename_i hsuf
    simp only [Option.map_eq_some_iff] at H
    obtain ⟨l, hl, heq⟩ := H
    cases heq
    -- the heap: new objects ahead of the old ones
    obtain ⟨new, hobjs⟩ : ∃ new, h1.objs = new ++ h0.objs := by
      refine ⟨h1.objs.take (h1.objs.length - h0.objs.length), ?_⟩
      have := objsBeq_eq hsuf
      exact ((List.take_append_drop _ _).symm.trans (congrArg (h1.objs.take (h1.objs.length - h0.objs.length) ++ ·) this.symm))
    have hold : ∀ n o, h0.get n = some o → h1.get n = some o := by
      intro n o hn
      unfold Hp.get at hn ⊢
      rw [hobjs]
      exact look_suffix (by rw [← hobjs]; exact R1.nd) hn
    have hnewN : ∀ n o, h1.get n = some o → g0.N ≤ n → h0.get n = none := by
      intro n o hn hge
      cases hq : h0.get n with
      | none => rfl
      | some q => have := (R0.ob n q hq).1; omega
    classical
    let nb : Nat → Prop := fun b => ∃ n o, h1.get n = some o ∧ g0.N ≤ n ∧ b = blk g1 n o
    let g2 : G := g1.back g0.N nb w1
    have hnbφ : ∀ b, nb b → g1.φ b = none := by
      rintro b ⟨n, o, hn, _, rfl⟩
      exact R1.out n o hn
    have hφ12 : ∀ b o, g1.φ b = some o → g2.φ b = some o := by
      intro b o hb
      show (if nb b then w1.heap[b]? else g1.φ b) = some o
      rw [if_neg (fun hn => by rw [hnbφ b hn] at hb; cases hb)]
      exact hb
    have hle2 : Le g0 g2 := ⟨fun b o hb => hφ12 b o (hle.φ b o hb), Nat.le_refl _, hle.B, hle.μ, hle.F, hle.C⟩
    have hlt1 : ∀ n o, h0.get n = some o → n < g0.N := fun n o hn => (R0.ob n o hn).1
    have R2 : Rel g2 h0 w1 := by
      refine ⟨R0.nx, fun b o hb => ?_, R0.nd, fun n o hn => ?_, fun n m o p hn hm hnm => R1.sep n m o p (hold n o hn) (hold m p hm) hnm, fun n o hn => ?_, fun b o hb => ?_, fun n o hn => R1.kpo n o (hold n o hn)⟩
      · have hb' : (if nb b then w1.heap[b]? else g1.φ b) = some o := hb
        split at hb'
        · exact hb'
        · exact R1.fr b o hb'
      · obtain ⟨a1, a2, a3⟩ := R0.ob n o hn
        obtain ⟨b1, b2, b3⟩ := R1.ob n o (hold n o hn)
        refine ⟨a1, b2, ?_⟩
        cases o with
        | arr es els =>
          obtain ⟨c0, ty0, vs0, p1, p2, p3, p4, p5, p6, p7⟩ := a3
          obtain ⟨c, ty, vs, q1, q2, q3, q4, q5, q6, q7⟩ := b3
          exact ⟨c, ty, vs, q1, q2, q3, q4, Reps.back (g0 := g0) (g1 := g1) (g2 := g2) (Nat.le_refl _) rfl rfl hφ12 p5 q5, q6, q7⟩
        | lp b0 ev s0 =>
          obtain ⟨r0, p1, p2, p3, p4⟩ := a3
          obtain ⟨r1, q1, q2, q3, q4⟩ := b3
          exact ⟨r1, q1, fun t => Rep.back (g0 := g0) (g1 := g1) (g2 := g2) (Nat.le_refl _) rfl rfl hφ12 (p2 t) (q2 t), q3, q4⟩
        | mp kvs =>
          obtain ⟨es0, cl0, p1, p2⟩ := a3
          obtain ⟨es, cl, q1, q2⟩ := b3
          exact ⟨es, cl, q1, RepKvs.back (g0 := g0) (g1 := g1) (g2 := g2) (Nat.le_refl _) rfl rfl hφ12 p2 q2⟩
      · show (if nb (blk g1 n o) then w1.heap[blk g1 n o]? else g1.φ (blk g1 n o)) = none
        rw [if_neg ?_]
        · exact R1.out n o (hold n o hn)
        · rintro ⟨m, p, hm, hge, he⟩
          exact R1.sep n m o p (hold n o hn) hm (by have := hlt1 n o hn; omega) he
      · refine ⟨(R1.kp b o hb).1, ?_⟩
        show (if nb b then w1.heap[b]? else g1.φ b) = none
        rw [if_neg ?_]
        · exact (R1.kp b o hb).2
        · rintro ⟨m, p, hm, _, he⟩
          have hk := R1.kpo m p hm
          rw [← he] at hk
          rw [show g2.F = g1.F from rfl, hk] at hb
          cases hb
    refine ⟨g2, hle2, R2, ?_⟩
    have hdeep := deep_ok (n0 := h0.next) (φ2 := g2.φ) R1 hφ12 (fun n es els hge hn => by
      show (if nb (blk g1 n (.arr es els)) then w1.heap[blk g1 n (.arr es els)]? else g1.φ (blk g1 n (.arr es els))) = w1.heap[blk g1 n (.arr es els)]?
      rw [if_pos ⟨n, _, hn, by rw [← R0.nx]; exact hge, rfl⟩]) 8
    have hback : ∀ {y : V} {z : V} {u : Value}, back1 h1 h0.next y = some z → Rep g1 y u → Rep g2 z u := by
      intro y z u hb hy
      unfold back1 at hb
      split at hb
      · rename_i q hq
        cases hb
        exact .d _ _ (hdeep.1 y q u hq hy)
      · split at hb
        · rename_i ho
          cases hb
          have hN2 : g2.N = h0.next := R0.nx.symm
          unfold old at ho
          split at ho <;> first | cases ho | skip
          · have hn := of_decide_eq_true ho
            cases hy with | ptr _ _ _ _ a1 a2 => exact Rep.ptr (g := g2) _ _ _ _ (by rw [hN2]; exact hn) a2
          · have hn := of_decide_eq_true ho
            cases hy with | own _ _ _ _ _ cap a he a1 a2 ha hl ht hc hs => exact Rep.own (g := g2) _ _ _ _ _ cap a he (by rw [hN2]; exact hn) a2 ha hl ht hc hs
          · have hn := of_decide_eq_true ho
            cases hy with | map _ a1 => exact Rep.map (g := g2) _ (by rw [hN2]; exact hn)
          · have hn := of_decide_eq_true ho
            cases hy with | yld _ a1 => exact Rep.yld (g := g2) _ (by rw [hN2]; exact hn)
        · cases hb
    have hall : ∀ (ys : List V) (zs : List V) (us : List Value), ys.mapM (back1 h1 h0.next) = some zs → Reps g1 ys us → Reps g2 zs us := by
      intro ys
      induction ys with
      | nil => intro zs us h1 h2; cases h1; cases h2; exact .nil
      | cons y ys ih =>
        intro zs us hz hu
        obtain ⟨z, s, q1, q2, rfl⟩ := mapM_cons hz
        cases hu with | cons _ _ u us hy hs =>
        exact .cons _ _ _ _ (hback q1 hy) (ih s us q2 hs)
    exact resV_ok (hall _ l vs hl hr)
  · cases H
    exact ⟨g1, hle, R1, resV_ok hr⟩

/-! ### Calls -/

/-- Values that stand for data, one by one. -/
inductive RepEs (φ : Nat → Option Obj) : List D → List Value → Prop
  | nil : RepEs φ [] []
  | cons (x : D) (l : List D) (v : Value) (vs : List Value) (h : RepD φ x v) (hs : RepEs φ l vs) : RepEs φ (x :: l) (v :: vs)

/-- Items up to an operation. -/
def mtItsE (P : Program) (ops : Array Oper) (N n : Nat) : Nat → List It → Bool
  | i, [] => i == n
  | i, .o dst op gd :: r => (match ops[i]? with
    | some o => decide (o.dst = dst) && dstOk N dst && mtG ops o.guard gd && mtOp P o op
    | none => false) && mtItsE P ops N n (i + 1) r
  | i, .frz _ :: r => mtItsE P ops N n i r
  | i, .fzd _ :: r => mtItsE P ops N n i r
  | i, .kill _ :: r => mtItsE P ops N n i r
/-- A region that ends in a defer statement. -/
def mtDf (P : Program) (ops : Array Oper) (N : Nat) (its : List It) (f : Opd) (xs : List Opd) : Bool :=
  match ops[ops.size - 1]? with
  | some o => o.guard.isNone && o.dst.isNone && (match o.op with
    | .defer ⟨.value f', as, _⟩ => mtOpd f' f && mtOpds as.toList xs
    | _ => false) && mtItsE P ops N (ops.size - 1) 0 its
  | none => false
/-- A region that recovers. -/
def mtRcv (ops : Array Oper) (d d2 N : Nat) : Bool :=
  match ops with
  | ⟨[o1, o2]⟩ => decide (o1.dst = some d) && o1.guard.isNone && (match o1.op with
      | .call ⟨.builtin .recover, _, _⟩ => true
      | _ => false) && decide (o2.dst = some d2) && o2.guard.isNone && (match o2.op with
      | .assign (.tmp t) => t == d
      | .move (.tmp t) => t == d
      | _ => false) && decide (d < N) && decide (d2 < N)
  | _ => false
def mtB (P : Program) (T : Tab) (N : Nat) : Bool → Code → AC → Bool
  | _, .seq (.region _ ops draw) c, .dfr its _ f xs rest => !draw && mtDf P ops N its f xs && mtB P T N false c rest
  | rg, .seq a b, .seq x y => if noDfr y = true then mtC P T N rg (.seq a b) (.seq x y) else mtC P T N false a x && mtB P T N false b y
  | rg, c, x => mtC P T N rg c x
def mtFn (P : Program) (T : Tab) (N : Nat) (c : Code) : AC → Bool
  | .rcv d d2 _ rest => (match c with
    | .seq (.region _ ops false) cr => mtRcv ops d d2 N && mtC P T N false cr rest
    | _ => false)
  | b => mtB P T N true c b
def fnOk (P : Program) (T : Tab) (f : Nat) (fn : AF) : Bool :=
  match P.funcs[f]? with
  | some F => match F.body with
    | some c => (isPr fn.body).isNone && mtFn P T F.ntmps c fn.body && mtRes P F.results.toList fn.res && decide (fn.np ≤ F.ntmps) && !(F.name == "runtime.NumGoroutine")
    | none => false
  | none => false

/-- A function that is no code: what the machine's call returns. -/
def PrimOk (P : Program) (f k : Nat) : Prop :=
  (∃ fn, P.funcs[f]? = some fn ∧ fn.body.isSome = true ∧ (fn.name == "runtime.NumGoroutine") = false) ∧
  ∀ (ds : List D) (y : D), prim k ds = some y → ∀ (φ : Nat → Option Obj) (w : World) (vals : List Value), (∀ b o, φ b = some o → w.heap[b]? = some o) → RepEs φ ds vals →
    Calls P f vals.toArray w fun e w' => ∃ v, e = .returned v ∧ (∀ ψ, RepD ψ y v) ∧ Fx w w' ∧ ∀ b, b < w.heap.size → w'.heap[b]? = w.heap[b]?

def TabOk (P : Program) (T : Tab) : Prop := ∀ f fn, f < RB → T f = some fn → fnOk P T f fn = true ∨ ∃ k, fn.body = .exit k ∧ PrimOk P f k

theorem primC_ok {f k : Nat} (H : PrimOk P f k) {vs : List V} {h : Hp} {r : V} {h' : Hp} (hc : primC k vs h = some (r, h')) {g : G} {w : World} {vals : List Value} (R : Rel g h w) (hr : Reps g vs vals) :
    Calls P f vals.toArray w fun e w' => ∃ g', Le g g' ∧ Rel g' h' w' ∧ RepE g' r e ∧ Fx w w' := by
  unfold primC at hc
  simp only [Option.bind_eq_some_iff, Option.map_eq_some_iff] at hc
  obtain ⟨ds, hds, y, hy, hq⟩ := hc
  cases hq
  classical
  let nb : Nat → Prop := fun b => ∃ n o, h.get n = some o ∧ b = blk g n o
  let φ2 : Nat → Option Obj := fun b => if nb b then w.heap[b]? else g.φ b
  have hnbφ : ∀ b, nb b → g.φ b = none := by
    rintro b ⟨n, o, hn, rfl⟩
    exact R.out n o hn
  have hφ : ∀ b o, g.φ b = some o → φ2 b = some o := by
    intro b o hb
    show (if nb b then w.heap[b]? else g.φ b) = some o
    rw [if_neg (fun hn => by rw [hnbφ b hn] at hb; cases hb)]
    exact hb
  have hw : ∀ b o, φ2 b = some o → w.heap[b]? = some o := by
    intro b o hb
    have hb' : (if nb b then w.heap[b]? else g.φ b) = some o := hb
    split at hb'
    · exact hb'
    · exact R.fr b o hb'
  have hdeep := (deep_ok (n0 := 0) (φ2 := φ2) R hφ (fun n es els _ hn => by
      show (if nb (blk g n (.arr es els)) then w.heap[blk g n (.arr es els)]? else g.φ (blk g n (.arr es els))) = w.heap[blk g n (.arr es els)]?
      rw [if_pos ⟨n, _, hn, rfl⟩]) 8).1
  have hall : ∀ (ys : List V) (zs : List D) (us : List Value), ys.mapM (deep h 0 8) = some zs → Reps g ys us → RepEs φ2 zs us := by
    intro ys
    induction ys with
    | nil => intro zs us h1 h2; cases h1; cases h2; exact .nil
    | cons y ys ih =>
      intro zs us hz hu
      obtain ⟨z, s, q1, q2, rfl⟩ := mapM_cons hz
      cases hu with | cons _ _ u us hy hs =>
      exact .cons _ _ _ _ (hdeep y z u q1 hy) (ih s us q2 hs)
  refine (H.2 ds y hy φ2 w vals hw (hall vs ds vals hds hr)).mono ?_
  rintro e w' ⟨v, rfl, hv, hf, hb⟩
  exact ⟨g, Le.refl g, R.world hb, .of (.d _ _ (hv _)), hf⟩

theorem args_get : ∀ (vs : List V) (i t : Nat), Env.get (args i vs) t = if i ≤ t then (vs[t - i]?).getD .undef else .undef
  | [], i, t => by simp [args, Env.get]
  | v :: vs, i, t => by
    show (if t = i then v else Env.get (args (i + 1) vs) t) = _
    rw [args_get vs (i + 1) t]
    by_cases h : t = i
    · subst h; simp
    · rw [if_neg h]
      by_cases h2 : i + 1 ≤ t
      · rw [if_pos h2, if_pos (by omega), show t - i = (t - (i + 1)) + 1 from by omega, List.getElem?_cons_succ]
      · rw [if_neg h2, if_neg (by omega)]

theorem env_args {g : G} {vs : List V} {vals : List Value} (n : Nat) (hr : Reps g vs vals) : EnvRep g (args 0 vs) { tmps := vals.toArray ++ Array.replicate (n - vals.toArray.size) undef, defers := [] } := by
  intro t
  rw [args_get, if_pos (Nat.zero_le t), Nat.sub_zero]
  cases hv : vs[t]? with
  | none => exact .undef _
  | some x =>
    obtain ⟨v, h1, h2⟩ := hr.get hv
    have : (vals.toArray ++ Array.replicate (n - vals.toArray.size) undef).getD t undef = v := by
      rw [Array.getD_eq_getD_getElem?, Array.getElem?_append_left (by simpa using lt_of_get h1)]
      simp [h1]
    show Rep g x _
    rw [this]
    exact h2

theorem binds_get : ∀ (ps : List Nat) (vs : List V) (vals : List Value) (e : Env) (tmps : Array Value) {g : G}, (∀ t, t ∈ ps → t < tmps.size) → ps.length = vs.length → Reps g vs vals → (∀ t, Rep g (Env.get e t) (tmps.getD t undef)) →
    ∀ t, Rep g (Env.get (binds ps vs e) t) (((ps.zip vals).foldl (fun tmps (t, a) => tmps.setIfInBounds t a) tmps).getD t undef)
  | [], vs, vals, e, tmps, g, _, _, _, he => fun t => by
    cases vs <;> simpa [binds] using he t
  | p :: ps, [], vals, e, tmps, g, _, hl, _, _ => by simp at hl
  | p :: ps, v :: vs, _, e, tmps, g, hp, hl, .cons _ _ a vals hx hs, he => by
    intro t
    simp only [binds, List.zip_cons_cons, List.foldl_cons]
    refine binds_get ps vs vals ((p, v) :: e) (tmps.setIfInBounds p a) (fun u hu => by rw [Array.size_setIfInBounds]; exact hp u (List.mem_cons_of_mem _ hu)) (by simpa using hl) hs (fun u => ?_) t
    show Rep g (if u = p then v else Env.get e u) _
    rw [Array.getD_eq_getD_getElem?, Array.getElem?_setIfInBounds]
    by_cases hup : u = p
    · subst hup; rw [if_pos rfl, if_pos rfl, if_pos (hp u List.mem_cons_self)]; exact hx
    · rw [if_neg hup, if_neg (fun e => hup e.symm), ← Array.getD_eq_getD_getElem?]; exact he u

theorem Fx.put (w : World) (d : Nat) (o : Obj) : Fx w (w.putObj d o) := ⟨rfl, rfl, rfl, by rw [World.putObj_size]; exact Nat.le_refl _⟩

/-- A round is the machine's. -/
theorem rnd_ok {T : Tab} {c : Cs} (HC : CallOk P (LpC P T) c) (k : Nat) {n : Nat} {vs : List V} {h : Hp} {r : V} {h' : Hp} (H : rnd T (fun b => loopN b k) (callee c) n vs h = some (r, h')) (g : G) (w : World) (vals : List Value) (R : Rel g h w) (hC : g.C = LpC P T) (hN : n < g.N) (hr : Reps g vs vals) :
    ∃ f tmps asg bdy, (Instr.yield (g.μ n 0).b vals.toArray).run P w = .ok (.round (g.μ n 0).b f tmps asg bdy) w ∧
      RoundIn (FR none) 0 P (g.μ n 0).b f tmps asg bdy w fun e w' => ∃ v, e = .returned v ∧ ∃ g', Le g g' ∧ Rel g' h' w' ∧ Rep g' r v ∧ Fx w w' := by
  unfold rnd at H
  split at H
  case h_2 => cases H
  rename_i b e hget
  obtain ⟨k1, k2, r0, k3, k4, k5, k6, k7⟩ := R.ob _ _ hget
  rw [hC] at k5
  obtain ⟨fn, p, q, hT, hb, hsz, hps, hlt, hma, hmb⟩ := k5
  rw [hT] at H
  simp only [Option.bind_some] at H
  rw [hb] at H
  simp only at H
  split at H
  case isFalse => cases H
  rename_i hlen
  simp only [Option.bind_eq_some_iff] at H
  obtain ⟨⟨x1, e1, h1⟩, hex1, H⟩ := H
  split at H
  case h_2 => cases H
  rename_i b1 e1' hx1 hget1
  simp only at hx1 hget1
  subst hx1
  simp only [Option.bind_eq_some_iff] at H
  obtain ⟨⟨x2, e2, h2⟩, hex2, hend⟩ := H
  have hvl : vals.length = r0.params.size := by rw [hr.length, hlen, hsz]
  refine ⟨r0.fn, _, r0.assign, r0.body, run_yield k3 (by simpa using hvl), ?_⟩
  refine roundIn_of_wpIn (F := FR none) trivial ?_
  have htm : (r0.params.zip vals.toArray).foldl (fun tmps (x : Nat × Value) => match x with | (t, a) => tmps.setIfInBounds t a) r0.tmps = (r0.params.toList.zip vals).foldl (fun tmps (x : Nat × Value) => match x with | (t, a) => tmps.setIfInBounds t a) r0.tmps := by
    rw [← Array.foldl_toList, Array.toList_zip]
  have hE : EnvRep g (binds (fn.res.map (·.1)) vs e) { tmps := (r0.params.zip vals.toArray).foldl (fun tmps (x : Nat × Value) => match x with | (t, a) => tmps.setIfInBounds t a) r0.tmps, defers := [] } := by
    intro t
    show Rep g _ (((r0.params.zip vals.toArray).foldl _ r0.tmps).getD t undef)
    rw [htm, ← hps]
    exact binds_get _ vs vals e r0.tmps hlt (by rw [Array.length_toList, ← hvl, hr.length]) hr k4 t
  have hsize : ∀ (l : List (Nat × Value)) (a : Array Value), (l.foldl (fun tmps (x : Nat × Value) => match x with | (t, a) => tmps.setIfInBounds t a) a).size = a.size := by
    intro l
    induction l with
    | nil => intro a; rfl
    | cons x l ih => intro a; rw [List.foldl_cons, ih]; exact Array.size_setIfInBounds ..
  refine exec_ok HC k false (ro := some (g.μ n 0).b) (fun h => by cases h) r0.assign p hma hex1 hE R hC (by rw [htm]; exact hsize _ _) ?_
  intro a1 w1 g1 Ds ex1 l1 l2 l3 l4 l5 l6 l7 _
  obtain ⟨rfl, l3⟩ := l3
  show ∃ w₂, _ ∧ _
  obtain ⟨_, _, r1, q3, q4, q5, q6⟩ := l2.ob _ _ hget1
  have hμ1 : g1.μ n 0 = g.μ n 0 := l1.μ _ _ hN (Nat.zero_le _)
  rw [hμ1] at q3
  refine ⟨_, run_beginRound q3 q6.1, ?_⟩
  have hlt1 := (Array.getElem?_eq_some_iff.1 q3).1
  have R2 : Rel g1 (h1.set n (.lp b1 e1' (some .norm))) (w1.putObj (g.μ n 0).b (.loop { r1 with state := .busy })) := l2.set hget1 rfl (fun d hd hne => World.putObj_heap_other (by rw [← hμ1]; exact hne))
    ⟨{ r1 with state := .busy }, by rw [hμ1]; exact World.putObj_heap_same hlt1, q4, q5, rfl, q6.2⟩
  refine exec_ok HC k false (ro := some (g.μ n 0).b) (fun h => by cases h) r0.body q hmb hex2 l3 R2 (l1.C.trans hC) l4 ?_
  intro a2 w2 g2 Es ex2 m1 m2 m3 m4 m5 m6 m7 _
  unfold rndEnd at hend
  simp only at hend
  split at hend
  case h_2 => cases hend
  rename_i b2 e2' hget2
  split at hend
  case isTrue => cases hend
  rename_i hnp
  cases hend
  obtain ⟨_, _, r2, p3, p4, p5, p6⟩ := m2.ob _ _ hget2
  have hμ2 : g2.μ n 0 = g.μ n 0 := by rw [m1.μ n 0 (Nat.lt_of_lt_of_le hN l1.N) (Nat.zero_le _)]; exact hμ1
  rw [hμ2] at p3
  have hlt2 := (Array.getElem?_eq_some_iff.1 p3).1
  have lF := l1.trans m1
  have fin : ∀ (s : Option Ex) (j : Option Code), (∀ q, s = some q → q ≠ .norm) → LpSt s (if j.isNone then .ready else .done) j → s = (if x2 = .norm then none else some x2) → j.isNone = decide (x2 = .norm) →
      ∃ v w', (Instr.endRound (g.μ n 0).b j).run P w2 = .ok v w' ∧ ∃ v', Ending.returned v = .returned v' ∧ ∃ g', Le g g' ∧ Rel g' (h2.set n (.lp b2 e2' (if x2 = .norm then none else some x2))) w' ∧ Rep g' (bool (decide (x2 = .norm))) v' ∧ Fx w w' := by
    intro s j _ hs hse hj
    refine ⟨_, _, run_endRound j p3, _, rfl, g2.un g.F, lF.back, ?_, ?_, ?_⟩
    · rw [← hse]
      have R3 : Rel g2 (h2.set n (.lp b2 e2' s)) (w2.putObj (g.μ n 0).b (.loop { r2 with state := if j.isNone then .ready else .done, pending := j })) := m2.set hget2 rfl (fun d hd hne => World.putObj_heap_other (by rw [← hμ2]; exact hne))
        ⟨{ r2 with state := if j.isNone then .ready else .done, pending := j }, by rw [hμ2]; exact World.putObj_heap_same hlt2, p4, p5, hs⟩
      exact R3.un (fun d o hd => R3.kp d o (lF.F d o hd)) (fun m o hm => by
        cases hq : g.F (blk g2 m o) with
        | none => rfl
        | some y => have := lF.F _ _ hq; rw [R3.kpo m o hm] at this; cases this)
    · rw [hj]; exact .d _ _ (.bool _)
    · exact (l7.trans (Fx.put ..)).trans (m7.trans (Fx.put ..))
  cases x2 with
  | norm => obtain ⟨rfl, m3⟩ := m3; exact fin none none (fun _ h => by cases h) ⟨rfl, rfl⟩ rfl rfl
  | exit i => obtain ⟨rfl, m3⟩ := m3; exact fin (some (.exit i)) (some (.exit i)) (fun _ h => by cases h; simp) ⟨rfl, rfl⟩ rfl rfl
  | ret => obtain ⟨rfl, m3⟩ := m3; exact fin (some .ret) (some .ret) (fun _ h => by cases h; simp) ⟨rfl, rfl⟩ rfl rfl
  | pan => exact absurd rfl hnp

/-- Behind a function: the marks are taken up. -/
theorem marks_ok {F : Func} {tmps : Array Value} {R : Ending → World → Prop} {g0 : G} {h : Hp} {ds : List Deferred} {u : FrameMode} (hu : u ≠ .run) : ∀ (Ds : List Nat) {g1 : G} {w : World}, Rel (g1.un g0.F) h w → Ds.Nodup → (∀ D, D ∈ Ds → g0.F D = none ∧ g1.φ D = none ∧ w.heap[D]? = some (.deferred (some [])) ∧ ∀ n o, h.get n = some o → blk g1 n o ≠ D) →
    (∀ w', Rel (g1.un g0.F) h w' → Fx w w' → LeavesInM (FR none) 0 P F tmps R ds u w') → LeavesInM (FR none) 0 P F tmps R (Ds.map markOf ++ ds) u w
  | [], g1, w, R1, _, _, K => K w R1 (Fx.refl w)
  | D :: Ds, g1, w, R1, hnd, hD, K => by
    rw [List.nodup_cons] at hnd
    obtain ⟨d1, d2, d3, d4⟩ := hD D List.mem_cons_self
    refine ⟨hu, .inl ⟨D, _, rfl, run_takeDeferred d3, ?_⟩⟩
    have R2 : Rel (g1.un g0.F) h (w.putObj D (.deferred none)) := R1.other D (fun b hb => World.putObj_heap_other hb) d2 d1 (fun n o hn => d4 n o hn)
    have f2 : Fx w (w.putObj D (.deferred none)) := ⟨rfl, rfl, rfl, by rw [World.putObj_size]; exact Nat.le_refl _⟩
    refine marks_ok hu Ds (g1 := g1) R2 hnd.2 (fun E hE => ?_) (fun w' r f => K w' r (f2.trans f))
    obtain ⟨e1, e2, e3, e4⟩ := hD E (List.mem_cons_of_mem _ hE)
    exact ⟨e1, e2, by rw [World.putObj_heap_other (fun e => hnd.1 (by rw [← e]; exact hE))]; exact e3, e4⟩
theorem Rel.unF {g g' : G} {h : Hp} {w : World} (R : Rel g' h w) (l : LeF g g') : Rel (g'.un g.F) h w := R.un (fun d o hd => R.kp d o (l.F d o hd)) (fun m o hm => by
  cases hq : g.F (blk g' m o) with
  | none => rfl
  | some y => have := l.F _ _ hq; rw [R.kpo m o hm] at this; cases this)
/-- Behind a function: the results, the state that is left. -/
theorem fin_ok {F : Func} {fn : AF} (hres : mtRes P F.results.toList fn.res = true) {g g' : G} {h h1 h' : Hp} {w w' : World} {e1 : Env} {a : Act} {r : V} (R : Rel g h w) (l1 : LeF g g') (R3 : Rel (g'.un g.F) h1 w') (l3 : EnvRep g' e1 a) (H : finish fn h e1 h1 = some (r, h')) :
    ∃ v, (results F a.tmps).run P w' = .ok v w' ∧ ∃ g2, Le g g2 ∧ Rel g2 h' w' ∧ Rep g2 r v := by
  have hq3 := H
  unfold finish at hq3
  simp only [Option.bind_eq_some_iff] at hq3
  obtain ⟨xs, hxs, _⟩ := hq3
  obtain ⟨vs, hrun, hrr⟩ := results_run (P := P) hres (l3.un (F := g.F)) R3 hxs
  obtain ⟨g2, m1, m2, m3⟩ := finish_ok R R3 l1.back hxs H hrr
  exact ⟨_, hrun, g2, m1, m2, m3⟩
/-- The same where it panics. -/
theorem finP_ok {fn : AF} {g g' : G} {h h1 h' : Hp} {w w' : World} {t k : Nat} {y : D} {e1 : Env} {v : Value} {r : V} (R : Rel g h w) (l1 : LeF g g') (R3 : Rel (g'.un g.F) h1 w') (hy : RepD g'.φ y v) (H : finP fn h ((k, .pan t y) :: e1) h1 = some (r, h')) :
    r = .pan t y ∧ ∃ g2, Le g g2 ∧ Rel g2 h' w' ∧ RepD g2.φ y v := by
  have hf : r = .pan t y ∧ finish ⟨0, [(0, none)], fn.scp, .skip⟩ h [(0, .d y)] h1 = some (.d y, h') := by
    unfold finP at H
    simp only at H
    unfold finish
    simp only [resL, Option.map_some, Option.bind_some, Env.get, if_true]
    split at H
    · rename_i hs
      rw [if_pos hs]
      split at H
      · rename_i hq
        cases H
        refine ⟨rfl, ?_⟩
        rw [if_pos hq]
        rfl
      · cases H
    · rename_i hs
      cases H
      rw [if_neg hs]
      exact ⟨rfl, rfl⟩
  have hx : resL [(0, V.d y)] h1 [(0, none)] = some [.d y] := rfl
  obtain ⟨g2, m1, m2, m3⟩ := finish_ok (xs := [.d y]) (vs := [v]) R R3 l1.back hx hf.2 (.cons _ _ _ _ (.d _ _ hy) .nil)
  exact ⟨hf.1, g2, m1, m2, m3.dI⟩

/-! ### Deferred calls -/

theorem mtC_rg {T : Tab} {N : Nat} : ∀ (ac : AC) (code : Code), noRng ac = true → mtC P T N true code ac = true → mtC P T N false code ac = true := by
  intro ac
  induction ac with
  | seq a b iha ihb =>
    intro code hn hm
    cases code <;> simp only [mtC, Bool.false_eq_true] at hm
    simp only [noRng, Bool.and_eq_true] at hn
    simp only [mtC, Bool.and_eq_true] at hm ⊢
    exact ⟨iha _ hn.1 hm.1, ihb _ hn.2 hm.2⟩
  | cond c a b iha ihb =>
    intro code hn hm
    cases code <;> simp only [mtC, Bool.false_eq_true] at hm
    simp only [noRng, Bool.and_eq_true] at hn
    simp only [mtC, Bool.and_eq_true] at hm ⊢
    exact ⟨⟨hm.1.1, iha _ hn.1 hm.1.2⟩, ihb _ hn.2 hm.2⟩
  | blk i a iha =>
    intro code hn hm
    cases code <;> simp only [mtC, Bool.false_eq_true] at hm
    simp only [mtC, Bool.and_eq_true] at hm ⊢
    exact ⟨hm.1, iha _ hn hm.2⟩
  | loop a iha =>
    intro code hn hm
    cases code <;> simp only [mtC, Bool.false_eq_true] at hm
    simp only [mtC] at hm ⊢
    exact iha _ hn hm
  | rng g b => intro code hn; cases hn
  | amb p c a b r ihp iha ihb ihr =>
    intro code hn hm
    have hshape : ∃ cz cc c1 c2 c3, code = .seq (.seq cz (.cond cc c1 c2)) c3 := by
      cases code with
      | seq c0 c3 =>
        cases c0 with
        | seq cz c0 =>
          cases c0 with
          | cond cc c1 c2 => exact ⟨_, _, _, _, _, rfl⟩
          | _ => simp [mtC] at hm
        | _ => simp [mtC] at hm
      | _ => simp [mtC] at hm
    obtain ⟨cz, cc, c1, c2, c3, rfl⟩ := hshape
    simp only [noRng, Bool.and_eq_true] at hn
    simp only [mtC, Bool.and_eq_true] at hm ⊢
    exact ⟨⟨⟨⟨ihp _ hn.1.1.1 hm.1.1.1.1, hm.1.1.1.2⟩, iha _ hn.1.1.2 hm.1.1.2⟩, ihb _ hn.1.2 hm.1.2⟩, ihr _ hn.2 hm.2⟩
  | _ => intro code hn hm; cases code <;> simp only [mtC, Bool.false_eq_true] at hm <;> simp only [mtC] <;> exact hm

theorem mtB_C {T : Tab} {N : Nat} {rg : Bool} {ac : AC} {code : Code} (hn : noDfr ac = true) (hm : mtB P T N rg code ac = true) : mtC P T N rg code ac = true := by
  unfold mtB at hm
  split at hm
  · cases hn
  · simp only [noDfr] at hn; rw [if_pos hn] at hm; exact hm
  · exact hm
theorem arrivesIn_wide {m : Machine} {b : Frame} {k : List Item} {cs : List Frame} {e : Exit} {a : Act} {w : World} (hb : b.roundOf = none) (H : ArrivesIn (Machine.fenced P (FR none)) P m b k cs e a w) : Arrives P m b k cs e a w := by
  have at_ : ∀ (a : Act) (k : List Item), b.atR a k = b.at a k := fun a k => Frame.atR_of_none hb a k
  cases e with
  | normal => have H : StepsIn (Machine.fenced P Fence.wide) P m (lone (b.atR a k) cs w) := H; rw [at_] at H; exact stepsIn_wide.1 H
  | exit id =>
    intro k' hk
    have H := H.1 k' hk
    rw [at_] at H
    exact stepsIn_wide.1 H
  | goto l =>
    intro k' hk
    have H := H.1 k' hk
    rw [at_] at H
    exact stepsIn_wide.1 H
  | ret =>
    obtain ⟨todo, H⟩ := H.1 hb
    rw [at_] at H
    exact ⟨todo, stepsIn_wide.1 H⟩
  | panic chain =>
    obtain ⟨todo, H⟩ := H
    rw [at_] at H
    exact ⟨todo, stepsIn_wide.1 H⟩
  | outgrown => exact H
theorem wpS_of_wpIn {c : Code} {Q : Exit → Act → List Frame → World → Prop} {a : Act} {cs : List Frame} {w : World} (h : c.wpIn (FR none) 0 P (fun e a w => Q e a cs w) a w) : c.wpS P Q a cs w := by
  intro b k hb hr
  obtain ⟨e, a', w', q, har⟩ := h b k cs hr trivial (fun _ h => by cases h)
  rw [Frame.atR_of_none hr] at har
  exact ⟨e, a', cs, w', q, arrivesIn_wide hr har⟩
theorem callsDIn_of_wpS {f : FuncId} {fn : Func} {c : Code} {args : Array Value} {u : FrameMode} {w : World} {R : Ending → FrameMode → World → Prop} (hf : P.funcs[f]? = some fn) (hb : fn.body = some c)
    (h : ∀ (c₀ : Frame) (cs : List Frame), c₀.mode = u → c.wpS P (bodyPostS P fn c₀ cs R) { tmps := args ++ Array.replicate (fn.ntmps - args.size) undef, defers := [] } (c₀ :: cs) w) : CallsDIn (FR none) 0 P f args u w R := by
  refine ⟨trivial, fun c₀ cs hu _ => ?_⟩
  let b : Frame := { (default : Frame) with fn := f, kind := .deferred }
  have henter : Frame.enter P f args .deferred = b.at { tmps := args ++ Array.replicate (fn.ntmps - args.size) undef, defers := [] } [.code c] := by
    simp [Frame.enter, Frame.at, hf, hb, b]
  obtain ⟨e, a', cs', w', hq, harr⟩ := h c₀ cs hu b [] rfl rfl
  rw [← henter] at harr
  cases e with
  | normal =>
    obtain ⟨hd, u', rfl, v, hr, hR⟩ := hq
    exact ⟨.returned v, u', w', _, hR, comesIn_wide.2 (Steps.trans harr (.one step_end)), rfl, rfl, rfl, hd, fn, hf, hr⟩
  | ret =>
    obtain ⟨hd, u', rfl, v, hr, hR⟩ := hq
    obtain ⟨todo, hs⟩ := harr
    exact ⟨.returned v, u', w', _, hR, comesIn_wide.2 hs, rfl, rfl, rfl, hd, fn, hf, hr⟩
  | panic chain =>
    obtain ⟨hd, u', rfl, hR⟩ := hq
    obtain ⟨todo, hs⟩ := harr
    exact ⟨.panicked chain, u', w', _, hR, comesIn_wide.2 hs, rfl, rfl, rfl, hd, fn, hf⟩
  | exit id => exact hq.elim
  | goto l => exact hq.elim
  | outgrown =>
    obtain ⟨u', hR⟩ := hq
    exact ⟨.outgrown, u', w', b, hR, harr.resolve_left (by simp [b]), rfl, rfl, trivial⟩

/-- How the frame below stands. -/
def modeOf : Pn → Value → FrameMode
  | none, _ => .returning
  | some p, v => .panicking (chainOf p.1 v)
theorem modeOf_run (p : Pn) (v : Value) : modeOf p v ≠ .run := by cases p <;> simp [modeOf]
theorem settle_mode (p : Pn) (v : Value) : settle (modeOf p v) = modeOf p v := by cases p <;> simp [modeOf, chainOf, settle]
def PnRep (g : G) (p : Pn) (v : Value) : Prop := ∀ t y, p = some (t, y) → RepD g.φ y v
theorem PnRep.mono {g g' : G} {p : Pn} {v : Value} (h : PnRep g p v) (hle : LeF g g') : PnRep g' p v := fun t y e => (h t y e).mono hle.φ

theorem noGuard {o : Oper} (h : o.guard.isNone = true) (y : Nat → Option Bool) : Region.wanted o y = true := by
  have : o.guard = none := by cases hg : o.guard with
    | none => rfl
    | some q => rw [hg] at h; cases h
  unfold Region.wanted; rw [this]

/-- What a recovering function sees, and leaves. -/
theorem recover_mode {p : Pn} {pv : Value} {c₀ : Frame} (cs : List Frame) (hc : c₀.mode = modeOf p pv) :
    ∃ u', settle u' = .returning ∧ ((p = none ∧ recoverD (c₀ :: cs) = none ∧ c₀ = { c₀ with mode := u' }) ∨ ∃ t y, p = some (t, y) ∧ recoverD (c₀ :: cs) = some (.iface t pv, { c₀ with mode := u' } :: cs)) := by
  cases p with
  | none =>
    refine ⟨.returning, rfl, .inl ⟨rfl, ?_, ?_⟩⟩
    · simp [recoverD, hc, modeOf]
    · have : c₀.mode = .returning := hc
      rw [← this]
  | some q =>
    obtain ⟨t, y⟩ := q
    refine ⟨.panicking [{ v := .iface t pv, recovered := true }], by simp [settle], .inr ⟨t, y, rfl, ?_⟩⟩
    simp [recoverD, hc, modeOf, chainOf]

/-- A function that recovers. -/
theorem rcv_ok {T : Tab} {c : Cs} (HC : CallOk P (LpC P T) c) (k : Nat) {fid : Nat} {F : Func} {fn : AF} {id : Nat} {ops : Array Oper} {cr : Code} {d d2 : Nat} {kp : Option (List Nat)} {rest : AC} (hF : P.funcs[fid]? = some F) (hc : F.body = some (.seq (.region id ops false) cr))
    (hm1 : mtRcv ops d d2 F.ntmps = true) (hm2 : mtC P T F.ntmps false cr rest = true) (hres : mtRes P F.results.toList fn.res = true) (hnp : fn.np ≤ F.ntmps) {p p' : Pn} {vs : List V} (hlen : vs.length = fn.np) {h h' : Hp} {o : Out}
    (hex : exec (fun b => loopN b k) (callee c) rest (keepE kp ((d2, ifcOf p) :: (d, ifcOf p) :: args 0 vs)) h = some o) (hend : dEnd fn h none o = some (p', h'))
    {g : G} {w : World} {vals : List Value} {pv : Value} (R : Rel g h w) (hC : g.C = LpC P T) (hr : Reps g vs vals) (hp : PnRep g p pv) :
    CallsDIn (FR none) 0 P fid vals.toArray (modeOf p pv) w (fun e u' w' => ∃ v, e = .returned v ∧ settle u' = modeOf p' pv ∧ ∃ g', Le g g' ∧ Rel g' h' w' ∧ Fx w w') := by
  have hsz : vals.length = fn.np := by rw [hr.length, hlen]
  unfold mtRcv at hm1
  split at hm1
  case h_2 => cases hm1
  rename_i o1 o2
  simp only [Bool.and_eq_true, decide_eq_true_eq] at hm1
  obtain ⟨⟨⟨⟨⟨⟨⟨m1, m2⟩, m3⟩, m4⟩, m5⟩, m6⟩, m7⟩, m8⟩ := hm1
  have e1 : ∀ ρ w, (execOp ρ o1).run P w = .ok .recover w := by
    intro ρ w
    split at m3
    · rename_i as ts ho
      simp only [execOp, ho, resolve, Sem.run_bind, Sem.run_pure, Result.andThen_ok, invoke, builtin]
    · cases m3
  have e2 : ∀ (a : Act) w, (execOp a.eval o2).run P w = .ok (.value (a.tmps.getD d undef)) w := by
    intro a w
    split at m6
    · rename_i t ho
      simp only [beq_iff_eq] at m6; subst m6
      simp only [execOp, ho]; rfl
    · rename_i t ho
      simp only [beq_iff_eq] at m6; subst m6
      simp only [execOp, ho]; rfl
    · cases m6
  refine callsDIn_of_wpS hF hc fun c₀ cs hmode => ?_
  obtain ⟨u', hu, hrec⟩ := recover_mode (p := p) (pv := pv) cs hmode
  refine wpS_seq (wpS_region ?_)
  -- the value that recover returns
  have hval : ∃ rv, Rep g (ifcOf p) rv ∧ ∀ (Q : Exit → Act → List Frame → World → Prop) (a : Act), wpOpsS P ⟨[o1, o2]⟩ Q [1] (a.put (some d) rv) ({ c₀ with mode := u' } :: cs) w → wpOpsS P ⟨[o1, o2]⟩ Q [0, 1] a (c₀ :: cs) w := by
    rcases hrec with ⟨rfl, h1, h2⟩ | ⟨t, y, rfl, h1⟩
    · refine ⟨.nilIface, .nif, fun Q a H => ?_⟩
      have ho : (⟨[o1, o2]⟩ : Array Oper)[0]? = some o1 := rfl
      rw [wpOpsS]
      simp only [ho]
      rw [if_pos (noGuard m2 _), e1]
      simp only [h1]
      rw [m1]
      rw [← h2] at H
      exact H
    · refine ⟨.iface t pv, .ifc t y pv (hp t y rfl), fun Q a H => ?_⟩
      have ho : (⟨[o1, o2]⟩ : Array Oper)[0]? = some o1 := rfl
      rw [wpOpsS]
      simp only [ho]
      rw [if_pos (noGuard m2 _), e1]
      simp only [h1]
      rw [m1]
      exact H
  obtain ⟨rv, hrv, hgo⟩ := hval
  refine hgo _ _ ?_
  have ho : (⟨[o1, o2]⟩ : Array Oper)[1]? = some o2 := rfl
  rw [wpOpsS]
  simp only [ho]
  rw [if_pos (noGuard m5 _), e2]
  simp only [Oper.upon]
  rw [m4]
  show Exit.thenS (cr.wpS P _) _ .normal _ _ _
  refine wpS_of_wpIn ?_
  have E0 := env_args (g := g) F.ntmps hr
  have hs0 : (vals.toArray ++ Array.replicate (F.ntmps - vals.toArray.size) undef).size = F.ntmps := by simp; omega
  have E1 : EnvRep g ((d, ifcOf p) :: args 0 vs) ({ tmps := vals.toArray ++ Array.replicate (F.ntmps - vals.toArray.size) undef, defers := [] : Act }.put (some d) rv) := env_put (some d) (fun q hq => by cases hq; show d < Array.size _; rw [hs0]; exact m7) E0 hrv
  have hv2 : ({ tmps := vals.toArray ++ Array.replicate (F.ntmps - vals.toArray.size) undef, defers := [] : Act }.put (some d) rv).tmps.getD d undef = rv := by
    simp only [Act.put]
    rw [Array.getD_eq_getD_getElem?, Array.getElem?_setIfInBounds, if_pos rfl, if_pos (by rw [hs0]; exact m7)]; rfl
  have hs1 : ({ tmps := vals.toArray ++ Array.replicate (F.ntmps - vals.toArray.size) undef, defers := [] : Act }.put (some d) rv).tmps.size = F.ntmps := by rw [(put_size _ _ _).1]; exact hs0
  rw [hv2]
  have E2 := env_put (some d2) (fun q hq => by cases hq; rw [hs1]; exact m8) E1 hrv
  obtain ⟨x, ee, hh⟩ := o
  refine exec_ok HC k false (ro := none) (fun h => by cases h) cr rest hm2 hex (env_keep kp E2) R hC (by rw [(put_size _ _ _).1]; exact hs1) ?_
  intro a' w' g' Ds ex l1 l2 l3 l4 l5 l6 l7 l8
  have hDs := l8 rfl
  subst hDs
  have hdf : a'.defers = [] := by
    rw [l5]
    rw [(put_size _ _ _).2, (put_size _ _ _).2]; rfl
  have fin : ∀ q, (finish fn h ee hh).map (fun r => ((none : Pn), r.2)) = some q → q = (p', h') → EnvRep g' ee a' → a'.defers = [] ∧ ∃ u'', { c₀ with mode := u' } :: cs = { c₀ with mode := u'' } :: cs ∧ ∃ v, (results F a'.tmps).run P w' = .ok v w' ∧ ∃ v', Ending.returned v = .returned v' ∧ settle u'' = modeOf p' pv ∧ ∃ g', Le g g' ∧ Rel g' h' w' ∧ Fx w w' := by
    intro q hq hqe he
    subst hqe
    simp only [Option.map_eq_some_iff, Prod.mk.injEq] at hq
    obtain ⟨⟨r, hh'⟩, hf, rfl, rfl⟩ := hq
    obtain ⟨v, hrun, g2, q1, q2, _⟩ := fin_ok hres R l1 (l2.unF l1) he hf
    exact ⟨hdf, u', rfl, v, hrun, v, rfl, hu, g2, q1, q2, l7⟩
  cases x with
  | norm => obtain ⟨rfl, l3⟩ := l3; exact fin _ hend rfl l3
  | ret => obtain ⟨rfl, l3⟩ := l3; exact fin _ hend rfl l3
  | exit i => cases hend
  | pan => cases hend

theorem dcall_ok {T : Tab} (HT : TabOk P T) {c : Cs} (HC : CallOk P (LpC P T) c) (k : Nat) {f : V} {vs : List V} {p p' : Pn} {h h' : Hp} (H : dcall T (fun b => loopN b k) (callee c) f vs p h = some (p', h'))
    {g : G} {w : World} {fv : Value} {vals : List Value} {pv : Value} (R : Rel g h w) (hC : g.C = LpC P T) (hfr : Rep g f fv) (hr : Reps g vs vals) (hp : PnRep g p pv) :
    ∃ fid cv, fv = .func (.func fid) #[] cv ∧ (∃ F, P.funcs[fid]? = some F ∧ F.body.isSome = true ∧ (F.name == "runtime.NumGoroutine") = false) ∧
      CallsDIn (FR none) 0 P fid (vals.toArray ++ cv) (modeOf p pv) w (fun e u' w' => ∃ v, e = .returned v ∧ settle u' = modeOf p' pv ∧ ∃ g', Le g g' ∧ Rel g' h' w' ∧ Fx w w') := by
  unfold dcall at H
  cases f with
  | clo fid caps =>
    simp only at H
    split at H
    case isFalse => cases H
    rename_i hrb
    simp only [Option.bind_eq_some_iff] at H
    obtain ⟨fn, hfn, H⟩ := H
    split at H
    case isFalse => cases H
    rename_i hlen
    cases hfr with | clo _ _ cv hcr =>
    have hrr := hr.app hcr
    rcases HT fid fn hrb hfn with hok | ⟨q, hb, hok⟩
    rotate_left
    · exfalso
      rw [hb] at H
      simp only [noRng, if_true, exec, Option.bind_some, dEnd] at H
      cases H
    unfold fnOk at hok
    split at hok
    case h_2 => cases hok
    rename_i F hF
    split at hok
    case h_2 => cases hok
    rename_i cd hcd
    simp only [Bool.and_eq_true, decide_eq_true_eq, Bool.not_eq_true'] at hok
    obtain ⟨⟨⟨⟨hpr, hm⟩, hres⟩, hnp⟩, hname⟩ := hok
    refine ⟨fid, cv.toArray, rfl, ⟨F, hF, by rw [hcd]; rfl, hname⟩, ?_⟩
    rw [show vals.toArray ++ cv.toArray = (vals ++ cv).toArray by simp]
    split at H
    · rename_i d d2 kp rest hbd
      split at H
      case isFalse => cases H
      simp only [Option.bind_eq_some_iff] at H
      obtain ⟨o, hex, hend⟩ := H
      rw [hbd] at hm
      simp only [mtFn] at hm
      split at hm
      · rename_i id ops cr
        simp only [Bool.and_eq_true] at hm
        exact rcv_ok HC k hF hcd hm.1 hm.2 hres hnp hlen hex hend R hC hrr hp
      · cases hm
    · rename_i hbd
      split at H
      case isFalse => cases H
      rename_i hnr
      simp only [Option.bind_eq_some_iff] at H
      obtain ⟨o, hex, hend⟩ := H
      have hmC : mtC P T F.ntmps false cd fn.body = true := by
        refine mtC_rg fn.body cd hnr.1 (mtB_C hnr.2 ?_)
        cases hq : fn.body with
        | rcv a b c d => exact absurd hq (hbd _ _ _ _)
        | _ => rw [hq] at hm; exact hm
      obtain ⟨x, ee, hh⟩ := o
      have hsz : (vals ++ cv).length = fn.np := by rw [hrr.length, hlen]
      refine CallsDIn.mono (F := FR none) (callsDIn_of_wp (F := FR none) (n := 0) (R := fun e w' => ∃ v, e = .returned v ∧ p' = p ∧ ∃ g', Le g g' ∧ Rel g' h' w' ∧ Fx w w') hF hcd trivial ?_) ?_
      · refine exec_ok HC k false (ro := none) (fun h => by cases h) cd fn.body hmC hex (env_args F.ntmps hrr) R hC (by simp only [List.length_append] at hsz; simp; omega) ?_
        intro a' w' g' Ds ex l1 l2 l3 l4 l5 l6 l7 l8
        have hDs := l8 rfl
        subst hDs
        have fin : ∀ q, (finish fn h ee hh).map (fun r => (p, r.2)) = some q → q = (p', h') → EnvRep g' ee a' → a'.defers = [] ∧ ∃ v, (results F a'.tmps).run P w' = .ok v w' ∧ ∃ v', Ending.returned v = .returned v' ∧ p' = p ∧ ∃ g', Le g g' ∧ Rel g' h' w' ∧ Fx w w' := by
          intro q hq hqe he
          subst hqe
          simp only [Option.map_eq_some_iff, Prod.mk.injEq] at hq
          obtain ⟨⟨r, hh'⟩, hf, rfl, rfl⟩ := hq
          obtain ⟨v, hrun, g2, q1, q2, _⟩ := fin_ok hres R l1 (l2.unF l1) he hf
          exact ⟨l5, v, hrun, v, rfl, rfl, g2, q1, q2, l7⟩
        cases x with
        | norm => obtain ⟨rfl, l3⟩ := l3; exact fin _ hend rfl l3
        | ret => obtain ⟨rfl, l3⟩ := l3; exact fin _ hend rfl l3
        | exit i => cases hend
        | pan => cases hend
      · rintro e u' w' ⟨rfl, v, rfl, rfl, hg⟩
        exact ⟨v, rfl, settle_mode _ _, hg⟩
  | _ => cases H

/-- Items up to an operation. -/
theorem itsE_ok {CC : CTy} {c : Cs} (HC : CallOk P CC c) {ro : Option Nat} {ops : Array Oper} {Q : Exit → Act → World → Prop} {N n : Nat} (hn : n ≤ ops.size) : ∀ (its : List It) (i : Nat) {g : G} {h : Hp} {w : World} {e e' : Env} {a : Act} {h' : Hp},
    mtItsE P ops N n i its = true → itsX (callee c) its e h = some (e', h') → EnvRep g e a → Rel g h w → g.C = CC → a.tmps.size = N →
    (∀ a' w' g', Le g g' → Rel g' h' w' → EnvRep g' e' a' → a'.tmps.size = N → a'.defers = a.defers → Fx w w' → wpOpsIn (FR ro) 0 P ops Q (List.range' n (ops.size - n)) a' w') → wpOpsIn (FR ro) 0 P ops Q (List.range' i (ops.size - i)) a w
  | [], i, g, h, w, e, e', a, h', hm, H, he, R, hCC, hN, K => by
    simp only [mtItsE, beq_iff_eq] at hm
    subst hm
    cases H
    exact K a w g (Le.refl g) R he hN rfl (Fx.refl w)
  | .o dst op gd :: r, i, g, h, w, e, e', a, h', hm, H, he, R, hCC, hN, K => by
    simp only [mtItsE, Bool.and_eq_true] at hm
    obtain ⟨h1, h2⟩ := hm
    split at h1
    · rename_i o ho
      simp only [Bool.and_eq_true, decide_eq_true_eq] at h1
      obtain ⟨⟨⟨hd, hdn⟩, hg⟩, hm'⟩ := h1
      simp only [itsX, Option.bind_eq_some_iff] at H
      obtain ⟨⟨e1, h1'⟩, hi, hr⟩ := H
      have hlt : i < ops.size := (Array.getElem?_eq_some_iff.1 ho).1
      rw [show ops.size - i = (ops.size - (i + 1)) + 1 from by omega, List.range'_succ, wpOpsIn_cons]
      refine step_ok HC ho hd (fun d hd' => by subst hd'; simpa [dstOk] using hdn) hg hm' he R hCC hN hi (fun a' w' g' l1 l2 l3 l4 l5 l6 _ => ?_)
      exact itsE_ok HC hn r (i + 1) h2 hr l3 l2 (l1.C.trans hCC) l4 (fun a2 w2 g2 m1 m2 m3 m4 m5 m6 => K a2 w2 g2 (l1.trans m1) m2 m3 m4 (m5.trans l5) (l6.trans m6))
    · cases h1
  | .frz t :: r, i, g, h, w, e, e', a, h', hm, H, he, R, hCC, hN, K => by
    simp only [itsX, itX, Option.bind_eq_some_iff, Option.map_eq_some_iff] at H
    obtain ⟨⟨e1, h1'⟩, ⟨⟨y, h2⟩, hf, heq⟩, hr⟩ := H
    cases heq
    obtain ⟨g', l1, l2, l3⟩ := frz_ok R hf (he t)
    exact itsE_ok HC hn r i hm hr (env_put_same t (he.mono l1) l3) l2 (l1.C.trans hCC) hN (fun a2 w2 g2 m1 m2 m3 m4 m5 m6 => K a2 w2 g2 (l1.trans m1) m2 m3 m4 m5 m6)
  | .fzd t :: r, i, g, h, w, e, e', a, h', hm, H, he, R, hCC, hN, K => by
    simp only [itsX, itX, Option.bind_eq_some_iff, Option.map_eq_some_iff] at H
    obtain ⟨⟨e1, h1'⟩, ⟨⟨y, h2⟩, hf, heq⟩, hr⟩ := H
    cases heq
    obtain ⟨g', l1, l2, l3⟩ := fzd_ok R hf (he t)
    exact itsE_ok HC hn r i hm hr (env_put_same t (he.mono l1) l3) l2 (l1.C.trans hCC) hN (fun a2 w2 g2 m1 m2 m3 m4 m5 m6 => K a2 w2 g2 (l1.trans m1) m2 m3 m4 m5 m6)
  | .kill t :: r, i, g, h, w, e, e', a, h', hm, H, he, R, hCC, hN, K => by
    simp only [itsX, Option.bind_eq_some_iff] at H
    obtain ⟨⟨e1, h1'⟩, hk, hr⟩ := H
    have : e1 = e.put t .undef ∧ (h1' = h ∨ ∃ n, h1' = h.kill n) := by
      simp only [itX] at hk
      split at hk <;> cases hk
      · exact ⟨rfl, .inr ⟨_, rfl⟩⟩
      · exact ⟨rfl, .inr ⟨_, rfl⟩⟩
      · exact ⟨rfl, .inl rfl⟩
    obtain ⟨rfl, hh⟩ := this
    have R' : Rel g h1' w := by
      rcases hh with rfl | ⟨n, rfl⟩
      · exact R
      · exact R.kill n
    exact itsE_ok HC hn r i hm hr (env_put_same t he (.undef _)) R' hCC hN K

/-- The body of a function, with its defer statements. -/
theorem body_ok {T : Tab} (HT : TabOk P T) {c : Cs} (HC : CallOk P (LpC P T) c) (k : Nat) {N : Nat} {F : Func} {RR : Ending → World → Prop} : ∀ (ac : AC) (code : Code) (rg : Bool) {g : G} {h : Hp} {w : World} {e : Env} {a : Act} {x : Ex} {e' : Env} {h' : Hp},
    mtB P T N rg code ac = true → bodyX (fun b => loopN b k) (callee c) (dcall T (fun b => loopN b k) (callee c)) ac e h = some (x, e', h') → EnvRep g e a → Rel g h w → g.C = LpC P T → a.tmps.size = N →
    Post N rg g w a x e' h' (bodyPostM (FR none) 0 P F RR) → code.wpIn (FR none) 0 P (bodyPostM (FR none) 0 P F RR) a w := by
  intro ac
  have plain : ∀ {ac : AC} {code : Code} {rg : Bool} {g : G} {h : Hp} {w : World} {e : Env} {a : Act} {x : Ex} {e' : Env} {h' : Hp}, noDfr ac = true →
      mtB P T N rg code ac = true → bodyX (fun b => loopN b k) (callee c) (dcall T (fun b => loopN b k) (callee c)) ac e h = some (x, e', h') → EnvRep g e a → Rel g h w → g.C = LpC P T → a.tmps.size = N →
      Post N rg g w a x e' h' (bodyPostM (FR none) 0 P F RR) → code.wpIn (FR none) 0 P (bodyPostM (FR none) 0 P F RR) a w := by
    intro ac code rg g h w e a x e' h' hn hm H he R hC hN K
    rw [bodyX_exec ac hn] at H
    exact exec_ok HC k rg (ro := none) (fun _ => rfl) code ac (mtB_C hn hm) H he R hC hN K
  induction ac with
  | seq p q ihp ihq =>
    intro code rg g h w e a x e' h' hm H he R hC hN K
    by_cases hn : noDfr q = true
    · exact plain (ac := .seq p q) hn hm H he R hC hN K
    cases code with
    | seq c1 c2 =>
      have hm : mtC P T N false c1 p = true ∧ mtB P T N false c2 q = true := by
        rw [mtB, if_neg hn, Bool.and_eq_true] at hm
        exact hm
      unfold bodyX at H
      simp only [Option.bind_eq_some_iff] at H
      obtain ⟨⟨x1, e1, h1⟩, h2, h3⟩ := H
      refine wpIn_seq ?_
      refine exec_ok HC k false (ro := none) (fun h => by cases h) c1 p hm.1 h2 he R hC hN ?_
      intro a1 w1 g1 Ds ex l1 l2 l3 l4 l5 l6 l7 l8
      have hDs := l8 rfl
      subst hDs
      have K1 := K.next l1 l5 l6 l7 (fun _ => rfl)
      cases x1 with
      | norm =>
        obtain ⟨rfl, l3⟩ := l3
        show c2.wpIn (FR none) 0 P _ a1 w1
        exact ihq c2 false hm.2 h3 l3 l2 (l1.C.trans hC) l4 (fun a2 w2 g2 Es ex m1 m2 m3 m4 m5 m6 m7 m8 => K1 a2 w2 g2 Es ex m1 m2 m3 m4 m5 m6 m7 (fun _ => m8 rfl))
      | exit i => cases h3; rw [l3.then (by simp)]; exact K a1 w1 g1 [] ex l1 l2 l3 l4 l5 l6 l7 (fun _ => rfl)
      | ret => cases h3; rw [l3.then (by simp)]; exact K a1 w1 g1 [] ex l1 l2 l3 l4 l5 l6 l7 (fun _ => rfl)
      | pan => cases h3; rw [l3.then (by simp)]; exact K a1 w1 g1 [] ex l1 l2 l3 l4 l5 l6 l7 (fun _ => rfl)
    | _ => simp [mtB, mtC] at hm
  | dfr its kp f xs rest ih =>
    intro code rg g h w e a x e' h' hm H he R hC hN K
    have hshape : ∃ id ops c2, code = .seq (.region id ops false) c2 ∧ mtDf P ops N its f xs = true ∧ mtB P T N false c2 rest = true := by
      cases code with
      | seq ca cb =>
        cases ca with
        | region id ops draw =>
          simp only [mtB, Bool.and_eq_true, Bool.not_eq_true'] at hm
          obtain ⟨⟨rfl, h1⟩, h2⟩ := hm
          exact ⟨_, _, _, rfl, h1, h2⟩
        | _ => simp [mtB, mtC] at hm
      | _ => simp [mtB, mtC] at hm
    obtain ⟨id, ops, c2, rfl, hd, hm2⟩ := hshape
    clear hm
    · skip
      unfold mtDf at hd
      split at hd
      case h_2 => cases hd
      rename_i o ho
      simp only [Bool.and_eq_true] at hd
      obtain ⟨⟨⟨d1, d2⟩, d3⟩, d4⟩ := hd
      unfold bodyX at H
      simp only [Option.bind_eq_some_iff] at H
      obtain ⟨⟨pn, e1, h1⟩, hi, H⟩ := H
      cases pn with
      | some q => cases H
      | none =>
      simp only [Option.bind_eq_some_iff] at H
      obtain ⟨⟨x1, e2, h2⟩, hb, hend⟩ := H
      have hlt : ops.size - 1 < ops.size := (Array.getElem?_eq_some_iff.1 ho).1
      refine wpIn_seq (wpIn_region ?_)
      rw [List.range_eq_range', show List.range' 0 ops.size = List.range' 0 (ops.size - 0) by rw [Nat.sub_zero]]
      refine itsE_ok HC (ro := none) (by omega) its 0 d4 (itsP_X hi) he R hC hN ?_
      intro a1 w1 g1 l1 l2 l3 l4 l5 l6
      rw [show ops.size - (ops.size - 1) = 0 + 1 by omega, List.range'_succ, wpOpsIn_cons]
      simp only [wpOpIn, ho]
      rw [if_pos (noGuard d1 _)]
      -- the deferred call
      split at d3
      case h_2 => cases d3
      rename_i f'' as ts hop
      rw [Bool.and_eq_true] at d3
      have hfr := opd_ok d3.1 l3
      have hxr := opds_ok l3 d3.2
      have hfc : ∃ fid caps, e1.ev f = .clo fid caps := by
        have key : ∀ {v : V} {vs : List V} {p : Pn} {h : Hp} {r : Pn × Hp}, dcall T (fun b => loopN b k) (callee c) v vs p h = some r → ∃ fid caps, v = .clo fid caps := by
          intro v vs p h r H
          cases v <;> first | exact ⟨_, _, rfl⟩ | cases H
        unfold dfrEnd at hend
        split at hend
        · simp only [Option.bind_eq_some_iff] at hend; obtain ⟨r, hr, _⟩ := hend; exact key hr
        · simp only [Option.bind_eq_some_iff] at hend; obtain ⟨r, hr, _⟩ := hend; exact key hr
        · simp only [Option.map_eq_some_iff] at hend; obtain ⟨r, hr, _⟩ := hend; exact key hr
        · cases hend
      obtain ⟨fid, caps, hfe⟩ := hfc
      rw [hfe] at hfr hend
      generalize hfv : a1.eval f'' = fval at hfr
      have hfr0 := hfr
      cases hfr with | clo _ _ cv hcr =>
      have hrun : (o.semAt none a1.eval).run P w1 = .ok (.defer { target := .fn (.func fid) cv.toArray, args := #[] ++ as.map a1.eval }) w1 := by
        rw [Oper.semAt_none]
        simp only [execOp, hop, resolve, hfv, Deferred.ofValue, Sem.run_bind, Sem.run_pure, Result.andThen_ok]
      refine ⟨fun _ _ => trivial, ?_⟩
      rw [show (FR none).round = none from rfl, hrun, Oper.uponIn_defer]
      have hdst : o.dst = none := by cases hq : o.dst with
        | none => rfl
        | some q => rw [hq] at d2; cases d2
      rw [hdst]
      simp only [Act.put, List.range'_zero, wpOpsIn]
      show c2.wpIn (FR none) 0 P _ _ w1
      refine ih c2 false hm2 hb (a := { a1 with defers := { target := .fn (.func fid) cv.toArray, args := #[] ++ as.map a1.eval } :: a1.defers }) (env_keep kp l3) l2 (l1.C.trans hC) l4 ?_
      -- behind the rest
      intro a2 w2 g2 Ds ex m1 m2 m3 m4 m5 m6 m7 m8
      have hDs := m8 rfl
      subst hDs
      have hd2 : a2.defers = { target := .fn (.func fid) cv.toArray, args := #[] ++ as.map a1.eval } :: a1.defers := m5
      have l1F := l1.toF
      -- one deferred call
      have go : ∀ {p p' : Pn} {h3 : Hp} {pv : Value}, dcall T (fun b => loopN b k) (callee c) (.clo fid caps) (xs.map e1.ev) p h2 = some (p', h3) → PnRep g2 p pv →
          (∀ w3 g3, Le g2 g3 → Rel g3 h3 w3 → Fx w2 w3 → LeavesInM (FR none) 0 P F a2.tmps RR a1.defers (modeOf p' pv) w3) → LeavesInM (FR none) 0 P F a2.tmps RR a2.defers (modeOf p pv) w2 := by
        intro p p' h3 pv hd hp K3
        obtain ⟨fid', cv', e1', ⟨F', q1, q2, q3⟩, hcall⟩ := dcall_ok HT HC k hd m2 (m1.C.trans (l1.C.trans hC)) (hfr0.monoF m1) (by
          exact (hxr.un (F := g2.F)).mono m1.un) hp
        cases e1'
        rw [hd2]
        refine ⟨modeOf_run _ _, .inr ⟨(fun h => by cases h), .func fid, cv.toArray, fid, (as.toList.map a1.eval).toArray ++ cv.toArray, rfl, ?_, fun _ _ => trivial, ?_⟩⟩
        · have hb' : F'.body.isNone = false := by cases hq : F'.body <;> simp_all
          simp only [invoke, callFunc, Sem.run_bind, Sem.run_pure, Result.andThen_ok, run_program, q1, q3, hb', Bool.false_eq_true, if_false]
          congr 2
          simp
        · refine CallsDIn.mono hcall ?_
          rintro e3 u3 w3 ⟨v3, rfl, hu3, g3, n1, n2, n3⟩
          show LeavesInM (FR none) 0 P F a2.tmps RR a1.defers (settle u3) w3
          rw [hu3]
          exact K3 w3 g3 n1 n2 n3
      -- what follows
      have fin : ∀ {x3 : Ex} {e3 : Env} {h3 : Hp} {w3 : World} {g3 : G} {ex3 : Exit}, (x3, e3, h3) = (x, e', h') → Le g2 g3 → Rel g3 h3 w3 → Fx w2 w3 → EndR g3 x3 e3 { a2 with defers := a1.defers } ex3 → bodyPostM (FR none) 0 P F RR ex3 { a2 with defers := a1.defers } w3 := by
        intro x3 e3 h3 w3 g3 ex3 hq n1 n2 n3 n4
        cases hq
        exact K { a2 with defers := a1.defers } w3 g3 [] ex3 (l1F.trans (m1.trans n1.toF)) n2 n4 m4 (by show a1.defers = _; rw [l5]; rfl) (Marks.nil _ _) (l6.trans (m7.trans n3)) (fun _ => rfl)
      have retcase : ∀ {q : Option Out}, q = some (x, e', h') → q = (dcall T (fun b => loopN b k) (callee c) (.clo fid caps) (xs.map e1.ev) none h2).bind (fun r => match r.1 with
          | none => some (.ret, e2, r.2)
          | some _ => none) → EnvRep g2 e2 a2 → LeavesInM (FR none) 0 P F a2.tmps RR a2.defers .returning w2 := by
        intro q hq1 hq2 hev
        rw [hq1] at hq2
        have hq2 := hq2.symm
        simp only [Option.bind_eq_some_iff] at hq2
        obtain ⟨⟨p', h3⟩, hd, hr⟩ := hq2
        cases p' with
        | some _ => cases hr
        | none =>
          have hr : (Ex.ret, e2, h3) = (x, e', h') := Option.some.inj hr
          exact go (pv := undef) hd (fun t y h => by cases h) fun w3 g3 n1 n2 n3 => fin (ex3 := .ret) hr n1 n2 n3 ⟨rfl, fun t => (hev t).mono n1⟩
      unfold dfrEnd at hend
      cases x1 with
      | norm =>
        obtain ⟨rfl, m3⟩ := m3
        exact retcase hend rfl m3
      | ret =>
        obtain ⟨rfl, m3⟩ := m3
        exact retcase hend rfl m3
      | exit i => cases hend
      | pan =>
        obtain ⟨t, y, v, e3, rfl, rfl, hy, hev⟩ := m3
        simp only [Option.map_eq_some_iff] at hend
        obtain ⟨⟨p', h3⟩, hd, hr⟩ := hend
        show LeavesInM (FR none) 0 P F a2.tmps RR a2.defers (modeOf (some (t, y)) v) w2
        refine go (pv := v) hd (fun t' y' h => by cases h; exact hy) fun w3 g3 n1 n2 n3 => ?_
        cases p' with
        | none => exact fin (ex3 := .ret) hr n1 n2 n3 ⟨rfl, fun t => (hev t).mono n1⟩
        | some p' =>
          -- the panic goes on: the same
          obtain ⟨t', y'⟩ := p'
          have hpp : (t', y') = (t, y) := by
            unfold dcall at hd
            simp only at hd
            split at hd
            case isFalse => cases hd
            simp only [Option.bind_eq_some_iff] at hd
            obtain ⟨fn, _, hd⟩ := hd
            split at hd
            case isFalse => cases hd
            have dn : ∀ {p : Pn} {o : Out}, dEnd fn h2 p o = some (some (t', y'), h3) → p = some (t', y') := by
              intro p o h
              unfold dEnd at h
              split at h
              · simp only [Option.map_eq_some_iff, Prod.mk.injEq] at h; obtain ⟨_, _, h, _⟩ := h; exact h
              · simp only [Option.map_eq_some_iff, Prod.mk.injEq] at h; obtain ⟨_, _, h, _⟩ := h; exact h
              · cases h
            split at hd
            · split at hd
              · simp only [Option.bind_eq_some_iff] at hd; obtain ⟨o, _, ho⟩ := hd; have := dn ho; cases this
              · cases hd
            · split at hd
              · simp only [Option.bind_eq_some_iff] at hd; obtain ⟨o, _, ho⟩ := hd; have := dn ho; cases this; rfl
              · cases hd
          cases hpp
          exact fin (ex3 := .panic (chainOf t v)) hr n1 n2 n3 ⟨t, y, v, e3, rfl, rfl, hy.mono n1.φ, fun t => (hev t).mono n1⟩
  | _ => intro code rg g h w e a x e' h' hm H he R hC hN K; exact plain rfl hm H he R hC hN K

theorem callK_ok {T : Tab} (HT : TabOk P T) : ∀ k, CallOk P (LpC P T) (callK T k)
  | 0 => ⟨fun f vs h r h' _ H => (by cases H), fun n vs h r h' H => (by cases H)⟩
  | k + 1 => by
    have ih := callK_ok HT k
    refine ⟨fun f vs h r h' hy H => ?_, fun n vs h r h' H g w vals R hC hN hr => ?_⟩
    · unfold callK body at H
      rw [if_neg hy] at H
      split at H
      case isFalse => cases H
      rename_i hrb
      simp only [Option.bind_eq_some_iff] at H
      obtain ⟨fn, hfn, H⟩ := H
      rcases HT f fn hrb hfn with hok | ⟨q, hb, hok⟩
      rotate_left
      · split at H
        case isFalse => cases H
        rw [show isPr fn.body = some q from by rw [hb]; rfl] at H
        exact ⟨hok.1, fun g w vals R _ hr => primC_ok hok H R hr⟩
      unfold fnOk at hok
      split at hok
      case h_2 => cases hok
      rename_i F hF
      split at hok
      case h_2 => cases hok
      rename_i c hc
      simp only [Bool.and_eq_true, decide_eq_true_eq, Bool.not_eq_true'] at hok
      obtain ⟨⟨⟨⟨hpr, hm⟩, hres⟩, hnp⟩, hname⟩ := hok
      have hpr : isPr fn.body = none := by cases hq : isPr fn.body with
        | none => rfl
        | some q => rw [hq] at hpr; cases hpr
      split at H
      case isFalse => cases H
      rename_i hlen
      rw [hpr] at H
      simp only [Option.bind_eq_some_iff] at H
      obtain ⟨⟨x, e1, h1⟩, hex, H⟩ := H
      have hmB : mtB P T F.ntmps true c fn.body = true := by
        cases hq : fn.body with
        | rcv a b c d => rw [hq] at hex; unfold bodyX exec at hex; cases hex
        | _ => rw [hq] at hm; exact hm
      refine ⟨⟨F, hF, by rw [hc]; rfl, hname⟩, fun g w vals R hC hr => ?_⟩
      have hsz : vals.length = fn.np := by rw [hr.length, hlen]
      refine callsIn_wide.1 (callsIn_of_wp_marks (F := FR none) (n := 0) hF hc trivial ?_)
      refine body_ok HT ih k fn.body c true hmB hex (env_args F.ntmps hr) R hC (by simp; omega) ?_
      intro a' w' g' Ds ex l1 l2 l3 l4 l5 l6 l7 l8
      have mk : ∀ {u : FrameMode}, u ≠ .run → (∀ w2, Rel (g'.un g.F) h1 w2 → Fx w' w2 → LeavesInM (FR none) 0 P F a'.tmps (fun e w' => ∃ g', Le g g' ∧ Rel g' h' w' ∧ RepE g' r e ∧ Fx w w') [] u w2) → LeavesInM (FR none) 0 P F a'.tmps (fun e w' => ∃ g', Le g g' ∧ Rel g' h' w' ∧ RepE g' r e ∧ Fx w w') a'.defers u w' := by
        intro u hu K
        rw [l5]
        refine marks_ok hu Ds (g1 := g') (g0 := g) (l2.unF l1) l6.nd (fun D hD => ⟨l6.new D hD, (l2.kp D _ (l6.kept D hD)).2, (l2.kp D _ (l6.kept D hD)).1, fun n o hn he => ?_⟩) K
        have := l2.kpo n o hn
        rw [he, l6.kept D hD] at this; cases this
      have fin : ∀ q : Option (V × Hp), q = some (r, h') → q = finish fn h e1 h1 → EnvRep g' e1 a' → LeavesInM (FR none) 0 P F a'.tmps (fun e w' => ∃ g', Le g g' ∧ Rel g' h' w' ∧ RepE g' r e ∧ Fx w w') a'.defers .returning w' := by
        intro q hq1 hq2 l3
        rw [hq1] at hq2
        refine mk (by simp) fun w2 R3 f2 => ?_
        obtain ⟨v, hrun, g2, m1, m2, m3⟩ := fin_ok hres R l1 R3 l3 hq2.symm
        exact ⟨v, hrun, g2, m1, m2, .of m3, l7.trans f2⟩
      cases x with
      | norm => obtain ⟨rfl, l3⟩ := l3; exact fin _ H rfl l3
      | exit i => cases H
      | ret => obtain ⟨rfl, l3⟩ := l3; exact fin _ H rfl l3
      | pan =>
        obtain ⟨t, y, v, e2, rfl, rfl, hy, hev⟩ := l3
        refine mk (by simp) fun w2 R3 f2 => ?_
        obtain ⟨rfl, g2, m1, m2, m3⟩ := finP_ok (k := PK) (e1 := e2) R l1 R3 hy H
        exact ⟨g2, m1, m2, .inr ⟨t, y, v, rfl, rfl, m3⟩, l7.trans f2⟩
    · unfold callK body at H
      rw [if_pos rfl] at H
      exact rnd_ok ih k H g w vals R hC hN hr

/-- THE CALL: where the run without rounds gives a value, the machine's call returns what stands for it. -/
theorem callW_ok {T : Tab} (HT : TabOk P T) {f : Nat} {vs : List V} {h : Hp} {r : V} {h' : Hp} (hy : f ≠ YF) (H : callW T f vs h = some (r, h')) (hnp : isPan r = none) {g : G} {w : World} {vals : List Value} (R : Rel g h w) (hC : g.C = LpC P T) (hr : Reps g vs vals) :
    Calls P f vals.toArray w fun e w' => ∃ v g', e = .returned v ∧ Le g g' ∧ Rel g' h' w' ∧ Rep g' r v ∧ Fx w w' := by
  obtain ⟨k, hk⟩ := callW_some.1 H
  refine (((callK_ok HT k).fn f vs h r h' hy hk).2 g w vals R hC hr).mono ?_
  rintro e w' ⟨g', l1, l2, l3, l4⟩
  obtain ⟨v, rfl, l3'⟩ := l3.np hnp
  exact ⟨v, g', rfl, l1, l2, l3', l4⟩

end
end Zv
end
