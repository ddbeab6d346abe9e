/-
  A run in a greater heap: the names move, nothing else turns.
-/
import Derived.Test.YtfbkbopmenilkaaZwFix
import Derived.Test.YtfbkbopmenilkaaZwReg
set_option linter.unusedSimpArgs false
namespace Zv
open Go

mutual
def sh (s : Nat) : V → V
  | .d x => .d x
  | .tl l nl => .tl (shs s l) nl
  | .own n es tot off len => .own (n + s) es tot off len
  | .ptr n tot i off => .ptr (n + s) tot i off
  | .fp x off => .fp x off
  | .clo f caps => .clo f (shs s caps)
  | .agg l => .agg (shs s l)
  | .tup l => .tup (shs s l)
  | .map n => .map (n + s)
  | .yld n => .yld (n + s)
  | .ub => .ub
  | .undef => .undef
def shs (s : Nat) : List V → List V
  | [] => []
  | v :: r => sh s v :: shs s r
end
theorem shs_map (s : Nat) : ∀ l : List V, shs s l = l.map (sh s)
  | [] => rfl
  | v :: r => by simp [shs, shs_map s r]

def shO (s : Nat) : Ob → Ob
  | .arr es els => .arr es (els.map (sh s))
  | .mp kvs => .mp (kvs.map fun p => (p.1, sh s p.2))
  | .lp b e st => .lp b (e.map fun p => (p.1, sh s p.2)) st
def shK (s : Nat) (p : Nat × Ob) : Nat × Ob := (p.1 + s, shO s p.2)
def shH (b h : Hp) : Hp := ⟨h.objs.map (shK b.next) ++ b.objs, h.next + b.next⟩
def shE (s : Nat) (e : Env) : Env := e.map fun p => (p.1, sh s p.2)

/-- Every name is below the next one. -/
def Low (b : Hp) : Prop := ∀ m, b.next ≤ m → look b.objs m = none

section
variable {s : Nat}

mutual
theorem toD_sh : ∀ v : V, toD (sh s v) = toD v
  | .d _ | .own .. | .ptr .. | .fp .. | .clo .. | .tup _ | .map _ | .yld _ | .ub | .undef => by simp [sh, toD]
  | .tl l nl => by simp only [sh, toD, toDs_sh l]
  | .agg l => by simp only [sh, toD, toDs_sh l]
theorem toDs_sh : ∀ l : List V, toDs (shs s l) = toDs l
  | [] => rfl
  | v :: r => by simp only [shs, toDs, toD_sh v, toDs_sh r]
end
theorem toDs_shm (l : List V) : toDs (l.map (sh s)) = toDs l := by rw [← shs_map, toDs_sh]
theorem norm_sh (v : V) : norm (sh s v) = sh s (norm v) := by
  unfold norm
  rw [toD_sh]
  split <;> rfl
theorem stor_sh (v : V) : stor (sh s v) = stor v := by cases v <;> rfl
theorem map_d_sh (l : List D) : (l.map V.d).map (sh s) = l.map V.d := by rw [List.map_map]; rfl
theorem cells_sh (v : V) : (sh s v).cells = v.cells.map (sh s) := by
  cases v with
  | d x => exact (map_d_sh _).symm
  | agg l => exact shs_map s l
  | _ => rfl
theorem asD_sh : ∀ l : List V, asD (l.map (sh s)) = asD l
  | [] => rfl
  | .d x :: r => by simp only [List.map_cons, sh, asD, asD_sh r]
  | .tl .. :: r | .own .. :: r | .ptr .. :: r | .fp .. :: r | .clo .. :: r | .agg _ :: r | .tup _ :: r | .map _ :: r | .yld _ :: r | .ub :: r | .undef :: r => by simp only [List.map_cons, sh, asD]
theorem mkAgg_sh (l : List V) : mkAgg (l.map (sh s)) = sh s (mkAgg l) := by
  unfold mkAgg
  rw [asD_sh]
  split
  · rfl
  · simp [sh, shs_map]
theorem get_sh : ∀ (e : Env) (t : Nat), Env.get (shE s e) t = sh s (e.get t)
  | [], _ => rfl
  | (u, v) :: r, t => by
    show (if t = u then sh s v else Env.get (shE s r) t) = sh s (if t = u then v else Env.get r t)
    rw [get_sh r t]
    split <;> rfl
theorem putO_sh (e : Env) (t : Option Nat) (v : V) : (shE s e).putO t (sh s v) = shE s (e.putO t v) := by cases t <;> rfl
theorem keep_sh (e : Env) : ∀ l : List Nat, Env.keep (shE s e) l = shE s (Env.keep e l)
  | [] => rfl
  | t :: l => by
    show (t, Env.get (shE s e) t) :: Env.keep (shE s e) l = (t, sh s (e.get t)) :: shE s (Env.keep e l)
    rw [get_sh, keep_sh e l]
theorem keepE_sh (e : Env) (k : Option (List Nat)) : keepE k (shE s e) = shE s (keepE k e) := by
  cases k with
  | none => rfl
  | some l => exact keep_sh e l
theorem args_sh : ∀ (i : Nat) (l : List V), args i (l.map (sh s)) = shE s (args i l)
  | _, [] => rfl
  | i, v :: r => by simp only [List.map_cons, args, args_sh (i + 1) r]; rfl
theorem normArgs_sh : ∀ (b : List Bool) (l : List V), normArgs b (l.map (sh s)) = (normArgs b l).map (sh s)
  | [], _ => by simp [normArgs]
  | _ :: _, [] => rfl
  | b :: bs, v :: r => by
    simp only [List.map_cons, normArgs, normArgs_sh bs r, norm_sh]
    split <;> rfl

/-! Operations on values -/
theorem isNil_sh (k : NK) (v : V) : isNil k (sh s v) = isNil k v := by
  cases v with
  | tl l nl => cases l <;> cases k <;> rfl
  | d x => rfl
  | _ => cases k <;> rfl
theorem ubOf_sh {k : NK} {v r : V} (H : ubOf k v = some r) : ubOf k (sh s v) = some (sh s r) := by
  unfold ubOf at H
  split at H <;> cases H <;> rfl
theorem nilBin_sh {k : NK} {op : BinOp} {v r : V} (H : nilBin k op v = some r) : nilBin k op (sh s v) = some (sh s r) := by
  unfold nilBin at H ⊢
  rw [isNil_sh]
  split at H
  · rename_i b hb; cases H; simp [sh]
  · rename_i b hb; cases H; simp [sh]
  · exact ubOf_sh H
  · exact ubOf_sh H
  · cases H
theorem intBin_d {op : BinOp} {k : IntKind} {a b : Int} {r : V} (H : intBin op k a b = some r) : sh s r = r := by
  unfold intBin at H
  split at H <;> (try split at H) <;> cases H <;> rfl
theorem strBin_d {op : BinOp} {a b : ByteArray} {r : V} (H : strBin op a b = some r) : sh s r = r := by
  unfold strBin at H
  split at H <;> (try split at H) <;> cases H <;> rfl
theorem bin_sh {op : BinOp} {a b r : V} (H : bin op a b = some r) : bin op (sh s a) (sh s b) = some (sh s r) := by
  unfold bin at H
  split at H
  · split at H
    · rename_i h; subst h; rw [intBin_d H]; simpa [bin, sh] using H
    · cases H
  · rw [strBin_d H]; exact H
  · cases H
theorem binB_sh {op : BinOp} {a b r : V} (H : binB op a b = some r) : binB op (sh s a) (sh s b) = some (sh s r) := by
  unfold binB at H
  split at H
  · split at H <;> cases H <;> rfl
  · cases H
theorem aggBin_sh {ks : List KK} {op : BinOp} {a b r : V} (H : aggBin ks op a b = some r) : aggBin ks op (sh s a) (sh s b) = some (sh s r) := by
  unfold aggBin at H
  split at H
  · rename_i x y
    split at H
    · rename_i h1; cases H; simp only [aggBin, sh, h1]
    · rename_i h1; cases H; simp only [aggBin, sh, h1]
    · cases H
  · cases H
theorem un_sh {op : UnOp} {a r : V} (H : un op a = some r) : un op (sh s a) = some (sh s r) := by
  unfold un at H
  split at H
  · split at H <;> cases H <;> rfl
  · split at H <;> cases H <;> rfl
  · cases H
theorem pick_sh {c a b r : V} (H : pick c a b = some r) : pick (sh s c) (sh s a) (sh s b) = some (sh s r) := by
  unfold pick at H
  split at H
  · cases H; simp only [pick, sh]; split <;> rfl
  · cases H
theorem conv_sh {k : IntKind} {a r : V} (H : conv k a = some r) : conv k (sh s a) = some (sh s r) := by
  unfold conv at H
  split at H
  · cases H; rfl
  · cases H
theorem nilck_sh {a r : V} (H : nilck a = some r) : nilck (sh s a) = some (sh s r) := by
  unfold nilck at H
  split at H <;> cases H <;> rfl
theorem lenS_sh {a r : V} (H : lenS a = some r) : lenS (sh s a) = some (sh s r) := by
  unfold lenS at H
  split at H <;> cases H; rfl
theorem lenL_sh {a r : V} (H : lenL a = some r) : lenL (sh s a) = some (sh s r) := by
  unfold lenL at H
  split at H <;> cases H
  · rfl
  · simp [lenL, sh, shs_map, int]
  · rfl
theorem ixOf_sh (v : V) : ixOf (sh s v) = ixOf v := by cases v <;> rfl
theorem ia_sh {es : Nat} {x i r : V} (H : ia es x i = some r) : ia es (sh s x) (sh s i) = some (sh s r) := by
  unfold ia at H ⊢
  rw [ixOf_sh]
  split at H
  · simp only [sh, Option.bind_eq_some_iff] at H ⊢
    obtain ⟨j, h1, y, h2, h3⟩ := H
    refine ⟨j, h1, y, h2, ?_⟩
    split at h3 <;> cases h3
    rename_i hc; rw [if_pos hc]; rfl
  · simp only [sh, Option.bind_eq_some_iff] at H ⊢
    obtain ⟨j, h1, y, h2, x, h3, h4⟩ := H
    refine ⟨j, h1, sh s y, by rw [shs_map]; simp [h2], x, by rw [toD_sh]; exact h3, ?_⟩
    split at h4 <;> cases h4
    rename_i hc; rw [if_pos hc]; rfl
  · simp only [sh, Option.bind_eq_some_iff] at H ⊢
    obtain ⟨j, h1, h2⟩ := H
    refine ⟨j, h1, ?_⟩
    split at h2 <;> cases h2
    rename_i hc; rw [if_pos hc]; rfl
  · cases H
theorem ixS_sh {x i r : V} (H : ixS x i = some r) : ixS (sh s x) (sh s i) = some (sh s r) := by
  unfold ixS at H
  split at H
  · rename_i b
    simp only [sh, ixS, ixOf_sh, Option.bind_eq_some_iff] at H ⊢
    obtain ⟨j, h1, h2⟩ := H
    refine ⟨j, h1, ?_⟩
    split at h2 <;> cases h2
    rename_i hc; rw [dif_pos hc]; rfl
  · cases H
theorem fa_sh {off : Nat} {x r : V} (H : fa off x = some r) : fa off (sh s x) = some (sh s r) := by
  unfold fa at H
  split at H <;> cases H <;> rfl
theorem partV_sh {ag : Bool} {off sz : Nat} {l : List V} {r : V} (H : partV ag off sz l = some r) : partV ag off sz (l.map (sh s)) = some (sh s r) := by
  unfold partV at H ⊢
  split at H
  · rename_i hag
    rw [if_pos hag]
    split at H <;> cases H
    rename_i hc
    rw [if_pos (by rw [List.length_map]; exact hc), ← List.map_drop, ← List.map_take, mkAgg_sh]
  · rename_i hag
    rw [if_neg hag, List.getElem?_map, H]; rfl
theorem fld_sh {ag : Bool} {off sz : Nat} {x r : V} (H : fld ag off sz x = some r) : fld ag off sz (sh s x) = some (sh s r) := by
  unfold fld at H
  split at H
  · simp only [Option.map_eq_some_iff] at H
    obtain ⟨y, h1, h2⟩ := H
    subst h2
    simp [fld, sh, h1]
  · have := partV_sh (s := s) H
    simpa [fld, sh, shs_map] using this
  · cases H
theorem bnd_sh (n : Nat) (x : Option V) : bnd n (x.map (sh s)) = bnd n x := by cases x <;> simp [bnd, ixOf_sh]
theorem allV_sh (es : Nat) (l : List V) : allV es (l.map (sh s)) = allV es l := by
  unfold allV
  rw [List.all_map]
  congr 1
  funext x
  simp [cells_sh]
theorem slcS_sh {x r : V} {lo hi : Option V} (H : slcS x lo hi = some r) : slcS (sh s x) (lo.map (sh s)) (hi.map (sh s)) = some (sh s r) := by
  unfold slcS at H
  split at H
  · simp only [slcS, sh, bnd_sh]
    rw [H]
    simp only [Option.bind_eq_some_iff] at H
    obtain ⟨a, _, b, _, h⟩ := H
    split at h <;> cases h
    rfl
  · cases H
theorem slc_sh {es : Nat} {x r : V} {lo hi : Option V} (H : slc es x lo hi = some r) : slc es (sh s x) (lo.map (sh s)) (hi.map (sh s)) = some (sh s r) := by
  unfold slc at H
  split at H
  · simp only [slc, sh, bnd_sh]
    rw [H]
    simp only [Option.bind_eq_some_iff] at H
    obtain ⟨a, _, b, _, h⟩ := H
    split at h <;> cases h
    rfl
  · simp only [slc, sh, bnd_sh, shs_map, List.length_map, allV_sh, Option.bind_eq_some_iff] at H ⊢
    obtain ⟨a, h1, b, h2, h⟩ := H
    refine ⟨a, h1, b, h2, ?_⟩
    split at h <;> cases h
    rename_i hc; rw [if_pos hc]
    simp [sh, shs_map, List.map_drop]
  · simp only [slc, sh, bnd_sh, Option.bind_eq_some_iff] at H ⊢
    obtain ⟨a, h1, b, h2, h⟩ := H
    refine ⟨a, h1, b, h2, ?_⟩
    split at h <;> cases h
    rename_i hc; rw [if_pos hc]; rfl
  · cases H
theorem slc3_sh {es : Nat} {x r : V} {lo hi mx : Option V} (H : slc3 es x lo hi mx = some r) : slc3 es (sh s x) (lo.map (sh s)) (hi.map (sh s)) (mx.map (sh s)) = some (sh s r) := by
  unfold slc3 at H
  split at H
  · simp only [slc3, sh, bnd_sh, Option.bind_eq_some_iff] at H ⊢
    obtain ⟨a, h1, b, h2, c, h3, h⟩ := H
    refine ⟨a, h1, b, h2, c, h3, ?_⟩
    split at h <;> cases h
    rename_i hc; rw [if_pos hc]
    simp only [sh, shs_map, List.map_map]; rfl
  · simp only [slc3, sh, bnd_sh, shs_map, List.length_map, allV_sh, Option.bind_eq_some_iff] at H ⊢
    obtain ⟨a, h1, b, h2, c, h3, h⟩ := H
    refine ⟨a, h1, b, h2, c, h3, ?_⟩
    split at h <;> cases h
    rename_i hc; rw [if_pos hc]
    simp [sh, shs_map, List.map_drop, List.map_take]
  · cases H
theorem ext_sh {i : Nat} {x r : V} (H : ext i x = some r) : ext i (sh s x) = some (sh s r) := by
  unfold ext at H
  split at H
  · simp [ext, sh, shs_map, H]
  · cases H
theorem lay_sh : ∀ (ps : List (Nat × Nat × V)) (cs r : List V), lay cs ps = some r → lay (cs.map (sh s)) (ps.map fun p => (p.1, p.2.1, sh s p.2.2)) = some (r.map (sh s))
  | [], cs, r, H => by cases H; rfl
  | (off, sz, v) :: ps, cs, r, H => by
    simp only [lay] at H
    split at H
    · rename_i hc
      simp only [List.map_cons, lay]
      rw [if_pos (by rw [stor_sh, cells_sh, List.length_map, List.length_map]; exact hc)]
      have := lay_sh ps _ r H
      rw [cells_sh, ← List.map_take, ← List.map_drop, ← List.map_append, ← List.map_append]
      exact this
    · cases H
end

section
variable {b : Hp} {h : Hp}

theorem look_map : ∀ (l : List (Nat × Ob)) (base : List (Nat × Ob)) (n s : Nat), look (l.map (shK s) ++ base) (n + s) = match look l n with
    | some o => some (shO s o)
    | none => look base (n + s)
  | [], base, n, s => rfl
  | (m, o) :: l, base, n, s => by
    show (if n + s = m + s then some (shO s o) else look (l.map (shK s) ++ base) (n + s)) = match (if n = m then some o else look l n) with
      | some o => some (shO s o)
      | none => look base (n + s)
    by_cases hn : n = m
    · subst hn; simp
    · rw [if_neg (by omega), if_neg hn]; exact look_map l base n s
theorem get_shH (L : Low b) (n : Nat) : (shH b h).get (n + b.next) = (h.get n).map (shO b.next) := by
  unfold Hp.get shH
  rw [look_map]
  split
  · rename_i o ho; rw [ho]; rfl
  · rename_i ho; rw [ho]; exact L _ (by omega)
theorem row_shH (L : Low b) (n tot : Nat) : (shH b h).row (n + b.next) tot = (h.row n tot).map fun r => (r.1, r.2.map (sh b.next)) := by
  unfold Hp.row
  rw [get_shH L]
  cases h.get n with
  | none => rfl
  | some o =>
    cases o with
    | arr es els =>
      simp only [Option.map_some, shO, List.length_map]
      split <;> rfl
    | mp kvs => rfl
    | lp _ _ _ => rfl
theorem upd_map : ∀ (l : List (Nat × Ob)) (base : List (Nat × Ob)) (n s : Nat) (o q : Ob), look l n = some q → upd (l.map (shK s) ++ base) (n + s) (shO s o) = (upd l n o).map (shK s) ++ base
  | [], _, _, _, _, _, hq => by cases hq
  | (m, x) :: l, base, n, s, o, q, hq => by
    show (if n + s = m + s then (m + s, shO s o) :: (l.map (shK s) ++ base) else (m + s, shO s x) :: upd (l.map (shK s) ++ base) (n + s) (shO s o)) = _
    unfold look at hq
    by_cases hn : n = m
    · subst hn; simp [upd, shK]
    · rw [if_neg hn] at hq
      rw [if_neg (by omega), upd_map l base n s o q hq]
      simp [upd, hn, shK]
theorem set_shH {n : Nat} {o q : Ob} (hq : h.get n = some q) : (shH b h).set (n + b.next) (shO b.next o) = shH b (h.set n o) := by
  unfold Hp.set shH
  simp only [Hp.mk.injEq, and_true]
  exact upd_map _ _ _ _ _ q hq
theorem alloc_shH (o : Ob) : (shH b h).alloc (shO b.next o) = shH b (h.alloc o) := by
  unfold Hp.alloc shH
  simp [shK]
  omega
theorem del_low : ∀ {l : List (Nat × Ob)} {n : Nat}, look l n = none → del l n = l
  | [], _, _ => rfl
  | (m, o) :: l, n, hl => by
    unfold look at hl
    split at hl
    · cases hl
    · rename_i hn; unfold del; rw [if_neg hn, del_low hl]
theorem del_map : ∀ (l : List (Nat × Ob)) (base : List (Nat × Ob)) (n s : Nat), look base (n + s) = none → del (l.map (shK s) ++ base) (n + s) = (del l n).map (shK s) ++ base
  | [], base, n, s, hb => by simpa [del] using del_low hb
  | (m, x) :: l, base, n, s, hb => by
    show (if n + s = m + s then (l.map (shK s) ++ base) else (m + s, shO s x) :: del (l.map (shK s) ++ base) (n + s)) = _
    by_cases hn : n = m
    · subst hn; simp [del]
    · rw [if_neg (by omega), del_map l base n s hb]
      simp [del, hn, shK]
theorem kill_shH (L : Low b) (n : Nat) : (shH b h).kill (n + b.next) = shH b (h.kill n) := by
  unfold Hp.kill shH
  simp only [Hp.mk.injEq, and_true]
  exact del_map _ _ _ _ (L _ (by omega))
theorem next_shH : (shH b h).next = h.next + b.next := rfl

theorem ld_sh (L : Low b) {ag : Bool} {sz : Nat} {a r : V} (H : ld ag sz h a = some r) : ld ag sz (shH b h) (sh b.next a) = some (sh b.next r) := by
  unfold ld at H
  split at H
  · simp only [Option.map_eq_some_iff] at H
    obtain ⟨y, h1, h2⟩ := H
    subst h2
    simp [ld, sh, h1]
  · simp only [ld, sh, row_shH L, Option.bind_eq_some_iff, Option.map_eq_some_iff] at H ⊢
    obtain ⟨⟨es, els⟩, h1, e, h2, h3⟩ := H
    refine ⟨_, ⟨_, h1, rfl⟩, sh b.next e, by simp [h2], ?_⟩
    split at h3
    · rename_i hc
      rw [if_pos hc]
      split at h3 <;> cases h3
      · rfl
      · rfl
    · rename_i hc
      rw [if_neg hc, cells_sh]
      exact partV_sh h3
  · cases H
theorem ldf_sh (L : Low b) {ag : Bool} {sz : Nat} {a r : V} (H : ldf ag sz h a = some r) : ldf ag sz (shH b h) (sh b.next a) = some (sh b.next r) := by
  unfold ldf at H
  split at H
  · exact ld_sh L H
  · cases H
theorem arr_sh (s es : Nat) (l : List V) : Ob.arr es (l.map (sh s)) = shO s (.arr es l) := rfl
theorem row_get' {n tot : Nat} {r : Nat × List V} (H : h.row n tot = some r) : ∃ q, h.get n = some q := by
  unfold Hp.row at H
  cases hg : h.get n with
  | none => rw [hg] at H; cases H
  | some q => exact ⟨q, rfl⟩
theorem st_sh (L : Low b) {sz : Nat} {a x : V} {h' : Hp} (H : st sz h a x = some h') : st sz (shH b h) (sh b.next a) (sh b.next x) = some (shH b h') := by
  unfold st at H
  split at H
  · simp only [st, sh, row_shH L, Option.bind_eq_some_iff, Option.map_eq_some_iff] at H ⊢
    obtain ⟨⟨es, els⟩, h1, e, h2, h3⟩ := H
    obtain ⟨q, hq⟩ := row_get' h1
    refine ⟨_, ⟨_, h1, rfl⟩, sh b.next e, by simp [h2], ?_⟩
    simp only [stor_sh, cells_sh, List.length_map] at h3 ⊢
    split at h3
    · rename_i hc
      rw [if_pos hc]
      split at h3
      · rename_i hc2
        cases h3
        rw [if_pos hc2, ← List.map_set, arr_sh, set_shH hq]
      · rename_i hc2
        rw [if_neg hc2]
        split at h3
        · rename_i hc3
          cases h3
          rw [if_pos hc3, ← List.map_take, ← List.map_drop, ← List.map_append, ← List.map_append, mkAgg_sh, ← List.map_set, arr_sh, set_shH hq]
        · cases h3
    · cases h3
  · cases H
theorem elems_sh (L : Low b) {x : V} {l : List V} (H : elems h x = some l) : elems (shH b h) (sh b.next x) = some (l.map (sh b.next)) := by
  unfold elems at H
  split at H
  · cases H; simp only [elems, sh, map_d_sh]
  · cases H; simp only [elems, sh, shs_map]
  · simp only [elems, sh, row_shH L, Option.bind_eq_some_iff, Option.map_eq_some_iff] at H ⊢
    obtain ⟨⟨es, els⟩, h1, h2⟩ := H
    refine ⟨_, ⟨_, h1, rfl⟩, ?_⟩
    simp only [List.length_map]
    split at h2
    · rename_i hc
      cases h2
      rw [if_pos hc, ← List.map_drop, ← List.map_take]
    · cases h2
  · cases H
theorem norms_sh (s : Nat) (l : List V) : (l.map (sh s)).map norm = (l.map norm).map (sh s) := by
  rw [List.map_map, List.map_map]
  exact List.map_congr_left fun x _ => norm_sh x

theorem app_sh (L : Low b) {es by_ : Nat} {x y : V} {r : V × Hp} (H : app es by_ h x y = some r) : app es by_ (shH b h) (sh b.next x) (sh b.next y) = some (sh b.next r.1, shH b r.2) := by
  unfold app at H ⊢
  simp only [Option.bind_eq_some_iff] at H ⊢
  obtain ⟨xs, h1, h2⟩ := H
  refine ⟨_, elems_sh L h1, ?_⟩
  simp only [norms_sh, allV_sh] at h2 ⊢
  split at h2
  case isFalse => cases h2
  rename_i hc
  rw [if_pos hc]
  clear hc h1
  generalize xs.map norm = ns at h2 ⊢
  cases x with
  | tl l nl =>
    simp only [sh, shs_map, allV_sh, List.length_map, List.isEmpty_map] at h2 ⊢
    split at h2
    · rename_i hc2; cases h2; rw [if_pos hc2]; simp [sh, shs_map]
    · rename_i hc2
      rw [if_neg hc2]
      split at h2
      · rename_i hc3
        cases h2
        rw [if_pos hc3, ← List.map_append, arr_sh, alloc_shH]
        simp [sh, next_shH]
      · cases h2
  | own n e tot off len =>
    simp only [sh, row_shH L, Option.bind_eq_some_iff, Option.map_eq_some_iff] at h2 ⊢
    obtain ⟨⟨es', els⟩, h3, h4⟩ := h2
    obtain ⟨q, hq⟩ := row_get' h3
    refine ⟨_, ⟨_, h3, rfl⟩, ?_⟩
    simp only [List.length_map, List.isEmpty_map] at h4 ⊢
    split at h4
    case isFalse => cases h4
    rename_i hc2
    rw [if_pos hc2]
    split at h4
    · rename_i hc3; cases h4; rw [if_pos hc3]; rfl
    · rename_i hc3
      rw [if_neg hc3]
      split at h4
      · rename_i hc4
        cases h4
        rw [if_pos hc4, ← List.map_take, ← List.map_drop, ← List.map_append, ← List.map_append, arr_sh, set_shH hq]
        rfl
      · rename_i hc4
        rw [if_neg hc4]
        split at h4
        · rename_i hc5
          rw [if_pos hc5]
          split at h4
          · rename_i hc6
            cases h4
            rw [if_pos hc6, ← List.map_take, ← List.map_append, arr_sh, set_shH hq]
            rfl
          · rename_i hc6
            cases h4
            rw [if_neg hc6, ← List.map_drop, ← List.map_take, ← List.map_append, arr_sh, kill_shH L, alloc_shH]
            simp [sh, next_shH]
        · cases h4
  | d x =>
    cases x with
    | lst l =>
      simp only [sh, List.isEmpty_map] at h2 ⊢
      split at h2
      · rename_i hc2; cases h2; rw [if_pos hc2]; rfl
      · cases h2
    | _ => cases h2
  | _ => cases h2
theorem appn_sh (L : Low b) {es by_ : Nat} {x y : V} {r : V × Hp} (H : appn es by_ h x y = some r) : appn es by_ (shH b h) (sh b.next x) (sh b.next y) = some (sh b.next r.1, shH b r.2) := by
  unfold appn at H
  split at H
  · exact app_sh L H
  · cases H
theorem elems0_sh {n : Nat} {x : V} {l : List V} (H : elems0 x = some l) : elems0 (sh n x) = some (l.map (sh n)) := by
  unfold elems0 at H
  split at H
  · cases H; simp only [elems0, sh, map_d_sh]
  · cases H; simp only [elems0, sh, shs_map]
  · cases H
theorem appd_sh {b : Hp} {es by_ : Nat} {x y v : V} (H : appd es by_ x y = some v) : appd es by_ (sh b.next x) (sh b.next y) = some (sh b.next v) := by
  unfold appd at H
  split at H
  · rename_i l nl
    simp only [Option.bind_eq_some_iff] at H
    obtain ⟨xs, h1, h2⟩ := H
    have e0 : toD (V.tl (l.map (sh b.next)) nl) = toD (.tl l nl) := by
      have := toD_sh (s := b.next) (.tl l nl)
      simp only [sh, shs_map] at this
      exact this
    simp only [appd, sh, shs_map, elems0_sh h1, Option.bind_some]
    simp only [e0, allV_sh, List.length_map, norms_sh, List.isEmpty_map] at h2 ⊢
    split at h2
    case isFalse => cases h2
    rename_i hc
    rw [if_pos hc]
    split at h2
    · rename_i hc2
      rw [if_pos hc2]
      simp only [Option.map_eq_some_iff] at h2 ⊢
      obtain ⟨q, hq, rfl⟩ := h2
      exact ⟨q, hq, by simp [sh]⟩
    · rename_i hc2
      rw [if_neg hc2]
      split at h2
      · rename_i hc3
        rw [if_pos hc3]
        simp only [Option.map_eq_some_iff] at h2 ⊢
        obtain ⟨q, hq, rfl⟩ := h2
        exact ⟨q, by rw [← List.map_append, toDs_shm]; exact hq, by simp [sh]⟩
      · cases h2
  · cases H
theorem cpy_sh (L : Low b) {es : Nat} {x y : V} {r : V × Hp} (H : cpy es h x y = some r) : cpy es (shH b h) (sh b.next x) (sh b.next y) = some (sh b.next r.1, shH b r.2) := by
  unfold cpy at H ⊢
  simp only [Option.bind_eq_some_iff] at H ⊢
  obtain ⟨xs, h1, h2⟩ := H
  refine ⟨_, elems_sh L h1, ?_⟩
  simp only [allV_sh, List.length_map] at h2 ⊢
  split at h2
  case isFalse => cases h2
  rename_i hc
  rw [if_pos hc]
  cases x with
  | own n e tot off len =>
    simp only [sh, row_shH L, Option.bind_eq_some_iff, Option.map_eq_some_iff] at h2 ⊢
    obtain ⟨⟨es', els⟩, h3, h4⟩ := h2
    obtain ⟨q, hq⟩ := row_get' h3
    refine ⟨_, ⟨_, h3, rfl⟩, ?_⟩
    simp only [List.length_map] at h4 ⊢
    split at h4
    · rename_i hc2
      cases h4
      rw [if_pos hc2, ← List.map_take, ← List.map_take, ← List.map_drop, ← List.map_append, ← List.map_append, arr_sh, set_shH hq]
      rfl
    · cases h4
  | tl l nl =>
    cases l with
    | nil => cases h2; rfl
    | cons _ _ => cases h2
  | _ => cases h2
theorem mkslO_sh {z : V} (hz : sh b.next z = z) {es by_ : Nat} {n : V} {r : V × Hp} (H : mkslO z es by_ h n = some r) : mkslO z es by_ (shH b h) (sh b.next n) = some (sh b.next r.1, shH b r.2) := by
  unfold mkslO at H ⊢
  rw [ixOf_sh]
  simp only [Option.bind_eq_some_iff] at H ⊢
  obtain ⟨k, h1, h2⟩ := H
  refine ⟨k, h1, ?_⟩
  split at h2
  · rename_i hc
    cases h2
    rw [if_pos hc, ← alloc_shH]
    simp [sh, next_shH, shO, hz]
  · cases h2
theorem mkslT_sh {s : Nat} {z : V} (hz : sh s z = z) {by_ : Nat} {n r : V} (H : mkslT z by_ n = some r) : mkslT z by_ (sh s n) = some (sh s r) := by
  unfold mkslT at H ⊢
  rw [ixOf_sh]
  simp only [Option.bind_eq_some_iff] at H ⊢
  obtain ⟨k, h1, h2⟩ := H
  refine ⟨k, h1, ?_⟩
  split at h2
  · rename_i hc
    cases h2
    rw [if_pos hc]
    simp [sh, shs_map, hz]
  · cases h2
theorem entries_sh (L : Low b) {m : V} {l : List (D × V)} (H : entries h m = some l) : entries (shH b h) (sh b.next m) = some (l.map fun p => (p.1, sh b.next p.2)) := by
  unfold entries at H
  split at H
  · rename_i n
    simp only [entries, sh, get_shH L]
    split at H
    · rename_i kvs hg
      cases H
      rw [hg]; rfl
    · cases H
  · cases H; rfl
  · cases H
theorem findK_sh (s : Nat) (kk : KK) (k : D) : ∀ (l : List (D × V)) (r : Option V), findK kk k l = some r → findK kk k (l.map fun p => (p.1, sh s p.2)) = some (r.map (sh s))
  | [], r, H => by cases H; rfl
  | (q, v) :: l, r, H => by
    simp only [findK, List.map_cons] at H ⊢
    split at H
    · cases H; rfl
    · exact findK_sh s kk k l r H
    · cases H
theorem putK_sh (s : Nat) (kk : KK) (k : D) (x : V) : ∀ (l r : List (D × V)), putK kk k x l = some r → putK kk k (sh s x) (l.map fun p => (p.1, sh s p.2)) = some (r.map fun p => (p.1, sh s p.2))
  | [], r, H => by cases H; rfl
  | (q, v) :: l, r, H => by
    simp only [putK, List.map_cons] at H ⊢
    split at H
    · cases H; rfl
    · simp only [Option.map_eq_some_iff] at H ⊢
      obtain ⟨t, h2, h3⟩ := H
      subst h3
      exact ⟨_, putK_sh s kk k x l t h2, rfl⟩
    · cases H
theorem lk_sh (L : Low b) {kk : KK} {z : V} (hz : sh b.next z = z) {ok : Bool} {m k r : V} (H : lk kk z ok h m k = some r) : lk kk z ok (shH b h) (sh b.next m) (sh b.next k) = some (sh b.next r) := by
  unfold lk at H
  split at H
  · simp only [lk, sh, Option.bind_eq_some_iff, Option.map_eq_some_iff] at H ⊢
    obtain ⟨kvs, h1, o, h2, h3⟩ := H
    refine ⟨_, entries_sh L h1, _, findK_sh _ _ _ _ _ h2, ?_⟩
    subst h3
    have hg : (o.map (sh b.next)).getD z = sh b.next (o.getD z) := by cases o <;> simp [hz]
    split
    · simp [sh, shs, hg]
    · exact hg
  · cases H
theorem mu_sh (L : Low b) {kk : KK} {m k x : V} {h' : Hp} (H : mu kk h m k x = some h') : mu kk (shH b h) (sh b.next m) (sh b.next k) (sh b.next x) = some (shH b h') := by
  unfold mu at H
  split at H
  · simp only [mu, sh, get_shH L]
    split at H
    · rename_i n k kvs hg
      rw [hg]
      simp only [Option.map_some, shO, stor_sh, norm_sh]
      split at H
      · rename_i hc
        rw [if_pos hc]
        simp only [Option.map_eq_some_iff] at H ⊢
        obtain ⟨t, h2, h3⟩ := H
        subst h3
        refine ⟨_, putK_sh _ _ _ _ _ _ h2, ?_⟩
        exact set_shH (o := .mp t) hg
      · cases H
    · cases H
  · cases H
theorem lenM_sh (L : Low b) {x r : V} (H : lenM h x = some r) : lenM (shH b h) (sh b.next x) = some (sh b.next r) := by
  unfold lenM at H ⊢
  simp only [Option.map_eq_some_iff] at H ⊢
  obtain ⟨l, h1, h2⟩ := H
  subst h2
  exact ⟨_, entries_sh L h1, by simp [int, sh]⟩
theorem frz_sh (L : Low b) {v : V} {r : V × Hp} (H : frz h v = some r) : frz (shH b h) (sh b.next v) = some (sh b.next r.1, shH b r.2) := by
  unfold frz at H
  split at H
  · simp only [frz, sh, row_shH L, Option.bind_eq_some_iff, Option.map_eq_some_iff] at H ⊢
    obtain ⟨⟨es, els⟩, h1, h2⟩ := H
    refine ⟨_, ⟨_, h1, rfl⟩, ?_⟩
    simp only [List.length_map] at h2 ⊢
    split at h2
    · rename_i hc
      rw [if_pos hc, ← List.map_drop, ← List.map_take, toDs_shm]
      simp only [Option.map_eq_some_iff] at h2 ⊢
      obtain ⟨l, h3, h4⟩ := h2
      subst h4
      exact ⟨l, h3, by rw [kill_shH L]; rfl⟩
    · cases h2
  · simp only [frz, sh, row_shH L, Option.bind_eq_some_iff, Option.map_eq_some_iff] at H ⊢
    obtain ⟨⟨es, els⟩, h1, e, h2, h3⟩ := H
    refine ⟨_, ⟨_, h1, rfl⟩, sh b.next e, by simp [h2], ?_⟩
    rw [toD_sh]
    split at h3
    · rename_i x hx; subst h3; rw [kill_shH L]; rfl
    · subst h3; rfl
  · rename_i hn1 hn2
    simp only [Option.map_eq_some_iff] at H
    obtain ⟨x, h1, h2⟩ := H
    subst h2
    have hfin : ∀ u : V, (∀ n es tot off len, u ≠ .own n es tot off len) → (∀ n tot i off, u ≠ .ptr n tot i off) → toD u = some x → frz (shH b h) u = some (.d x, shH b h) := by
      intro u k1 k2 k3
      cases u with
      | own n es tot off len => exact absurd rfl (k1 _ _ _ _ _)
      | ptr n tot i off => exact absurd rfl (k2 _ _ _ _)
      | _ => simp only [frz, k3, Option.map_some]
    refine hfin _ (fun n es tot off len he => ?_) (fun n tot i off he => ?_) (by rw [toD_sh]; exact h1)
    · cases v <;> simp [sh] at he
      exact hn1 _ _ _ _ _ rfl
    · cases v <;> simp [sh] at he
      exact hn2 _ _ _ _ rfl
end


/-! ### Code without names -/
mutual
def clV : V → Bool
  | .d _ | .fp _ _ | .ub | .undef => true
  | .tl l _ | .clo _ l | .agg l | .tup l => clVs l
  | .own .. | .ptr .. | .map _ | .yld _ => false
def clVs : List V → Bool
  | [] => true
  | v :: r => clV v && clVs r
end
mutual
theorem clV_sh {s : Nat} : ∀ {v : V}, clV v = true → sh s v = v
  | .d _, _ | .fp _ _, _ | .ub, _ | .undef, _ => rfl
  | .tl l _, h | .clo _ l, h | .agg l, h | .tup l, h => by simp only [clV] at h; simp only [sh, clVs_sh h]
  | .own .., h | .ptr .., h | .map _, h | .yld _, h => by simp [clV] at h
theorem clVs_sh {s : Nat} : ∀ {l : List V}, clVs l = true → shs s l = l
  | [], _ => rfl
  | v :: r, h => by simp only [clVs, Bool.and_eq_true] at h; simp only [shs, clV_sh h.1, clVs_sh h.2]
end
def clO : Opd → Bool
  | .t _ => true
  | .c v => clV v
def clOo : Option Opd → Bool
  | none => true
  | some x => clO x
def clOp : AOp → Bool
  | .mv x | .box _ x | .ld _ _ x | .nilck x | .nilBin _ _ x | .un _ x | .conv _ x | .fa _ x | .fld _ _ _ x
  | .lenS x | .lenL x | .lenM x | .ext _ x | .ldf _ _ x => clO x
  | .mksl z _ _ x | .mkslT z _ x => clV z && clO x
  | .pick c a b => clO c && clO a && clO b
  | .alloc _ z => clV z
  | .mkmap => true
  | .build z ps => clVs z && ps.all fun p => clO p.2.2
  | .bsl _ xs | .bslO _ xs | .mkf _ xs => xs.all clO
  | .st _ x y | .bin _ x y | .binB _ x y | .aggBin _ _ x y | .ia _ x y | .ixS x y | .app _ _ x y | .appn _ _ x y | .appf _ _ x y | .appd _ _ x y | .cpy _ x y => clO x && clO y
  | .lk _ z _ x y => clV z && clO x && clO y
  | .slcS x lo hi | .slc _ x lo hi => clO x && clOo lo && clOo hi
  | .slc3 _ x lo hi mx => clO x && clOo lo && clOo hi && clOo mx
  | .mu _ m k x => clO m && clO k && clO x
  | .call f _ xs | .calln f _ xs => clO f && xs.all clO
def clI : It → Bool
  | .o _ op _ => clOp op
  | _ => true
def clC : AC → Bool
  | .reg its _ => its.all clI
  | .seq a b => clC a && clC b
  | .cond c a b => clO c && clC a && clC b
  | .blk _ a | .loop a => clC a
  | .rng g _ => clO g
  | .amb p c a b r => clC p && clO c && clC a && clC b && clC r
  | _ => true

section
variable {b : Hp} {h : Hp} {e : Env} {cf : Cf}

theorem ev_sh {s : Nat} {x : Opd} (hc : clO x = true) : (shE s e).ev x = sh s (e.ev x) := by
  cases x with
  | t n => exact get_sh e n
  | c v => exact (clV_sh hc).symm
theorem evO_sh {s : Nat} {x : Option Opd} (hc : clOo x = true) : x.map (shE s e).ev = (x.map e.ev).map (sh s) := by
  cases x with
  | none => rfl
  | some y => exact congrArg some (ev_sh hc)
theorem evL_sh {s : Nat} {l : List Opd} (hc : l.all clO = true) : l.map (shE s e).ev = (l.map e.ev).map (sh s) := by
  rw [List.map_map]
  exact List.map_congr_left fun x hx => ev_sh (List.all_eq_true.1 hc x hx)

/-- What a call does in a greater heap. -/
def CfSh (b : Hp) (cf : Cf) : Prop := ∀ v vs h r, cf v vs h = some r → cf (sh b.next v) (vs.map (sh b.next)) (shH b h) = some (sh b.next r.1, shH b r.2)

theorem pure_sh {f : Option V} {g : Option V} {r : V × Hp} (hf : ∀ v, f = some v → g = some (sh b.next v)) (H : pureV h f = some r) : pureV (shH b h) g = some (sh b.next r.1, shH b r.2) := by
  cases f with
  | none => cases H
  | some v => cases H; rw [hf v rfl]; rfl

theorem objs_eq {h h' : Hp} (ho : objsBeq h.objs h'.objs = true) (hn : h.next = h'.next) : h = h' := by
  have := objsBeq_eq ho
  cases h; cases h'; simp_all

theorem opX_sh (L : Low b) (HC : CfSh b cf) {op : AOp} (hc : clOp op = true) {r : V × Hp} (H : opX cf e h op = some r) : opX cf (shE b.next e) (shH b h) op = some (sh b.next r.1, shH b r.2) := by
  cases op with
  | mv x => cases H; simp only [opX]; rw [ev_sh hc]
  | pick c x y =>
    simp only [clOp, Bool.and_eq_true] at hc
    simp only [opX] at H ⊢
    rw [ev_sh hc.1.1, ev_sh hc.1.2, ev_sh hc.2]
    exact pure_sh (fun v hv => pick_sh hv) H
  | alloc es z =>
    cases H
    simp only [opX, sh, next_shH]
    have hz := clV_sh (s := b.next) hc
    have := alloc_shH (b := b) (h := h) (.arr es [z])
    simp only [shO, List.map_cons, List.map_nil, hz] at this
    rw [this]
  | box es x =>
    simp only [opX] at H ⊢
    rw [ev_sh hc, stor_sh, cells_sh, List.length_map]
    split at H
    · rename_i h1
      cases H
      rw [if_pos h1]
      have := alloc_shH (b := b) (h := h) (.arr es [e.ev x])
      simp only [shO, List.map_cons, List.map_nil] at this
      rw [this]; rfl
    · cases H
  | build z ps =>
    simp only [clOp, Bool.and_eq_true] at hc
    simp only [opX] at H ⊢
    refine pure_sh (fun v hv => ?_) H
    simp only [Option.map_eq_some_iff] at hv ⊢
    obtain ⟨l, h1, h2⟩ := hv
    subst h2
    have h3 := lay_sh (s := b.next) _ _ _ h1
    rw [← shs_map, clVs_sh hc.1, List.map_map] at h3
    refine ⟨_, ?_, mkAgg_sh l⟩
    rw [← h3]
    congr 1
    exact List.map_congr_left fun p hp => by
      show (p.1, p.2.1, (shE b.next e).ev p.2.2) = _
      rw [ev_sh (List.all_eq_true.1 hc.2 p hp)]; rfl
  | bsl es xs =>
    simp only [opX] at H ⊢
    have hl := evL_sh (e := e) (s := b.next) hc
    rw [hl]
    have hall : ((xs.map e.ev).map (sh b.next)).all (fun v => stor v && v.cells.length == es) = (xs.map e.ev).all (fun v => stor v && v.cells.length == es) := by
      rw [List.all_map]; congr 1; funext x; simp [stor_sh, cells_sh]
    rw [hall]
    split at H
    · rename_i h1
      cases H
      rw [if_pos h1]
      simp only [sh, shs_map, List.map_map, Option.some.injEq, Prod.mk.injEq, V.tl.injEq, and_true]
      exact List.map_congr_left fun x hx => by simp only [Function.comp]; rw [ev_sh (List.all_eq_true.1 hc x hx), norm_sh]
    · cases H
  | bslO es xs =>
    simp only [opX] at H ⊢
    have hl := evL_sh (e := e) (s := b.next) hc
    rw [hl]
    have hall : ((xs.map e.ev).map (sh b.next)).all (fun v => stor v && v.cells.length == es) = (xs.map e.ev).all (fun v => stor v && v.cells.length == es) := by
      rw [List.all_map]; congr 1; funext x; simp [stor_sh, cells_sh]
    rw [hall]
    split at H
    · rename_i h1
      cases H
      rw [if_pos h1, ← alloc_shH]
      simp only [sh, next_shH, shO, List.map_map, Option.some.injEq, Prod.mk.injEq, true_and]
      congr 2
      exact List.map_congr_left fun x hx => by simp only [Function.comp]; rw [ev_sh (List.all_eq_true.1 hc x hx), norm_sh]
    · cases H
  | ld ag sz a => simp only [opX] at H ⊢; rw [ev_sh hc]; exact pure_sh (fun v hv => ld_sh L hv) H
  | st sz a x =>
    simp only [clOp, Bool.and_eq_true] at hc
    simp only [opX, Option.map_eq_some_iff] at H ⊢
    obtain ⟨h', h1, h2⟩ := H
    subst h2
    rw [ev_sh hc.1, ev_sh hc.2]
    exact ⟨_, st_sh L h1, rfl⟩
  | nilck x => simp only [opX] at H ⊢; rw [ev_sh hc]; exact pure_sh (fun v hv => nilck_sh hv) H
  | bin op x y => simp only [clOp, Bool.and_eq_true] at hc; simp only [opX] at H ⊢; rw [ev_sh hc.1, ev_sh hc.2]; exact pure_sh (fun v hv => bin_sh hv) H
  | binB op x y => simp only [clOp, Bool.and_eq_true] at hc; simp only [opX] at H ⊢; rw [ev_sh hc.1, ev_sh hc.2]; exact pure_sh (fun v hv => binB_sh hv) H
  | nilBin k op x => simp only [opX] at H ⊢; rw [ev_sh hc]; exact pure_sh (fun v hv => nilBin_sh hv) H
  | aggBin ks op x y => simp only [clOp, Bool.and_eq_true] at hc; simp only [opX] at H ⊢; rw [ev_sh hc.1, ev_sh hc.2]; exact pure_sh (fun v hv => aggBin_sh hv) H
  | un op x => simp only [opX] at H ⊢; rw [ev_sh hc]; exact pure_sh (fun v hv => un_sh hv) H
  | conv k x => simp only [opX] at H ⊢; rw [ev_sh hc]; exact pure_sh (fun v hv => conv_sh hv) H
  | mkf f xs => cases H; simp only [opX, sh, shs_map]; rw [evL_sh hc]
  | mkmap =>
    cases H
    simp only [opX, sh, next_shH]
    have := alloc_shH (b := b) (h := h) (.mp [])
    simp only [shO, List.map_nil] at this
    rw [this]
  | mksl z es by_ n =>
    simp only [clOp, Bool.and_eq_true] at hc
    simp only [opX] at H ⊢
    rw [ev_sh hc.2]
    exact mkslO_sh (clV_sh hc.1) H
  | mkslT z by_ n =>
    simp only [clOp, Bool.and_eq_true] at hc
    simp only [opX] at H ⊢
    rw [ev_sh hc.2]
    exact pure_sh (fun v hv => mkslT_sh (clV_sh hc.1) hv) H
  | slcS x lo hi => simp only [clOp, Bool.and_eq_true] at hc; simp only [opX] at H ⊢; rw [ev_sh hc.1.1, evO_sh hc.1.2, evO_sh hc.2]; exact pure_sh (fun v hv => slcS_sh hv) H
  | slc es x lo hi => simp only [clOp, Bool.and_eq_true] at hc; simp only [opX] at H ⊢; rw [ev_sh hc.1.1, evO_sh hc.1.2, evO_sh hc.2]; exact pure_sh (fun v hv => slc_sh hv) H
  | slc3 es x lo hi mx => simp only [clOp, Bool.and_eq_true] at hc; simp only [opX] at H ⊢; rw [ev_sh hc.1.1.1, evO_sh hc.1.1.2, evO_sh hc.1.2, evO_sh hc.2]; exact pure_sh (fun v hv => slc3_sh hv) H
  | fa off x => simp only [opX] at H ⊢; rw [ev_sh hc]; exact pure_sh (fun v hv => fa_sh hv) H
  | fld ag off sz x => simp only [opX] at H ⊢; rw [ev_sh hc]; exact pure_sh (fun v hv => fld_sh hv) H
  | ia es x y => simp only [clOp, Bool.and_eq_true] at hc; simp only [opX] at H ⊢; rw [ev_sh hc.1, ev_sh hc.2]; exact pure_sh (fun v hv => ia_sh hv) H
  | ixS x y => simp only [clOp, Bool.and_eq_true] at hc; simp only [opX] at H ⊢; rw [ev_sh hc.1, ev_sh hc.2]; exact pure_sh (fun v hv => ixS_sh hv) H
  | lk kk z ok m k => simp only [clOp, Bool.and_eq_true] at hc; simp only [opX] at H ⊢; rw [ev_sh hc.1.2, ev_sh hc.2]; exact pure_sh (fun v hv => lk_sh L (clV_sh hc.1.1) hv) H
  | mu kk m k x =>
    simp only [clOp, Bool.and_eq_true] at hc
    simp only [opX, Option.map_eq_some_iff] at H ⊢
    obtain ⟨h', h1, h2⟩ := H
    subst h2
    rw [ev_sh hc.1.1, ev_sh hc.1.2, ev_sh hc.2]
    exact ⟨_, mu_sh L h1, rfl⟩
  | lenS x => simp only [opX] at H ⊢; rw [ev_sh hc]; exact pure_sh (fun v hv => lenS_sh hv) H
  | lenL x => simp only [opX] at H ⊢; rw [ev_sh hc]; exact pure_sh (fun v hv => lenL_sh hv) H
  | lenM x => simp only [opX] at H ⊢; rw [ev_sh hc]; exact pure_sh (fun v hv => lenM_sh L hv) H
  | app es by_ x y => simp only [clOp, Bool.and_eq_true] at hc; simp only [opX] at H ⊢; rw [ev_sh hc.1, ev_sh hc.2]; exact app_sh L H
  | appn es by_ x y => simp only [clOp, Bool.and_eq_true] at hc; simp only [opX] at H ⊢; rw [ev_sh hc.1, ev_sh hc.2]; exact appn_sh L H
  | appd es by_ x y => simp only [clOp, Bool.and_eq_true] at hc; simp only [opX] at H ⊢; rw [ev_sh hc.1, ev_sh hc.2]; exact pure_sh (fun v hv => appd_sh hv) H
  | appf es by_ x y =>
    simp only [clOp, Bool.and_eq_true] at hc
    simp only [opX] at H ⊢
    rw [ev_sh hc.1, ev_sh hc.2]
    simp only [Option.bind_eq_some_iff] at H ⊢
    obtain ⟨q, h1, h2⟩ := H
    exact ⟨_, app_sh L h1, frz_sh L h2⟩
  | cpy es x y => simp only [clOp, Bool.and_eq_true] at hc; simp only [opX] at H ⊢; rw [ev_sh hc.1, ev_sh hc.2]; exact cpy_sh L H
  | ext i x => simp only [opX] at H ⊢; rw [ev_sh hc]; exact pure_sh (fun v hv => ext_sh hv) H
  | ldf ag sz a => simp only [opX] at H ⊢; rw [ev_sh hc]; exact pure_sh (fun v hv => ldf_sh L hv) H
  | call f nm xs =>
    simp only [clOp, Bool.and_eq_true] at hc
    simp only [opX] at H ⊢
    rw [ev_sh hc.1, evL_sh hc.2, normArgs_sh]
    exact HC _ _ _ _ H
  | calln f nm xs =>
    simp only [clOp, Bool.and_eq_true] at hc
    simp only [opX, Option.bind_eq_some_iff] at H ⊢
    obtain ⟨q, h1, h2⟩ := H
    rw [ev_sh hc.1, evL_sh hc.2, normArgs_sh]
    refine ⟨_, HC _ _ _ _ h1, ?_⟩
    obtain ⟨h3, h4⟩ := quiet_eq h2
    subst h3
    rw [h4]
    unfold quiet
    rw [if_pos ⟨objsBeq_refl _, rfl⟩]

theorem want_sh {s : Nat} (g : Option (Nat × Bool)) : want (shE s e) g = want e g := by
  cases g with
  | none => rfl
  | some p =>
    simp only [want, get_sh]
    cases e.get p.1 with
    | tup l => cases l <;> rfl
    | _ => rfl
theorem itX_sh (L : Low b) (HC : CfSh b cf) {i : It} (hc : clI i = true) {r : Env × Hp} (H : itX cf e h i = some r) : itX cf (shE b.next e) (shH b h) i = some (shE b.next r.1, shH b r.2) := by
  cases i with
  | o dst op g =>
    simp only [itX, want_sh, Option.bind_eq_some_iff] at H ⊢
    obtain ⟨w, hw, H⟩ := H
    refine ⟨w, hw, ?_⟩
    split at H
    · rename_i h1
      rw [if_pos h1]
      simp only [Option.map_eq_some_iff] at H ⊢
      obtain ⟨q, h2, h3⟩ := H
      subst h3
      exact ⟨_, opX_sh L HC hc h2, by rw [putO_sh]⟩
    · rename_i h1
      rw [if_neg h1]
      cases H
      exact congrArg (fun q => some (q, shH b h)) (putO_sh (s := b.next) e dst (.tup []))
  | frz t =>
    simp only [itX, get_sh, Option.map_eq_some_iff] at H ⊢
    obtain ⟨q, h2, h3⟩ := H
    subst h3
    exact ⟨_, frz_sh L h2, rfl⟩
  | kill t =>
    simp only [itX, get_sh] at H ⊢
    split at H
    · rename_i hx
      cases H
      rw [hx]
      simp only [sh]
      rw [kill_shH L]; rfl
    · rename_i hx
      cases H
      rw [hx]
      simp only [sh]
      rw [kill_shH L]; rfl
    · rename_i k1 k2
      cases H
      split
      · rename_i hx
        exfalso
        cases hq : e.get t <;> rw [hq] at hx <;> simp [sh] at hx
        exact k1 _ _ _ _ hq
      · rename_i hx
        exfalso
        cases hq : e.get t <;> rw [hq] at hx <;> simp [sh] at hx
        exact k2 _ _ _ _ _ hq
      · rfl
end

theorem itsX_sh {b : Hp} {cf : Cf} (L : Low b) (HC : CfSh b cf) : ∀ {l : List It} {e : Env} {h : Hp} {r : Env × Hp}, l.all clI = true → itsX cf l e h = some r → itsX cf l (shE b.next e) (shH b h) = some (shE b.next r.1, shH b r.2)
  | [], _, _, _, _, H => by cases H; rfl
  | i :: l, e, h, r, hc, H => by
    simp only [List.all_cons, Bool.and_eq_true] at hc
    simp only [itsX, Option.bind_eq_some_iff] at H ⊢
    obtain ⟨q, h1, h2⟩ := H
    exact ⟨_, itX_sh L HC hc.1 h1, itsX_sh L HC hc.2 h2⟩

def OutSh (b : Hp) (o : Out) : Out := (o.1, shE b.next o.2.1, shH b o.2.2)
def BfSh (b : Hp) (f : Bf) : Prop := ∀ e h r, f e h = some r → f (shE b.next e) (shH b h) = some (OutSh b r)

theorem loopN_sh {b : Hp} {f : Bf} (hf : BfSh b f) : ∀ n, BfSh b (loopN f n)
  | 0 => fun e h r H => by cases H
  | n + 1 => fun e h r H => by
    simp only [loopN, Option.bind_eq_some_iff] at H ⊢
    obtain ⟨⟨x, e1, h1⟩, h2, h3⟩ := H
    refine ⟨_, hf _ _ _ h2, ?_⟩
    cases x with
    | norm => exact loopN_sh hf n _ _ _ h3
    | exit i => cases h3; rfl
    | ret => cases h3; rfl

theorem rngEnd_sh {b : Hp} (L : Low b) {e : Env} {h : Hp} {n : Nat} {r : Out} (H : rngEnd e h n = some r) : rngEnd (shE b.next e) (shH b h) (n + b.next) = some (OutSh b r) := by
  unfold rngEnd at H ⊢
  rw [get_shH L]
  split at H <;> first | (cases H; done) | skip
  all_goals
    rename_i hg
    cases H
    rw [hg]
    simp only [Option.map_some, shO, kill_shH L]
    rfl
theorem joinV_sh {s : Nat} {a b c : V} (h : joinV a b = some c) : joinV (sh s a) (sh s b) = some (sh s c) := by
  unfold joinV at h ⊢
  split at h
  · rename_i hb; cases h
    have := V.beq_eq hb
    subst this
    rw [if_pos (V.beq_refl _)]
  · rename_i hb
    split at h
    · rename_i p q
      cases h
      rw [if_neg (by simpa [sh, shs] using hb)]
      rfl
    · cases h
theorem joinE_sh {s : Nat} : ∀ {e f j : List (Nat × V)}, joinE e f = some j → joinE (shE s e) (shE s f) = some (shE s j)
  | [], [], _, h => by cases h; rfl
  | (u, x) :: r, (u', y) :: l, j, h => by
    unfold joinE at h
    split at h
    case isFalse => cases h
    rename_i hu
    subst hu
    simp only [Option.bind_eq_some_iff, Option.map_eq_some_iff] at h
    obtain ⟨v, h1, k, h2, rfl⟩ := h
    show (if u = u then (joinV (sh s x) (sh s y)).bind fun v => (joinE (shE s r) (shE s l)).map ((u, v) :: ·) else none) = _
    rw [if_pos rfl, joinV_sh h1]
    simp only [Option.bind_some]
    rw [joinE_sh h2]
    rfl
  | [], _ :: _, _, h => by cases h
  | _ :: _, [], _, h => by cases h
theorem outJoin_sh {b : Hp} {o q r : Out} (h : outJoin o q = some r) : outJoin (OutSh b o) (OutSh b q) = some (OutSh b r) := by
  unfold outJoin at h ⊢
  split at h
  · rename_i hc
    obtain ⟨h1, h2, h3⟩ := hc
    simp only [Option.map_eq_some_iff] at h
    obtain ⟨e, he, rfl⟩ := h
    have hq : (OutSh b o).2.2 = (OutSh b q).2.2 := by
      obtain ⟨x, e1, ob, nx⟩ := o
      obtain ⟨x', e2, ob', nx'⟩ := q
      cases objsBeq_eq h2; cases h3; rfl
    rw [if_pos ⟨h1, by rw [hq]; exact objsBeq_refl _, by rw [hq]⟩]
    show (joinE (shE b.next o.2.1) (shE b.next q.2.1)).map _ = _
    rw [joinE_sh he]
    rfl
  · cases h
theorem exec_sh {b : Hp} {cf : Cf} (L : Low b) (HC : CfSh b cf) (k : Nat) : ∀ c : AC, clC c = true → BfSh b (exec (fun f => loopN f k) cf c) := by
  intro c
  induction c with
  | skip => intro _ e h r H; cases H; rfl
  | reg its kp =>
    intro hc e h r H
    simp only [exec, Option.map_eq_some_iff] at H ⊢
    obtain ⟨q, h1, h2⟩ := H
    subst h2
    exact ⟨_, itsX_sh L HC hc h1, by rw [keepE_sh]; rfl⟩
  | seq x y ihx ihy =>
    intro hc e h r H
    simp only [clC, Bool.and_eq_true] at hc
    simp only [exec, Option.bind_eq_some_iff] at H ⊢
    obtain ⟨⟨o, e1, h1⟩, h2, h3⟩ := H
    refine ⟨_, ihx hc.1 _ _ _ h2, ?_⟩
    cases o with
    | norm => exact ihy hc.2 _ _ _ h3
    | exit i => cases h3; rfl
    | ret => cases h3; rfl
  | cond x p q ihp ihq =>
    intro hc e h r H
    simp only [clC, Bool.and_eq_true] at hc
    simp only [exec, Option.bind_eq_some_iff] at H ⊢
    obtain ⟨t, h1, h2⟩ := H
    refine ⟨t, ?_, ?_⟩
    · rw [ev_sh hc.1.1]
      unfold condB at h1
      split at h1
      · rename_i hx; cases h1; rw [hx]; rfl
      · cases h1
    · split at h2
      · rename_i ht; rw [if_pos ht]; exact ihp hc.1.2 _ _ _ h2
      · rename_i ht; rw [if_neg ht]; exact ihq hc.2 _ _ _ h2
  | blk id x ih =>
    intro hc e h r H
    simp only [exec, Option.map_eq_some_iff] at H ⊢
    obtain ⟨o, h1, h2⟩ := H
    subst h2
    exact ⟨_, ih hc _ _ _ h1, rfl⟩
  | loop x ih =>
    intro hc e h r H
    simp only [exec] at H ⊢
    exact loopN_sh (ih hc) k _ _ _ H
  | exit id => intro _ e h r H; cases H; rfl
  | ret => intro _ e h r H; cases H; rfl
  | amb z x p q r' ihz ihp ihq ihr =>
    intro hc e h r H
    simp only [clC, Bool.and_eq_true] at hc
    simp only [exec] at H ⊢
    rw [Option.bind_eq_some_iff] at H ⊢
    obtain ⟨⟨y0, e0, h0⟩, hz, H⟩ := H
    refine ⟨_, ihz hc.1.1.1.1 _ _ _ hz, ?_⟩
    cases y0 with
    | exit i => cases H; rfl
    | ret => cases H; rfl
    | norm =>
    show ambB x (exec (fun f => loopN f k) cf p) (exec (fun f => loopN f k) cf q) (exec (fun f => loopN f k) cf r') (shE b.next e0) (shH b h0) = some (OutSh b r)
    have H : ambB x (exec (fun f => loopN f k) cf p) (exec (fun f => loopN f k) cf q) (exec (fun f => loopN f k) cf r') e0 h0 = some r := H
    have sq : ∀ (p : AC), BfSh b (exec (fun f => loopN f k) cf p) → ∀ o, (exec (fun f => loopN f k) cf p e0 h0).bind (nxt (exec (fun f => loopN f k) cf r')) = some o → (exec (fun f => loopN f k) cf p (shE b.next e0) (shH b h0)).bind (nxt (exec (fun f => loopN f k) cf r')) = some (OutSh b o) := by
      intro p ih o ho
      simp only [Option.bind_eq_some_iff] at ho ⊢
      obtain ⟨⟨y, e1, h1⟩, h2, h3⟩ := ho
      refine ⟨_, ih _ _ _ h2, ?_⟩
      cases y with
      | norm => exact ihr hc.2 _ _ _ h3
      | exit i => cases h3; rfl
      | ret => cases h3; rfl
    unfold ambB at H ⊢
    rw [ev_sh hc.1.1.1.2]
    split at H
    · rename_i hu
      rw [hu]
      simp only [sh]
      rw [Option.bind_eq_some_iff] at H
      obtain ⟨o1, h1, H⟩ := H
      rw [Option.bind_eq_some_iff] at H
      obtain ⟨o2, h2, h3⟩ := H
      rw [sq p (ihp hc.1.1.2) _ h1]
      simp only [Option.bind_some]
      rw [sq q (ihq hc.1.2) _ h2]
      simp only [Option.bind_some]
      exact outJoin_sh h3
    · rename_i v hv
      have hne : sh b.next (e0.ev x) = .ub → False := by
        intro hx
        generalize e0.ev x = y at hx hv
        cases y <;> first | exact hv rfl | cases hx
      split
      · rename_i hx; exact (hne hx).elim
      rw [Option.bind_eq_some_iff] at H
      obtain ⟨t, h1, h2⟩ := H
      have hcb : condB (sh b.next (e0.ev x)) = some t := by
        unfold condB at h1
        split at h1
        · rename_i hx; cases h1; rw [hx]; rfl
        · cases h1
      rw [hcb]
      simp only [Option.bind_some]
      split at h2
      · rename_i ht; rw [if_pos ht]; exact sq p (ihp hc.1.1.2) _ h2
      · rename_i ht; rw [if_neg ht]; exact sq q (ihq hc.1.2) _ h2
  | rng g n =>
    intro hc e h r H
    simp only [exec] at H ⊢
    split at H
    case isFalse => cases H
    rename_i hcl
    simp only [Option.bind_eq_some_iff] at H
    obtain ⟨q, h1, h2⟩ := H
    have hclo : isClo ((shE b.next e).ev g) = true := by
      rw [ev_sh hc]
      generalize e.ev g = v at hcl
      cases v <;> first | rfl | cases hcl
    rw [if_pos hclo, ev_sh hc]
    have hal : (shH b h).alloc (.lp n (shE b.next e) none) = shH b (h.alloc (.lp n e none)) := alloc_shH (.lp n e none)
    rw [hal]
    have hk := HC _ _ _ _ h1
    have hk' : cf (sh b.next (e.ev g)) [.yld (shH b h).next] (shH b (h.alloc (.lp n e none))) = some (sh b.next q.1, shH b q.2) := hk
    rw [hk']
    exact rngEnd_sh L h2

theorem deep_sh {b h : Hp} (L : Low b) (n0 : Nat) : ∀ (k : Nat) (v : V) (x : D), deep h n0 k v = some x → deep (shH b h) (n0 + b.next) k (sh b.next v) = some x
  | 0, v, x, H => by cases H
  | k + 1, v, x, H => by
    have hm : ∀ (l : List V) (r : List D), l.mapM (deep h n0 k) = some r → (l.map (sh b.next)).mapM (deep (shH b h) (n0 + b.next) k) = some r := by
      intro l
      induction l with
      | nil => intro r hr; cases hr; rfl
      | cons y l ih =>
        intro r hr
        rw [List.mapM_cons] at hr
        cases hy : deep h n0 k y with
        | none => rw [hy] at hr; cases hr
        | some d =>
          rw [hy] at hr
          cases hl : l.mapM (deep h n0 k) with
          | none => rw [hl] at hr; cases hr
          | some ds =>
            rw [hl] at hr
            cases hr
            rw [List.map_cons, List.mapM_cons, deep_sh L n0 k y d hy, ih ds hl]; rfl
    cases v with
    | d y => exact H
    | tl l nl =>
      simp only [deep, sh, shs_map, Option.map_eq_some_iff] at H ⊢
      obtain ⟨r, h1, h2⟩ := H
      exact ⟨r, hm l r h1, h2⟩
    | agg l =>
      simp only [deep, sh, shs_map, Option.map_eq_some_iff] at H ⊢
      obtain ⟨r, h1, h2⟩ := H
      exact ⟨r, hm l r h1, h2⟩
    | own n es tot off len =>
      simp only [deep, sh] at H ⊢
      split at H
      · rename_i hn
        rw [if_pos (by omega)]
        simp only [row_shH L, Option.bind_eq_some_iff, Option.map_eq_some_iff] at H ⊢
        obtain ⟨⟨es', els⟩, h1, h2⟩ := H
        refine ⟨_, ⟨_, h1, rfl⟩, ?_⟩
        simp only [List.length_map] at h2 ⊢
        split at h2
        · rename_i hc
          rw [if_pos hc, ← List.map_drop, ← List.map_take]
          simp only [Option.map_eq_some_iff] at h2 ⊢
          obtain ⟨r, h3, h4⟩ := h2
          exact ⟨r, hm _ r h3, h4⟩
        · cases h2
      · cases H
    | _ => cases H

theorem old_sh {s n0 : Nat} {v : V} (H : old n0 v = true) : old (n0 + s) (sh s v) = true := by
  cases v <;> simp only [old, Bool.false_eq_true] at H <;> simp only [old, sh, decide_eq_true_eq] at H ⊢ <;> omega
theorem back1_sh {b h : Hp} (L : Low b) {n0 : Nat} {v r : V} (H : back1 h n0 v = some r) : back1 (shH b h) (n0 + b.next) (sh b.next v) = some (sh b.next r) := by
  unfold back1 at H ⊢
  split at H
  · rename_i x hx
    cases H
    rw [deep_sh L n0 8 v x hx]; rfl
  · split at H
    · rename_i ho
      cases H
      have hn : deep (shH b h) (n0 + b.next) 8 (sh b.next v) = none := by
        cases v with
        | own n es tot off len =>
          have ho' : decide (n < n0) = true := ho
          simp only [decide_eq_true_eq] at ho'
          simp only [sh, deep]
          rw [if_neg (by omega)]
        | ptr n tot i off => rfl
        | map n => rfl
        | yld n => rfl
        | _ => cases ho
      rw [hn]
      simp only
      rw [if_pos (old_sh ho)]
    · cases H
theorem sufOk_sh {b h0 h : Hp} (H : sufOk h0.objs h.objs = true) : sufOk (shH b h0).objs (shH b h).objs = true := by
  unfold sufOk at H ⊢
  have h1 := objsBeq_eq H
  have hle : h0.objs.length ≤ h.objs.length := by
    have := congrArg List.length h1
    rw [List.length_drop] at this
    omega
  have : h.objs = h.objs.take (h.objs.length - h0.objs.length) ++ h0.objs := by
    conv => lhs; rw [← List.take_append_drop (h.objs.length - h0.objs.length) h.objs]
    rw [← h1]
  have h2 : (shH b h).objs = (h.objs.take (h.objs.length - h0.objs.length)).map (shK b.next) ++ (shH b h0).objs := by
    show h.objs.map (shK b.next) ++ b.objs = _ ++ (h0.objs.map (shK b.next) ++ b.objs)
    rw [← List.append_assoc, ← List.map_append, ← this]
  rw [h2, List.length_append, Nat.add_sub_cancel, List.drop_left]
  exact objsBeq_refl _
theorem finish_sh {b h0 h : Hp} (L : Low b) {fn : AF} {e : Env} {r : V × Hp} (H : finish fn h0 e h = some r) : finish fn (shH b h0) (shE b.next e) (shH b h) = some (sh b.next r.1, shH b r.2) := by
  have hres : ∀ (l : List (Nat × Option (Bool × Nat))) (vs : List V), resL e h l = some vs → resL (shE b.next e) (shH b h) l = some (vs.map (sh b.next)) := by
    intro l
    induction l with
    | nil => intro vs hv; cases hv; rfl
    | cons p l ih =>
      intro vs hv
      obtain ⟨t, o⟩ := p
      cases o with
      | none =>
        simp only [resL, Option.map_eq_some_iff] at hv ⊢
        obtain ⟨ws, h1, rfl⟩ := hv
        exact ⟨_, ih ws h1, by rw [List.map_cons, get_sh]⟩
      | some q =>
        obtain ⟨ag, sz⟩ := q
        simp only [resL, Option.bind_eq_some_iff, Option.map_eq_some_iff] at hv ⊢
        obtain ⟨v, h1, ws, h2, rfl⟩ := hv
        exact ⟨sh b.next v, by rw [get_sh]; exact ld_sh L h1, _, ih ws h2, rfl⟩
  have hrv : ∀ l : List V, resV (l.map (sh b.next)) = sh b.next (resV l) := by
    intro l
    match l with
    | [] => rfl
    | [x] => rfl
    | x :: y :: l => simp [resV, sh, shs_map]
  unfold finish at H ⊢
  simp only [Option.bind_eq_some_iff] at H
  obtain ⟨vs0, hv0, H⟩ := H
  rw [hres _ _ hv0]
  simp only [Option.bind_some]
  split at H
  · rename_i hs
    rw [if_pos hs]
    split at H
    · rename_i h1
      rw [if_pos (sufOk_sh h1)]
      simp only [Option.map_eq_some_iff] at H ⊢
      obtain ⟨l, h2, h3⟩ := H
      subst h3
      have hm : ∀ (l r : List V), l.mapM (back1 h h0.next) = some r → (l.map (sh b.next)).mapM (back1 (shH b h) (shH b h0).next) = some (r.map (sh b.next)) := by
        intro l
        induction l with
        | nil => intro r hr; cases hr; rfl
        | cons y l ih =>
          intro r hr
          rw [List.mapM_cons] at hr
          cases hy : back1 h h0.next y with
          | none => rw [hy] at hr; cases hr
          | some d =>
            rw [hy] at hr
            cases hl : l.mapM (back1 h h0.next) with
            | none => rw [hl] at hr; cases hr
            | some ds =>
              rw [hl] at hr
              cases hr
              rw [List.map_cons, List.mapM_cons, show (shH b h0).next = h0.next + b.next from rfl, back1_sh L hy]
              have := ih ds hl
              rw [show (shH b h0).next = h0.next + b.next from rfl] at this
              rw [this]; rfl
      exact ⟨_, hm _ _ h2, by rw [hrv]⟩
    · cases H
  · rename_i hs
    rw [if_neg hs, hrv]
    cases H
    rfl

theorem deep_low {h : Hp} {n0 n1 : Nat} (hn : n1 ≤ n0) : ∀ (k : Nat) (v : V) (x : D), deep h n0 k v = some x → deep h n1 k v = some x
  | 0, v, x, H => by cases H
  | k + 1, v, x, H => by
    have hm : ∀ (l : List V) (r : List D), l.mapM (deep h n0 k) = some r → l.mapM (deep h n1 k) = some r := by
      intro l
      induction l with
      | nil => intro r hr; exact hr
      | cons y l ih =>
        intro r hr
        rw [List.mapM_cons] at hr ⊢
        cases hy : deep h n0 k y with
        | none => rw [hy] at hr; cases hr
        | some d =>
          rw [hy] at hr
          cases hl : l.mapM (deep h n0 k) with
          | none => rw [hl] at hr; cases hr
          | some ds => rw [hl] at hr; rw [deep_low hn k y d hy, ih ds hl]; exact hr
    cases v with
    | d z => exact H
    | tl l nl =>
      simp only [deep, Option.map_eq_some_iff] at H ⊢
      obtain ⟨r, h1, h2⟩ := H
      exact ⟨r, hm _ _ h1, h2⟩
    | agg l =>
      simp only [deep, Option.map_eq_some_iff] at H ⊢
      obtain ⟨r, h1, h2⟩ := H
      exact ⟨r, hm _ _ h1, h2⟩
    | own n es tot off len =>
      simp only [deep] at H ⊢
      split at H
      case isFalse => cases H
      rename_i h0
      rw [if_pos (Nat.le_trans hn h0)]
      simp only [Option.bind_eq_some_iff] at H ⊢
      obtain ⟨r, h1, h2⟩ := H
      refine ⟨r, h1, ?_⟩
      split at h2
      case isFalse => cases h2
      rename_i h3
      rw [if_pos h3]
      simp only [Option.map_eq_some_iff] at h2 ⊢
      obtain ⟨s, h4, h5⟩ := h2
      exact ⟨s, hm _ _ h4, h5⟩
    | _ => cases H
theorem primC_sh {b h : Hp} (L : Low b) {k : Nat} {vs : List V} {r : V × Hp} (H : primC k vs h = some r) : primC k (vs.map (sh b.next)) (shH b h) = some (sh b.next r.1, shH b r.2) := by
  unfold primC at H ⊢
  simp only [Option.bind_eq_some_iff, Option.map_eq_some_iff] at H ⊢
  obtain ⟨ds, h1, y, h2, rfl⟩ := H
  refine ⟨ds, ?_, y, h2, rfl⟩
  clear h2
  induction vs generalizing ds with
  | nil => cases h1; rfl
  | cons v vs ih =>
    rw [List.mapM_cons] at h1
    cases hv : deep h 0 8 v with
    | none => rw [hv] at h1; cases h1
    | some d =>
      rw [hv] at h1
      cases hl : vs.mapM (deep h 0 8) with
      | none => rw [hl] at h1; cases h1
      | some ds' =>
        rw [hl] at h1
        cases h1
        rw [List.map_cons, List.mapM_cons, deep_low (Nat.zero_le _) 8 _ _ (deep_sh L 0 8 v d hv), ih ds' hl]
        rfl

/-- A table whose code names no object. -/
def TabCl (T : Tab) : Prop := ∀ f fn, T f = some fn → clC fn.body = true

theorem binds_sh {s : Nat} : ∀ (ps : List Nat) (vs : List V) (e : Env), binds ps (vs.map (sh s)) (shE s e) = shE s (binds ps vs e)
  | [], vs, e => by cases vs <;> rfl
  | p :: ps, [], e => rfl
  | p :: ps, v :: vs, e => by
    simp only [List.map_cons, binds]
    exact binds_sh ps vs ((p, v) :: e)
theorem rndEnd_sh {b : Hp} (L : Low b) {n : Nat} {o : Out} {r : V × Hp} (H : rndEnd n o = some r) : rndEnd (n + b.next) (OutSh b o) = some (sh b.next r.1, shH b r.2) := by
  unfold rndEnd at H ⊢
  split at H
  case h_2 => cases H
  rename_i b1 e1 hg
  cases H
  have hg' : (OutSh b o).2.2.get (n + b.next) = some (.lp b1 (e1.map fun p => (p.1, sh b.next p.2)) (some .norm)) := by
    show (shH b o.2.2).get (n + b.next) = _
    rw [get_shH L, hg]; rfl
  rw [hg']
  simp only
  have := set_shH (b := b) (o := .lp b1 e1 (if o.1 = .norm then none else some o.1)) hg
  simp only [shO] at this
  show some (bool (decide (o.1 = .norm)), (shH b o.2.2).set (n + b.next) (.lp b1 (e1.map fun p => (p.1, sh b.next p.2)) (if o.1 = .norm then none else some o.1))) = _
  rw [this]
  rfl
theorem rnd_sh {T : Tab} (HT : TabCl T) {b : Hp} {cf : Cf} (L : Low b) (HC : CfSh b cf) (k : Nat) {n : Nat} {vs : List V} {h : Hp} {r : V × Hp} (H : rnd T (fun f => loopN f k) cf n vs h = some r) : rnd T (fun f => loopN f k) cf (n + b.next) (vs.map (sh b.next)) (shH b h) = some (sh b.next r.1, shH b r.2) := by
  unfold rnd at H ⊢
  rw [get_shH L]
  split at H
  case h_2 => cases H
  rename_i q e hg
  rw [hg]
  simp only [Option.map_some, shO]
  cases hT : T (RB + q) with
  | none => rw [hT] at H; cases H
  | some fn =>
    rw [hT] at H
    simp only [Option.bind_some] at H ⊢
    split at H
    case h_2 => cases H
    rename_i asg bdy hb
    have hcl := HT _ _ hT
    rw [hb] at hcl
    simp only [clC, Bool.and_eq_true] at hcl
    simp only [List.length_map]
    split at H
    case isFalse => cases H
    rename_i hn
    rw [if_pos hn]
    simp only [Option.bind_eq_some_iff] at H ⊢
    obtain ⟨o, h1, h2⟩ := H
    refine ⟨OutSh b o, ?_, ?_⟩
    · have := exec_sh L HC k asg hcl.1 _ _ _ h1
      rw [← binds_sh] at this
      exact this
    · obtain ⟨x, e1, h3⟩ := o
      simp only [OutSh] at h2 ⊢
      cases x with
      | exit i => cases h2
      | ret => cases h2
      | norm =>
        rw [get_shH L]
        split at h2
        case h_2 => cases h2
        rename_i b' e' _ hg2
        rw [hg2]
        simp only [Option.map_some, shO]
        simp only [Option.bind_eq_some_iff] at h2 ⊢
        obtain ⟨o2, h4, h5⟩ := h2
        refine ⟨OutSh b o2, ?_, rndEnd_sh L h5⟩
        have := exec_sh L HC k bdy hcl.2 _ _ _ h4
        have hs := set_shH (b := b) (o := .lp b' e' (some .norm)) hg2
        simp only [shO] at hs
        rw [hs]
        exact this
theorem callK_sh {T : Tab} (HT : TabCl T) {b : Hp} (L : Low b) : ∀ (k f : Nat) (vs : List V) (h : Hp) (r : V × Hp), callK T k f vs h = some r → callK T k f (vs.map (sh b.next)) (shH b h) = some (sh b.next r.1, shH b r.2)
  | 0, _, _, _, _, H => by cases H
  | k + 1, f, vs, h, r, H => by
    have HC : CfSh b (callee (callK T k)) := by
      intro v vs h r H
      cases v with
      | clo g caps =>
        simp only [callee, sh, shs_map] at H ⊢
        split at H
        · cases H
        rename_i hg
        rw [if_neg hg, ← List.map_append]
        exact callK_sh HT L k g (vs ++ caps) h r H
      | yld n =>
        have := callK_sh HT L k YF (.yld n :: vs) h r H
        exact this
      | _ => cases H
    unfold callK body at H ⊢
    split at H
    · rename_i hy
      rw [if_pos hy]
      split at H
      case h_2 => cases H
      exact rnd_sh HT L HC k H
    rename_i hy
    rw [if_neg hy]
    split at H
    case isFalse => cases H
    rename_i hrb
    rw [if_pos hrb]
    simp only [Option.bind_eq_some_iff] at H ⊢
    obtain ⟨fn, hT, H⟩ := H
    refine ⟨fn, hT, ?_⟩
    rw [List.length_map]
    split at H
    · rename_i hn
      rw [if_pos hn]
      cases hp : isPr fn.body with
      | some q => rw [hp] at H; exact primC_sh L H
      | none =>
      rw [hp] at H
      simp only [Option.bind_eq_some_iff] at H ⊢
      obtain ⟨o, h1, h2⟩ := H
      rw [args_sh]
      refine ⟨_, exec_sh L HC k fn.body (HT f fn hT) _ _ _ h1, ?_⟩
      obtain ⟨x, e1, h3⟩ := o
      cases x with
      | exit i => cases h2
      | norm => exact finish_sh L h2
      | ret => exact finish_sh L h2
    · cases H

theorem callW_sh {T : Tab} (HT : TabCl T) {b : Hp} (L : Low b) {f : Nat} {vs : List V} {h : Hp} {r : V × Hp} (H : callW T f vs h = some r) : callW T f (vs.map (sh b.next)) (shH b h) = some (sh b.next r.1, shH b r.2) := by
  obtain ⟨k, hk⟩ := callW_some.1 H
  exact callW_some.2 ⟨k, callK_sh HT L k f vs h r hk⟩

/-- What is shown in the empty heap holds in every heap. -/
theorem callW_any {T : Tab} (HT : TabCl T) {f : Nat} {xs : List D} {y : D} (H : callW T f (xs.map .d) ⟨[], 0⟩ = some (.d y, ⟨[], 0⟩)) {b : Hp} (L : Low b) : callW T f (xs.map .d) b = some (.d y, b) := by
  have := callW_sh HT L H
  rw [map_d_sh] at this
  have hb : shH b ⟨[], 0⟩ = b := by cases b; simp [shH]
  rw [hb] at this
  exact this
end Zv
