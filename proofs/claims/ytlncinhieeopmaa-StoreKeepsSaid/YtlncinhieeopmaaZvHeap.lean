/-
  Heaps by their names.
-/
import Derived.Test.YtlncinhieeopmaaZvWp
set_option linter.unusedSimpArgs false
namespace Zs
open Go Zv

def rowOf (o : Option Ob) (tot : Nat) : Option (Nat × List V) := match o with
  | some (.arr es els) => if els.length = tot then some (es, els) else none
  | _ => none
theorem row_lk (h : Hp) (n tot : Nat) : h.row n tot = rowOf (h.get n) tot := rfl
theorem rowOf_arr (es : Nat) (els : List V) (tot : Nat) : rowOf (some (.arr es els)) tot = if els.length = tot then some (es, els) else none := rfl
theorem get_objs (h : Hp) (q n : Nat) : Hp.get ⟨h.objs, q⟩ n = h.get n := rfl
theorem get_mk (m : Nat) (o : Ob) (l : List (Nat × Ob)) (q n : Nat) : Hp.get ⟨(m, o) :: l, q⟩ n = if n = m then some o else Hp.get ⟨l, q⟩ n := rfl
theorem look_upd (n : Nat) (x : Ob) (m : Nat) : ∀ l : List (Nat × Ob), look (upd l n x) m = if m = n then (look l n).map (fun _ => x) else look l m
  | [] => by simp [upd, Zv.look]
  | (k, o) :: l => by
    unfold upd
    by_cases h1 : n = k
    · subst h1
      rw [if_pos rfl]
      by_cases h2 : m = n
      · subst h2; simp [Zv.look]
      · simp [Zv.look, h2]
    · rw [if_neg h1]
      by_cases h2 : m = k
      · subst h2
        have : ¬ m = n := fun e => h1 e.symm
        simp [Zv.look, this]
      · simp only [Zv.look, h2, h1, if_false]
        exact look_upd n x m l
theorem get_sets (h : Hp) (n : Nat) (x : Ob) (m : Nat) : (h.set n x).get m = if m = n then (h.get n).map (fun _ => x) else h.get m := look_upd n x m h.objs
theorem set_next (h : Hp) (n : Nat) (x : Ob) : (h.set n x).next = h.next := rfl
theorem upd_upd (n : Nat) (x y : Ob) : ∀ l : List (Nat × Ob), upd (upd l n x) n y = upd l n y
  | [] => rfl
  | (k, o) :: l => by
    by_cases h : n = k
    · subst h; simp [upd]
    · simp only [upd, if_neg h]
      rw [upd_upd n x y l]
theorem set_set (h : Hp) (n : Nat) (x y : Ob) : (h.set n x).set n y = h.set n y := by
  unfold Hp.set; simp only [upd_upd]
theorem upd_comm {n m : Nat} (hn : n ≠ m) (x y : Ob) : ∀ l : List (Nat × Ob), upd (upd l n x) m y = upd (upd l m y) n x
  | [] => rfl
  | (k, o) :: l => by
    by_cases h1 : n = k
    · subst h1
      have h2 : ¬ m = n := fun e => hn e.symm
      simp [upd, h2]
    · by_cases h2 : m = k
      · subst h2
        simp [upd, h1]
      · simp only [upd, h1, h2, if_false]
        rw [upd_comm hn x y l]
theorem set_objs (h : Hp) (q n : Nat) (x : Ob) : Hp.set ⟨h.objs, q⟩ n x = ⟨(h.set n x).objs, q⟩ := rfl
theorem st_in {sz : Nat} {h : Hp} {n tot i off es : Nat} {els : List V} {e x : V} (hr : h.row n tot = some (es, els)) (he : els[i]? = some e) (hx : stor x = true) (hc : x.cells.length = sz) (ho : off + sz ≤ e.cells.length) (h1 : es ≠ 1) (h2 : ¬ (off = 0 ∧ sz = es)) :
    st sz h (.ptr n tot i off) x = some (h.set n (.arr es (els.set i (mkAgg (e.cells.take off ++ x.cells ++ e.cells.drop (off + sz)))))) := by
  simp only [st, hr, Option.bind_some, he]
  rw [if_pos ⟨hx, hc⟩, if_neg h2, if_pos ⟨ho, h1⟩]
theorem st_all {sz : Nat} {h : Hp} {n tot i : Nat} {els : List V} {e x : V} (hr : h.row n tot = some (sz, els)) (he : els[i]? = some e) (hx : stor x = true) (hc : x.cells.length = sz) :
    st sz h (.ptr n tot i 0) x = some (h.set n (.arr sz (els.set i x))) := by
  simp only [st, hr, Option.bind_some, he]
  rw [if_pos ⟨hx, hc⟩, if_pos (by simp)]
/-- The rules of heaps. -/
theorem hr : (type_of% @row_lk) ∧ (type_of% @rowOf_arr) ∧ (type_of% @get_objs) ∧ (type_of% @get_mk) ∧ (type_of% @get_sets) ∧ (type_of% @set_next) ∧ (type_of% @set_set) ∧ (type_of% @set_cons) ∧ (type_of% @set_objs) :=
  ⟨@row_lk, @rowOf_arr, @get_objs, @get_mk, @get_sets, @set_next, @set_set, @set_cons, @set_objs⟩
end Zs
