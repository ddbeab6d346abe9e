/-
  Parts of the code, run as they stand.
-/
import Derived.Test.YtlncinhieeopmaaZvWp
namespace Zs
open Go Zv

def takeSeq : Nat → AC → AC
  | 0, _ => .skip
  | n + 1, .seq a b => .seq a (takeSeq n b)
  | _ + 1, c => c
def dropSeq : Nat → AC → AC
  | 0, c => c
  | n + 1, .seq _ b => dropSeq n b
  | _ + 1, _ => .skip
theorem seqQ_skip (T : Tab) (Q : Out → Prop) : seqQ T .skip Q = Q := by
  funext o
  obtain ⟨x, e, h⟩ := o
  cases x with
  | norm => exact wq_skip T e h Q
  | exit i => rfl
  | ret => rfl
theorem wq_split (T : Tab) : ∀ (n : Nat) (c : AC) (e : Env) (h : Hp) (Q : Out → Prop), wp T c e h Q = wp T (takeSeq n c) e h (seqQ T (dropSeq n c) Q)
  | 0, c, e, h, Q => by
    show _ = wp T .skip e h (seqQ T c Q)
    rw [wq_skip, seqQ_n]
  | n + 1, .seq a b, e, h, Q => by
    show wp T (.seq a b) e h Q = wp T (.seq a (takeSeq n b)) e h (seqQ T (dropSeq n b) Q)
    rw [wq_seq, wq_seq]
    congr 1
    funext o
    obtain ⟨x, e', h'⟩ := o
    cases x with
    | norm => exact wq_split T n b e' h' Q
    | exit i => rfl
    | ret => rfl
  | n + 1, .skip, e, h, Q => by show _ = wp T .skip e h (seqQ T .skip Q); rw [seqQ_skip]
  | n + 1, .reg its kp, e, h, Q => by show _ = wp T (.reg its kp) e h (seqQ T .skip Q); rw [seqQ_skip]
  | n + 1, .cond x a b, e, h, Q => by show _ = wp T (.cond x a b) e h (seqQ T .skip Q); rw [seqQ_skip]
  | n + 1, .blk i a, e, h, Q => by show _ = wp T (.blk i a) e h (seqQ T .skip Q); rw [seqQ_skip]
  | n + 1, .loop a, e, h, Q => by show _ = wp T (.loop a) e h (seqQ T .skip Q); rw [seqQ_skip]
  | n + 1, .exit i, e, h, Q => by show _ = wp T (.exit i) e h (seqQ T .skip Q); rw [seqQ_skip]
  | n + 1, .ret, e, h, Q => by show _ = wp T .ret e h (seqQ T .skip Q); rw [seqQ_skip]

/-- A run of a part, with a number of rounds. -/
def runK (T : Tab) (k : Nat) (c : AC) (e : Env) (h : Hp) : Option Out := exec (fun b => loopN b k) (callee (callK T k)) c e h
theorem ex_run {T : Tab} {k : Nat} {c : AC} {e : Env} {h : Hp} {o : Out} (H : runK T k c e h = some o) : ex T c e h = some o :=
  exec_mono (LLe_loopW k) (callee_mono fun f vs x r hr => callW_some.2 ⟨k, hr⟩) c _ _ _ H
def heapOf : Option Out → Hp
  | some o => o.2.2
  | none => ⟨[], 0⟩
/-- The part ends the function, which returns true. -/
def okDone (res : List Nat) (l : List (Nat × Ob)) : Option Out → Bool
  | some (.norm, e, h) => sufOk l h.objs && (match res.map e.get with
    | [.d (.bool true)] => true
    | _ => false)
  | some (.ret, e, h) => sufOk l h.objs && (match res.map e.get with
    | [.d (.bool true)] => true
    | _ => false)
  | _ => false
theorem wq_done {T : Tab} {k np : Nat} {res : List Nat} {b c : AC} {e : Env} {h h0 : Hp} (H : okDone res h0.objs (runK T k c e h) = true) : wp T c e h (donQ ⟨np, res, true, b⟩ h0 (· = some (.d (.bool true), h0))) := by
  cases hr : runK T k c e h with
  | none => rw [hr] at H; cases H
  | some o =>
    rw [hr] at H
    obtain ⟨x, e', h'⟩ := o
    have key : ∀ (hs : sufOk h0.objs h'.objs = true) (hm : (match res.map e'.get with | [.d (.bool true)] => true | _ => false) = true), finS h0 h' (res.map e'.get) = some (.d (.bool true), h0) := by
      intro hs hm
      split at hm
      · rename_i hq
        rw [hq]
        exact finS_suf hs [.bool true]
      · cases hm
    cases x with
    | norm =>
      simp only [okDone, Bool.and_eq_true] at H
      exact ⟨_, ex_run hr, key H.1 H.2⟩
    | exit i => cases H
    | ret =>
      simp only [okDone, Bool.and_eq_true] at H
      exact ⟨_, ex_run hr, key H.1 H.2⟩
end Zs
