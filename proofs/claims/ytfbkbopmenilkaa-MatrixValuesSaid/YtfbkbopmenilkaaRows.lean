/-
  NARROWER THAN 'FOR EVERY INPUT', by the rows' own cells (each row's printed sentence says how): MatrixChecks: loops · MatrixUseful: loops · MatrixWitness: loops · MatrixExhausts: loops · MatrixSelects: loops · MatrixValues: loops.
  DERIVED. THE GIVEN ROWS OF THIS SEAT. 6 by the template 'for every input the law returns true; each argument reads behind the call as it read before'; 0 by the template 'total and deterministic' (their statements: YtfbkbopmenilkaaTotals.lean).
  GIVEN WITH THE SEED: the statements are not yours to turn. If you find one false, say at which input.
  Laid BY PROGRAM, IN A SANDBOX (cutbox-rows.mjs): the forced cells as the released guide's own fill.sh prints them over the translation 7e4b154845505bce… (all of the seat's roots in one cut). By AI agents, Wed Nov 11 2026. No macro, syntax, notation, axiom, sorry.
-/
import Derived.Test.YtfbkbopmenilkaaChecked
import GoSem.Claim
import GoSem.ClaimJoined
import GoSem.ClaimMapViews
import Derived.JoinedTies
import Derived.KernelRfl
namespace Go.Proofs.Ytfbkbopmenilkaa
/- THE CELL 'sum', in the pinned program and in every row, IS THE sha256 OF THE DUMP (.gsa) THAT YtfbkbopmenilkaaProg.lean LOADS. Nothing in Lean hashes anything: it is a label: what it is worth is what the hold of that sum in a sandbox is worth. -/
noncomputable def Try.pinned : Pinned := { name := "ytfbkbopmenilkaa", sum := "7e4b154845505bce8241dfddcfacd0f2d927ad7fe98ded77f78f6bd90304063c", checked := Try.checked }
namespace Rows
def none {H : Type} : Left H := { results := [], args := [] }

/-- 'cellarerlaw27.MatrixChecks': WHATEVER THE INPUT: true; the input reads as it did. -/
def matrixChecksSpec : ChangeSpec := { name := "matrixChecks", fn := fun _ => fun
  | [d1, d2, d3] => { results := [.lit (.bool true)], args := [d1, d2, d3] }
  | _ => none }
def matrixChecksRow : OpenClaim := { program := "ytfbkbopmenilkaa", sum := "7e4b154845505bce8241dfddcfacd0f2d927ad7fe98ded77f78f6bd90304063c", func := "cellarer/cellarerlaw27.MatrixChecks", spec := "matrixChecks", unfollowed := true, recurses := true, loops := true, apart := false }
def MatrixChecksSaid : Prop := matrixChecksRow.holds Try.pinned (OpenSpec.ofChange matrixChecksSpec)

/-- ITS FALSE NEIGHBOUR: 'it returns false'. Refute it at one input. -/
def matrixChecksWrong : ChangeSpec := { name := "matrixChecks", fn := fun _ => fun
  | [d1, d2, d3] => { results := [.lit (.bool false)], args := [d1, d2, d3] }
  | _ => none }
def MatrixChecksWrongFalsely : Prop := matrixChecksRow.holds Try.pinned (OpenSpec.ofChange matrixChecksWrong)

/-- 'cellarerlaw27.MatrixUseful': WHATEVER THE INPUT: true; the input reads as it did. -/
def matrixUsefulSpec : ChangeSpec := { name := "matrixUseful", fn := fun _ => fun
  | [d] => { results := [.lit (.bool true)], args := [d] }
  | _ => none }
def matrixUsefulRow : OpenClaim := { program := "ytfbkbopmenilkaa", sum := "7e4b154845505bce8241dfddcfacd0f2d927ad7fe98ded77f78f6bd90304063c", func := "cellarer/cellarerlaw27.MatrixUseful", spec := "matrixUseful", unfollowed := true, recurses := true, loops := true, apart := false }
def MatrixUsefulSaid : Prop := matrixUsefulRow.holds Try.pinned (OpenSpec.ofChange matrixUsefulSpec)

/-- ITS FALSE NEIGHBOUR: 'it returns false'. Refute it at one input. -/
def matrixUsefulWrong : ChangeSpec := { name := "matrixUseful", fn := fun _ => fun
  | [d] => { results := [.lit (.bool false)], args := [d] }
  | _ => none }
def MatrixUsefulWrongFalsely : Prop := matrixUsefulRow.holds Try.pinned (OpenSpec.ofChange matrixUsefulWrong)

/-- 'cellarerlaw27.MatrixWitness': WHATEVER THE INPUT: true; the input reads as it did. -/
def matrixWitnessSpec : ChangeSpec := { name := "matrixWitness", fn := fun _ => fun
  | [d1, d2, d3] => { results := [.lit (.bool true)], args := [d1, d2, d3] }
  | _ => none }
def matrixWitnessRow : OpenClaim := { program := "ytfbkbopmenilkaa", sum := "7e4b154845505bce8241dfddcfacd0f2d927ad7fe98ded77f78f6bd90304063c", func := "cellarer/cellarerlaw27.MatrixWitness", spec := "matrixWitness", unfollowed := true, recurses := true, loops := true, apart := false }
def MatrixWitnessSaid : Prop := matrixWitnessRow.holds Try.pinned (OpenSpec.ofChange matrixWitnessSpec)

/-- ITS FALSE NEIGHBOUR: 'it returns false'. Refute it at one input. -/
def matrixWitnessWrong : ChangeSpec := { name := "matrixWitness", fn := fun _ => fun
  | [d1, d2, d3] => { results := [.lit (.bool false)], args := [d1, d2, d3] }
  | _ => none }
def MatrixWitnessWrongFalsely : Prop := matrixWitnessRow.holds Try.pinned (OpenSpec.ofChange matrixWitnessWrong)

/-- 'cellarerlaw27.MatrixExhausts': WHATEVER THE INPUT: true; the input reads as it did. -/
def matrixExhaustsSpec : ChangeSpec := { name := "matrixExhausts", fn := fun _ => fun
  | [d1, d2, d3] => { results := [.lit (.bool true)], args := [d1, d2, d3] }
  | _ => none }
def matrixExhaustsRow : OpenClaim := { program := "ytfbkbopmenilkaa", sum := "7e4b154845505bce8241dfddcfacd0f2d927ad7fe98ded77f78f6bd90304063c", func := "cellarer/cellarerlaw27.MatrixExhausts", spec := "matrixExhausts", unfollowed := true, recurses := true, loops := true, apart := false }
def MatrixExhaustsSaid : Prop := matrixExhaustsRow.holds Try.pinned (OpenSpec.ofChange matrixExhaustsSpec)

/-- ITS FALSE NEIGHBOUR: 'it returns false'. Refute it at one input. -/
def matrixExhaustsWrong : ChangeSpec := { name := "matrixExhausts", fn := fun _ => fun
  | [d1, d2, d3] => { results := [.lit (.bool false)], args := [d1, d2, d3] }
  | _ => none }
def MatrixExhaustsWrongFalsely : Prop := matrixExhaustsRow.holds Try.pinned (OpenSpec.ofChange matrixExhaustsWrong)

/-- 'cellarerlaw27.MatrixSelects': WHATEVER THE INPUT: true; the input reads as it did. -/
def matrixSelectsSpec : ChangeSpec := { name := "matrixSelects", fn := fun _ => fun
  | [d1, d2] => { results := [.lit (.bool true)], args := [d1, d2] }
  | _ => none }
def matrixSelectsRow : OpenClaim := { program := "ytfbkbopmenilkaa", sum := "7e4b154845505bce8241dfddcfacd0f2d927ad7fe98ded77f78f6bd90304063c", func := "cellarer/cellarerlaw27.MatrixSelects", spec := "matrixSelects", unfollowed := true, recurses := true, loops := true, apart := false }
def MatrixSelectsSaid : Prop := matrixSelectsRow.holds Try.pinned (OpenSpec.ofChange matrixSelectsSpec)

/-- ITS FALSE NEIGHBOUR: 'it returns false'. Refute it at one input. -/
def matrixSelectsWrong : ChangeSpec := { name := "matrixSelects", fn := fun _ => fun
  | [d1, d2] => { results := [.lit (.bool false)], args := [d1, d2] }
  | _ => none }
def MatrixSelectsWrongFalsely : Prop := matrixSelectsRow.holds Try.pinned (OpenSpec.ofChange matrixSelectsWrong)

/-- 'cellarerlaw27.MatrixValues': WHATEVER THE INPUT: true; the input reads as it did. -/
def matrixValuesSpec : ChangeSpec := { name := "matrixValues", fn := fun _ => fun
  | [d] => { results := [.lit (.bool true)], args := [d] }
  | _ => none }
def matrixValuesRow : OpenClaim := { program := "ytfbkbopmenilkaa", sum := "7e4b154845505bce8241dfddcfacd0f2d927ad7fe98ded77f78f6bd90304063c", func := "cellarer/cellarerlaw27.MatrixValues", spec := "matrixValues", unfollowed := true, recurses := true, loops := true, apart := false }
def MatrixValuesSaid : Prop := matrixValuesRow.holds Try.pinned (OpenSpec.ofChange matrixValuesSpec)

/-- ITS FALSE NEIGHBOUR: 'it returns false'. Refute it at one input. -/
def matrixValuesWrong : ChangeSpec := { name := "matrixValues", fn := fun _ => fun
  | [d] => { results := [.lit (.bool false)], args := [d] }
  | _ => none }
def MatrixValuesWrongFalsely : Prop := matrixValuesRow.holds Try.pinned (OpenSpec.ofChange matrixValuesWrong)

/- THE SECOND FORM. 'bulk': how many values and letters a reading holds, each counted each time it is reached (what is shared counts as often as it is met; a slice's spare places count too). A statement '..UptoSaid' is the law's where the arguments, and the package variables that the reading takes, are together of bulk at most 1048576: NARROWER than '..Said'. Prove '..Said' where nothing that the law and all that it calls make is longer than what came in: it says more and counts as full. Else prove '..UptoSaid'. A law counts once. -/
mutual
def uptoBulk {H : Type} : DataW H → Nat
  | .lit (.string bytes) => bytes.length + 1
  | .lit _ => 1
  | .nil => 1
  | .ptr d => uptoBulk d + 1
  | .slice elems spare => uptoBulkAll elems + uptoBulkAll spare + 1
  | .agg parts => uptoBulkAll parts + 1
  | .iface _ d => uptoBulk d + 1
  | .map entries => uptoBulkEntries entries + 1
  | .held _ => 1
def uptoBulkAll {H : Type} : List (DataW H) → Nat
  | [] => 0
  | d :: r => uptoBulk d + uptoBulkAll r
def uptoBulkEntries {H : Type} : List (Lit × DataW H) → Nat
  | [] => 0
  | x :: r => uptoBulkEntry x + uptoBulkEntries r
def uptoBulkEntry {H : Type} : Lit × DataW H → Nat
  | (.string bytes, d) => bytes.length + uptoBulk d + 1
  | (_, d) => uptoBulk d + 1
 end
def uptoSmall : (H : Type) → List (DataW H) → Bool := fun _ ds => decide (uptoBulkAll ds ≤ 1048576)
def OpenSpec.upto (s : _root_.Go.ChangeSpec) : _root_.Go.OpenSpec := { _root_.Go.OpenSpec.ofChange s with cond := some uptoSmall }

/-- 'cellarerlaw27.MatrixChecks', WHERE WHAT IT READS IS OF BULK AT MOST 1048576: true; the input reads as it did. -/
def matrixChecksUptoRow : OpenClaim := { program := "ytfbkbopmenilkaa", sum := "7e4b154845505bce8241dfddcfacd0f2d927ad7fe98ded77f78f6bd90304063c", func := "cellarer/cellarerlaw27.MatrixChecks", spec := "matrixChecks", unfollowed := true, recurses := true, loops := true, apart := false, narrowed := true }
def MatrixChecksUptoSaid : Prop := matrixChecksUptoRow.holds Try.pinned (OpenSpec.upto matrixChecksSpec)

/-- 'cellarerlaw27.MatrixUseful', WHERE WHAT IT READS IS OF BULK AT MOST 1048576: true; the input reads as it did. -/
def matrixUsefulUptoRow : OpenClaim := { program := "ytfbkbopmenilkaa", sum := "7e4b154845505bce8241dfddcfacd0f2d927ad7fe98ded77f78f6bd90304063c", func := "cellarer/cellarerlaw27.MatrixUseful", spec := "matrixUseful", unfollowed := true, recurses := true, loops := true, apart := false, narrowed := true }
def MatrixUsefulUptoSaid : Prop := matrixUsefulUptoRow.holds Try.pinned (OpenSpec.upto matrixUsefulSpec)

/-- 'cellarerlaw27.MatrixWitness', WHERE WHAT IT READS IS OF BULK AT MOST 1048576: true; the input reads as it did. -/
def matrixWitnessUptoRow : OpenClaim := { program := "ytfbkbopmenilkaa", sum := "7e4b154845505bce8241dfddcfacd0f2d927ad7fe98ded77f78f6bd90304063c", func := "cellarer/cellarerlaw27.MatrixWitness", spec := "matrixWitness", unfollowed := true, recurses := true, loops := true, apart := false, narrowed := true }
def MatrixWitnessUptoSaid : Prop := matrixWitnessUptoRow.holds Try.pinned (OpenSpec.upto matrixWitnessSpec)

/-- 'cellarerlaw27.MatrixExhausts', WHERE WHAT IT READS IS OF BULK AT MOST 1048576: true; the input reads as it did. -/
def matrixExhaustsUptoRow : OpenClaim := { program := "ytfbkbopmenilkaa", sum := "7e4b154845505bce8241dfddcfacd0f2d927ad7fe98ded77f78f6bd90304063c", func := "cellarer/cellarerlaw27.MatrixExhausts", spec := "matrixExhausts", unfollowed := true, recurses := true, loops := true, apart := false, narrowed := true }
def MatrixExhaustsUptoSaid : Prop := matrixExhaustsUptoRow.holds Try.pinned (OpenSpec.upto matrixExhaustsSpec)

/-- 'cellarerlaw27.MatrixSelects', WHERE WHAT IT READS IS OF BULK AT MOST 1048576: true; the input reads as it did. -/
def matrixSelectsUptoRow : OpenClaim := { program := "ytfbkbopmenilkaa", sum := "7e4b154845505bce8241dfddcfacd0f2d927ad7fe98ded77f78f6bd90304063c", func := "cellarer/cellarerlaw27.MatrixSelects", spec := "matrixSelects", unfollowed := true, recurses := true, loops := true, apart := false, narrowed := true }
def MatrixSelectsUptoSaid : Prop := matrixSelectsUptoRow.holds Try.pinned (OpenSpec.upto matrixSelectsSpec)

/-- 'cellarerlaw27.MatrixValues', WHERE WHAT IT READS IS OF BULK AT MOST 1048576: true; the input reads as it did. -/
def matrixValuesUptoRow : OpenClaim := { program := "ytfbkbopmenilkaa", sum := "7e4b154845505bce8241dfddcfacd0f2d927ad7fe98ded77f78f6bd90304063c", func := "cellarer/cellarerlaw27.MatrixValues", spec := "matrixValues", unfollowed := true, recurses := true, loops := true, apart := false, narrowed := true }
def MatrixValuesUptoSaid : Prop := matrixValuesUptoRow.holds Try.pinned (OpenSpec.upto matrixValuesSpec)

end Rows
end Go.Proofs.Ytfbkbopmenilkaa
