/-
  NARROWER THAN 'FOR EVERY INPUT', by the rows' own cells (each row's printed sentence says how): DecisionCompiles: loops · DecisionLeaves: loops · DecisionSelects: loops · DecisionFirst: loops.
  DERIVED. THE GIVEN ROWS OF THIS SEAT. 6 by the template 'for every input the law returns true; each argument reads behind the call as it read before'; 0 by the template 'total and deterministic' (their statements: YtmhbpocjmaacpaaTotals.lean).
  GIVEN WITH THE SEED: the statements are not yours to turn. If you find one false, say at which input.
  Laid BY PROGRAM, IN A SANDBOX (cutbox-rows.mjs): the forced cells as the released guide's own fill.sh prints them over the translation 93d1638ec380600d… (all of the seat's roots in one cut). By AI agents, Wed Nov 11 2026. No macro, syntax, notation, axiom, sorry.
-/
import Derived.Test.YtmhbpocjmaacpaaChecked
import GoSem.Claim
import GoSem.ClaimJoined
import GoSem.ClaimMapViews
import Derived.JoinedTies
import Derived.KernelRfl
namespace Go.Proofs.Ytmhbpocjmaacpaa
/- THE CELL 'sum', in the pinned program and in every row, IS THE sha256 OF THE DUMP (.gsa) THAT YtmhbpocjmaacpaaProg.lean LOADS. Nothing in Lean hashes anything: it is a label: what it is worth is what the hold of that sum in a sandbox is worth. -/
noncomputable def Try.pinned : Pinned := { name := "ytmhbpocjmaacpaa", sum := "93d1638ec380600d709e76fb641adf1f188ceb349b20758b8f874719ae8ff387", checked := Try.checked }
namespace Rows
def none {H : Type} : Left H := { results := [], args := [] }

/-- 'cellarerlaw28.DecisionCompiles': WHATEVER THE INPUT: true; the input reads as it did. -/
def decisionCompilesSpec : ChangeSpec := { name := "decisionCompiles", fn := fun _ => fun
  | [d1, d2, d3] => { results := [.lit (.bool true)], args := [d1, d2, d3] }
  | _ => none }
def decisionCompilesRow : OpenClaim := { program := "ytmhbpocjmaacpaa", sum := "93d1638ec380600d709e76fb641adf1f188ceb349b20758b8f874719ae8ff387", func := "cellarer/cellarerlaw28.DecisionCompiles", spec := "decisionCompiles", unfollowed := true, recurses := true, loops := true, apart := false }
def DecisionCompilesSaid : Prop := decisionCompilesRow.holds Try.pinned (OpenSpec.ofChange decisionCompilesSpec)

/-- ITS FALSE NEIGHBOUR: 'it returns false'. Refute it at one input. -/
def decisionCompilesWrong : ChangeSpec := { name := "decisionCompiles", fn := fun _ => fun
  | [d1, d2, d3] => { results := [.lit (.bool false)], args := [d1, d2, d3] }
  | _ => none }
def DecisionCompilesWrongFalsely : Prop := decisionCompilesRow.holds Try.pinned (OpenSpec.ofChange decisionCompilesWrong)

/-- 'cellarerlaw28.DecisionTested': WHATEVER THE INPUT: true; the input reads as it did. -/
def decisionTestedSpec : ChangeSpec := { name := "decisionTested", fn := fun _ => fun
  | [d1, d2] => { results := [.lit (.bool true)], args := [d1, d2] }
  | _ => none }
def decisionTestedRow : OpenClaim := { program := "ytmhbpocjmaacpaa", sum := "93d1638ec380600d709e76fb641adf1f188ceb349b20758b8f874719ae8ff387", func := "cellarer/cellarerlaw28.DecisionTested", spec := "decisionTested", unfollowed := true, recurses := true, apart := false }
def DecisionTestedSaid : Prop := decisionTestedRow.holds Try.pinned (OpenSpec.ofChange decisionTestedSpec)

/-- ITS FALSE NEIGHBOUR: 'it returns false'. Refute it at one input. -/
def decisionTestedWrong : ChangeSpec := { name := "decisionTested", fn := fun _ => fun
  | [d1, d2] => { results := [.lit (.bool false)], args := [d1, d2] }
  | _ => none }
def DecisionTestedWrongFalsely : Prop := decisionTestedRow.holds Try.pinned (OpenSpec.ofChange decisionTestedWrong)

/-- 'cellarerlaw28.DecisionLeaves': WHATEVER THE INPUT: true; the input reads as it did. -/
def decisionLeavesSpec : ChangeSpec := { name := "decisionLeaves", fn := fun _ => fun
  | [d1, d2, d3] => { results := [.lit (.bool true)], args := [d1, d2, d3] }
  | _ => none }
def decisionLeavesRow : OpenClaim := { program := "ytmhbpocjmaacpaa", sum := "93d1638ec380600d709e76fb641adf1f188ceb349b20758b8f874719ae8ff387", func := "cellarer/cellarerlaw28.DecisionLeaves", spec := "decisionLeaves", unfollowed := true, recurses := true, loops := true, apart := false }
def DecisionLeavesSaid : Prop := decisionLeavesRow.holds Try.pinned (OpenSpec.ofChange decisionLeavesSpec)

/-- ITS FALSE NEIGHBOUR: 'it returns false'. Refute it at one input. -/
def decisionLeavesWrong : ChangeSpec := { name := "decisionLeaves", fn := fun _ => fun
  | [d1, d2, d3] => { results := [.lit (.bool false)], args := [d1, d2, d3] }
  | _ => none }
def DecisionLeavesWrongFalsely : Prop := decisionLeavesRow.holds Try.pinned (OpenSpec.ofChange decisionLeavesWrong)

/-- 'cellarerlaw28.DecisionSelects': WHATEVER THE INPUT: true; the input reads as it did. -/
def decisionSelectsSpec : ChangeSpec := { name := "decisionSelects", fn := fun _ => fun
  | [d1, d2] => { results := [.lit (.bool true)], args := [d1, d2] }
  | _ => none }
def decisionSelectsRow : OpenClaim := { program := "ytmhbpocjmaacpaa", sum := "93d1638ec380600d709e76fb641adf1f188ceb349b20758b8f874719ae8ff387", func := "cellarer/cellarerlaw28.DecisionSelects", spec := "decisionSelects", unfollowed := true, recurses := true, loops := true, apart := false }
def DecisionSelectsSaid : Prop := decisionSelectsRow.holds Try.pinned (OpenSpec.ofChange decisionSelectsSpec)

/-- ITS FALSE NEIGHBOUR: 'it returns false'. Refute it at one input. -/
def decisionSelectsWrong : ChangeSpec := { name := "decisionSelects", fn := fun _ => fun
  | [d1, d2] => { results := [.lit (.bool false)], args := [d1, d2] }
  | _ => none }
def DecisionSelectsWrongFalsely : Prop := decisionSelectsRow.holds Try.pinned (OpenSpec.ofChange decisionSelectsWrong)

/-- 'cellarerlaw28.DecisionChecks': WHATEVER THE INPUT: true; the input reads as it did. -/
def decisionChecksSpec : ChangeSpec := { name := "decisionChecks", fn := fun _ => fun
  | [d1, d2, d3] => { results := [.lit (.bool true)], args := [d1, d2, d3] }
  | _ => none }
def decisionChecksRow : OpenClaim := { program := "ytmhbpocjmaacpaa", sum := "93d1638ec380600d709e76fb641adf1f188ceb349b20758b8f874719ae8ff387", func := "cellarer/cellarerlaw28.DecisionChecks", spec := "decisionChecks", unfollowed := true, recurses := true, apart := false }
def DecisionChecksSaid : Prop := decisionChecksRow.holds Try.pinned (OpenSpec.ofChange decisionChecksSpec)

/-- ITS FALSE NEIGHBOUR: 'it returns false'. Refute it at one input. -/
def decisionChecksWrong : ChangeSpec := { name := "decisionChecks", fn := fun _ => fun
  | [d1, d2, d3] => { results := [.lit (.bool false)], args := [d1, d2, d3] }
  | _ => none }
def DecisionChecksWrongFalsely : Prop := decisionChecksRow.holds Try.pinned (OpenSpec.ofChange decisionChecksWrong)

/-- 'cellarerlaw28.DecisionFirst': WHATEVER THE INPUT: true; the input reads as it did. -/
def decisionFirstSpec : ChangeSpec := { name := "decisionFirst", fn := fun _ => fun
  | [d] => { results := [.lit (.bool true)], args := [d] }
  | _ => none }
def decisionFirstRow : OpenClaim := { program := "ytmhbpocjmaacpaa", sum := "93d1638ec380600d709e76fb641adf1f188ceb349b20758b8f874719ae8ff387", func := "cellarer/cellarerlaw28.DecisionFirst", spec := "decisionFirst", unfollowed := true, recurses := true, loops := true, apart := false }
def DecisionFirstSaid : Prop := decisionFirstRow.holds Try.pinned (OpenSpec.ofChange decisionFirstSpec)

/-- ITS FALSE NEIGHBOUR: 'it returns false'. Refute it at one input. -/
def decisionFirstWrong : ChangeSpec := { name := "decisionFirst", fn := fun _ => fun
  | [d] => { results := [.lit (.bool false)], args := [d] }
  | _ => none }
def DecisionFirstWrongFalsely : Prop := decisionFirstRow.holds Try.pinned (OpenSpec.ofChange decisionFirstWrong)

/- THE SECOND FORM. 'bulk': how many values and letters a reading holds, each counted each time it is reached (what is shared counts as often as it is met; a slice's spare places count too). A statement '..UptoSaid' is the law's where the arguments, and the package variables that the reading takes, are together of bulk at most 1048576: NARROWER than '..Said'. Prove '..Said' where nothing that the law and all that it calls make is longer than what came in: it says more and counts as full. Else prove '..UptoSaid'. A law counts once. -/
mutual
def uptoBulk {H : Type} : DataW H → Nat
  | .lit (.string bytes) => bytes.length + 1
  | .lit _ => 1
  | .nil => 1
  | .ptr d => uptoBulk d + 1
  | .slice elems spare => uptoBulkAll elems + uptoBulkAll spare + 1
  | .agg parts => uptoBulkAll parts + 1
  | .iface _ d => uptoBulk d + 1
  | .map entries => uptoBulkEntries entries + 1
  | .held _ => 1
def uptoBulkAll {H : Type} : List (DataW H) → Nat
  | [] => 0
  | d :: r => uptoBulk d + uptoBulkAll r
def uptoBulkEntries {H : Type} : List (Lit × DataW H) → Nat
  | [] => 0
  | x :: r => uptoBulkEntry x + uptoBulkEntries r
def uptoBulkEntry {H : Type} : Lit × DataW H → Nat
  | (.string bytes, d) => bytes.length + uptoBulk d + 1
  | (_, d) => uptoBulk d + 1
 end
def uptoSmall : (H : Type) → List (DataW H) → Bool := fun _ ds => decide (uptoBulkAll ds ≤ 1048576)
def OpenSpec.upto (s : _root_.Go.ChangeSpec) : _root_.Go.OpenSpec := { _root_.Go.OpenSpec.ofChange s with cond := some uptoSmall }

/-- 'cellarerlaw28.DecisionCompiles', WHERE WHAT IT READS IS OF BULK AT MOST 1048576: true; the input reads as it did. -/
def decisionCompilesUptoRow : OpenClaim := { program := "ytmhbpocjmaacpaa", sum := "93d1638ec380600d709e76fb641adf1f188ceb349b20758b8f874719ae8ff387", func := "cellarer/cellarerlaw28.DecisionCompiles", spec := "decisionCompiles", unfollowed := true, recurses := true, loops := true, apart := false, narrowed := true }
def DecisionCompilesUptoSaid : Prop := decisionCompilesUptoRow.holds Try.pinned (OpenSpec.upto decisionCompilesSpec)

/-- 'cellarerlaw28.DecisionTested', WHERE WHAT IT READS IS OF BULK AT MOST 1048576: true; the input reads as it did. -/
def decisionTestedUptoRow : OpenClaim := { program := "ytmhbpocjmaacpaa", sum := "93d1638ec380600d709e76fb641adf1f188ceb349b20758b8f874719ae8ff387", func := "cellarer/cellarerlaw28.DecisionTested", spec := "decisionTested", unfollowed := true, recurses := true, apart := false, narrowed := true }
def DecisionTestedUptoSaid : Prop := decisionTestedUptoRow.holds Try.pinned (OpenSpec.upto decisionTestedSpec)

/-- 'cellarerlaw28.DecisionLeaves', WHERE WHAT IT READS IS OF BULK AT MOST 1048576: true; the input reads as it did. -/
def decisionLeavesUptoRow : OpenClaim := { program := "ytmhbpocjmaacpaa", sum := "93d1638ec380600d709e76fb641adf1f188ceb349b20758b8f874719ae8ff387", func := "cellarer/cellarerlaw28.DecisionLeaves", spec := "decisionLeaves", unfollowed := true, recurses := true, loops := true, apart := false, narrowed := true }
def DecisionLeavesUptoSaid : Prop := decisionLeavesUptoRow.holds Try.pinned (OpenSpec.upto decisionLeavesSpec)

/-- 'cellarerlaw28.DecisionSelects', WHERE WHAT IT READS IS OF BULK AT MOST 1048576: true; the input reads as it did. -/
def decisionSelectsUptoRow : OpenClaim := { program := "ytmhbpocjmaacpaa", sum := "93d1638ec380600d709e76fb641adf1f188ceb349b20758b8f874719ae8ff387", func := "cellarer/cellarerlaw28.DecisionSelects", spec := "decisionSelects", unfollowed := true, recurses := true, loops := true, apart := false, narrowed := true }
def DecisionSelectsUptoSaid : Prop := decisionSelectsUptoRow.holds Try.pinned (OpenSpec.upto decisionSelectsSpec)

/-- 'cellarerlaw28.DecisionChecks', WHERE WHAT IT READS IS OF BULK AT MOST 1048576: true; the input reads as it did. -/
def decisionChecksUptoRow : OpenClaim := { program := "ytmhbpocjmaacpaa", sum := "93d1638ec380600d709e76fb641adf1f188ceb349b20758b8f874719ae8ff387", func := "cellarer/cellarerlaw28.DecisionChecks", spec := "decisionChecks", unfollowed := true, recurses := true, apart := false, narrowed := true }
def DecisionChecksUptoSaid : Prop := decisionChecksUptoRow.holds Try.pinned (OpenSpec.upto decisionChecksSpec)

/-- 'cellarerlaw28.DecisionFirst', WHERE WHAT IT READS IS OF BULK AT MOST 1048576: true; the input reads as it did. -/
def decisionFirstUptoRow : OpenClaim := { program := "ytmhbpocjmaacpaa", sum := "93d1638ec380600d709e76fb641adf1f188ceb349b20758b8f874719ae8ff387", func := "cellarer/cellarerlaw28.DecisionFirst", spec := "decisionFirst", unfollowed := true, recurses := true, loops := true, apart := false, narrowed := true }
def DecisionFirstUptoSaid : Prop := decisionFirstUptoRow.holds Try.pinned (OpenSpec.upto decisionFirstSpec)

end Rows
end Go.Proofs.Ytmhbpocjmaacpaa
