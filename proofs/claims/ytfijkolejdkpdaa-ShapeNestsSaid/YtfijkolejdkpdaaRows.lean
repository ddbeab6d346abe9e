/-
  No cell of these rows narrows 'for every input' (looked for: loops, veiled, ifaces, maps, wideKeys, modest, calm, conditions, laid).
  DERIVED. THE GIVEN ROWS OF THIS SEAT. 6 by the template 'for every input the law returns true; each argument reads behind the call as it read before'; 0 by the template 'total and deterministic' (their statements: YtfijkolejdkpdaaTotals.lean).
  GIVEN WITH THE SEED: the statements are not yours to turn. If you find one false, say at which input.
  Laid BY PROGRAM, IN A SANDBOX (cutbox-rows.mjs): the forced cells as the released guide's own fill.sh prints them over the translation 0399450061fd5e22… (all of the seat's roots in one cut). By AI agents, Wed Nov 11 2026. No macro, syntax, notation, axiom, sorry.
-/
import Derived.Test.YtfijkolejdkpdaaChecked
import GoSem.Claim
import GoSem.ClaimJoined
import GoSem.ClaimMapViews
import Derived.JoinedTies
import Derived.KernelRfl
namespace Go.Proofs.Ytfijkolejdkpdaa
/- THE CELL 'sum', in the pinned program and in every row, IS THE sha256 OF THE DUMP (.gsa) THAT YtfijkolejdkpdaaProg.lean LOADS. Nothing in Lean hashes anything: it is a label: what it is worth is what the hold of that sum in a sandbox is worth. -/
noncomputable def Try.pinned : Pinned := { name := "ytfijkolejdkpdaa", sum := "0399450061fd5e221d2d331ff1a5d41d5b09fbf57212b73f3b3563f7c9f59c39", checked := Try.checked }
namespace Rows
def none {H : Type} : Left H := { results := [], args := [] }

/-- 'cellarerlaw18.ShapeLists': WHATEVER THE INPUT: true; the input reads as it did. -/
def shapeListsSpec : ChangeSpec := { name := "shapeLists", fn := fun _ => fun
  | [d1, d2] => { results := [.lit (.bool true)], args := [d1, d2] }
  | _ => none }
def shapeListsRow : OpenClaim := { program := "ytfijkolejdkpdaa", sum := "0399450061fd5e221d2d331ff1a5d41d5b09fbf57212b73f3b3563f7c9f59c39", func := "cellarer/cellarerlaw18.ShapeLists", spec := "shapeLists", inPlace := ["internal/abi.NoEscape", "internal/bytealg.MakeNoZero"], unfollowed := true, recurses := true, apart := false }
def ShapeListsSaid : Prop := shapeListsRow.holds Try.pinned (OpenSpec.ofChange shapeListsSpec)

/-- ITS FALSE NEIGHBOUR: 'it returns false'. Refute it at one input. -/
def shapeListsWrong : ChangeSpec := { name := "shapeLists", fn := fun _ => fun
  | [d1, d2] => { results := [.lit (.bool false)], args := [d1, d2] }
  | _ => none }
def ShapeListsWrongFalsely : Prop := shapeListsRow.holds Try.pinned (OpenSpec.ofChange shapeListsWrong)

/-- 'cellarerlaw18.ShapeInsides': WHATEVER THE INPUT: true; the input reads as it did. -/
def shapeInsidesSpec : ChangeSpec := { name := "shapeInsides", fn := fun _ => fun
  | [d1, d2, d3] => { results := [.lit (.bool true)], args := [d1, d2, d3] }
  | _ => none }
def shapeInsidesRow : OpenClaim := { program := "ytfijkolejdkpdaa", sum := "0399450061fd5e221d2d331ff1a5d41d5b09fbf57212b73f3b3563f7c9f59c39", func := "cellarer/cellarerlaw18.ShapeInsides", spec := "shapeInsides", inPlace := ["internal/abi.NoEscape", "internal/bytealg.MakeNoZero"], unfollowed := true, recurses := true, apart := false }
def ShapeInsidesSaid : Prop := shapeInsidesRow.holds Try.pinned (OpenSpec.ofChange shapeInsidesSpec)

/-- ITS FALSE NEIGHBOUR: 'it returns false'. Refute it at one input. -/
def shapeInsidesWrong : ChangeSpec := { name := "shapeInsides", fn := fun _ => fun
  | [d1, d2, d3] => { results := [.lit (.bool false)], args := [d1, d2, d3] }
  | _ => none }
def ShapeInsidesWrongFalsely : Prop := shapeInsidesRow.holds Try.pinned (OpenSpec.ofChange shapeInsidesWrong)

/-- 'cellarerlaw18.ShapeNests': WHATEVER THE INPUT: true; the input reads as it did. -/
def shapeNestsSpec : ChangeSpec := { name := "shapeNests", fn := fun _ => fun
  | [d] => { results := [.lit (.bool true)], args := [d] }
  | _ => none }
def shapeNestsRow : OpenClaim := { program := "ytfijkolejdkpdaa", sum := "0399450061fd5e221d2d331ff1a5d41d5b09fbf57212b73f3b3563f7c9f59c39", func := "cellarer/cellarerlaw18.ShapeNests", spec := "shapeNests", inPlace := ["internal/abi.NoEscape", "internal/bytealg.MakeNoZero"], unfollowed := true, recurses := true, apart := false }
def ShapeNestsSaid : Prop := shapeNestsRow.holds Try.pinned (OpenSpec.ofChange shapeNestsSpec)

/-- ITS FALSE NEIGHBOUR: 'it returns false'. Refute it at one input. -/
def shapeNestsWrong : ChangeSpec := { name := "shapeNests", fn := fun _ => fun
  | [d] => { results := [.lit (.bool false)], args := [d] }
  | _ => none }
def ShapeNestsWrongFalsely : Prop := shapeNestsRow.holds Try.pinned (OpenSpec.ofChange shapeNestsWrong)

/-- 'cellarerlaw18.ShapeIndexes': WHATEVER THE INPUT: true; the input reads as it did. -/
def shapeIndexesSpec : ChangeSpec := { name := "shapeIndexes", fn := fun _ => fun
  | [d1, d2, d3] => { results := [.lit (.bool true)], args := [d1, d2, d3] }
  | _ => none }
def shapeIndexesRow : OpenClaim := { program := "ytfijkolejdkpdaa", sum := "0399450061fd5e221d2d331ff1a5d41d5b09fbf57212b73f3b3563f7c9f59c39", func := "cellarer/cellarerlaw18.ShapeIndexes", spec := "shapeIndexes", inPlace := ["internal/abi.NoEscape", "internal/bytealg.MakeNoZero"], unfollowed := true, recurses := true, apart := false }
def ShapeIndexesSaid : Prop := shapeIndexesRow.holds Try.pinned (OpenSpec.ofChange shapeIndexesSpec)

/-- ITS FALSE NEIGHBOUR: 'it returns false'. Refute it at one input. -/
def shapeIndexesWrong : ChangeSpec := { name := "shapeIndexes", fn := fun _ => fun
  | [d1, d2, d3] => { results := [.lit (.bool false)], args := [d1, d2, d3] }
  | _ => none }
def ShapeIndexesWrongFalsely : Prop := shapeIndexesRow.holds Try.pinned (OpenSpec.ofChange shapeIndexesWrong)

/-- 'cellarerlaw18.ShapeUnique': WHATEVER THE INPUT: true; the input reads as it did. -/
def shapeUniqueSpec : ChangeSpec := { name := "shapeUnique", fn := fun _ => fun
  | [d1, d2] => { results := [.lit (.bool true)], args := [d1, d2] }
  | _ => none }
def shapeUniqueRow : OpenClaim := { program := "ytfijkolejdkpdaa", sum := "0399450061fd5e221d2d331ff1a5d41d5b09fbf57212b73f3b3563f7c9f59c39", func := "cellarer/cellarerlaw18.ShapeUnique", spec := "shapeUnique", inPlace := ["internal/abi.NoEscape", "internal/bytealg.MakeNoZero"], unfollowed := true, recurses := true, apart := false }
def ShapeUniqueSaid : Prop := shapeUniqueRow.holds Try.pinned (OpenSpec.ofChange shapeUniqueSpec)

/-- ITS FALSE NEIGHBOUR: 'it returns false'. Refute it at one input. -/
def shapeUniqueWrong : ChangeSpec := { name := "shapeUnique", fn := fun _ => fun
  | [d1, d2] => { results := [.lit (.bool false)], args := [d1, d2] }
  | _ => none }
def ShapeUniqueWrongFalsely : Prop := shapeUniqueRow.holds Try.pinned (OpenSpec.ofChange shapeUniqueWrong)

/-- 'cellarerlaw18.ShapeCloses': WHATEVER THE INPUT: true; the input reads as it did. -/
def shapeClosesSpec : ChangeSpec := { name := "shapeCloses", fn := fun _ => fun
  | [d1, d2] => { results := [.lit (.bool true)], args := [d1, d2] }
  | _ => none }
def shapeClosesRow : OpenClaim := { program := "ytfijkolejdkpdaa", sum := "0399450061fd5e221d2d331ff1a5d41d5b09fbf57212b73f3b3563f7c9f59c39", func := "cellarer/cellarerlaw18.ShapeCloses", spec := "shapeCloses", inPlace := ["internal/abi.NoEscape", "internal/bytealg.MakeNoZero"], unfollowed := true, recurses := true, apart := false }
def ShapeClosesSaid : Prop := shapeClosesRow.holds Try.pinned (OpenSpec.ofChange shapeClosesSpec)

/-- ITS FALSE NEIGHBOUR: 'it returns false'. Refute it at one input. -/
def shapeClosesWrong : ChangeSpec := { name := "shapeCloses", fn := fun _ => fun
  | [d1, d2] => { results := [.lit (.bool false)], args := [d1, d2] }
  | _ => none }
def ShapeClosesWrongFalsely : Prop := shapeClosesRow.holds Try.pinned (OpenSpec.ofChange shapeClosesWrong)

/- THE SECOND FORM. 'bulk': how many values and letters a reading holds, each counted each time it is reached (what is shared counts as often as it is met; a slice's spare places count too). A statement '..UptoSaid' is the law's where the arguments, and the package variables that the reading takes, are together of bulk at most 1048576: NARROWER than '..Said'. Prove '..Said' where nothing that the law and all that it calls make is longer than what came in: it says more and counts as full. Else prove '..UptoSaid'. A law counts once. -/
mutual
def uptoBulk {H : Type} : DataW H → Nat
  | .lit (.string bytes) => bytes.length + 1
  | .lit _ => 1
  | .nil => 1
  | .ptr d => uptoBulk d + 1
  | .slice elems spare => uptoBulkAll elems + uptoBulkAll spare + 1
  | .agg parts => uptoBulkAll parts + 1
  | .iface _ d => uptoBulk d + 1
  | .map entries => uptoBulkEntries entries + 1
  | .held _ => 1
def uptoBulkAll {H : Type} : List (DataW H) → Nat
  | [] => 0
  | d :: r => uptoBulk d + uptoBulkAll r
def uptoBulkEntries {H : Type} : List (Lit × DataW H) → Nat
  | [] => 0
  | x :: r => uptoBulkEntry x + uptoBulkEntries r
def uptoBulkEntry {H : Type} : Lit × DataW H → Nat
  | (.string bytes, d) => bytes.length + uptoBulk d + 1
  | (_, d) => uptoBulk d + 1
 end
def uptoSmall : (H : Type) → List (DataW H) → Bool := fun _ ds => decide (uptoBulkAll ds ≤ 1048576)
def OpenSpec.upto (s : _root_.Go.ChangeSpec) : _root_.Go.OpenSpec := { _root_.Go.OpenSpec.ofChange s with cond := some uptoSmall }

/-- 'cellarerlaw18.ShapeLists', WHERE WHAT IT READS IS OF BULK AT MOST 1048576: true; the input reads as it did. -/
def shapeListsUptoRow : OpenClaim := { program := "ytfijkolejdkpdaa", sum := "0399450061fd5e221d2d331ff1a5d41d5b09fbf57212b73f3b3563f7c9f59c39", func := "cellarer/cellarerlaw18.ShapeLists", spec := "shapeLists", inPlace := ["internal/abi.NoEscape", "internal/bytealg.MakeNoZero"], unfollowed := true, recurses := true, apart := false, narrowed := true }
def ShapeListsUptoSaid : Prop := shapeListsUptoRow.holds Try.pinned (OpenSpec.upto shapeListsSpec)

/-- 'cellarerlaw18.ShapeInsides', WHERE WHAT IT READS IS OF BULK AT MOST 1048576: true; the input reads as it did. -/
def shapeInsidesUptoRow : OpenClaim := { program := "ytfijkolejdkpdaa", sum := "0399450061fd5e221d2d331ff1a5d41d5b09fbf57212b73f3b3563f7c9f59c39", func := "cellarer/cellarerlaw18.ShapeInsides", spec := "shapeInsides", inPlace := ["internal/abi.NoEscape", "internal/bytealg.MakeNoZero"], unfollowed := true, recurses := true, apart := false, narrowed := true }
def ShapeInsidesUptoSaid : Prop := shapeInsidesUptoRow.holds Try.pinned (OpenSpec.upto shapeInsidesSpec)

/-- 'cellarerlaw18.ShapeNests', WHERE WHAT IT READS IS OF BULK AT MOST 1048576: true; the input reads as it did. -/
def shapeNestsUptoRow : OpenClaim := { program := "ytfijkolejdkpdaa", sum := "0399450061fd5e221d2d331ff1a5d41d5b09fbf57212b73f3b3563f7c9f59c39", func := "cellarer/cellarerlaw18.ShapeNests", spec := "shapeNests", inPlace := ["internal/abi.NoEscape", "internal/bytealg.MakeNoZero"], unfollowed := true, recurses := true, apart := false, narrowed := true }
def ShapeNestsUptoSaid : Prop := shapeNestsUptoRow.holds Try.pinned (OpenSpec.upto shapeNestsSpec)

/-- 'cellarerlaw18.ShapeIndexes', WHERE WHAT IT READS IS OF BULK AT MOST 1048576: true; the input reads as it did. -/
def shapeIndexesUptoRow : OpenClaim := { program := "ytfijkolejdkpdaa", sum := "0399450061fd5e221d2d331ff1a5d41d5b09fbf57212b73f3b3563f7c9f59c39", func := "cellarer/cellarerlaw18.ShapeIndexes", spec := "shapeIndexes", inPlace := ["internal/abi.NoEscape", "internal/bytealg.MakeNoZero"], unfollowed := true, recurses := true, apart := false, narrowed := true }
def ShapeIndexesUptoSaid : Prop := shapeIndexesUptoRow.holds Try.pinned (OpenSpec.upto shapeIndexesSpec)

/-- 'cellarerlaw18.ShapeUnique', WHERE WHAT IT READS IS OF BULK AT MOST 1048576: true; the input reads as it did. -/
def shapeUniqueUptoRow : OpenClaim := { program := "ytfijkolejdkpdaa", sum := "0399450061fd5e221d2d331ff1a5d41d5b09fbf57212b73f3b3563f7c9f59c39", func := "cellarer/cellarerlaw18.ShapeUnique", spec := "shapeUnique", inPlace := ["internal/abi.NoEscape", "internal/bytealg.MakeNoZero"], unfollowed := true, recurses := true, apart := false, narrowed := true }
def ShapeUniqueUptoSaid : Prop := shapeUniqueUptoRow.holds Try.pinned (OpenSpec.upto shapeUniqueSpec)

/-- 'cellarerlaw18.ShapeCloses', WHERE WHAT IT READS IS OF BULK AT MOST 1048576: true; the input reads as it did. -/
def shapeClosesUptoRow : OpenClaim := { program := "ytfijkolejdkpdaa", sum := "0399450061fd5e221d2d331ff1a5d41d5b09fbf57212b73f3b3563f7c9f59c39", func := "cellarer/cellarerlaw18.ShapeCloses", spec := "shapeCloses", inPlace := ["internal/abi.NoEscape", "internal/bytealg.MakeNoZero"], unfollowed := true, recurses := true, apart := false, narrowed := true }
def ShapeClosesUptoSaid : Prop := shapeClosesUptoRow.holds Try.pinned (OpenSpec.upto shapeClosesSpec)

end Rows
end Go.Proofs.Ytfijkolejdkpdaa
