/-
  No cell of these rows narrows 'for every input' (looked for: loops, veiled, ifaces, maps, wideKeys, modest, calm, conditions, laid).
  DERIVED. THE GIVEN ROWS OF THIS SEAT. 7 by the template 'for every input the law returns true; each argument reads behind the call as it read before'; 0 by the template 'total and deterministic' (their statements: YtimjofcjjgppbaaTotals.lean).
  GIVEN WITH THE SEED: the statements are not yours to turn. If you find one false, say at which input.
  Laid BY PROGRAM, IN A SANDBOX (cutbox-rows.mjs): the forced cells as the released guide's own fill.sh prints them over the translation 4b4aa9df4ed382cb… (all of the seat's roots in one cut). By AI agents, Wed Nov 11 2026. No macro, syntax, notation, axiom, sorry.
-/
import Derived.Test.YtimjofcjjgppbaaChecked
import GoSem.Claim
import GoSem.ClaimJoined
import GoSem.ClaimMapViews
import Derived.JoinedTies
import Derived.KernelRfl
namespace Go.Proofs.Ytimjofcjjgppbaa
/- THE CELL 'sum', in the pinned program and in every row, IS THE sha256 OF THE DUMP (.gsa) THAT YtimjofcjjgppbaaProg.lean LOADS. Nothing in Lean hashes anything: it is a label: what it is worth is what the hold of that sum in a sandbox is worth. -/
noncomputable def Try.pinned : Pinned := { name := "ytimjofcjjgppbaa", sum := "4b4aa9df4ed382cb7a409f269af81591a944cf1803f2799b27db08f1f9541302", checked := Try.checked }
namespace Rows
def none {H : Type} : Left H := { results := [], args := [] }

/-- 'cellarerlaw17.DatasChecks': WHATEVER THE INPUT: true; the input reads as it did. -/
def datasChecksSpec : ChangeSpec := { name := "datasChecks", fn := fun _ => fun
  | [d] => { results := [.lit (.bool true)], args := [d] }
  | _ => none }
def datasChecksRow : OpenClaim := { program := "ytimjofcjjgppbaa", sum := "4b4aa9df4ed382cb7a409f269af81591a944cf1803f2799b27db08f1f9541302", func := "cellarer/cellarerlaw17.DatasChecks", spec := "datasChecks", unfollowed := true, recurses := true, apart := false }
def DatasChecksSaid : Prop := datasChecksRow.holds Try.pinned (OpenSpec.ofChange datasChecksSpec)

/-- ITS FALSE NEIGHBOUR: 'it returns false'. Refute it at one input. -/
def datasChecksWrong : ChangeSpec := { name := "datasChecks", fn := fun _ => fun
  | [d] => { results := [.lit (.bool false)], args := [d] }
  | _ => none }
def DatasChecksWrongFalsely : Prop := datasChecksRow.holds Try.pinned (OpenSpec.ofChange datasChecksWrong)

/-- 'cellarerlaw17.DatasMeasures': WHATEVER THE INPUT: true; the input reads as it did. -/
def datasMeasuresSpec : ChangeSpec := { name := "datasMeasures", fn := fun _ => fun
  | [d1, d2, d3] => { results := [.lit (.bool true)], args := [d1, d2, d3] }
  | _ => none }
def datasMeasuresRow : OpenClaim := { program := "ytimjofcjjgppbaa", sum := "4b4aa9df4ed382cb7a409f269af81591a944cf1803f2799b27db08f1f9541302", func := "cellarer/cellarerlaw17.DatasMeasures", spec := "datasMeasures", unfollowed := true, recurses := true, apart := false }
def DatasMeasuresSaid : Prop := datasMeasuresRow.holds Try.pinned (OpenSpec.ofChange datasMeasuresSpec)

/-- ITS FALSE NEIGHBOUR: 'it returns false'. Refute it at one input. -/
def datasMeasuresWrong : ChangeSpec := { name := "datasMeasures", fn := fun _ => fun
  | [d1, d2, d3] => { results := [.lit (.bool false)], args := [d1, d2, d3] }
  | _ => none }
def DatasMeasuresWrongFalsely : Prop := datasMeasuresRow.holds Try.pinned (OpenSpec.ofChange datasMeasuresWrong)

/-- 'cellarerlaw17.DatasReaches': WHATEVER THE INPUT: true; the input reads as it did. -/
def datasReachesSpec : ChangeSpec := { name := "datasReaches", fn := fun _ => fun
  | [d1, d2] => { results := [.lit (.bool true)], args := [d1, d2] }
  | _ => none }
def datasReachesRow : OpenClaim := { program := "ytimjofcjjgppbaa", sum := "4b4aa9df4ed382cb7a409f269af81591a944cf1803f2799b27db08f1f9541302", func := "cellarer/cellarerlaw17.DatasReaches", spec := "datasReaches", unfollowed := true, recurses := true, apart := false }
def DatasReachesSaid : Prop := datasReachesRow.holds Try.pinned (OpenSpec.ofChange datasReachesSpec)

/-- ITS FALSE NEIGHBOUR: 'it returns false'. Refute it at one input. -/
def datasReachesWrong : ChangeSpec := { name := "datasReaches", fn := fun _ => fun
  | [d1, d2] => { results := [.lit (.bool false)], args := [d1, d2] }
  | _ => none }
def DatasReachesWrongFalsely : Prop := datasReachesRow.holds Try.pinned (OpenSpec.ofChange datasReachesWrong)

/-- 'cellarerlaw17.DatasCloses': WHATEVER THE INPUT: true; the input reads as it did. -/
def datasClosesSpec : ChangeSpec := { name := "datasCloses", fn := fun _ => fun
  | [d1, d2] => { results := [.lit (.bool true)], args := [d1, d2] }
  | _ => none }
def datasClosesRow : OpenClaim := { program := "ytimjofcjjgppbaa", sum := "4b4aa9df4ed382cb7a409f269af81591a944cf1803f2799b27db08f1f9541302", func := "cellarer/cellarerlaw17.DatasCloses", spec := "datasCloses", unfollowed := true, recurses := true, apart := false }
def DatasClosesSaid : Prop := datasClosesRow.holds Try.pinned (OpenSpec.ofChange datasClosesSpec)

/-- ITS FALSE NEIGHBOUR: 'it returns false'. Refute it at one input. -/
def datasClosesWrong : ChangeSpec := { name := "datasCloses", fn := fun _ => fun
  | [d1, d2] => { results := [.lit (.bool false)], args := [d1, d2] }
  | _ => none }
def DatasClosesWrongFalsely : Prop := datasClosesRow.holds Try.pinned (OpenSpec.ofChange datasClosesWrong)

/-- 'cellarerlaw17.DatasEndless': WHATEVER THE INPUT: true; the input reads as it did. -/
def datasEndlessSpec : ChangeSpec := { name := "datasEndless", fn := fun _ => fun
  | [d] => { results := [.lit (.bool true)], args := [d] }
  | _ => none }
def datasEndlessRow : OpenClaim := { program := "ytimjofcjjgppbaa", sum := "4b4aa9df4ed382cb7a409f269af81591a944cf1803f2799b27db08f1f9541302", func := "cellarer/cellarerlaw17.DatasEndless", spec := "datasEndless", unfollowed := true, recurses := true, apart := false }
def DatasEndlessSaid : Prop := datasEndlessRow.holds Try.pinned (OpenSpec.ofChange datasEndlessSpec)

/-- ITS FALSE NEIGHBOUR: 'it returns false'. Refute it at one input. -/
def datasEndlessWrong : ChangeSpec := { name := "datasEndless", fn := fun _ => fun
  | [d] => { results := [.lit (.bool false)], args := [d] }
  | _ => none }
def DatasEndlessWrongFalsely : Prop := datasEndlessRow.holds Try.pinned (OpenSpec.ofChange datasEndlessWrong)

/-- 'cellarerlaw17.DatasFinds': WHATEVER THE INPUT: true; the input reads as it did. -/
def datasFindsSpec : ChangeSpec := { name := "datasFinds", fn := fun _ => fun
  | [d1, d2, d3] => { results := [.lit (.bool true)], args := [d1, d2, d3] }
  | _ => none }
def datasFindsRow : OpenClaim := { program := "ytimjofcjjgppbaa", sum := "4b4aa9df4ed382cb7a409f269af81591a944cf1803f2799b27db08f1f9541302", func := "cellarer/cellarerlaw17.DatasFinds", spec := "datasFinds", unfollowed := true, recurses := true, apart := false }
def DatasFindsSaid : Prop := datasFindsRow.holds Try.pinned (OpenSpec.ofChange datasFindsSpec)

/-- ITS FALSE NEIGHBOUR: 'it returns false'. Refute it at one input. -/
def datasFindsWrong : ChangeSpec := { name := "datasFinds", fn := fun _ => fun
  | [d1, d2, d3] => { results := [.lit (.bool false)], args := [d1, d2, d3] }
  | _ => none }
def DatasFindsWrongFalsely : Prop := datasFindsRow.holds Try.pinned (OpenSpec.ofChange datasFindsWrong)

/-- 'cellarerlaw17.DatasNames': WHATEVER THE INPUT: true; the input reads as it did. -/
def datasNamesSpec : ChangeSpec := { name := "datasNames", fn := fun _ => fun
  | [d] => { results := [.lit (.bool true)], args := [d] }
  | _ => none }
def datasNamesRow : OpenClaim := { program := "ytimjofcjjgppbaa", sum := "4b4aa9df4ed382cb7a409f269af81591a944cf1803f2799b27db08f1f9541302", func := "cellarer/cellarerlaw17.DatasNames", spec := "datasNames", unfollowed := true, recurses := true, apart := false }
def DatasNamesSaid : Prop := datasNamesRow.holds Try.pinned (OpenSpec.ofChange datasNamesSpec)

/-- ITS FALSE NEIGHBOUR: 'it returns false'. Refute it at one input. -/
def datasNamesWrong : ChangeSpec := { name := "datasNames", fn := fun _ => fun
  | [d] => { results := [.lit (.bool false)], args := [d] }
  | _ => none }
def DatasNamesWrongFalsely : Prop := datasNamesRow.holds Try.pinned (OpenSpec.ofChange datasNamesWrong)

/- THE SECOND FORM. 'bulk': how many values and letters a reading holds, each counted each time it is reached (what is shared counts as often as it is met; a slice's spare places count too). A statement '..UptoSaid' is the law's where the arguments, and the package variables that the reading takes, are together of bulk at most 1048576: NARROWER than '..Said'. Prove '..Said' where nothing that the law and all that it calls make is longer than what came in: it says more and counts as full. Else prove '..UptoSaid'. A law counts once. -/
mutual
def uptoBulk {H : Type} : DataW H → Nat
  | .lit (.string bytes) => bytes.length + 1
  | .lit _ => 1
  | .nil => 1
  | .ptr d => uptoBulk d + 1
  | .slice elems spare => uptoBulkAll elems + uptoBulkAll spare + 1
  | .agg parts => uptoBulkAll parts + 1
  | .iface _ d => uptoBulk d + 1
  | .map entries => uptoBulkEntries entries + 1
  | .held _ => 1
def uptoBulkAll {H : Type} : List (DataW H) → Nat
  | [] => 0
  | d :: r => uptoBulk d + uptoBulkAll r
def uptoBulkEntries {H : Type} : List (Lit × DataW H) → Nat
  | [] => 0
  | x :: r => uptoBulkEntry x + uptoBulkEntries r
def uptoBulkEntry {H : Type} : Lit × DataW H → Nat
  | (.string bytes, d) => bytes.length + uptoBulk d + 1
  | (_, d) => uptoBulk d + 1
 end
def uptoSmall : (H : Type) → List (DataW H) → Bool := fun _ ds => decide (uptoBulkAll ds ≤ 1048576)
def OpenSpec.upto (s : _root_.Go.ChangeSpec) : _root_.Go.OpenSpec := { _root_.Go.OpenSpec.ofChange s with cond := some uptoSmall }

/-- 'cellarerlaw17.DatasChecks', WHERE WHAT IT READS IS OF BULK AT MOST 1048576: true; the input reads as it did. -/
def datasChecksUptoRow : OpenClaim := { program := "ytimjofcjjgppbaa", sum := "4b4aa9df4ed382cb7a409f269af81591a944cf1803f2799b27db08f1f9541302", func := "cellarer/cellarerlaw17.DatasChecks", spec := "datasChecks", unfollowed := true, recurses := true, apart := false, narrowed := true }
def DatasChecksUptoSaid : Prop := datasChecksUptoRow.holds Try.pinned (OpenSpec.upto datasChecksSpec)

/-- 'cellarerlaw17.DatasMeasures', WHERE WHAT IT READS IS OF BULK AT MOST 1048576: true; the input reads as it did. -/
def datasMeasuresUptoRow : OpenClaim := { program := "ytimjofcjjgppbaa", sum := "4b4aa9df4ed382cb7a409f269af81591a944cf1803f2799b27db08f1f9541302", func := "cellarer/cellarerlaw17.DatasMeasures", spec := "datasMeasures", unfollowed := true, recurses := true, apart := false, narrowed := true }
def DatasMeasuresUptoSaid : Prop := datasMeasuresUptoRow.holds Try.pinned (OpenSpec.upto datasMeasuresSpec)

/-- 'cellarerlaw17.DatasReaches', WHERE WHAT IT READS IS OF BULK AT MOST 1048576: true; the input reads as it did. -/
def datasReachesUptoRow : OpenClaim := { program := "ytimjofcjjgppbaa", sum := "4b4aa9df4ed382cb7a409f269af81591a944cf1803f2799b27db08f1f9541302", func := "cellarer/cellarerlaw17.DatasReaches", spec := "datasReaches", unfollowed := true, recurses := true, apart := false, narrowed := true }
def DatasReachesUptoSaid : Prop := datasReachesUptoRow.holds Try.pinned (OpenSpec.upto datasReachesSpec)

/-- 'cellarerlaw17.DatasCloses', WHERE WHAT IT READS IS OF BULK AT MOST 1048576: true; the input reads as it did. -/
def datasClosesUptoRow : OpenClaim := { program := "ytimjofcjjgppbaa", sum := "4b4aa9df4ed382cb7a409f269af81591a944cf1803f2799b27db08f1f9541302", func := "cellarer/cellarerlaw17.DatasCloses", spec := "datasCloses", unfollowed := true, recurses := true, apart := false, narrowed := true }
def DatasClosesUptoSaid : Prop := datasClosesUptoRow.holds Try.pinned (OpenSpec.upto datasClosesSpec)

/-- 'cellarerlaw17.DatasEndless', WHERE WHAT IT READS IS OF BULK AT MOST 1048576: true; the input reads as it did. -/
def datasEndlessUptoRow : OpenClaim := { program := "ytimjofcjjgppbaa", sum := "4b4aa9df4ed382cb7a409f269af81591a944cf1803f2799b27db08f1f9541302", func := "cellarer/cellarerlaw17.DatasEndless", spec := "datasEndless", unfollowed := true, recurses := true, apart := false, narrowed := true }
def DatasEndlessUptoSaid : Prop := datasEndlessUptoRow.holds Try.pinned (OpenSpec.upto datasEndlessSpec)

/-- 'cellarerlaw17.DatasFinds', WHERE WHAT IT READS IS OF BULK AT MOST 1048576: true; the input reads as it did. -/
def datasFindsUptoRow : OpenClaim := { program := "ytimjofcjjgppbaa", sum := "4b4aa9df4ed382cb7a409f269af81591a944cf1803f2799b27db08f1f9541302", func := "cellarer/cellarerlaw17.DatasFinds", spec := "datasFinds", unfollowed := true, recurses := true, apart := false, narrowed := true }
def DatasFindsUptoSaid : Prop := datasFindsUptoRow.holds Try.pinned (OpenSpec.upto datasFindsSpec)

/-- 'cellarerlaw17.DatasNames', WHERE WHAT IT READS IS OF BULK AT MOST 1048576: true; the input reads as it did. -/
def datasNamesUptoRow : OpenClaim := { program := "ytimjofcjjgppbaa", sum := "4b4aa9df4ed382cb7a409f269af81591a944cf1803f2799b27db08f1f9541302", func := "cellarer/cellarerlaw17.DatasNames", spec := "datasNames", unfollowed := true, recurses := true, apart := false, narrowed := true }
def DatasNamesUptoSaid : Prop := datasNamesUptoRow.holds Try.pinned (OpenSpec.upto datasNamesSpec)

end Rows
end Go.Proofs.Ytimjofcjjgppbaa
