/-
  NARROWER THAN 'FOR EVERY INPUT', by the rows' own cells (each row's printed sentence says how): LoadPlays: loops · LoadBack: loops · LoadDrops: loops · LoadCopies: loops.
  DERIVED. THE GIVEN ROWS OF THIS SEAT. 6 by the template 'for every input the law returns true; each argument reads behind the call as it read before'; 0 by the template 'total and deterministic' (their statements: YthhjecfimfookaaTotals.lean).
  GIVEN WITH THE SEED: the statements are not yours to turn. If you find one false, say at which input.
  Laid BY PROGRAM, IN A SANDBOX (cutbox-rows.mjs): the forced cells as the released guide's own fill.sh prints them over the translation 83d1a419c6dab859… (all of the seat's roots in one cut). By AI agents, Wed Nov 11 2026. No macro, syntax, notation, axiom, sorry.
-/
import Derived.Test.YthhjecfimfookaaChecked
import GoSem.Claim
import GoSem.ClaimJoined
import GoSem.ClaimMapViews
import Derived.JoinedTies
import Derived.KernelRfl
namespace Go.Proofs.Ythhjecfimfookaa
/- THE CELL 'sum', in the pinned program and in every row, IS THE sha256 OF THE DUMP (.gsa) THAT YthhjecfimfookaaProg.lean LOADS. Nothing in Lean hashes anything: it is a label: what it is worth is what the hold of that sum in a sandbox is worth. -/
noncomputable def Try.pinned : Pinned := { name := "ythhjecfimfookaa", sum := "83d1a419c6dab8598485d59c838d3d5949b0c59acbc96ea7ffaebc5a1b697030", checked := Try.checked }
namespace Rows
def none {H : Type} : Left H := { results := [], args := [] }

/-- 'cellarerlaw56.LoadPlays': WHATEVER THE INPUT: true; the input reads as it did. -/
def loadPlaysSpec : ChangeSpec := { name := "loadPlays", fn := fun _ => fun
  | [d1, d2, d3] => { results := [.lit (.bool true)], args := [d1, d2, d3] }
  | _ => none }
def loadPlaysRow : OpenClaim := { program := "ythhjecfimfookaa", sum := "83d1a419c6dab8598485d59c838d3d5949b0c59acbc96ea7ffaebc5a1b697030", func := "cellarer/cellarerlaw56.LoadPlays", spec := "loadPlays", unfollowed := true, recurses := true, loops := true, apart := false }
def LoadPlaysSaid : Prop := loadPlaysRow.holds Try.pinned (OpenSpec.ofChange loadPlaysSpec)

/-- ITS FALSE NEIGHBOUR: 'it returns false'. Refute it at one input. -/
def loadPlaysWrong : ChangeSpec := { name := "loadPlays", fn := fun _ => fun
  | [d1, d2, d3] => { results := [.lit (.bool false)], args := [d1, d2, d3] }
  | _ => none }
def LoadPlaysWrongFalsely : Prop := loadPlaysRow.holds Try.pinned (OpenSpec.ofChange loadPlaysWrong)

/-- 'cellarerlaw56.LoadNil': WHATEVER THE INPUT: true; the input reads as it did. -/
def loadNilSpec : ChangeSpec := { name := "loadNil", fn := fun _ => fun
  | [d1, d2, d3] => { results := [.lit (.bool true)], args := [d1, d2, d3] }
  | _ => none }
def loadNilRow : OpenClaim := { program := "ythhjecfimfookaa", sum := "83d1a419c6dab8598485d59c838d3d5949b0c59acbc96ea7ffaebc5a1b697030", func := "cellarer/cellarerlaw56.LoadNil", spec := "loadNil", unfollowed := true, recurses := true, apart := false }
def LoadNilSaid : Prop := loadNilRow.holds Try.pinned (OpenSpec.ofChange loadNilSpec)

/-- ITS FALSE NEIGHBOUR: 'it returns false'. Refute it at one input. -/
def loadNilWrong : ChangeSpec := { name := "loadNil", fn := fun _ => fun
  | [d1, d2, d3] => { results := [.lit (.bool false)], args := [d1, d2, d3] }
  | _ => none }
def LoadNilWrongFalsely : Prop := loadNilRow.holds Try.pinned (OpenSpec.ofChange loadNilWrong)

/-- 'cellarerlaw56.LoadShared': WHATEVER THE INPUT: true; the input reads as it did. -/
def loadSharedSpec : ChangeSpec := { name := "loadShared", fn := fun _ => fun
  | [d1, d2] => { results := [.lit (.bool true)], args := [d1, d2] }
  | _ => none }
def loadSharedRow : OpenClaim := { program := "ythhjecfimfookaa", sum := "83d1a419c6dab8598485d59c838d3d5949b0c59acbc96ea7ffaebc5a1b697030", func := "cellarer/cellarerlaw56.LoadShared", spec := "loadShared", unfollowed := true, recurses := true, apart := false }
def LoadSharedSaid : Prop := loadSharedRow.holds Try.pinned (OpenSpec.ofChange loadSharedSpec)

/-- ITS FALSE NEIGHBOUR: 'it returns false'. Refute it at one input. -/
def loadSharedWrong : ChangeSpec := { name := "loadShared", fn := fun _ => fun
  | [d1, d2] => { results := [.lit (.bool false)], args := [d1, d2] }
  | _ => none }
def LoadSharedWrongFalsely : Prop := loadSharedRow.holds Try.pinned (OpenSpec.ofChange loadSharedWrong)

/-- 'cellarerlaw56.LoadBack': WHATEVER THE INPUT: true; the input reads as it did. -/
def loadBackSpec : ChangeSpec := { name := "loadBack", fn := fun _ => fun
  | [d] => { results := [.lit (.bool true)], args := [d] }
  | _ => none }
def loadBackRow : OpenClaim := { program := "ythhjecfimfookaa", sum := "83d1a419c6dab8598485d59c838d3d5949b0c59acbc96ea7ffaebc5a1b697030", func := "cellarer/cellarerlaw56.LoadBack", spec := "loadBack", unfollowed := true, recurses := true, loops := true, apart := false }
def LoadBackSaid : Prop := loadBackRow.holds Try.pinned (OpenSpec.ofChange loadBackSpec)

/-- ITS FALSE NEIGHBOUR: 'it returns false'. Refute it at one input. -/
def loadBackWrong : ChangeSpec := { name := "loadBack", fn := fun _ => fun
  | [d] => { results := [.lit (.bool false)], args := [d] }
  | _ => none }
def LoadBackWrongFalsely : Prop := loadBackRow.holds Try.pinned (OpenSpec.ofChange loadBackWrong)

/-- 'cellarerlaw56.LoadDrops': WHATEVER THE INPUT: true; the input reads as it did. -/
def loadDropsSpec : ChangeSpec := { name := "loadDrops", fn := fun _ => fun
  | [d] => { results := [.lit (.bool true)], args := [d] }
  | _ => none }
def loadDropsRow : OpenClaim := { program := "ythhjecfimfookaa", sum := "83d1a419c6dab8598485d59c838d3d5949b0c59acbc96ea7ffaebc5a1b697030", func := "cellarer/cellarerlaw56.LoadDrops", spec := "loadDrops", unfollowed := true, recurses := true, loops := true, apart := false }
def LoadDropsSaid : Prop := loadDropsRow.holds Try.pinned (OpenSpec.ofChange loadDropsSpec)

/-- ITS FALSE NEIGHBOUR: 'it returns false'. Refute it at one input. -/
def loadDropsWrong : ChangeSpec := { name := "loadDrops", fn := fun _ => fun
  | [d] => { results := [.lit (.bool false)], args := [d] }
  | _ => none }
def LoadDropsWrongFalsely : Prop := loadDropsRow.holds Try.pinned (OpenSpec.ofChange loadDropsWrong)

/-- 'cellarerlaw56.LoadCopies': WHATEVER THE INPUT: true; the input reads as it did. -/
def loadCopiesSpec : ChangeSpec := { name := "loadCopies", fn := fun _ => fun
  | [d1, d2] => { results := [.lit (.bool true)], args := [d1, d2] }
  | _ => none }
def loadCopiesRow : OpenClaim := { program := "ythhjecfimfookaa", sum := "83d1a419c6dab8598485d59c838d3d5949b0c59acbc96ea7ffaebc5a1b697030", func := "cellarer/cellarerlaw56.LoadCopies", spec := "loadCopies", unfollowed := true, recurses := true, loops := true, apart := false }
def LoadCopiesSaid : Prop := loadCopiesRow.holds Try.pinned (OpenSpec.ofChange loadCopiesSpec)

/-- ITS FALSE NEIGHBOUR: 'it returns false'. Refute it at one input. -/
def loadCopiesWrong : ChangeSpec := { name := "loadCopies", fn := fun _ => fun
  | [d1, d2] => { results := [.lit (.bool false)], args := [d1, d2] }
  | _ => none }
def LoadCopiesWrongFalsely : Prop := loadCopiesRow.holds Try.pinned (OpenSpec.ofChange loadCopiesWrong)

/- THE SECOND FORM. 'bulk': how many values and letters a reading holds, each counted each time it is reached (what is shared counts as often as it is met; a slice's spare places count too). A statement '..UptoSaid' is the law's where the arguments, and the package variables that the reading takes, are together of bulk at most 1048576: NARROWER than '..Said'. Prove '..Said' where nothing that the law and all that it calls make is longer than what came in: it says more and counts as full. Else prove '..UptoSaid'. A law counts once. -/
mutual
def uptoBulk {H : Type} : DataW H → Nat
  | .lit (.string bytes) => bytes.length + 1
  | .lit _ => 1
  | .nil => 1
  | .ptr d => uptoBulk d + 1
  | .slice elems spare => uptoBulkAll elems + uptoBulkAll spare + 1
  | .agg parts => uptoBulkAll parts + 1
  | .iface _ d => uptoBulk d + 1
  | .map entries => uptoBulkEntries entries + 1
  | .held _ => 1
def uptoBulkAll {H : Type} : List (DataW H) → Nat
  | [] => 0
  | d :: r => uptoBulk d + uptoBulkAll r
def uptoBulkEntries {H : Type} : List (Lit × DataW H) → Nat
  | [] => 0
  | x :: r => uptoBulkEntry x + uptoBulkEntries r
def uptoBulkEntry {H : Type} : Lit × DataW H → Nat
  | (.string bytes, d) => bytes.length + uptoBulk d + 1
  | (_, d) => uptoBulk d + 1
 end
def uptoSmall : (H : Type) → List (DataW H) → Bool := fun _ ds => decide (uptoBulkAll ds ≤ 1048576)
def OpenSpec.upto (s : _root_.Go.ChangeSpec) : _root_.Go.OpenSpec := { _root_.Go.OpenSpec.ofChange s with cond := some uptoSmall }

/-- 'cellarerlaw56.LoadPlays', WHERE WHAT IT READS IS OF BULK AT MOST 1048576: true; the input reads as it did. -/
def loadPlaysUptoRow : OpenClaim := { program := "ythhjecfimfookaa", sum := "83d1a419c6dab8598485d59c838d3d5949b0c59acbc96ea7ffaebc5a1b697030", func := "cellarer/cellarerlaw56.LoadPlays", spec := "loadPlays", unfollowed := true, recurses := true, loops := true, apart := false, narrowed := true }
def LoadPlaysUptoSaid : Prop := loadPlaysUptoRow.holds Try.pinned (OpenSpec.upto loadPlaysSpec)

/-- 'cellarerlaw56.LoadNil', WHERE WHAT IT READS IS OF BULK AT MOST 1048576: true; the input reads as it did. -/
def loadNilUptoRow : OpenClaim := { program := "ythhjecfimfookaa", sum := "83d1a419c6dab8598485d59c838d3d5949b0c59acbc96ea7ffaebc5a1b697030", func := "cellarer/cellarerlaw56.LoadNil", spec := "loadNil", unfollowed := true, recurses := true, apart := false, narrowed := true }
def LoadNilUptoSaid : Prop := loadNilUptoRow.holds Try.pinned (OpenSpec.upto loadNilSpec)

/-- 'cellarerlaw56.LoadShared', WHERE WHAT IT READS IS OF BULK AT MOST 1048576: true; the input reads as it did. -/
def loadSharedUptoRow : OpenClaim := { program := "ythhjecfimfookaa", sum := "83d1a419c6dab8598485d59c838d3d5949b0c59acbc96ea7ffaebc5a1b697030", func := "cellarer/cellarerlaw56.LoadShared", spec := "loadShared", unfollowed := true, recurses := true, apart := false, narrowed := true }
def LoadSharedUptoSaid : Prop := loadSharedUptoRow.holds Try.pinned (OpenSpec.upto loadSharedSpec)

/-- 'cellarerlaw56.LoadBack', WHERE WHAT IT READS IS OF BULK AT MOST 1048576: true; the input reads as it did. -/
def loadBackUptoRow : OpenClaim := { program := "ythhjecfimfookaa", sum := "83d1a419c6dab8598485d59c838d3d5949b0c59acbc96ea7ffaebc5a1b697030", func := "cellarer/cellarerlaw56.LoadBack", spec := "loadBack", unfollowed := true, recurses := true, loops := true, apart := false, narrowed := true }
def LoadBackUptoSaid : Prop := loadBackUptoRow.holds Try.pinned (OpenSpec.upto loadBackSpec)

/-- 'cellarerlaw56.LoadDrops', WHERE WHAT IT READS IS OF BULK AT MOST 1048576: true; the input reads as it did. -/
def loadDropsUptoRow : OpenClaim := { program := "ythhjecfimfookaa", sum := "83d1a419c6dab8598485d59c838d3d5949b0c59acbc96ea7ffaebc5a1b697030", func := "cellarer/cellarerlaw56.LoadDrops", spec := "loadDrops", unfollowed := true, recurses := true, loops := true, apart := false, narrowed := true }
def LoadDropsUptoSaid : Prop := loadDropsUptoRow.holds Try.pinned (OpenSpec.upto loadDropsSpec)

/-- 'cellarerlaw56.LoadCopies', WHERE WHAT IT READS IS OF BULK AT MOST 1048576: true; the input reads as it did. -/
def loadCopiesUptoRow : OpenClaim := { program := "ythhjecfimfookaa", sum := "83d1a419c6dab8598485d59c838d3d5949b0c59acbc96ea7ffaebc5a1b697030", func := "cellarer/cellarerlaw56.LoadCopies", spec := "loadCopies", unfollowed := true, recurses := true, loops := true, apart := false, narrowed := true }
def LoadCopiesUptoSaid : Prop := loadCopiesUptoRow.holds Try.pinned (OpenSpec.upto loadCopiesSpec)

end Rows
end Go.Proofs.Ythhjecfimfookaa
