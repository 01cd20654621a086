/-
  No cell of these rows narrows 'for every input' (looked for: loops, veiled, ifaces, maps, wideKeys, modest, calm, conditions, laid).
  DERIVED. THE GIVEN ROWS OF THIS SEAT. 5 by the template 'for every input the law returns true; each argument reads behind the call as it read before'; 0 by the template 'total and deterministic' (their statements: YtfaibpdoalbkpaaTotals.lean).
  GIVEN WITH THE SEED: the statements are not yours to turn. If you find one false, say at which input.
  Laid BY PROGRAM, IN A SANDBOX (cutbox-rows.mjs): the forced cells as the released guide's own fill.sh prints them over the translation 80898cc3993d9352… (all of the seat's roots in one cut). By AI agents, Wed Nov 11 2026. No macro, syntax, notation, axiom, sorry.
-/
import Derived.Test.YtfaibpdoalbkpaaChecked
import GoSem.Claim
import GoSem.ClaimJoined
import GoSem.ClaimMapViews
import Derived.JoinedTies
import Derived.KernelRfl
namespace Go.Proofs.Ytfaibpdoalbkpaa
/- THE CELL 'sum', in the pinned program and in every row, IS THE sha256 OF THE DUMP (.gsa) THAT YtfaibpdoalbkpaaProg.lean LOADS. Nothing in Lean hashes anything: it is a label: what it is worth is what the hold of that sum in a sandbox is worth. -/
noncomputable def Try.pinned : Pinned := { name := "ytfaibpdoalbkpaa", sum := "80898cc3993d935244836f9962a8c8a0be09bfe151b898c4a3a8ff8cc0344efc", checked := Try.checked }
namespace Rows
def none {H : Type} : Left H := { results := [], args := [] }

/-- 'indenturelaw07.BuildPlays': WHATEVER THE INPUT: true; the input reads as it did. -/
def buildPlaysSpec : ChangeSpec := { name := "buildPlays", fn := fun _ => fun
  | [d1, d2] => { results := [.lit (.bool true)], args := [d1, d2] }
  | _ => none }
def buildPlaysRow : OpenClaim := { program := "ytfaibpdoalbkpaa", sum := "80898cc3993d935244836f9962a8c8a0be09bfe151b898c4a3a8ff8cc0344efc", func := "indenture/indenturelaw07.BuildPlays", spec := "buildPlays", unfollowed := true, recurses := true, apart := false }
def BuildPlaysSaid : Prop := buildPlaysRow.holds Try.pinned (OpenSpec.ofChange buildPlaysSpec)

/-- ITS FALSE NEIGHBOUR: 'it returns false'. Refute it at one input. -/
def buildPlaysWrong : ChangeSpec := { name := "buildPlays", fn := fun _ => fun
  | [d1, d2] => { results := [.lit (.bool false)], args := [d1, d2] }
  | _ => none }
def BuildPlaysWrongFalsely : Prop := buildPlaysRow.holds Try.pinned (OpenSpec.ofChange buildPlaysWrong)

/-- 'indenturelaw07.BuildNil': WHATEVER THE INPUT: true; the input reads as it did. -/
def buildNilSpec : ChangeSpec := { name := "buildNil", fn := fun _ => fun
  | [d1, d2] => { results := [.lit (.bool true)], args := [d1, d2] }
  | _ => none }
def buildNilRow : OpenClaim := { program := "ytfaibpdoalbkpaa", sum := "80898cc3993d935244836f9962a8c8a0be09bfe151b898c4a3a8ff8cc0344efc", func := "indenture/indenturelaw07.BuildNil", spec := "buildNil", unfollowed := true, recurses := true, apart := false }
def BuildNilSaid : Prop := buildNilRow.holds Try.pinned (OpenSpec.ofChange buildNilSpec)

/-- ITS FALSE NEIGHBOUR: 'it returns false'. Refute it at one input. -/
def buildNilWrong : ChangeSpec := { name := "buildNil", fn := fun _ => fun
  | [d1, d2] => { results := [.lit (.bool false)], args := [d1, d2] }
  | _ => none }
def BuildNilWrongFalsely : Prop := buildNilRow.holds Try.pinned (OpenSpec.ofChange buildNilWrong)

/-- 'indenturelaw07.BuildPieces': WHATEVER THE INPUT: true; the input reads as it did. -/
def buildPiecesSpec : ChangeSpec := { name := "buildPieces", fn := fun _ => fun
  | [d1, d2, d3, d4] => { results := [.lit (.bool true)], args := [d1, d2, d3, d4] }
  | _ => none }
def buildPiecesRow : OpenClaim := { program := "ytfaibpdoalbkpaa", sum := "80898cc3993d935244836f9962a8c8a0be09bfe151b898c4a3a8ff8cc0344efc", func := "indenture/indenturelaw07.BuildPieces", spec := "buildPieces", unfollowed := true, recurses := true, apart := false }
def BuildPiecesSaid : Prop := buildPiecesRow.holds Try.pinned (OpenSpec.ofChange buildPiecesSpec)

/-- ITS FALSE NEIGHBOUR: 'it returns false'. Refute it at one input. -/
def buildPiecesWrong : ChangeSpec := { name := "buildPieces", fn := fun _ => fun
  | [d1, d2, d3, d4] => { results := [.lit (.bool false)], args := [d1, d2, d3, d4] }
  | _ => none }
def BuildPiecesWrongFalsely : Prop := buildPiecesRow.holds Try.pinned (OpenSpec.ofChange buildPiecesWrong)

/-- 'indenturelaw07.BuildTree': WHATEVER THE INPUT: true; the input reads as it did. -/
def buildTreeSpec : ChangeSpec := { name := "buildTree", fn := fun _ => fun
  | [d1, d2] => { results := [.lit (.bool true)], args := [d1, d2] }
  | _ => none }
def buildTreeRow : OpenClaim := { program := "ytfaibpdoalbkpaa", sum := "80898cc3993d935244836f9962a8c8a0be09bfe151b898c4a3a8ff8cc0344efc", func := "indenture/indenturelaw07.BuildTree", spec := "buildTree", unfollowed := true, recurses := true, apart := false }
def BuildTreeSaid : Prop := buildTreeRow.holds Try.pinned (OpenSpec.ofChange buildTreeSpec)

/-- ITS FALSE NEIGHBOUR: 'it returns false'. Refute it at one input. -/
def buildTreeWrong : ChangeSpec := { name := "buildTree", fn := fun _ => fun
  | [d1, d2] => { results := [.lit (.bool false)], args := [d1, d2] }
  | _ => none }
def BuildTreeWrongFalsely : Prop := buildTreeRow.holds Try.pinned (OpenSpec.ofChange buildTreeWrong)

/-- 'indenturelaw07.BuildBack': WHATEVER THE INPUT: true; the input reads as it did. -/
def buildBackSpec : ChangeSpec := { name := "buildBack", fn := fun _ => fun
  | [d] => { results := [.lit (.bool true)], args := [d] }
  | _ => none }
def buildBackRow : OpenClaim := { program := "ytfaibpdoalbkpaa", sum := "80898cc3993d935244836f9962a8c8a0be09bfe151b898c4a3a8ff8cc0344efc", func := "indenture/indenturelaw07.BuildBack", spec := "buildBack", unfollowed := true, recurses := true, apart := false }
def BuildBackSaid : Prop := buildBackRow.holds Try.pinned (OpenSpec.ofChange buildBackSpec)

/-- ITS FALSE NEIGHBOUR: 'it returns false'. Refute it at one input. -/
def buildBackWrong : ChangeSpec := { name := "buildBack", fn := fun _ => fun
  | [d] => { results := [.lit (.bool false)], args := [d] }
  | _ => none }
def BuildBackWrongFalsely : Prop := buildBackRow.holds Try.pinned (OpenSpec.ofChange buildBackWrong)

/- THE SECOND FORM. 'bulk': how many values and letters a reading holds, each counted each time it is reached (what is shared counts as often as it is met; a slice's spare places count too). A statement '..UptoSaid' is the law's where the arguments, and the package variables that the reading takes, are together of bulk at most 1048576: NARROWER than '..Said'. Prove '..Said' where nothing that the law and all that it calls make is longer than what came in: it says more and counts as full. Else prove '..UptoSaid'. A law counts once. -/
mutual
def uptoBulk {H : Type} : DataW H → Nat
  | .lit (.string bytes) => bytes.length + 1
  | .lit _ => 1
  | .nil => 1
  | .ptr d => uptoBulk d + 1
  | .slice elems spare => uptoBulkAll elems + uptoBulkAll spare + 1
  | .agg parts => uptoBulkAll parts + 1
  | .iface _ d => uptoBulk d + 1
  | .map entries => uptoBulkEntries entries + 1
  | .held _ => 1
def uptoBulkAll {H : Type} : List (DataW H) → Nat
  | [] => 0
  | d :: r => uptoBulk d + uptoBulkAll r
def uptoBulkEntries {H : Type} : List (Lit × DataW H) → Nat
  | [] => 0
  | x :: r => uptoBulkEntry x + uptoBulkEntries r
def uptoBulkEntry {H : Type} : Lit × DataW H → Nat
  | (.string bytes, d) => bytes.length + uptoBulk d + 1
  | (_, d) => uptoBulk d + 1
 end
def uptoSmall : (H : Type) → List (DataW H) → Bool := fun _ ds => decide (uptoBulkAll ds ≤ 1048576)
def OpenSpec.upto (s : _root_.Go.ChangeSpec) : _root_.Go.OpenSpec := { _root_.Go.OpenSpec.ofChange s with cond := some uptoSmall }

/-- 'indenturelaw07.BuildPlays', WHERE WHAT IT READS IS OF BULK AT MOST 1048576: true; the input reads as it did. -/
def buildPlaysUptoRow : OpenClaim := { program := "ytfaibpdoalbkpaa", sum := "80898cc3993d935244836f9962a8c8a0be09bfe151b898c4a3a8ff8cc0344efc", func := "indenture/indenturelaw07.BuildPlays", spec := "buildPlays", unfollowed := true, recurses := true, apart := false, narrowed := true }
def BuildPlaysUptoSaid : Prop := buildPlaysUptoRow.holds Try.pinned (OpenSpec.upto buildPlaysSpec)

/-- 'indenturelaw07.BuildNil', WHERE WHAT IT READS IS OF BULK AT MOST 1048576: true; the input reads as it did. -/
def buildNilUptoRow : OpenClaim := { program := "ytfaibpdoalbkpaa", sum := "80898cc3993d935244836f9962a8c8a0be09bfe151b898c4a3a8ff8cc0344efc", func := "indenture/indenturelaw07.BuildNil", spec := "buildNil", unfollowed := true, recurses := true, apart := false, narrowed := true }
def BuildNilUptoSaid : Prop := buildNilUptoRow.holds Try.pinned (OpenSpec.upto buildNilSpec)

/-- 'indenturelaw07.BuildPieces', WHERE WHAT IT READS IS OF BULK AT MOST 1048576: true; the input reads as it did. -/
def buildPiecesUptoRow : OpenClaim := { program := "ytfaibpdoalbkpaa", sum := "80898cc3993d935244836f9962a8c8a0be09bfe151b898c4a3a8ff8cc0344efc", func := "indenture/indenturelaw07.BuildPieces", spec := "buildPieces", unfollowed := true, recurses := true, apart := false, narrowed := true }
def BuildPiecesUptoSaid : Prop := buildPiecesUptoRow.holds Try.pinned (OpenSpec.upto buildPiecesSpec)

/-- 'indenturelaw07.BuildTree', WHERE WHAT IT READS IS OF BULK AT MOST 1048576: true; the input reads as it did. -/
def buildTreeUptoRow : OpenClaim := { program := "ytfaibpdoalbkpaa", sum := "80898cc3993d935244836f9962a8c8a0be09bfe151b898c4a3a8ff8cc0344efc", func := "indenture/indenturelaw07.BuildTree", spec := "buildTree", unfollowed := true, recurses := true, apart := false, narrowed := true }
def BuildTreeUptoSaid : Prop := buildTreeUptoRow.holds Try.pinned (OpenSpec.upto buildTreeSpec)

/-- 'indenturelaw07.BuildBack', WHERE WHAT IT READS IS OF BULK AT MOST 1048576: true; the input reads as it did. -/
def buildBackUptoRow : OpenClaim := { program := "ytfaibpdoalbkpaa", sum := "80898cc3993d935244836f9962a8c8a0be09bfe151b898c4a3a8ff8cc0344efc", func := "indenture/indenturelaw07.BuildBack", spec := "buildBack", unfollowed := true, recurses := true, apart := false, narrowed := true }
def BuildBackUptoSaid : Prop := buildBackUptoRow.holds Try.pinned (OpenSpec.upto buildBackSpec)

end Rows
end Go.Proofs.Ytfaibpdoalbkpaa
