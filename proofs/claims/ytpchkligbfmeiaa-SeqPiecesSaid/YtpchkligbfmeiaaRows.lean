/-
  No cell of these rows narrows 'for every input' (looked for: loops, veiled, ifaces, maps, wideKeys, modest, calm, conditions, laid).
  DERIVED. THE GIVEN ROWS OF THIS SEAT. 4 by the template 'for every input the law returns true; each argument reads behind the call as it read before'; 0 by the template 'total and deterministic' (their statements: YtpchkligbfmeiaaTotals.lean).
  GIVEN WITH THE SEED: the statements are not yours to turn. If you find one false, say at which input.
  Laid BY PROGRAM, IN A SANDBOX (cutbox-rows.mjs): the forced cells as the released guide's own fill.sh prints them over the translation ae362c683e3bcfc5… (all of the seat's roots in one cut). By AI agents, Wed Nov 11 2026. No macro, syntax, notation, axiom, sorry.
-/
import Derived.Test.YtpchkligbfmeiaaChecked
import GoSem.Claim
import GoSem.ClaimJoined
import GoSem.ClaimMapViews
import Derived.JoinedTies
import Derived.KernelRfl
namespace Go.Proofs.Ytpchkligbfmeiaa
/- THE CELL 'sum', in the pinned program and in every row, IS THE sha256 OF THE DUMP (.gsa) THAT YtpchkligbfmeiaaProg.lean LOADS. Nothing in Lean hashes anything: it is a label: what it is worth is what the hold of that sum in a sandbox is worth. -/
noncomputable def Try.pinned : Pinned := { name := "ytpchkligbfmeiaa", sum := "ae362c683e3bcfc523bd91973a9e5d16486d222d40114ffbb805217619878468", checked := Try.checked }
namespace Rows
def none {H : Type} : Left H := { results := [], args := [] }

/-- 'indenturelaw08.SeqMeanwhile': WHATEVER THE INPUT: true; the input reads as it did. -/
def seqMeanwhileSpec : ChangeSpec := { name := "seqMeanwhile", fn := fun _ => fun
  | [d1, d2] => { results := [.lit (.bool true)], args := [d1, d2] }
  | _ => none }
def seqMeanwhileRow : OpenClaim := { program := "ytpchkligbfmeiaa", sum := "ae362c683e3bcfc523bd91973a9e5d16486d222d40114ffbb805217619878468", func := "indenture/indenturelaw08.SeqMeanwhile", spec := "seqMeanwhile", unfollowed := true, recurses := true, apart := false }
def SeqMeanwhileSaid : Prop := seqMeanwhileRow.holds Try.pinned (OpenSpec.ofChange seqMeanwhileSpec)

/-- ITS FALSE NEIGHBOUR: 'it returns false'. Refute it at one input. -/
def seqMeanwhileWrong : ChangeSpec := { name := "seqMeanwhile", fn := fun _ => fun
  | [d1, d2] => { results := [.lit (.bool false)], args := [d1, d2] }
  | _ => none }
def SeqMeanwhileWrongFalsely : Prop := seqMeanwhileRow.holds Try.pinned (OpenSpec.ofChange seqMeanwhileWrong)

/-- 'indenturelaw08.SeqPieces': WHATEVER THE INPUT: true; the input reads as it did. -/
def seqPiecesSpec : ChangeSpec := { name := "seqPieces", fn := fun _ => fun
  | [d] => { results := [.lit (.bool true)], args := [d] }
  | _ => none }
def seqPiecesRow : OpenClaim := { program := "ytpchkligbfmeiaa", sum := "ae362c683e3bcfc523bd91973a9e5d16486d222d40114ffbb805217619878468", func := "indenture/indenturelaw08.SeqPieces", spec := "seqPieces", unfollowed := true, recurses := true, apart := false }
def SeqPiecesSaid : Prop := seqPiecesRow.holds Try.pinned (OpenSpec.ofChange seqPiecesSpec)

/-- ITS FALSE NEIGHBOUR: 'it returns false'. Refute it at one input. -/
def seqPiecesWrong : ChangeSpec := { name := "seqPieces", fn := fun _ => fun
  | [d] => { results := [.lit (.bool false)], args := [d] }
  | _ => none }
def SeqPiecesWrongFalsely : Prop := seqPiecesRow.holds Try.pinned (OpenSpec.ofChange seqPiecesWrong)

/-- 'indenturelaw08.SeqPlaces': WHATEVER THE INPUT: true; the input reads as it did. -/
def seqPlacesSpec : ChangeSpec := { name := "seqPlaces", fn := fun _ => fun
  | [d1, d2] => { results := [.lit (.bool true)], args := [d1, d2] }
  | _ => none }
def seqPlacesRow : OpenClaim := { program := "ytpchkligbfmeiaa", sum := "ae362c683e3bcfc523bd91973a9e5d16486d222d40114ffbb805217619878468", func := "indenture/indenturelaw08.SeqPlaces", spec := "seqPlaces", recurses := true, apart := false }
def SeqPlacesSaid : Prop := seqPlacesRow.holds Try.pinned (OpenSpec.ofChange seqPlacesSpec)

/-- ITS FALSE NEIGHBOUR: 'it returns false'. Refute it at one input. -/
def seqPlacesWrong : ChangeSpec := { name := "seqPlaces", fn := fun _ => fun
  | [d1, d2] => { results := [.lit (.bool false)], args := [d1, d2] }
  | _ => none }
def SeqPlacesWrongFalsely : Prop := seqPlacesRow.holds Try.pinned (OpenSpec.ofChange seqPlacesWrong)

/-- 'indenturelaw08.SeqNil': WHATEVER THE INPUT: true; the input reads as it did. -/
def seqNilSpec : ChangeSpec := { name := "seqNil", fn := fun _ => fun
  | [d] => { results := [.lit (.bool true)], args := [d] }
  | _ => none }
def seqNilRow : OpenClaim := { program := "ytpchkligbfmeiaa", sum := "ae362c683e3bcfc523bd91973a9e5d16486d222d40114ffbb805217619878468", func := "indenture/indenturelaw08.SeqNil", spec := "seqNil", unfollowed := true, recurses := true, apart := false }
def SeqNilSaid : Prop := seqNilRow.holds Try.pinned (OpenSpec.ofChange seqNilSpec)

/-- ITS FALSE NEIGHBOUR: 'it returns false'. Refute it at one input. -/
def seqNilWrong : ChangeSpec := { name := "seqNil", fn := fun _ => fun
  | [d] => { results := [.lit (.bool false)], args := [d] }
  | _ => none }
def SeqNilWrongFalsely : Prop := seqNilRow.holds Try.pinned (OpenSpec.ofChange seqNilWrong)

/- THE SECOND FORM. 'bulk': how many values and letters a reading holds, each counted each time it is reached (what is shared counts as often as it is met; a slice's spare places count too). A statement '..UptoSaid' is the law's where the arguments, and the package variables that the reading takes, are together of bulk at most 1048576: NARROWER than '..Said'. Prove '..Said' where nothing that the law and all that it calls make is longer than what came in: it says more and counts as full. Else prove '..UptoSaid'. A law counts once. -/
mutual
def uptoBulk {H : Type} : DataW H → Nat
  | .lit (.string bytes) => bytes.length + 1
  | .lit _ => 1
  | .nil => 1
  | .ptr d => uptoBulk d + 1
  | .slice elems spare => uptoBulkAll elems + uptoBulkAll spare + 1
  | .agg parts => uptoBulkAll parts + 1
  | .iface _ d => uptoBulk d + 1
  | .map entries => uptoBulkEntries entries + 1
  | .held _ => 1
def uptoBulkAll {H : Type} : List (DataW H) → Nat
  | [] => 0
  | d :: r => uptoBulk d + uptoBulkAll r
def uptoBulkEntries {H : Type} : List (Lit × DataW H) → Nat
  | [] => 0
  | x :: r => uptoBulkEntry x + uptoBulkEntries r
def uptoBulkEntry {H : Type} : Lit × DataW H → Nat
  | (.string bytes, d) => bytes.length + uptoBulk d + 1
  | (_, d) => uptoBulk d + 1
 end
def uptoSmall : (H : Type) → List (DataW H) → Bool := fun _ ds => decide (uptoBulkAll ds ≤ 1048576)
def OpenSpec.upto (s : _root_.Go.ChangeSpec) : _root_.Go.OpenSpec := { _root_.Go.OpenSpec.ofChange s with cond := some uptoSmall }

/-- 'indenturelaw08.SeqMeanwhile', WHERE WHAT IT READS IS OF BULK AT MOST 1048576: true; the input reads as it did. -/
def seqMeanwhileUptoRow : OpenClaim := { program := "ytpchkligbfmeiaa", sum := "ae362c683e3bcfc523bd91973a9e5d16486d222d40114ffbb805217619878468", func := "indenture/indenturelaw08.SeqMeanwhile", spec := "seqMeanwhile", unfollowed := true, recurses := true, apart := false, narrowed := true }
def SeqMeanwhileUptoSaid : Prop := seqMeanwhileUptoRow.holds Try.pinned (OpenSpec.upto seqMeanwhileSpec)

/-- 'indenturelaw08.SeqPieces', WHERE WHAT IT READS IS OF BULK AT MOST 1048576: true; the input reads as it did. -/
def seqPiecesUptoRow : OpenClaim := { program := "ytpchkligbfmeiaa", sum := "ae362c683e3bcfc523bd91973a9e5d16486d222d40114ffbb805217619878468", func := "indenture/indenturelaw08.SeqPieces", spec := "seqPieces", unfollowed := true, recurses := true, apart := false, narrowed := true }
def SeqPiecesUptoSaid : Prop := seqPiecesUptoRow.holds Try.pinned (OpenSpec.upto seqPiecesSpec)

/-- 'indenturelaw08.SeqPlaces', WHERE WHAT IT READS IS OF BULK AT MOST 1048576: true; the input reads as it did. -/
def seqPlacesUptoRow : OpenClaim := { program := "ytpchkligbfmeiaa", sum := "ae362c683e3bcfc523bd91973a9e5d16486d222d40114ffbb805217619878468", func := "indenture/indenturelaw08.SeqPlaces", spec := "seqPlaces", recurses := true, apart := false, narrowed := true }
def SeqPlacesUptoSaid : Prop := seqPlacesUptoRow.holds Try.pinned (OpenSpec.upto seqPlacesSpec)

/-- 'indenturelaw08.SeqNil', WHERE WHAT IT READS IS OF BULK AT MOST 1048576: true; the input reads as it did. -/
def seqNilUptoRow : OpenClaim := { program := "ytpchkligbfmeiaa", sum := "ae362c683e3bcfc523bd91973a9e5d16486d222d40114ffbb805217619878468", func := "indenture/indenturelaw08.SeqNil", spec := "seqNil", unfollowed := true, recurses := true, apart := false, narrowed := true }
def SeqNilUptoSaid : Prop := seqNilUptoRow.holds Try.pinned (OpenSpec.upto seqNilSpec)

end Rows
end Go.Proofs.Ytpchkligbfmeiaa
