/-
  No cell of these rows narrows 'for every input' (looked for: loops, veiled, ifaces, maps, wideKeys, modest, calm, conditions, laid).
  DERIVED. THE GIVEN ROWS OF THIS SEAT. 5 by the template 'for every input the law returns true; each argument reads behind the call as it read before'; 0 by the template 'total and deterministic' (their statements: YtcbddmmoioggaaaTotals.lean).
  GIVEN WITH THE SEED: the statements are not yours to turn. If you find one false, say at which input.
  Laid BY PROGRAM, IN A SANDBOX (cutbox-rows.mjs): the forced cells as the released guide's own fill.sh prints them over the translation 0d2e91cef4867aad… (all of the seat's roots in one cut). By AI agents, Wed Nov 11 2026. No macro, syntax, notation, axiom, sorry.
-/
import Derived.Test.YtcbddmmoioggaaaChecked
import GoSem.Claim
import GoSem.ClaimJoined
import GoSem.ClaimMapViews
import Derived.JoinedTies
import Derived.KernelRfl
namespace Go.Proofs.Ytcbddmmoioggaaa
/- THE CELL 'sum', in the pinned program and in every row, IS THE sha256 OF THE DUMP (.gsa) THAT YtcbddmmoioggaaaProg.lean LOADS. Nothing in Lean hashes anything: it is a label: what it is worth is what the hold of that sum in a sandbox is worth. -/
noncomputable def Try.pinned : Pinned := { name := "ytcbddmmoioggaaa", sum := "0d2e91cef4867aad59d9757106d9370e9e85d367075bc9103cca1bd060fa8407", checked := Try.checked }
namespace Rows
def none {H : Type} : Left H := { results := [], args := [] }

/-- 'indenturelaw05.SpanLooks': WHATEVER THE INPUT: true; the input reads as it did. -/
def spanLooksSpec : ChangeSpec := { name := "spanLooks", fn := fun _ => fun
  | [d1, d2] => { results := [.lit (.bool true)], args := [d1, d2] }
  | _ => none }
def spanLooksRow : OpenClaim := { program := "ytcbddmmoioggaaa", sum := "0d2e91cef4867aad59d9757106d9370e9e85d367075bc9103cca1bd060fa8407", func := "indenture/indenturelaw05.SpanLooks", spec := "spanLooks", unfollowed := true, recurses := true, apart := false }
def SpanLooksSaid : Prop := spanLooksRow.holds Try.pinned (OpenSpec.ofChange spanLooksSpec)

/-- ITS FALSE NEIGHBOUR: 'it returns false'. Refute it at one input. -/
def spanLooksWrong : ChangeSpec := { name := "spanLooks", fn := fun _ => fun
  | [d1, d2] => { results := [.lit (.bool false)], args := [d1, d2] }
  | _ => none }
def SpanLooksWrongFalsely : Prop := spanLooksRow.holds Try.pinned (OpenSpec.ofChange spanLooksWrong)

/-- 'indenturelaw05.SpanSets': WHATEVER THE INPUT: true; the input reads as it did. -/
def spanSetsSpec : ChangeSpec := { name := "spanSets", fn := fun _ => fun
  | [d1, d2] => { results := [.lit (.bool true)], args := [d1, d2] }
  | _ => none }
def spanSetsRow : OpenClaim := { program := "ytcbddmmoioggaaa", sum := "0d2e91cef4867aad59d9757106d9370e9e85d367075bc9103cca1bd060fa8407", func := "indenture/indenturelaw05.SpanSets", spec := "spanSets", unfollowed := true, recurses := true, apart := false }
def SpanSetsSaid : Prop := spanSetsRow.holds Try.pinned (OpenSpec.ofChange spanSetsSpec)

/-- ITS FALSE NEIGHBOUR: 'it returns false'. Refute it at one input. -/
def spanSetsWrong : ChangeSpec := { name := "spanSets", fn := fun _ => fun
  | [d1, d2] => { results := [.lit (.bool false)], args := [d1, d2] }
  | _ => none }
def SpanSetsWrongFalsely : Prop := spanSetsRow.holds Try.pinned (OpenSpec.ofChange spanSetsWrong)

/-- 'indenturelaw05.SpanForm': WHATEVER THE INPUT: true; the input reads as it did. -/
def spanFormSpec : ChangeSpec := { name := "spanForm", fn := fun _ => fun
  | [d1, d2, d3] => { results := [.lit (.bool true)], args := [d1, d2, d3] }
  | _ => none }
def spanFormRow : OpenClaim := { program := "ytcbddmmoioggaaa", sum := "0d2e91cef4867aad59d9757106d9370e9e85d367075bc9103cca1bd060fa8407", func := "indenture/indenturelaw05.SpanForm", spec := "spanForm", unfollowed := true, recurses := true, apart := false }
def SpanFormSaid : Prop := spanFormRow.holds Try.pinned (OpenSpec.ofChange spanFormSpec)

/-- ITS FALSE NEIGHBOUR: 'it returns false'. Refute it at one input. -/
def spanFormWrong : ChangeSpec := { name := "spanForm", fn := fun _ => fun
  | [d1, d2, d3] => { results := [.lit (.bool false)], args := [d1, d2, d3] }
  | _ => none }
def SpanFormWrongFalsely : Prop := spanFormRow.holds Try.pinned (OpenSpec.ofChange spanFormWrong)

/-- 'indenturelaw05.SpanMoves': WHATEVER THE INPUT: true; the input reads as it did. -/
def spanMovesSpec : ChangeSpec := { name := "spanMoves", fn := fun _ => fun
  | [d1, d2] => { results := [.lit (.bool true)], args := [d1, d2] }
  | _ => none }
def spanMovesRow : OpenClaim := { program := "ytcbddmmoioggaaa", sum := "0d2e91cef4867aad59d9757106d9370e9e85d367075bc9103cca1bd060fa8407", func := "indenture/indenturelaw05.SpanMoves", spec := "spanMoves", unfollowed := true, recurses := true, apart := false }
def SpanMovesSaid : Prop := spanMovesRow.holds Try.pinned (OpenSpec.ofChange spanMovesSpec)

/-- ITS FALSE NEIGHBOUR: 'it returns false'. Refute it at one input. -/
def spanMovesWrong : ChangeSpec := { name := "spanMoves", fn := fun _ => fun
  | [d1, d2] => { results := [.lit (.bool false)], args := [d1, d2] }
  | _ => none }
def SpanMovesWrongFalsely : Prop := spanMovesRow.holds Try.pinned (OpenSpec.ofChange spanMovesWrong)

/-- 'indenturelaw05.SpanMoved': WHATEVER THE INPUT: true; the input reads as it did. -/
def spanMovedSpec : ChangeSpec := { name := "spanMoved", fn := fun _ => fun
  | [d1, d2, d3] => { results := [.lit (.bool true)], args := [d1, d2, d3] }
  | _ => none }
def spanMovedRow : OpenClaim := { program := "ytcbddmmoioggaaa", sum := "0d2e91cef4867aad59d9757106d9370e9e85d367075bc9103cca1bd060fa8407", func := "indenture/indenturelaw05.SpanMoved", spec := "spanMoved", unfollowed := true, recurses := true, apart := false }
def SpanMovedSaid : Prop := spanMovedRow.holds Try.pinned (OpenSpec.ofChange spanMovedSpec)

/-- ITS FALSE NEIGHBOUR: 'it returns false'. Refute it at one input. -/
def spanMovedWrong : ChangeSpec := { name := "spanMoved", fn := fun _ => fun
  | [d1, d2, d3] => { results := [.lit (.bool false)], args := [d1, d2, d3] }
  | _ => none }
def SpanMovedWrongFalsely : Prop := spanMovedRow.holds Try.pinned (OpenSpec.ofChange spanMovedWrong)

/- THE SECOND FORM. 'bulk': how many values and letters a reading holds, each counted each time it is reached (what is shared counts as often as it is met; a slice's spare places count too). A statement '..UptoSaid' is the law's where the arguments, and the package variables that the reading takes, are together of bulk at most 1048576: NARROWER than '..Said'. Prove '..Said' where nothing that the law and all that it calls make is longer than what came in: it says more and counts as full. Else prove '..UptoSaid'. A law counts once. -/
mutual
def uptoBulk {H : Type} : DataW H → Nat
  | .lit (.string bytes) => bytes.length + 1
  | .lit _ => 1
  | .nil => 1
  | .ptr d => uptoBulk d + 1
  | .slice elems spare => uptoBulkAll elems + uptoBulkAll spare + 1
  | .agg parts => uptoBulkAll parts + 1
  | .iface _ d => uptoBulk d + 1
  | .map entries => uptoBulkEntries entries + 1
  | .held _ => 1
def uptoBulkAll {H : Type} : List (DataW H) → Nat
  | [] => 0
  | d :: r => uptoBulk d + uptoBulkAll r
def uptoBulkEntries {H : Type} : List (Lit × DataW H) → Nat
  | [] => 0
  | x :: r => uptoBulkEntry x + uptoBulkEntries r
def uptoBulkEntry {H : Type} : Lit × DataW H → Nat
  | (.string bytes, d) => bytes.length + uptoBulk d + 1
  | (_, d) => uptoBulk d + 1
 end
def uptoSmall : (H : Type) → List (DataW H) → Bool := fun _ ds => decide (uptoBulkAll ds ≤ 1048576)
def OpenSpec.upto (s : _root_.Go.ChangeSpec) : _root_.Go.OpenSpec := { _root_.Go.OpenSpec.ofChange s with cond := some uptoSmall }

/-- 'indenturelaw05.SpanLooks', WHERE WHAT IT READS IS OF BULK AT MOST 1048576: true; the input reads as it did. -/
def spanLooksUptoRow : OpenClaim := { program := "ytcbddmmoioggaaa", sum := "0d2e91cef4867aad59d9757106d9370e9e85d367075bc9103cca1bd060fa8407", func := "indenture/indenturelaw05.SpanLooks", spec := "spanLooks", unfollowed := true, recurses := true, apart := false, narrowed := true }
def SpanLooksUptoSaid : Prop := spanLooksUptoRow.holds Try.pinned (OpenSpec.upto spanLooksSpec)

/-- 'indenturelaw05.SpanSets', WHERE WHAT IT READS IS OF BULK AT MOST 1048576: true; the input reads as it did. -/
def spanSetsUptoRow : OpenClaim := { program := "ytcbddmmoioggaaa", sum := "0d2e91cef4867aad59d9757106d9370e9e85d367075bc9103cca1bd060fa8407", func := "indenture/indenturelaw05.SpanSets", spec := "spanSets", unfollowed := true, recurses := true, apart := false, narrowed := true }
def SpanSetsUptoSaid : Prop := spanSetsUptoRow.holds Try.pinned (OpenSpec.upto spanSetsSpec)

/-- 'indenturelaw05.SpanForm', WHERE WHAT IT READS IS OF BULK AT MOST 1048576: true; the input reads as it did. -/
def spanFormUptoRow : OpenClaim := { program := "ytcbddmmoioggaaa", sum := "0d2e91cef4867aad59d9757106d9370e9e85d367075bc9103cca1bd060fa8407", func := "indenture/indenturelaw05.SpanForm", spec := "spanForm", unfollowed := true, recurses := true, apart := false, narrowed := true }
def SpanFormUptoSaid : Prop := spanFormUptoRow.holds Try.pinned (OpenSpec.upto spanFormSpec)

/-- 'indenturelaw05.SpanMoves', WHERE WHAT IT READS IS OF BULK AT MOST 1048576: true; the input reads as it did. -/
def spanMovesUptoRow : OpenClaim := { program := "ytcbddmmoioggaaa", sum := "0d2e91cef4867aad59d9757106d9370e9e85d367075bc9103cca1bd060fa8407", func := "indenture/indenturelaw05.SpanMoves", spec := "spanMoves", unfollowed := true, recurses := true, apart := false, narrowed := true }
def SpanMovesUptoSaid : Prop := spanMovesUptoRow.holds Try.pinned (OpenSpec.upto spanMovesSpec)

/-- 'indenturelaw05.SpanMoved', WHERE WHAT IT READS IS OF BULK AT MOST 1048576: true; the input reads as it did. -/
def spanMovedUptoRow : OpenClaim := { program := "ytcbddmmoioggaaa", sum := "0d2e91cef4867aad59d9757106d9370e9e85d367075bc9103cca1bd060fa8407", func := "indenture/indenturelaw05.SpanMoved", spec := "spanMoved", unfollowed := true, recurses := true, apart := false, narrowed := true }
def SpanMovedUptoSaid : Prop := spanMovedUptoRow.holds Try.pinned (OpenSpec.upto spanMovedSpec)

end Rows
end Go.Proofs.Ytcbddmmoioggaaa
