/-
  No cell of these rows narrows 'for every input' (looked for: loops, veiled, ifaces, maps, wideKeys, modest, calm, conditions, laid).
  DERIVED. THE GIVEN ROWS OF THIS SEAT. 4 by the template 'for every input the law returns true; each argument reads behind the call as it read before'; 0 by the template 'total and deterministic' (their statements: YtocmjfmojmpclaaTotals.lean).
  GIVEN WITH THE SEED: the statements are not yours to turn. If you find one false, say at which input.
  Laid BY PROGRAM, IN A SANDBOX (cutbox-rows.mjs): the forced cells as the released guide's own fill.sh prints them over the translation 282236ba4c9a8d0e… (all of the seat's roots in one cut). By AI agents, Wed Nov 11 2026. No macro, syntax, notation, axiom, sorry.
-/
import Derived.Test.YtocmjfmojmpclaaChecked
import GoSem.Claim
import GoSem.ClaimJoined
import GoSem.ClaimMapViews
import Derived.JoinedTies
import Derived.KernelRfl
namespace Go.Proofs.Ytocmjfmojmpclaa
/- THE CELL 'sum', in the pinned program and in every row, IS THE sha256 OF THE DUMP (.gsa) THAT YtocmjfmojmpclaaProg.lean LOADS. Nothing in Lean hashes anything: it is a label: what it is worth is what the hold of that sum in a sandbox is worth. -/
noncomputable def Try.pinned : Pinned := { name := "ytocmjfmojmpclaa", sum := "282236ba4c9a8d0e9cd95ed4ce60623375c10b4557b0c462469fdd40b90ed546", checked := Try.checked }
namespace Rows
def none {H : Type} : Left H := { results := [], args := [] }

/-- 'indenturelaw09.TabIndents': WHATEVER THE INPUT: true; the input reads as it did. -/
def tabIndentsSpec : ChangeSpec := { name := "tabIndents", fn := fun _ => fun
  | [d1, d2, d3, d4] => { results := [.lit (.bool true)], args := [d1, d2, d3, d4] }
  | _ => none }
def tabIndentsRow : OpenClaim := { program := "ytocmjfmojmpclaa", sum := "282236ba4c9a8d0e9cd95ed4ce60623375c10b4557b0c462469fdd40b90ed546", func := "indenture/indenturelaw09.TabIndents", spec := "tabIndents", unfollowed := true, recurses := true, apart := false }
def TabIndentsSaid : Prop := tabIndentsRow.holds Try.pinned (OpenSpec.ofChange tabIndentsSpec)

/-- ITS FALSE NEIGHBOUR: 'it returns false'. Refute it at one input. -/
def tabIndentsWrong : ChangeSpec := { name := "tabIndents", fn := fun _ => fun
  | [d1, d2, d3, d4] => { results := [.lit (.bool false)], args := [d1, d2, d3, d4] }
  | _ => none }
def TabIndentsWrongFalsely : Prop := tabIndentsRow.holds Try.pinned (OpenSpec.ofChange tabIndentsWrong)

/-- 'indenturelaw09.TabEnds': WHATEVER THE INPUT: true; the input reads as it did. -/
def tabEndsSpec : ChangeSpec := { name := "tabEnds", fn := fun _ => fun
  | [d1, d2] => { results := [.lit (.bool true)], args := [d1, d2] }
  | _ => none }
def tabEndsRow : OpenClaim := { program := "ytocmjfmojmpclaa", sum := "282236ba4c9a8d0e9cd95ed4ce60623375c10b4557b0c462469fdd40b90ed546", func := "indenture/indenturelaw09.TabEnds", spec := "tabEnds", unfollowed := true, recurses := true, apart := false }
def TabEndsSaid : Prop := tabEndsRow.holds Try.pinned (OpenSpec.ofChange tabEndsSpec)

/-- ITS FALSE NEIGHBOUR: 'it returns false'. Refute it at one input. -/
def tabEndsWrong : ChangeSpec := { name := "tabEnds", fn := fun _ => fun
  | [d1, d2] => { results := [.lit (.bool false)], args := [d1, d2] }
  | _ => none }
def TabEndsWrongFalsely : Prop := tabEndsRow.holds Try.pinned (OpenSpec.ofChange tabEndsWrong)

/-- 'indenturelaw09.TabTakes': WHATEVER THE INPUT: true; the input reads as it did. -/
def tabTakesSpec : ChangeSpec := { name := "tabTakes", fn := fun _ => fun
  | [d1, d2, d3, d4, d5] => { results := [.lit (.bool true)], args := [d1, d2, d3, d4, d5] }
  | _ => none }
def tabTakesRow : OpenClaim := { program := "ytocmjfmojmpclaa", sum := "282236ba4c9a8d0e9cd95ed4ce60623375c10b4557b0c462469fdd40b90ed546", func := "indenture/indenturelaw09.TabTakes", spec := "tabTakes", unfollowed := true, recurses := true, apart := false }
def TabTakesSaid : Prop := tabTakesRow.holds Try.pinned (OpenSpec.ofChange tabTakesSpec)

/-- ITS FALSE NEIGHBOUR: 'it returns false'. Refute it at one input. -/
def tabTakesWrong : ChangeSpec := { name := "tabTakes", fn := fun _ => fun
  | [d1, d2, d3, d4, d5] => { results := [.lit (.bool false)], args := [d1, d2, d3, d4, d5] }
  | _ => none }
def TabTakesWrongFalsely : Prop := tabTakesRow.holds Try.pinned (OpenSpec.ofChange tabTakesWrong)

/-- 'indenturelaw09.TabWhole': WHATEVER THE INPUT: true; the input reads as it did. -/
def tabWholeSpec : ChangeSpec := { name := "tabWhole", fn := fun _ => fun
  | [d1, d2, d3, d4, d5] => { results := [.lit (.bool true)], args := [d1, d2, d3, d4, d5] }
  | _ => none }
def tabWholeRow : OpenClaim := { program := "ytocmjfmojmpclaa", sum := "282236ba4c9a8d0e9cd95ed4ce60623375c10b4557b0c462469fdd40b90ed546", func := "indenture/indenturelaw09.TabWhole", spec := "tabWhole", unfollowed := true, recurses := true, apart := false }
def TabWholeSaid : Prop := tabWholeRow.holds Try.pinned (OpenSpec.ofChange tabWholeSpec)

/-- ITS FALSE NEIGHBOUR: 'it returns false'. Refute it at one input. -/
def tabWholeWrong : ChangeSpec := { name := "tabWhole", fn := fun _ => fun
  | [d1, d2, d3, d4, d5] => { results := [.lit (.bool false)], args := [d1, d2, d3, d4, d5] }
  | _ => none }
def TabWholeWrongFalsely : Prop := tabWholeRow.holds Try.pinned (OpenSpec.ofChange tabWholeWrong)

/- THE SECOND FORM. 'bulk': how many values and letters a reading holds, each counted each time it is reached (what is shared counts as often as it is met; a slice's spare places count too). A statement '..UptoSaid' is the law's where the arguments, and the package variables that the reading takes, are together of bulk at most 1048576: NARROWER than '..Said'. Prove '..Said' where nothing that the law and all that it calls make is longer than what came in: it says more and counts as full. Else prove '..UptoSaid'. A law counts once. -/
mutual
def uptoBulk {H : Type} : DataW H → Nat
  | .lit (.string bytes) => bytes.length + 1
  | .lit _ => 1
  | .nil => 1
  | .ptr d => uptoBulk d + 1
  | .slice elems spare => uptoBulkAll elems + uptoBulkAll spare + 1
  | .agg parts => uptoBulkAll parts + 1
  | .iface _ d => uptoBulk d + 1
  | .map entries => uptoBulkEntries entries + 1
  | .held _ => 1
def uptoBulkAll {H : Type} : List (DataW H) → Nat
  | [] => 0
  | d :: r => uptoBulk d + uptoBulkAll r
def uptoBulkEntries {H : Type} : List (Lit × DataW H) → Nat
  | [] => 0
  | x :: r => uptoBulkEntry x + uptoBulkEntries r
def uptoBulkEntry {H : Type} : Lit × DataW H → Nat
  | (.string bytes, d) => bytes.length + uptoBulk d + 1
  | (_, d) => uptoBulk d + 1
 end
def uptoSmall : (H : Type) → List (DataW H) → Bool := fun _ ds => decide (uptoBulkAll ds ≤ 1048576)
def OpenSpec.upto (s : _root_.Go.ChangeSpec) : _root_.Go.OpenSpec := { _root_.Go.OpenSpec.ofChange s with cond := some uptoSmall }

/-- 'indenturelaw09.TabIndents', WHERE WHAT IT READS IS OF BULK AT MOST 1048576: true; the input reads as it did. -/
def tabIndentsUptoRow : OpenClaim := { program := "ytocmjfmojmpclaa", sum := "282236ba4c9a8d0e9cd95ed4ce60623375c10b4557b0c462469fdd40b90ed546", func := "indenture/indenturelaw09.TabIndents", spec := "tabIndents", unfollowed := true, recurses := true, apart := false, narrowed := true }
def TabIndentsUptoSaid : Prop := tabIndentsUptoRow.holds Try.pinned (OpenSpec.upto tabIndentsSpec)

/-- 'indenturelaw09.TabEnds', WHERE WHAT IT READS IS OF BULK AT MOST 1048576: true; the input reads as it did. -/
def tabEndsUptoRow : OpenClaim := { program := "ytocmjfmojmpclaa", sum := "282236ba4c9a8d0e9cd95ed4ce60623375c10b4557b0c462469fdd40b90ed546", func := "indenture/indenturelaw09.TabEnds", spec := "tabEnds", unfollowed := true, recurses := true, apart := false, narrowed := true }
def TabEndsUptoSaid : Prop := tabEndsUptoRow.holds Try.pinned (OpenSpec.upto tabEndsSpec)

/-- 'indenturelaw09.TabTakes', WHERE WHAT IT READS IS OF BULK AT MOST 1048576: true; the input reads as it did. -/
def tabTakesUptoRow : OpenClaim := { program := "ytocmjfmojmpclaa", sum := "282236ba4c9a8d0e9cd95ed4ce60623375c10b4557b0c462469fdd40b90ed546", func := "indenture/indenturelaw09.TabTakes", spec := "tabTakes", unfollowed := true, recurses := true, apart := false, narrowed := true }
def TabTakesUptoSaid : Prop := tabTakesUptoRow.holds Try.pinned (OpenSpec.upto tabTakesSpec)

/-- 'indenturelaw09.TabWhole', WHERE WHAT IT READS IS OF BULK AT MOST 1048576: true; the input reads as it did. -/
def tabWholeUptoRow : OpenClaim := { program := "ytocmjfmojmpclaa", sum := "282236ba4c9a8d0e9cd95ed4ce60623375c10b4557b0c462469fdd40b90ed546", func := "indenture/indenturelaw09.TabWhole", spec := "tabWhole", unfollowed := true, recurses := true, apart := false, narrowed := true }
def TabWholeUptoSaid : Prop := tabWholeUptoRow.holds Try.pinned (OpenSpec.upto tabWholeSpec)

end Rows
end Go.Proofs.Ytocmjfmojmpclaa
