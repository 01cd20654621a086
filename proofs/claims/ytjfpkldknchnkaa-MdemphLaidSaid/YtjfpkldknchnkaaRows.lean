/-
  No cell of these rows narrows 'for every input' (looked for: loops, veiled, ifaces, maps, wideKeys, modest, calm, conditions, laid).
  DERIVED. THE GIVEN ROWS OF THIS SEAT. 6 by the template 'for every input the law returns true; each argument reads behind the call as it read before'; 0 by the template 'total and deterministic' (their statements: YtjfpkldknchnkaaTotals.lean).
  GIVEN WITH THE SEED: the statements are not yours to turn. If you find one false, say at which input.
  Laid BY PROGRAM, IN A SANDBOX (cutbox-rows.mjs): the forced cells as the released guide's own fill.sh prints them over the translation c89e79b4b18c0714… (all of the seat's roots in one cut). By AI agents, Wed Nov 11 2026. No macro, syntax, notation, axiom, sorry.
-/
import Derived.Test.YtjfpkldknchnkaaChecked
import GoSem.Claim
import GoSem.ClaimJoined
import GoSem.ClaimMapViews
import Derived.JoinedTies
import Derived.KernelRfl
namespace Go.Proofs.Ytjfpkldknchnkaa
/- THE CELL 'sum', in the pinned program and in every row, IS THE sha256 OF THE DUMP (.gsa) THAT YtjfpkldknchnkaaProg.lean LOADS. Nothing in Lean hashes anything: it is a label: what it is worth is what the hold of that sum in a sandbox is worth. -/
noncomputable def Try.pinned : Pinned := { name := "ytjfpkldknchnkaa", sum := "c89e79b4b18c0714b7ab400d3358aa3e76309dde1acefb57296334df4b2e3c83", checked := Try.checked }
namespace Rows
def none {H : Type} : Left H := { results := [], args := [] }

/-- 'indenturelaw21.MdemphLooks': WHATEVER THE INPUT: true; the input reads as it did. -/
def mdemphLooksSpec : ChangeSpec := { name := "mdemphLooks", fn := fun _ => fun
  | [d1, d2, d3, d4] => { results := [.lit (.bool true)], args := [d1, d2, d3, d4] }
  | _ => none }
def mdemphLooksRow : OpenClaim := { program := "ytjfpkldknchnkaa", sum := "c89e79b4b18c0714b7ab400d3358aa3e76309dde1acefb57296334df4b2e3c83", func := "indenture/indenturelaw21.MdemphLooks", spec := "mdemphLooks", inPlace := ["internal/bytealg.IndexByteString", "internal/bytealg.IndexString"], unfollowed := true, recurses := true, named := ["internal/bytealg.MaxLen"], apart := false }
def MdemphLooksSaid : Prop := mdemphLooksRow.holds Try.pinned (OpenSpec.ofChange mdemphLooksSpec)

/-- ITS FALSE NEIGHBOUR: 'it returns false'. Refute it at one input. -/
def mdemphLooksWrong : ChangeSpec := { name := "mdemphLooks", fn := fun _ => fun
  | [d1, d2, d3, d4] => { results := [.lit (.bool false)], args := [d1, d2, d3, d4] }
  | _ => none }
def MdemphLooksWrongFalsely : Prop := mdemphLooksRow.holds Try.pinned (OpenSpec.ofChange mdemphLooksWrong)

/-- 'indenturelaw21.MdemphPairs': WHATEVER THE INPUT: true; the input reads as it did. -/
def mdemphPairsSpec : ChangeSpec := { name := "mdemphPairs", fn := fun _ => fun
  | [d] => { results := [.lit (.bool true)], args := [d] }
  | _ => none }
def mdemphPairsRow : OpenClaim := { program := "ytjfpkldknchnkaa", sum := "c89e79b4b18c0714b7ab400d3358aa3e76309dde1acefb57296334df4b2e3c83", func := "indenture/indenturelaw21.MdemphPairs", spec := "mdemphPairs", inPlace := ["internal/bytealg.IndexByteString", "internal/bytealg.IndexString"], unfollowed := true, recurses := true, named := ["internal/bytealg.MaxLen"], apart := false }
def MdemphPairsSaid : Prop := mdemphPairsRow.holds Try.pinned (OpenSpec.ofChange mdemphPairsSpec)

/-- ITS FALSE NEIGHBOUR: 'it returns false'. Refute it at one input. -/
def mdemphPairsWrong : ChangeSpec := { name := "mdemphPairs", fn := fun _ => fun
  | [d] => { results := [.lit (.bool false)], args := [d] }
  | _ => none }
def MdemphPairsWrongFalsely : Prop := mdemphPairsRow.holds Try.pinned (OpenSpec.ofChange mdemphPairsWrong)

/-- 'indenturelaw21.MdemphNests': WHATEVER THE INPUT: true; the input reads as it did. -/
def mdemphNestsSpec : ChangeSpec := { name := "mdemphNests", fn := fun _ => fun
  | [d1, d2, d3] => { results := [.lit (.bool true)], args := [d1, d2, d3] }
  | _ => none }
def mdemphNestsRow : OpenClaim := { program := "ytjfpkldknchnkaa", sum := "c89e79b4b18c0714b7ab400d3358aa3e76309dde1acefb57296334df4b2e3c83", func := "indenture/indenturelaw21.MdemphNests", spec := "mdemphNests", inPlace := ["internal/bytealg.IndexByteString", "internal/bytealg.IndexString"], unfollowed := true, recurses := true, named := ["internal/bytealg.MaxLen"], apart := false }
def MdemphNestsSaid : Prop := mdemphNestsRow.holds Try.pinned (OpenSpec.ofChange mdemphNestsSpec)

/-- ITS FALSE NEIGHBOUR: 'it returns false'. Refute it at one input. -/
def mdemphNestsWrong : ChangeSpec := { name := "mdemphNests", fn := fun _ => fun
  | [d1, d2, d3] => { results := [.lit (.bool false)], args := [d1, d2, d3] }
  | _ => none }
def MdemphNestsWrongFalsely : Prop := mdemphNestsRow.holds Try.pinned (OpenSpec.ofChange mdemphNestsWrong)

/-- 'indenturelaw21.MdemphLaid': WHATEVER THE INPUT: true; the input reads as it did. -/
def mdemphLaidSpec : ChangeSpec := { name := "mdemphLaid", fn := fun _ => fun
  | [d1, d2] => { results := [.lit (.bool true)], args := [d1, d2] }
  | _ => none }
def mdemphLaidRow : OpenClaim := { program := "ytjfpkldknchnkaa", sum := "c89e79b4b18c0714b7ab400d3358aa3e76309dde1acefb57296334df4b2e3c83", func := "indenture/indenturelaw21.MdemphLaid", spec := "mdemphLaid", inPlace := ["internal/bytealg.IndexByteString", "internal/bytealg.IndexString"], unfollowed := true, recurses := true, named := ["internal/bytealg.MaxLen"], apart := false }
def MdemphLaidSaid : Prop := mdemphLaidRow.holds Try.pinned (OpenSpec.ofChange mdemphLaidSpec)

/-- ITS FALSE NEIGHBOUR: 'it returns false'. Refute it at one input. -/
def mdemphLaidWrong : ChangeSpec := { name := "mdemphLaid", fn := fun _ => fun
  | [d1, d2] => { results := [.lit (.bool false)], args := [d1, d2] }
  | _ => none }
def MdemphLaidWrongFalsely : Prop := mdemphLaidRow.holds Try.pinned (OpenSpec.ofChange mdemphLaidWrong)

/-- 'indenturelaw21.MdemphSides': WHATEVER THE INPUT: true; the input reads as it did. -/
def mdemphSidesSpec : ChangeSpec := { name := "mdemphSides", fn := fun _ => fun
  | [d1, d2, d3, d4] => { results := [.lit (.bool true)], args := [d1, d2, d3, d4] }
  | _ => none }
def mdemphSidesRow : OpenClaim := { program := "ytjfpkldknchnkaa", sum := "c89e79b4b18c0714b7ab400d3358aa3e76309dde1acefb57296334df4b2e3c83", func := "indenture/indenturelaw21.MdemphSides", spec := "mdemphSides", inPlace := ["internal/bytealg.IndexByteString", "internal/bytealg.IndexString"], unfollowed := true, recurses := true, named := ["internal/bytealg.MaxLen"], apart := false }
def MdemphSidesSaid : Prop := mdemphSidesRow.holds Try.pinned (OpenSpec.ofChange mdemphSidesSpec)

/-- ITS FALSE NEIGHBOUR: 'it returns false'. Refute it at one input. -/
def mdemphSidesWrong : ChangeSpec := { name := "mdemphSides", fn := fun _ => fun
  | [d1, d2, d3, d4] => { results := [.lit (.bool false)], args := [d1, d2, d3, d4] }
  | _ => none }
def MdemphSidesWrongFalsely : Prop := mdemphSidesRow.holds Try.pinned (OpenSpec.ofChange mdemphSidesWrong)

/-- 'indenturelaw21.MdemphKnown': WHATEVER THE INPUT: true; the input reads as it did. -/
def mdemphKnownSpec : ChangeSpec := { name := "mdemphKnown", fn := fun _ => fun
  | [] => { results := [.lit (.bool true)], args := [] }
  | _ => none }
def mdemphKnownRow : OpenClaim := { program := "ytjfpkldknchnkaa", sum := "c89e79b4b18c0714b7ab400d3358aa3e76309dde1acefb57296334df4b2e3c83", func := "indenture/indenturelaw21.MdemphKnown", spec := "mdemphKnown", inPlace := ["internal/bytealg.IndexByteString", "internal/bytealg.IndexString"], unfollowed := true, recurses := true, named := ["internal/bytealg.MaxLen"], apart := false }
def MdemphKnownSaid : Prop := mdemphKnownRow.holds Try.pinned (OpenSpec.ofChange mdemphKnownSpec)

/-- ITS FALSE NEIGHBOUR: 'it returns false'. Refute it at one input. -/
def mdemphKnownWrong : ChangeSpec := { name := "mdemphKnown", fn := fun _ => fun
  | [] => { results := [.lit (.bool false)], args := [] }
  | _ => none }
def MdemphKnownWrongFalsely : Prop := mdemphKnownRow.holds Try.pinned (OpenSpec.ofChange mdemphKnownWrong)

/- THE SECOND FORM. 'bulk': how many values and letters a reading holds, each counted each time it is reached (what is shared counts as often as it is met; a slice's spare places count too). A statement '..UptoSaid' is the law's where the arguments, and the package variables that the reading takes, are together of bulk at most 1048576: NARROWER than '..Said'. Prove '..Said' where nothing that the law and all that it calls make is longer than what came in: it says more and counts as full. Else prove '..UptoSaid'. A law counts once. -/
mutual
def uptoBulk {H : Type} : DataW H → Nat
  | .lit (.string bytes) => bytes.length + 1
  | .lit _ => 1
  | .nil => 1
  | .ptr d => uptoBulk d + 1
  | .slice elems spare => uptoBulkAll elems + uptoBulkAll spare + 1
  | .agg parts => uptoBulkAll parts + 1
  | .iface _ d => uptoBulk d + 1
  | .map entries => uptoBulkEntries entries + 1
  | .held _ => 1
def uptoBulkAll {H : Type} : List (DataW H) → Nat
  | [] => 0
  | d :: r => uptoBulk d + uptoBulkAll r
def uptoBulkEntries {H : Type} : List (Lit × DataW H) → Nat
  | [] => 0
  | x :: r => uptoBulkEntry x + uptoBulkEntries r
def uptoBulkEntry {H : Type} : Lit × DataW H → Nat
  | (.string bytes, d) => bytes.length + uptoBulk d + 1
  | (_, d) => uptoBulk d + 1
 end
def uptoSmall : (H : Type) → List (DataW H) → Bool := fun _ ds => decide (uptoBulkAll ds ≤ 1048576)
def OpenSpec.upto (s : _root_.Go.ChangeSpec) : _root_.Go.OpenSpec := { _root_.Go.OpenSpec.ofChange s with cond := some uptoSmall }

/-- 'indenturelaw21.MdemphLooks', WHERE WHAT IT READS IS OF BULK AT MOST 1048576: true; the input reads as it did. -/
def mdemphLooksUptoRow : OpenClaim := { program := "ytjfpkldknchnkaa", sum := "c89e79b4b18c0714b7ab400d3358aa3e76309dde1acefb57296334df4b2e3c83", func := "indenture/indenturelaw21.MdemphLooks", spec := "mdemphLooks", inPlace := ["internal/bytealg.IndexByteString", "internal/bytealg.IndexString"], unfollowed := true, recurses := true, named := ["internal/bytealg.MaxLen"], apart := false, narrowed := true }
def MdemphLooksUptoSaid : Prop := mdemphLooksUptoRow.holds Try.pinned (OpenSpec.upto mdemphLooksSpec)

/-- 'indenturelaw21.MdemphPairs', WHERE WHAT IT READS IS OF BULK AT MOST 1048576: true; the input reads as it did. -/
def mdemphPairsUptoRow : OpenClaim := { program := "ytjfpkldknchnkaa", sum := "c89e79b4b18c0714b7ab400d3358aa3e76309dde1acefb57296334df4b2e3c83", func := "indenture/indenturelaw21.MdemphPairs", spec := "mdemphPairs", inPlace := ["internal/bytealg.IndexByteString", "internal/bytealg.IndexString"], unfollowed := true, recurses := true, named := ["internal/bytealg.MaxLen"], apart := false, narrowed := true }
def MdemphPairsUptoSaid : Prop := mdemphPairsUptoRow.holds Try.pinned (OpenSpec.upto mdemphPairsSpec)

/-- 'indenturelaw21.MdemphNests', WHERE WHAT IT READS IS OF BULK AT MOST 1048576: true; the input reads as it did. -/
def mdemphNestsUptoRow : OpenClaim := { program := "ytjfpkldknchnkaa", sum := "c89e79b4b18c0714b7ab400d3358aa3e76309dde1acefb57296334df4b2e3c83", func := "indenture/indenturelaw21.MdemphNests", spec := "mdemphNests", inPlace := ["internal/bytealg.IndexByteString", "internal/bytealg.IndexString"], unfollowed := true, recurses := true, named := ["internal/bytealg.MaxLen"], apart := false, narrowed := true }
def MdemphNestsUptoSaid : Prop := mdemphNestsUptoRow.holds Try.pinned (OpenSpec.upto mdemphNestsSpec)

/-- 'indenturelaw21.MdemphLaid', WHERE WHAT IT READS IS OF BULK AT MOST 1048576: true; the input reads as it did. -/
def mdemphLaidUptoRow : OpenClaim := { program := "ytjfpkldknchnkaa", sum := "c89e79b4b18c0714b7ab400d3358aa3e76309dde1acefb57296334df4b2e3c83", func := "indenture/indenturelaw21.MdemphLaid", spec := "mdemphLaid", inPlace := ["internal/bytealg.IndexByteString", "internal/bytealg.IndexString"], unfollowed := true, recurses := true, named := ["internal/bytealg.MaxLen"], apart := false, narrowed := true }
def MdemphLaidUptoSaid : Prop := mdemphLaidUptoRow.holds Try.pinned (OpenSpec.upto mdemphLaidSpec)

/-- 'indenturelaw21.MdemphSides', WHERE WHAT IT READS IS OF BULK AT MOST 1048576: true; the input reads as it did. -/
def mdemphSidesUptoRow : OpenClaim := { program := "ytjfpkldknchnkaa", sum := "c89e79b4b18c0714b7ab400d3358aa3e76309dde1acefb57296334df4b2e3c83", func := "indenture/indenturelaw21.MdemphSides", spec := "mdemphSides", inPlace := ["internal/bytealg.IndexByteString", "internal/bytealg.IndexString"], unfollowed := true, recurses := true, named := ["internal/bytealg.MaxLen"], apart := false, narrowed := true }
def MdemphSidesUptoSaid : Prop := mdemphSidesUptoRow.holds Try.pinned (OpenSpec.upto mdemphSidesSpec)

/-- 'indenturelaw21.MdemphKnown', WHERE WHAT IT READS IS OF BULK AT MOST 1048576: true; the input reads as it did. -/
def mdemphKnownUptoRow : OpenClaim := { program := "ytjfpkldknchnkaa", sum := "c89e79b4b18c0714b7ab400d3358aa3e76309dde1acefb57296334df4b2e3c83", func := "indenture/indenturelaw21.MdemphKnown", spec := "mdemphKnown", inPlace := ["internal/bytealg.IndexByteString", "internal/bytealg.IndexString"], unfollowed := true, recurses := true, named := ["internal/bytealg.MaxLen"], apart := false, narrowed := true }
def MdemphKnownUptoSaid : Prop := mdemphKnownUptoRow.holds Try.pinned (OpenSpec.upto mdemphKnownSpec)

end Rows
end Go.Proofs.Ytjfpkldknchnkaa
