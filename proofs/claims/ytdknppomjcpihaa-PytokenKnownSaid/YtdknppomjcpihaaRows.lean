/-
  No cell of these rows narrows 'for every input' (looked for: loops, veiled, ifaces, maps, wideKeys, modest, calm, conditions, laid).
  DERIVED. THE GIVEN ROWS OF THIS SEAT. 6 by the template 'for every input the law returns true; each argument reads behind the call as it read before'; 0 by the template 'total and deterministic' (their statements: YtdknppomjcpihaaTotals.lean).
  GIVEN WITH THE SEED: the statements are not yours to turn. If you find one false, say at which input.
  Laid BY PROGRAM, IN A SANDBOX (cutbox-rows.mjs): the forced cells as the released guide's own fill.sh prints them over the translation f0c73fca17d26cdd… (all of the seat's roots in one cut). By AI agents, Wed Nov 11 2026. No macro, syntax, notation, axiom, sorry.
-/
import Derived.Test.YtdknppomjcpihaaChecked
import GoSem.Claim
import GoSem.ClaimJoined
import GoSem.ClaimMapViews
import Derived.JoinedTies
import Derived.KernelRfl
namespace Go.Proofs.Ytdknppomjcpihaa
/- THE CELL 'sum', in the pinned program and in every row, IS THE sha256 OF THE DUMP (.gsa) THAT YtdknppomjcpihaaProg.lean LOADS. Nothing in Lean hashes anything: it is a label: what it is worth is what the hold of that sum in a sandbox is worth. -/
noncomputable def Try.pinned : Pinned := { name := "ytdknppomjcpihaa", sum := "f0c73fca17d26cddfdc38763e23a09de9ef0dcc49f8f4a989c4dc1e10de2b2d1", checked := Try.checked }
namespace Rows
def none {H : Type} : Left H := { results := [], args := [] }

/-- 'indenturelaw11.PytokenScans': WHATEVER THE INPUT: true; the input reads as it did. -/
def pytokenScansSpec : ChangeSpec := { name := "pytokenScans", fn := fun _ => fun
  | [d1, d2, d3, d4] => { results := [.lit (.bool true)], args := [d1, d2, d3, d4] }
  | _ => none }
def pytokenScansRow : OpenClaim := { program := "ytdknppomjcpihaa", sum := "f0c73fca17d26cddfdc38763e23a09de9ef0dcc49f8f4a989c4dc1e10de2b2d1", func := "indenture/indenturelaw11.PytokenScans", spec := "pytokenScans", inPlace := ["internal/bytealg.IndexByteString", "internal/bytealg.IndexString"], unfollowed := true, recurses := true, named := ["internal/bytealg.MaxLen"], apart := false }
def PytokenScansSaid : Prop := pytokenScansRow.holds Try.pinned (OpenSpec.ofChange pytokenScansSpec)

/-- ITS FALSE NEIGHBOUR: 'it returns false'. Refute it at one input. -/
def pytokenScansWrong : ChangeSpec := { name := "pytokenScans", fn := fun _ => fun
  | [d1, d2, d3, d4] => { results := [.lit (.bool false)], args := [d1, d2, d3, d4] }
  | _ => none }
def PytokenScansWrongFalsely : Prop := pytokenScansRow.holds Try.pinned (OpenSpec.ofChange pytokenScansWrong)

/-- 'indenturelaw11.PytokenCovers': WHATEVER THE INPUT: true; the input reads as it did. -/
def pytokenCoversSpec : ChangeSpec := { name := "pytokenCovers", fn := fun _ => fun
  | [d1, d2, d3] => { results := [.lit (.bool true)], args := [d1, d2, d3] }
  | _ => none }
def pytokenCoversRow : OpenClaim := { program := "ytdknppomjcpihaa", sum := "f0c73fca17d26cddfdc38763e23a09de9ef0dcc49f8f4a989c4dc1e10de2b2d1", func := "indenture/indenturelaw11.PytokenCovers", spec := "pytokenCovers", inPlace := ["internal/bytealg.IndexByteString", "internal/bytealg.IndexString"], unfollowed := true, recurses := true, named := ["internal/bytealg.MaxLen"], apart := false }
def PytokenCoversSaid : Prop := pytokenCoversRow.holds Try.pinned (OpenSpec.ofChange pytokenCoversSpec)

/-- ITS FALSE NEIGHBOUR: 'it returns false'. Refute it at one input. -/
def pytokenCoversWrong : ChangeSpec := { name := "pytokenCovers", fn := fun _ => fun
  | [d1, d2, d3] => { results := [.lit (.bool false)], args := [d1, d2, d3] }
  | _ => none }
def PytokenCoversWrongFalsely : Prop := pytokenCoversRow.holds Try.pinned (OpenSpec.ofChange pytokenCoversWrong)

/-- 'indenturelaw11.PytokenTexts': WHATEVER THE INPUT: true; the input reads as it did. -/
def pytokenTextsSpec : ChangeSpec := { name := "pytokenTexts", fn := fun _ => fun
  | [d1, d2, d3] => { results := [.lit (.bool true)], args := [d1, d2, d3] }
  | _ => none }
def pytokenTextsRow : OpenClaim := { program := "ytdknppomjcpihaa", sum := "f0c73fca17d26cddfdc38763e23a09de9ef0dcc49f8f4a989c4dc1e10de2b2d1", func := "indenture/indenturelaw11.PytokenTexts", spec := "pytokenTexts", inPlace := ["internal/bytealg.IndexByteString", "internal/bytealg.IndexString"], unfollowed := true, recurses := true, named := ["internal/bytealg.MaxLen"], apart := false }
def PytokenTextsSaid : Prop := pytokenTextsRow.holds Try.pinned (OpenSpec.ofChange pytokenTextsSpec)

/-- ITS FALSE NEIGHBOUR: 'it returns false'. Refute it at one input. -/
def pytokenTextsWrong : ChangeSpec := { name := "pytokenTexts", fn := fun _ => fun
  | [d1, d2, d3] => { results := [.lit (.bool false)], args := [d1, d2, d3] }
  | _ => none }
def PytokenTextsWrongFalsely : Prop := pytokenTextsRow.holds Try.pinned (OpenSpec.ofChange pytokenTextsWrong)

/-- 'indenturelaw11.PytokenSplit': WHATEVER THE INPUT: true; the input reads as it did. -/
def pytokenSplitSpec : ChangeSpec := { name := "pytokenSplit", fn := fun _ => fun
  | [d1, d2, d3] => { results := [.lit (.bool true)], args := [d1, d2, d3] }
  | _ => none }
def pytokenSplitRow : OpenClaim := { program := "ytdknppomjcpihaa", sum := "f0c73fca17d26cddfdc38763e23a09de9ef0dcc49f8f4a989c4dc1e10de2b2d1", func := "indenture/indenturelaw11.PytokenSplit", spec := "pytokenSplit", inPlace := ["internal/bytealg.IndexByteString", "internal/bytealg.IndexString"], unfollowed := true, recurses := true, named := ["internal/bytealg.MaxLen"], apart := false }
def PytokenSplitSaid : Prop := pytokenSplitRow.holds Try.pinned (OpenSpec.ofChange pytokenSplitSpec)

/-- ITS FALSE NEIGHBOUR: 'it returns false'. Refute it at one input. -/
def pytokenSplitWrong : ChangeSpec := { name := "pytokenSplit", fn := fun _ => fun
  | [d1, d2, d3] => { results := [.lit (.bool false)], args := [d1, d2, d3] }
  | _ => none }
def PytokenSplitWrongFalsely : Prop := pytokenSplitRow.holds Try.pinned (OpenSpec.ofChange pytokenSplitWrong)

/-- 'indenturelaw11.PytokenOwn': WHATEVER THE INPUT: true; the input reads as it did. -/
def pytokenOwnSpec : ChangeSpec := { name := "pytokenOwn", fn := fun _ => fun
  | [d1, d2, d3] => { results := [.lit (.bool true)], args := [d1, d2, d3] }
  | _ => none }
def pytokenOwnRow : OpenClaim := { program := "ytdknppomjcpihaa", sum := "f0c73fca17d26cddfdc38763e23a09de9ef0dcc49f8f4a989c4dc1e10de2b2d1", func := "indenture/indenturelaw11.PytokenOwn", spec := "pytokenOwn", inPlace := ["internal/bytealg.IndexByteString", "internal/bytealg.IndexString"], unfollowed := true, recurses := true, named := ["internal/bytealg.MaxLen"], apart := false }
def PytokenOwnSaid : Prop := pytokenOwnRow.holds Try.pinned (OpenSpec.ofChange pytokenOwnSpec)

/-- ITS FALSE NEIGHBOUR: 'it returns false'. Refute it at one input. -/
def pytokenOwnWrong : ChangeSpec := { name := "pytokenOwn", fn := fun _ => fun
  | [d1, d2, d3] => { results := [.lit (.bool false)], args := [d1, d2, d3] }
  | _ => none }
def PytokenOwnWrongFalsely : Prop := pytokenOwnRow.holds Try.pinned (OpenSpec.ofChange pytokenOwnWrong)

/-- 'indenturelaw11.PytokenKnown': WHATEVER THE INPUT: true; the input reads as it did. -/
def pytokenKnownSpec : ChangeSpec := { name := "pytokenKnown", fn := fun _ => fun
  | [] => { results := [.lit (.bool true)], args := [] }
  | _ => none }
def pytokenKnownRow : OpenClaim := { program := "ytdknppomjcpihaa", sum := "f0c73fca17d26cddfdc38763e23a09de9ef0dcc49f8f4a989c4dc1e10de2b2d1", func := "indenture/indenturelaw11.PytokenKnown", spec := "pytokenKnown", inPlace := ["internal/bytealg.IndexByteString", "internal/bytealg.IndexString"], unfollowed := true, recurses := true, named := ["internal/bytealg.MaxLen"], apart := false }
def PytokenKnownSaid : Prop := pytokenKnownRow.holds Try.pinned (OpenSpec.ofChange pytokenKnownSpec)

/-- ITS FALSE NEIGHBOUR: 'it returns false'. Refute it at one input. -/
def pytokenKnownWrong : ChangeSpec := { name := "pytokenKnown", fn := fun _ => fun
  | [] => { results := [.lit (.bool false)], args := [] }
  | _ => none }
def PytokenKnownWrongFalsely : Prop := pytokenKnownRow.holds Try.pinned (OpenSpec.ofChange pytokenKnownWrong)

/- THE SECOND FORM. 'bulk': how many values and letters a reading holds, each counted each time it is reached (what is shared counts as often as it is met; a slice's spare places count too). A statement '..UptoSaid' is the law's where the arguments, and the package variables that the reading takes, are together of bulk at most 1048576: NARROWER than '..Said'. Prove '..Said' where nothing that the law and all that it calls make is longer than what came in: it says more and counts as full. Else prove '..UptoSaid'. A law counts once. -/
mutual
def uptoBulk {H : Type} : DataW H → Nat
  | .lit (.string bytes) => bytes.length + 1
  | .lit _ => 1
  | .nil => 1
  | .ptr d => uptoBulk d + 1
  | .slice elems spare => uptoBulkAll elems + uptoBulkAll spare + 1
  | .agg parts => uptoBulkAll parts + 1
  | .iface _ d => uptoBulk d + 1
  | .map entries => uptoBulkEntries entries + 1
  | .held _ => 1
def uptoBulkAll {H : Type} : List (DataW H) → Nat
  | [] => 0
  | d :: r => uptoBulk d + uptoBulkAll r
def uptoBulkEntries {H : Type} : List (Lit × DataW H) → Nat
  | [] => 0
  | x :: r => uptoBulkEntry x + uptoBulkEntries r
def uptoBulkEntry {H : Type} : Lit × DataW H → Nat
  | (.string bytes, d) => bytes.length + uptoBulk d + 1
  | (_, d) => uptoBulk d + 1
 end
def uptoSmall : (H : Type) → List (DataW H) → Bool := fun _ ds => decide (uptoBulkAll ds ≤ 1048576)
def OpenSpec.upto (s : _root_.Go.ChangeSpec) : _root_.Go.OpenSpec := { _root_.Go.OpenSpec.ofChange s with cond := some uptoSmall }

/-- 'indenturelaw11.PytokenScans', WHERE WHAT IT READS IS OF BULK AT MOST 1048576: true; the input reads as it did. -/
def pytokenScansUptoRow : OpenClaim := { program := "ytdknppomjcpihaa", sum := "f0c73fca17d26cddfdc38763e23a09de9ef0dcc49f8f4a989c4dc1e10de2b2d1", func := "indenture/indenturelaw11.PytokenScans", spec := "pytokenScans", inPlace := ["internal/bytealg.IndexByteString", "internal/bytealg.IndexString"], unfollowed := true, recurses := true, named := ["internal/bytealg.MaxLen"], apart := false, narrowed := true }
def PytokenScansUptoSaid : Prop := pytokenScansUptoRow.holds Try.pinned (OpenSpec.upto pytokenScansSpec)

/-- 'indenturelaw11.PytokenCovers', WHERE WHAT IT READS IS OF BULK AT MOST 1048576: true; the input reads as it did. -/
def pytokenCoversUptoRow : OpenClaim := { program := "ytdknppomjcpihaa", sum := "f0c73fca17d26cddfdc38763e23a09de9ef0dcc49f8f4a989c4dc1e10de2b2d1", func := "indenture/indenturelaw11.PytokenCovers", spec := "pytokenCovers", inPlace := ["internal/bytealg.IndexByteString", "internal/bytealg.IndexString"], unfollowed := true, recurses := true, named := ["internal/bytealg.MaxLen"], apart := false, narrowed := true }
def PytokenCoversUptoSaid : Prop := pytokenCoversUptoRow.holds Try.pinned (OpenSpec.upto pytokenCoversSpec)

/-- 'indenturelaw11.PytokenTexts', WHERE WHAT IT READS IS OF BULK AT MOST 1048576: true; the input reads as it did. -/
def pytokenTextsUptoRow : OpenClaim := { program := "ytdknppomjcpihaa", sum := "f0c73fca17d26cddfdc38763e23a09de9ef0dcc49f8f4a989c4dc1e10de2b2d1", func := "indenture/indenturelaw11.PytokenTexts", spec := "pytokenTexts", inPlace := ["internal/bytealg.IndexByteString", "internal/bytealg.IndexString"], unfollowed := true, recurses := true, named := ["internal/bytealg.MaxLen"], apart := false, narrowed := true }
def PytokenTextsUptoSaid : Prop := pytokenTextsUptoRow.holds Try.pinned (OpenSpec.upto pytokenTextsSpec)

/-- 'indenturelaw11.PytokenSplit', WHERE WHAT IT READS IS OF BULK AT MOST 1048576: true; the input reads as it did. -/
def pytokenSplitUptoRow : OpenClaim := { program := "ytdknppomjcpihaa", sum := "f0c73fca17d26cddfdc38763e23a09de9ef0dcc49f8f4a989c4dc1e10de2b2d1", func := "indenture/indenturelaw11.PytokenSplit", spec := "pytokenSplit", inPlace := ["internal/bytealg.IndexByteString", "internal/bytealg.IndexString"], unfollowed := true, recurses := true, named := ["internal/bytealg.MaxLen"], apart := false, narrowed := true }
def PytokenSplitUptoSaid : Prop := pytokenSplitUptoRow.holds Try.pinned (OpenSpec.upto pytokenSplitSpec)

/-- 'indenturelaw11.PytokenOwn', WHERE WHAT IT READS IS OF BULK AT MOST 1048576: true; the input reads as it did. -/
def pytokenOwnUptoRow : OpenClaim := { program := "ytdknppomjcpihaa", sum := "f0c73fca17d26cddfdc38763e23a09de9ef0dcc49f8f4a989c4dc1e10de2b2d1", func := "indenture/indenturelaw11.PytokenOwn", spec := "pytokenOwn", inPlace := ["internal/bytealg.IndexByteString", "internal/bytealg.IndexString"], unfollowed := true, recurses := true, named := ["internal/bytealg.MaxLen"], apart := false, narrowed := true }
def PytokenOwnUptoSaid : Prop := pytokenOwnUptoRow.holds Try.pinned (OpenSpec.upto pytokenOwnSpec)

/-- 'indenturelaw11.PytokenKnown', WHERE WHAT IT READS IS OF BULK AT MOST 1048576: true; the input reads as it did. -/
def pytokenKnownUptoRow : OpenClaim := { program := "ytdknppomjcpihaa", sum := "f0c73fca17d26cddfdc38763e23a09de9ef0dcc49f8f4a989c4dc1e10de2b2d1", func := "indenture/indenturelaw11.PytokenKnown", spec := "pytokenKnown", inPlace := ["internal/bytealg.IndexByteString", "internal/bytealg.IndexString"], unfollowed := true, recurses := true, named := ["internal/bytealg.MaxLen"], apart := false, narrowed := true }
def PytokenKnownUptoSaid : Prop := pytokenKnownUptoRow.holds Try.pinned (OpenSpec.upto pytokenKnownSpec)

end Rows
end Go.Proofs.Ytdknppomjcpihaa
