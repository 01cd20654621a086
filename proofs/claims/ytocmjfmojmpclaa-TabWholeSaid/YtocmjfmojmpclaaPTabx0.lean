-- written by inject.py, a program of the session's, over the translation's print
import Derived.Test.YtocmjfmojmpclaaProg
import Derived.Below
import Derived.Deep.Draws
import Derived.Deep.AppendLies
import Derived.Maps.AppendAt
import Derived.OwnWalk
import Derived.Laws.BytesArg
import Derived.Laws.MakeOwn
import Derived.Laws.OwnMore
import Derived.Deep.OwnRows
import Derived.Tactics
import Derived.Lib.ConvBytes
import Derived.Laws.Slices
import Derived.WalkKit
import Derived.KernelRfl
import Derived.RowKit3
import Derived.Deep.LoopGhost
import Derived.Deep.QuietTactic
import Derived.BigQuiet
import Derived.WideLaws
import Derived.Deep.DeepCutAuto
import Derived.Deep.CutBlock
import Derived.Deep.RegionHeld3
import Derived.Laws.Rows
import Derived.Lib.AppendStr
import Derived.ArgAppend
import Derived.Laws.IdiomCopy
import Derived.OrdersHeld
import Derived.Laws.BitsLemmas
import Derived.RowKit
import Derived.Test.YtocmjfmojmpclaaWWords
import Derived.Test.YtocmjfmojmpclaaWLast
import Derived.Test.YtocmjfmojmpclaaWTab
import Derived.Test.YtocmjfmojmpclaaWFour
import Derived.Test.YtocmjfmojmpclaaWQPut
import Derived.Test.YtocmjfmojmpclaaWApart
import Derived.Test.YtocmjfmojmpclaaWArr
import Derived.Test.YtocmjfmojmpclaaWZeros
import Derived.Test.YtocmjfmojmpclaaWFoot
import Derived.Test.YtocmjfmojmpclaaWKept
import Derived.Test.YtocmjfmojmpclaaWShare
import Derived.Test.YtocmjfmojmpclaaWN
import Derived.Test.YtocmjfmojmpclaaWFootNe
import Derived.Test.YtocmjfmojmpclaaWAt
import Derived.Test.YtocmjfmojmpclaaWEqStruct
import Derived.Test.YtocmjfmojmpclaaWRepsOne
import Derived.Test.YtocmjfmojmpclaaWInv
import Derived.Test.YtocmjfmojmpclaaWInvWords
import Derived.Test.YtocmjfmojmpclaaWGuard
import Derived.Test.YtocmjfmojmpclaaWNEv
import Derived.Test.YtocmjfmojmpclaaWMore
namespace Go.Proofs.Ytocmjfmojmpclaa.PTab
open Go.RowKit Go.Proofs.YtocmjfmojmpclaaW.PrintWords Go.Proofs.YtocmjfmojmpclaaW.PrintLast Go.Proofs.YtocmjfmojmpclaaW.PrintMore
attribute [local go_sem] max2_int min2_int max_two min_two max_three min_three max_four min_four   -- for this text's walks alone
set_option linter.unusedVariables false
set_option linter.unusedSimpArgs false



def errW : Option Int → Value
  | none => .nilIface
  | some c => .iface 0 (.int .i64 c)
theorem errW_none : errW none = .nilIface := rfl
theorem errW_some (c : Int) : errW (some c) = .iface 0 (.int .i64 c) := rfl

-- the values' own types

end Go.Proofs.Ytocmjfmojmpclaa.PTab
