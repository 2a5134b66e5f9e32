-- PRINTED BY print.sh 35421559b90ae4d0a3588c463048766b98c2df88dd9212a6774a882060cdf62d: not written by this session
import Derived.Test.YtfkoddhbkfiflaaProg
import Derived.Below
import Derived.Deep.Draws
import Derived.Deep.AppendLies
import Derived.Maps.AppendAt
import Derived.OwnWalk
import Derived.Laws.BytesArg
import Derived.Laws.MakeOwn
import Derived.Laws.OwnMore
import Derived.Deep.OwnRows
import Derived.Tactics
import Derived.Lib.ConvBytes
import Derived.Laws.Slices
import Derived.WalkKit
import Derived.KernelRfl
import Derived.RowKit3
import Derived.Deep.LoopGhost
import Derived.Deep.QuietTactic
import Derived.BigQuiet
import Derived.WideLaws
import Derived.Deep.DeepCutAuto
import Derived.Deep.CutBlock
import Derived.Deep.RegionHeld3
import Derived.Laws.Rows
import Derived.Lib.AppendStr
import Derived.ArgAppend
import Derived.Laws.IdiomCopy
import Derived.OrdersHeld
import Derived.Laws.BitsLemmas
import Derived.RowKit
import Derived.Test.YtfkoddhbkfiflaaWWords
import Derived.Test.YtfkoddhbkfiflaaWLast
import Derived.Test.YtfkoddhbkfiflaaWTab
import Derived.Test.YtfkoddhbkfiflaaWFour
import Derived.Test.YtfkoddhbkfiflaaWQPut
import Derived.Test.YtfkoddhbkfiflaaWApart
import Derived.Test.YtfkoddhbkfiflaaWArr
import Derived.Test.YtfkoddhbkfiflaaWZeros
import Derived.Test.YtfkoddhbkfiflaaWFoot
import Derived.Test.YtfkoddhbkfiflaaWKept
import Derived.Test.YtfkoddhbkfiflaaWShare
import Derived.Test.YtfkoddhbkfiflaaWN
import Derived.Test.YtfkoddhbkfiflaaWFootNe
import Derived.Test.YtfkoddhbkfiflaaWAt
import Derived.Test.YtfkoddhbkfiflaaWEqStruct
import Derived.Test.YtfkoddhbkfiflaaWRepsOne
import Derived.Test.YtfkoddhbkfiflaaWInv
import Derived.Test.YtfkoddhbkfiflaaWInvWords
import Derived.Test.YtfkoddhbkfiflaaWGuard
import Derived.Test.YtfkoddhbkfiflaaWNEv
import Derived.Test.YtfkoddhbkfiflaaWMore
namespace Go.Proofs.Ytfkoddhbkfiflaa.PFnExactConstants
open Go.RowKit Go.Proofs.YtfkoddhbkfiflaaW.PrintWords Go.Proofs.YtfkoddhbkfiflaaW.PrintLast Go.Proofs.YtfkoddhbkfiflaaW.PrintMore
attribute [local go_sem] max2_int min2_int max_two min_two max_three min_three max_four min_four   -- for this text's walks alone
set_option linter.unusedVariables false
set_option linter.unusedSimpArgs false



def errW : Option Int → Value
  | none => .nilIface
  | some c => .iface 0 (.int .i64 c)
theorem errW_none : errW none = .nilIface := rfl
theorem errW_some (c : Int) : errW (some c) = .iface 0 (.int .i64 c) := rfl

-- the values' own types

end Go.Proofs.Ytfkoddhbkfiflaa.PFnExactConstants
