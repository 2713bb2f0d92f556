-- Laid by a program of this session (wip/tools), out of the translation; proved by Lean.
import Derived.Test.YtcankokamleloaaProg
import Derived.Below
import Derived.Deep.Draws
import Derived.Deep.AppendLies
import Derived.Maps.AppendAt
import Derived.OwnWalk
import Derived.Laws.BytesArg
import Derived.Laws.MakeOwn
import Derived.Laws.OwnMore
import Derived.Deep.OwnRows
import Derived.Tactics
import Derived.Lib.ConvBytes
import Derived.Laws.Slices
import Derived.WalkKit
import Derived.KernelRfl
import Derived.RowKit3
import Derived.Deep.LoopGhost
import Derived.Deep.QuietTactic
import Derived.BigQuiet
import Derived.WideLaws
import Derived.Deep.DeepCutAuto
import Derived.Deep.CutBlock
import Derived.Deep.RegionHeld3
import Derived.Laws.Rows
import Derived.Lib.AppendStr
import Derived.ArgAppend
import Derived.Laws.IdiomCopy
import Derived.OrdersHeld
import Derived.Laws.BitsLemmas
import Derived.RowKit
import Derived.Lib.SlBytesConst
import Derived.Test.YtcankokamleloaaMem
import Derived.Test.YtcankokamleloaaWWords
import Derived.Test.YtcankokamleloaaWLast
import Derived.Test.YtcankokamleloaaWTab
import Derived.Test.YtcankokamleloaaWFour
import Derived.Test.YtcankokamleloaaWQPut
import Derived.Test.YtcankokamleloaaWApart
import Derived.Test.YtcankokamleloaaWArr
import Derived.Test.YtcankokamleloaaWZeros
import Derived.Test.YtcankokamleloaaWFoot
import Derived.Test.YtcankokamleloaaWKept
import Derived.Test.YtcankokamleloaaWShare
import Derived.Test.YtcankokamleloaaWN
import Derived.Test.YtcankokamleloaaWFootNe
import Derived.Test.YtcankokamleloaaWAt
import Derived.Test.YtcankokamleloaaWEqStruct
import Derived.Test.YtcankokamleloaaWRepsOne
import Derived.Test.YtcankokamleloaaWInv
import Derived.Test.YtcankokamleloaaWInvWords
import Derived.Test.YtcankokamleloaaWGuard
import Derived.Test.YtcankokamleloaaWNEv
import Derived.Test.YtcankokamleloaaWMore
namespace Go.Proofs.Ytcankokamleloaa.PAll
open Go.RowKit Go.Proofs.YtcankokamleloaaW.PrintWords Go.Proofs.YtcankokamleloaaW.PrintLast Go.Proofs.YtcankokamleloaaW.PrintMore
attribute [local go_sem] max2_int min2_int max_two min_two max_three min_three max_four min_four   -- for this text's walks alone
set_option linter.unusedVariables false
set_option linter.unusedSimpArgs false



def errW : Option Int → Value
  | none => .nilIface
  | some c => .iface 0 (.int .i64 c)
theorem errW_none : errW none = .nilIface := rfl
theorem errW_some (c : Int) : errW (some c) = .iface 0 (.int .i64 c) := rfl

-- the values' own types

end Go.Proofs.Ytcankokamleloaa.PAll
