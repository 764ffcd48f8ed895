/- Written by a program of this session, over the kit's print: functions of the translation as Lean functions, and that their calls come to them. -/
import Derived.Test.YtodgcfkdnellpaaProg
import Derived.Below
import Derived.Deep.Draws
import Derived.Deep.AppendLies
import Derived.Maps.AppendAt
import Derived.OwnWalk
import Derived.Laws.BytesArg
import Derived.Laws.MakeOwn
import Derived.Laws.OwnMore
import Derived.Deep.OwnRows
import Derived.Tactics
import Derived.Lib.ConvBytes
import Derived.Laws.Slices
import Derived.WalkKit
import Derived.KernelRfl
import Derived.RowKit3
import Derived.Deep.LoopGhost
import Derived.Deep.QuietTactic
import Derived.BigQuiet
import Derived.WideLaws
import Derived.Deep.DeepCutAuto
import Derived.Deep.CutBlock
import Derived.Deep.RegionHeld3
import Derived.Laws.Rows
import Derived.Lib.AppendStr
import Derived.ArgAppend
import Derived.Laws.IdiomCopy
import Derived.OrdersHeld
import Derived.Laws.BitsLemmas
import Derived.RowKit
import Derived.Test.YtodgcfkdnellpaaLFull
import Derived.Test.YtodgcfkdnellpaaWWords
import Derived.Test.YtodgcfkdnellpaaWLast
import Derived.Test.YtodgcfkdnellpaaWTab
import Derived.Test.YtodgcfkdnellpaaWFour
import Derived.Test.YtodgcfkdnellpaaWQPut
import Derived.Test.YtodgcfkdnellpaaWApart
import Derived.Test.YtodgcfkdnellpaaWArr
import Derived.Test.YtodgcfkdnellpaaWZeros
import Derived.Test.YtodgcfkdnellpaaWFoot
import Derived.Test.YtodgcfkdnellpaaWKept
import Derived.Test.YtodgcfkdnellpaaWShare
import Derived.Test.YtodgcfkdnellpaaWN
import Derived.Test.YtodgcfkdnellpaaWFootNe
import Derived.Test.YtodgcfkdnellpaaWAt
import Derived.Test.YtodgcfkdnellpaaWEqStruct
import Derived.Test.YtodgcfkdnellpaaWRepsOne
import Derived.Test.YtodgcfkdnellpaaWInv
import Derived.Test.YtodgcfkdnellpaaWInvWords
import Derived.Test.YtodgcfkdnellpaaWGuard
import Derived.Test.YtodgcfkdnellpaaWNEv
import Derived.Test.YtodgcfkdnellpaaWMore
namespace Go.Proofs.Ytodgcfkdnellpaa.PWheelFull
open Go.RowKit Go.Proofs.YtodgcfkdnellpaaW.PrintWords Go.Proofs.YtodgcfkdnellpaaW.PrintLast Go.Proofs.YtodgcfkdnellpaaW.PrintMore
attribute [local go_sem] max2_int min2_int max_two min_two max_three min_three max_four min_four   -- for this text's walks alone
set_option linter.unusedVariables false
set_option linter.unusedSimpArgs false



def errW : Option Int → Value
  | none => .nilIface
  | some c => .iface 0 (.int .i64 c)
theorem errW_none : errW none = .nilIface := rfl
theorem errW_some (c : Int) : errW (some c) = .iface 0 (.int .i64 c) := rfl

-- the values' own types

end Go.Proofs.Ytodgcfkdnellpaa.PWheelFull
