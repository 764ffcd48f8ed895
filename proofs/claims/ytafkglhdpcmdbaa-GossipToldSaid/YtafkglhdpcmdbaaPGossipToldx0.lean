/- Written by a program of this session, over the kit's print: functions of the translation as Lean functions, and that their calls come to them. -/
import Derived.Test.YtafkglhdpcmdbaaProg
import Derived.Below
import Derived.Deep.Draws
import Derived.Deep.AppendLies
import Derived.Maps.AppendAt
import Derived.OwnWalk
import Derived.Laws.BytesArg
import Derived.Laws.MakeOwn
import Derived.Laws.OwnMore
import Derived.Deep.OwnRows
import Derived.Tactics
import Derived.Lib.ConvBytes
import Derived.Laws.Slices
import Derived.WalkKit
import Derived.KernelRfl
import Derived.RowKit3
import Derived.Deep.LoopGhost
import Derived.Deep.QuietTactic
import Derived.BigQuiet
import Derived.WideLaws
import Derived.Deep.DeepCutAuto
import Derived.Deep.CutBlock
import Derived.Deep.RegionHeld3
import Derived.Laws.Rows
import Derived.Lib.AppendStr
import Derived.ArgAppend
import Derived.Laws.IdiomCopy
import Derived.OrdersHeld
import Derived.Laws.BitsLemmas
import Derived.RowKit
import Derived.Test.YtafkglhdpcmdbaaLTold
import Derived.Test.YtafkglhdpcmdbaaWWords
import Derived.Test.YtafkglhdpcmdbaaWLast
import Derived.Test.YtafkglhdpcmdbaaWTab
import Derived.Test.YtafkglhdpcmdbaaWFour
import Derived.Test.YtafkglhdpcmdbaaWQPut
import Derived.Test.YtafkglhdpcmdbaaWApart
import Derived.Test.YtafkglhdpcmdbaaWArr
import Derived.Test.YtafkglhdpcmdbaaWZeros
import Derived.Test.YtafkglhdpcmdbaaWFoot
import Derived.Test.YtafkglhdpcmdbaaWKept
import Derived.Test.YtafkglhdpcmdbaaWShare
import Derived.Test.YtafkglhdpcmdbaaWN
import Derived.Test.YtafkglhdpcmdbaaWFootNe
import Derived.Test.YtafkglhdpcmdbaaWAt
import Derived.Test.YtafkglhdpcmdbaaWEqStruct
import Derived.Test.YtafkglhdpcmdbaaWRepsOne
import Derived.Test.YtafkglhdpcmdbaaWInv
import Derived.Test.YtafkglhdpcmdbaaWInvWords
import Derived.Test.YtafkglhdpcmdbaaWGuard
import Derived.Test.YtafkglhdpcmdbaaWNEv
import Derived.Test.YtafkglhdpcmdbaaWMore
namespace Go.Proofs.Ytafkglhdpcmdbaa.PGossipTold
open Go.RowKit Go.Proofs.YtafkglhdpcmdbaaW.PrintWords Go.Proofs.YtafkglhdpcmdbaaW.PrintLast Go.Proofs.YtafkglhdpcmdbaaW.PrintMore
attribute [local go_sem] max2_int min2_int max_two min_two max_three min_three max_four min_four   -- for this text's walks alone
set_option linter.unusedVariables false
set_option linter.unusedSimpArgs false



def errW : Option Int → Value
  | none => .nilIface
  | some c => .iface 0 (.int .i64 c)
theorem errW_none : errW none = .nilIface := rfl
theorem errW_some (c : Int) : errW (some c) = .iface 0 (.int .i64 c) := rfl

-- the values' own types

end Go.Proofs.Ytafkglhdpcmdbaa.PGossipTold
