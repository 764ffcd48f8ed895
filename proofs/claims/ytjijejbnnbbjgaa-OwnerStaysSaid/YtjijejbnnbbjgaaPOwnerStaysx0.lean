/- Written by a program of this session, over the kit's print: functions of the translation as Lean functions, and that their calls come to them. -/
import Derived.Test.YtjijejbnnbbjgaaProg
import Derived.Below
import Derived.Deep.Draws
import Derived.Deep.AppendLies
import Derived.Maps.AppendAt
import Derived.OwnWalk
import Derived.Laws.BytesArg
import Derived.Laws.MakeOwn
import Derived.Laws.OwnMore
import Derived.Deep.OwnRows
import Derived.Tactics
import Derived.Lib.ConvBytes
import Derived.Laws.Slices
import Derived.WalkKit
import Derived.KernelRfl
import Derived.RowKit3
import Derived.Deep.LoopGhost
import Derived.Deep.QuietTactic
import Derived.BigQuiet
import Derived.WideLaws
import Derived.Deep.DeepCutAuto
import Derived.Deep.CutBlock
import Derived.Deep.RegionHeld3
import Derived.Laws.Rows
import Derived.Lib.AppendStr
import Derived.ArgAppend
import Derived.Laws.IdiomCopy
import Derived.OrdersHeld
import Derived.Laws.BitsLemmas
import Derived.RowKit
import Derived.Test.YtjijejbnnbbjgaaD2
import Derived.Test.YtjijejbnnbbjgaaD3
import Derived.Test.YtjijejbnnbbjgaaD5
import Derived.Test.YtjijejbnnbbjgaaWWords
import Derived.Test.YtjijejbnnbbjgaaWLast
import Derived.Test.YtjijejbnnbbjgaaWTab
import Derived.Test.YtjijejbnnbbjgaaWFour
import Derived.Test.YtjijejbnnbbjgaaWQPut
import Derived.Test.YtjijejbnnbbjgaaWApart
import Derived.Test.YtjijejbnnbbjgaaWArr
import Derived.Test.YtjijejbnnbbjgaaWZeros
import Derived.Test.YtjijejbnnbbjgaaWFoot
import Derived.Test.YtjijejbnnbbjgaaWKept
import Derived.Test.YtjijejbnnbbjgaaWShare
import Derived.Test.YtjijejbnnbbjgaaWN
import Derived.Test.YtjijejbnnbbjgaaWFootNe
import Derived.Test.YtjijejbnnbbjgaaWAt
import Derived.Test.YtjijejbnnbbjgaaWEqStruct
import Derived.Test.YtjijejbnnbbjgaaWRepsOne
import Derived.Test.YtjijejbnnbbjgaaWInv
import Derived.Test.YtjijejbnnbbjgaaWInvWords
import Derived.Test.YtjijejbnnbbjgaaWGuard
import Derived.Test.YtjijejbnnbbjgaaWNEv
import Derived.Test.YtjijejbnnbbjgaaWMore
namespace Go.Proofs.Ytjijejbnnbbjgaa.POwnerStays
open Go.RowKit Go.Proofs.YtjijejbnnbbjgaaW.PrintWords Go.Proofs.YtjijejbnnbbjgaaW.PrintLast Go.Proofs.YtjijejbnnbbjgaaW.PrintMore
attribute [local go_sem] max2_int min2_int max_two min_two max_three min_three max_four min_four   -- for this text's walks alone
set_option linter.unusedVariables false
set_option linter.unusedSimpArgs false



def errW : Option Int → Value
  | none => .nilIface
  | some c => .iface 0 (.int .i64 c)
theorem errW_none : errW none = .nilIface := rfl
theorem errW_some (c : Int) : errW (some c) = .iface 0 (.int .i64 c) := rfl

theorem info3 : (Try.prog.info? 3).map (fun i => (i.zero, i.size, i.bytes)) = some (some (.int .i64 0), 1, 8) := by kernel_rfl
-- the values' own types

end Go.Proofs.Ytjijejbnnbbjgaa.POwnerStays
