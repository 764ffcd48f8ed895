/- Written by a program of this session, over the kit's print: functions of the translation as Lean functions, and that their calls come to them. -/
import Derived.Test.YtjijejbnnbbjgaaPOwnerStaysx0
import Derived.Test.YtjijejbnnbbjgaaPOwnerStaysx1
import Derived.Test.YtjijejbnnbbjgaaPOwnerStaysx2
namespace Go.Proofs.Ytjijejbnnbbjgaa.POwnerStays
open Go.RowKit Go.Proofs.YtjijejbnnbbjgaaW.PrintWords Go.Proofs.YtjijejbnnbbjgaaW.PrintLast Go.Proofs.YtjijejbnnbbjgaaW.PrintMore
attribute [local go_sem] max2_int min2_int max_two min_two max_three min_three max_four min_four   -- for this text's walks alone
set_option linter.unusedVariables false
set_option linter.unusedSimpArgs false

end Go.Proofs.Ytjijejbnnbbjgaa.POwnerStays
