/- As many things as may be are due, and not one more, but one that is due already: for every tick and number. -/
import Derived.Test.YtodgcfkdnellpaaPWheelFullx1
namespace Go.Proofs.Ytodgcfkdnellpaa.Pure
open Go.RowKit Go.Proofs.Ytodgcfkdnellpaa.PWheelFull Go.Proofs.YtodgcfkdnellpaaW.PrintWords Go.Proofs.YtodgcfkdnellpaaW.PrintLast

theorem WheelFull : steelyardlaw18_WheelFull.Pure := fun _ _ _ _ => rfl

end Go.Proofs.Ytodgcfkdnellpaa.Pure
