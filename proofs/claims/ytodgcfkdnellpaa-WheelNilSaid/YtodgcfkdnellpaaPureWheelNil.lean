/- A wheel that is not there answers as the document says, for every number and every tick. -/
import Derived.Test.YtodgcfkdnellpaaPWheelNilx1
namespace Go.Proofs.Ytodgcfkdnellpaa.Pure
open Go.RowKit Go.Proofs.Ytodgcfkdnellpaa.PWheelNil Go.Proofs.YtodgcfkdnellpaaW.PrintWords Go.Proofs.YtodgcfkdnellpaaW.PrintLast

theorem WheelNil : steelyardlaw18_WheelNil.Pure := fun _ _ _ _ => rfl

end Go.Proofs.Ytodgcfkdnellpaa.Pure
