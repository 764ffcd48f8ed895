/- A queue that is not there answers as the document says, for every key, all bytes and all times. -/
import Derived.Test.YtafkglhdpcmdbaaPGossipNilx1
namespace Go.Proofs.Ytafkglhdpcmdbaa.Pure
open Go.RowKit Go.Proofs.Ytafkglhdpcmdbaa.PGossipNil Go.Proofs.YtafkglhdpcmdbaaW.PrintWords Go.Proofs.YtafkglhdpcmdbaaW.PrintLast

theorem GossipNil : steelyardlaw15_GossipNil.Pure := fun _ _ _ _ _ _ _ _ => rfl

end Go.Proofs.Ytafkglhdpcmdbaa.Pure
