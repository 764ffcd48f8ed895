/- Each news is told as many times as was said, where there is room for all of them, then never more: for every list of sizes and of times. -/
import Derived.Test.YtafkglhdpcmdbaaPGossipToldx1
namespace Go.Proofs.Ytafkglhdpcmdbaa.Pure
open Go.RowKit Go.Proofs.Ytafkglhdpcmdbaa.PGossipTold Go.Proofs.YtafkglhdpcmdbaaW.PrintWords Go.Proofs.YtafkglhdpcmdbaaW.PrintLast

theorem GossipTold : steelyardlaw15_GossipTold.Pure := fun _ _ _ _ _ _ _ _ => rfl

end Go.Proofs.Ytafkglhdpcmdbaa.Pure
