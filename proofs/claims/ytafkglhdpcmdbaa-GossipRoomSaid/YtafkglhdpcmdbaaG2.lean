/- Gossip: the closures of find and pick, as the library's functions ask for them. -/
import Derived.Test.YtafkglhdpcmdbaaG1
import Derived.Test.YtafkglhdpcmdbaaShelfP
import Derived.Deep.QuietTactic
set_option linter.unusedSimpArgs false
set_option linter.unusedVariables false
namespace Go.Proofs.Ytafkglhdpcmdbaa
open Go.RowKit
set_option maxHeartbeats 400000 in
theorem find1 (kb b : Nat) (key k2 : Int) (W : World) (hk : W.cell? ⟨kb, 0, none⟩ = some (.int .i64 key)) (hx : W.cell? ⟨b, 0, none⟩ = some (.int .i64 k2)) : Calls Try.prog 40 #[.pointer (some ⟨b, 0, none⟩), .pointer (some ⟨kb, 0, none⟩)] W fun e w' => e = .returned (.bool (decide (k2 = key))) ∧ ∃ q, w' = W.drewN q := by
  go_enter Try.func40, Try.ntmps40
  go_wp2
  go_quiet (fail)
  go_wp2
  go_ret
  exact ⟨by congr 2, _, rfl⟩
set_option maxHeartbeats 400000 in
theorem pick2 (b : Nat) (l : Int) (W : World) (hx : W.cell? ⟨b, 2, none⟩ = some (.int .i64 l)) : Calls Try.prog 38 #[.pointer (some ⟨b, 0, none⟩)] W fun e w' => e = .returned (.bool (decide (l = 0))) ∧ ∃ q, w' = W.drewN q := by
  go_enter Try.func38, Try.ntmps38
  go_wp2
  go_ret
  exact ⟨by congr 2, 0, rfl⟩
end Go.Proofs.Ytafkglhdpcmdbaa
