/-
  No cell of these rows narrows 'for every input' (looked for: loops, veiled, ifaces, maps, wideKeys, modest, calm, conditions, laid).
  DERIVED. THE GIVEN ROWS OF THIS SEAT. 5 by the template 'for every input the law returns true; each argument reads behind the call as it read before'; 0 by the template 'total and deterministic' (their statements: YtafkglhdpcmdbaaTotals.lean).
  GIVEN WITH THE SEED: the statements are not yours to turn. If you find one false, say at which input.
  Laid BY PROGRAM, IN A SANDBOX (cutbox-rows.mjs): the forced cells as the released guide's own fill.sh prints them over the translation 534765e728abc23e… (all of the seat's roots in one cut). By AI agents, Wed Nov 11 2026. No macro, syntax, notation, axiom, sorry.
-/
import Derived.Test.YtafkglhdpcmdbaaChecked
import GoSem.Claim
import GoSem.ClaimJoined
import GoSem.ClaimMapViews
import Derived.JoinedTies
import Derived.KernelRfl
namespace Go.Proofs.Ytafkglhdpcmdbaa
/- THE CELL 'sum', in the pinned program and in every row, IS THE sha256 OF THE DUMP (.gsa) THAT YtafkglhdpcmdbaaProg.lean LOADS. Nothing in Lean hashes anything: it is a label: what it is worth is what the hold of that sum in a sandbox is worth. -/
noncomputable def Try.pinned : Pinned := { name := "ytafkglhdpcmdbaa", sum := "534765e728abc23eb3042eb6e723313eb722393b1a23bd45ea9732960d4be885", checked := Try.checked }
namespace Rows
def none {H : Type} : Left H := { results := [], args := [] }

/-- 'steelyardlaw15.GossipTimes': WHATEVER THE INPUT: true; the input reads as it did. -/
def gossipTimesSpec : ChangeSpec := { name := "gossipTimes", fn := fun _ => fun
  | [d] => { results := [.lit (.bool true)], args := [d] }
  | _ => none }
def gossipTimesRow : OpenClaim := { program := "ytafkglhdpcmdbaa", sum := "534765e728abc23eb3042eb6e723313eb722393b1a23bd45ea9732960d4be885", func := "steelyard/steelyardlaw15.GossipTimes", spec := "gossipTimes", unfollowed := true, recurses := true, apart := false }
def GossipTimesSaid : Prop := gossipTimesRow.holds Try.pinned (OpenSpec.ofChange gossipTimesSpec)

/-- ITS FALSE NEIGHBOUR: 'it returns false'. Refute it at one input. -/
def gossipTimesWrong : ChangeSpec := { name := "gossipTimes", fn := fun _ => fun
  | [d] => { results := [.lit (.bool false)], args := [d] }
  | _ => none }
def GossipTimesWrongFalsely : Prop := gossipTimesRow.holds Try.pinned (OpenSpec.ofChange gossipTimesWrong)

/-- 'steelyardlaw15.GossipRoom': WHATEVER THE INPUT: true; the input reads as it did. -/
def gossipRoomSpec : ChangeSpec := { name := "gossipRoom", fn := fun _ => fun
  | [d1, d2] => { results := [.lit (.bool true)], args := [d1, d2] }
  | _ => none }
def gossipRoomRow : OpenClaim := { program := "ytafkglhdpcmdbaa", sum := "534765e728abc23eb3042eb6e723313eb722393b1a23bd45ea9732960d4be885", func := "steelyard/steelyardlaw15.GossipRoom", spec := "gossipRoom", unfollowed := true, recurses := true, apart := false }
def GossipRoomSaid : Prop := gossipRoomRow.holds Try.pinned (OpenSpec.ofChange gossipRoomSpec)

/-- ITS FALSE NEIGHBOUR: 'it returns false'. Refute it at one input. -/
def gossipRoomWrong : ChangeSpec := { name := "gossipRoom", fn := fun _ => fun
  | [d1, d2] => { results := [.lit (.bool false)], args := [d1, d2] }
  | _ => none }
def GossipRoomWrongFalsely : Prop := gossipRoomRow.holds Try.pinned (OpenSpec.ofChange gossipRoomWrong)

/-- 'steelyardlaw15.GossipPlays': WHATEVER THE INPUT: true; the input reads as it did. -/
def gossipPlaysSpec : ChangeSpec := { name := "gossipPlays", fn := fun _ => fun
  | [d1, d2] => { results := [.lit (.bool true)], args := [d1, d2] }
  | _ => none }
def gossipPlaysRow : OpenClaim := { program := "ytafkglhdpcmdbaa", sum := "534765e728abc23eb3042eb6e723313eb722393b1a23bd45ea9732960d4be885", func := "steelyard/steelyardlaw15.GossipPlays", spec := "gossipPlays", unfollowed := true, recurses := true, apart := false }
def GossipPlaysSaid : Prop := gossipPlaysRow.holds Try.pinned (OpenSpec.ofChange gossipPlaysSpec)

/-- ITS FALSE NEIGHBOUR: 'it returns false'. Refute it at one input. -/
def gossipPlaysWrong : ChangeSpec := { name := "gossipPlays", fn := fun _ => fun
  | [d1, d2] => { results := [.lit (.bool false)], args := [d1, d2] }
  | _ => none }
def GossipPlaysWrongFalsely : Prop := gossipPlaysRow.holds Try.pinned (OpenSpec.ofChange gossipPlaysWrong)

/-- 'steelyardlaw15.GossipTold': WHATEVER THE INPUT: true; the input reads as it did. -/
def gossipToldSpec : ChangeSpec := { name := "gossipTold", fn := fun _ => fun
  | [d1, d2] => { results := [.lit (.bool true)], args := [d1, d2] }
  | _ => none }
def gossipToldRow : OpenClaim := { program := "ytafkglhdpcmdbaa", sum := "534765e728abc23eb3042eb6e723313eb722393b1a23bd45ea9732960d4be885", func := "steelyard/steelyardlaw15.GossipTold", spec := "gossipTold", unfollowed := true, recurses := true, apart := false }
def GossipToldSaid : Prop := gossipToldRow.holds Try.pinned (OpenSpec.ofChange gossipToldSpec)

/-- ITS FALSE NEIGHBOUR: 'it returns false'. Refute it at one input. -/
def gossipToldWrong : ChangeSpec := { name := "gossipTold", fn := fun _ => fun
  | [d1, d2] => { results := [.lit (.bool false)], args := [d1, d2] }
  | _ => none }
def GossipToldWrongFalsely : Prop := gossipToldRow.holds Try.pinned (OpenSpec.ofChange gossipToldWrong)

/-- 'steelyardlaw15.GossipNil': WHATEVER THE INPUT: true; the input reads as it did. -/
def gossipNilSpec : ChangeSpec := { name := "gossipNil", fn := fun _ => fun
  | [d1, d2, d3] => { results := [.lit (.bool true)], args := [d1, d2, d3] }
  | _ => none }
def gossipNilRow : OpenClaim := { program := "ytafkglhdpcmdbaa", sum := "534765e728abc23eb3042eb6e723313eb722393b1a23bd45ea9732960d4be885", func := "steelyard/steelyardlaw15.GossipNil", spec := "gossipNil", unfollowed := true, recurses := true, apart := false }
def GossipNilSaid : Prop := gossipNilRow.holds Try.pinned (OpenSpec.ofChange gossipNilSpec)

/-- ITS FALSE NEIGHBOUR: 'it returns false'. Refute it at one input. -/
def gossipNilWrong : ChangeSpec := { name := "gossipNil", fn := fun _ => fun
  | [d1, d2, d3] => { results := [.lit (.bool false)], args := [d1, d2, d3] }
  | _ => none }
def GossipNilWrongFalsely : Prop := gossipNilRow.holds Try.pinned (OpenSpec.ofChange gossipNilWrong)

/- THE SECOND FORM. 'bulk': how many values and letters a reading holds, each counted each time it is reached (what is shared counts as often as it is met; a slice's spare places count too). A statement '..UptoSaid' is the law's where the arguments, and the package variables that the reading takes, are together of bulk at most 1048576: NARROWER than '..Said'. Prove '..Said' where nothing that the law and all that it calls make is longer than what came in: it says more and counts as full. Else prove '..UptoSaid'. A law counts once. -/
mutual
def uptoBulk {H : Type} : DataW H → Nat
  | .lit (.string bytes) => bytes.length + 1
  | .lit _ => 1
  | .nil => 1
  | .ptr d => uptoBulk d + 1
  | .slice elems spare => uptoBulkAll elems + uptoBulkAll spare + 1
  | .agg parts => uptoBulkAll parts + 1
  | .iface _ d => uptoBulk d + 1
  | .map entries => uptoBulkEntries entries + 1
  | .held _ => 1
def uptoBulkAll {H : Type} : List (DataW H) → Nat
  | [] => 0
  | d :: r => uptoBulk d + uptoBulkAll r
def uptoBulkEntries {H : Type} : List (Lit × DataW H) → Nat
  | [] => 0
  | x :: r => uptoBulkEntry x + uptoBulkEntries r
def uptoBulkEntry {H : Type} : Lit × DataW H → Nat
  | (.string bytes, d) => bytes.length + uptoBulk d + 1
  | (_, d) => uptoBulk d + 1
 end
def uptoSmall : (H : Type) → List (DataW H) → Bool := fun _ ds => decide (uptoBulkAll ds ≤ 1048576)
def OpenSpec.upto (s : _root_.Go.ChangeSpec) : _root_.Go.OpenSpec := { _root_.Go.OpenSpec.ofChange s with cond := some uptoSmall }

/-- 'steelyardlaw15.GossipTimes', WHERE WHAT IT READS IS OF BULK AT MOST 1048576: true; the input reads as it did. -/
def gossipTimesUptoRow : OpenClaim := { program := "ytafkglhdpcmdbaa", sum := "534765e728abc23eb3042eb6e723313eb722393b1a23bd45ea9732960d4be885", func := "steelyard/steelyardlaw15.GossipTimes", spec := "gossipTimes", unfollowed := true, recurses := true, apart := false, narrowed := true }
def GossipTimesUptoSaid : Prop := gossipTimesUptoRow.holds Try.pinned (OpenSpec.upto gossipTimesSpec)

/-- 'steelyardlaw15.GossipRoom', WHERE WHAT IT READS IS OF BULK AT MOST 1048576: true; the input reads as it did. -/
def gossipRoomUptoRow : OpenClaim := { program := "ytafkglhdpcmdbaa", sum := "534765e728abc23eb3042eb6e723313eb722393b1a23bd45ea9732960d4be885", func := "steelyard/steelyardlaw15.GossipRoom", spec := "gossipRoom", unfollowed := true, recurses := true, apart := false, narrowed := true }
def GossipRoomUptoSaid : Prop := gossipRoomUptoRow.holds Try.pinned (OpenSpec.upto gossipRoomSpec)

/-- 'steelyardlaw15.GossipPlays', WHERE WHAT IT READS IS OF BULK AT MOST 1048576: true; the input reads as it did. -/
def gossipPlaysUptoRow : OpenClaim := { program := "ytafkglhdpcmdbaa", sum := "534765e728abc23eb3042eb6e723313eb722393b1a23bd45ea9732960d4be885", func := "steelyard/steelyardlaw15.GossipPlays", spec := "gossipPlays", unfollowed := true, recurses := true, apart := false, narrowed := true }
def GossipPlaysUptoSaid : Prop := gossipPlaysUptoRow.holds Try.pinned (OpenSpec.upto gossipPlaysSpec)

/-- 'steelyardlaw15.GossipTold', WHERE WHAT IT READS IS OF BULK AT MOST 1048576: true; the input reads as it did. -/
def gossipToldUptoRow : OpenClaim := { program := "ytafkglhdpcmdbaa", sum := "534765e728abc23eb3042eb6e723313eb722393b1a23bd45ea9732960d4be885", func := "steelyard/steelyardlaw15.GossipTold", spec := "gossipTold", unfollowed := true, recurses := true, apart := false, narrowed := true }
def GossipToldUptoSaid : Prop := gossipToldUptoRow.holds Try.pinned (OpenSpec.upto gossipToldSpec)

/-- 'steelyardlaw15.GossipNil', WHERE WHAT IT READS IS OF BULK AT MOST 1048576: true; the input reads as it did. -/
def gossipNilUptoRow : OpenClaim := { program := "ytafkglhdpcmdbaa", sum := "534765e728abc23eb3042eb6e723313eb722393b1a23bd45ea9732960d4be885", func := "steelyard/steelyardlaw15.GossipNil", spec := "gossipNil", unfollowed := true, recurses := true, apart := false, narrowed := true }
def GossipNilUptoSaid : Prop := gossipNilUptoRow.holds Try.pinned (OpenSpec.upto gossipNilSpec)

end Rows
end Go.Proofs.Ytafkglhdpcmdbaa
