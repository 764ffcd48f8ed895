/-
  No cell of these rows narrows 'for every input' (looked for: loops, veiled, ifaces, maps, wideKeys, modest, calm, conditions, laid).
  DERIVED. THE GIVEN ROWS OF THIS SEAT. 5 by the template 'for every input the law returns true; each argument reads behind the call as it read before'; 0 by the template 'total and deterministic' (their statements: YtjijejbnnbbjgaaTotals.lean).
  GIVEN WITH THE SEED: the statements are not yours to turn. If you find one false, say at which input.
  Laid BY PROGRAM, IN A SANDBOX (cutbox-rows.mjs): the forced cells as the released guide's own fill.sh prints them over the translation 6891c485fc189aba… (all of the seat's roots in one cut). By AI agents, Wed Nov 11 2026. No macro, syntax, notation, axiom, sorry.
-/
import Derived.Test.YtjijejbnnbbjgaaChecked
import GoSem.Claim
import GoSem.ClaimJoined
import GoSem.ClaimMapViews
import Derived.JoinedTies
import Derived.KernelRfl
namespace Go.Proofs.Ytjijejbnnbbjgaa
/- THE CELL 'sum', in the pinned program and in every row, IS THE sha256 OF THE DUMP (.gsa) THAT YtjijejbnnbbjgaaProg.lean LOADS. Nothing in Lean hashes anything: it is a label: what it is worth is what the hold of that sum in a sandbox is worth. -/
noncomputable def Try.pinned : Pinned := { name := "ytjijejbnnbbjgaa", sum := "6891c485fc189abae878010562fcf0fce6831a9e79aa78dc43ccfbefad54cf3c", checked := Try.checked }
namespace Rows
def none {H : Type} : Left H := { results := [], args := [] }

/-- 'steelyardlaw11.OwnerRanks': WHATEVER THE INPUT: true; the input reads as it did. -/
def ownerRanksSpec : ChangeSpec := { name := "ownerRanks", fn := fun _ => fun
  | [d1, d2] => { results := [.lit (.bool true)], args := [d1, d2] }
  | _ => none }
def ownerRanksRow : OpenClaim := { program := "ytjijejbnnbbjgaa", sum := "6891c485fc189abae878010562fcf0fce6831a9e79aa78dc43ccfbefad54cf3c", func := "steelyard/steelyardlaw11.OwnerRanks", spec := "ownerRanks", unfollowed := true, recurses := true, apart := false }
def OwnerRanksSaid : Prop := ownerRanksRow.holds Try.pinned (OpenSpec.ofChange ownerRanksSpec)

/-- ITS FALSE NEIGHBOUR: 'it returns false'. Refute it at one input. -/
def ownerRanksWrong : ChangeSpec := { name := "ownerRanks", fn := fun _ => fun
  | [d1, d2] => { results := [.lit (.bool false)], args := [d1, d2] }
  | _ => none }
def OwnerRanksWrongFalsely : Prop := ownerRanksRow.holds Try.pinned (OpenSpec.ofChange ownerRanksWrong)

/-- 'steelyardlaw11.OwnerMasks': WHATEVER THE INPUT: true; the input reads as it did. -/
def ownerMasksSpec : ChangeSpec := { name := "ownerMasks", fn := fun _ => fun
  | [d1, d2] => { results := [.lit (.bool true)], args := [d1, d2] }
  | _ => none }
def ownerMasksRow : OpenClaim := { program := "ytjijejbnnbbjgaa", sum := "6891c485fc189abae878010562fcf0fce6831a9e79aa78dc43ccfbefad54cf3c", func := "steelyard/steelyardlaw11.OwnerMasks", spec := "ownerMasks", unfollowed := true, recurses := true, apart := false }
def OwnerMasksSaid : Prop := ownerMasksRow.holds Try.pinned (OpenSpec.ofChange ownerMasksSpec)

/-- ITS FALSE NEIGHBOUR: 'it returns false'. Refute it at one input. -/
def ownerMasksWrong : ChangeSpec := { name := "ownerMasks", fn := fun _ => fun
  | [d1, d2] => { results := [.lit (.bool false)], args := [d1, d2] }
  | _ => none }
def OwnerMasksWrongFalsely : Prop := ownerMasksRow.holds Try.pinned (OpenSpec.ofChange ownerMasksWrong)

/-- 'steelyardlaw11.OwnerStays': WHATEVER THE INPUT: true; the input reads as it did. -/
def ownerStaysSpec : ChangeSpec := { name := "ownerStays", fn := fun _ => fun
  | [d1, d2, d3] => { results := [.lit (.bool true)], args := [d1, d2, d3] }
  | _ => none }
def ownerStaysRow : OpenClaim := { program := "ytjijejbnnbbjgaa", sum := "6891c485fc189abae878010562fcf0fce6831a9e79aa78dc43ccfbefad54cf3c", func := "steelyard/steelyardlaw11.OwnerStays", spec := "ownerStays", unfollowed := true, recurses := true, apart := false }
def OwnerStaysSaid : Prop := ownerStaysRow.holds Try.pinned (OpenSpec.ofChange ownerStaysSpec)

/-- ITS FALSE NEIGHBOUR: 'it returns false'. Refute it at one input. -/
def ownerStaysWrong : ChangeSpec := { name := "ownerStays", fn := fun _ => fun
  | [d1, d2, d3] => { results := [.lit (.bool false)], args := [d1, d2, d3] }
  | _ => none }
def OwnerStaysWrongFalsely : Prop := ownerStaysRow.holds Try.pinned (OpenSpec.ofChange ownerStaysWrong)

/-- 'steelyardlaw11.OwnerJoins': WHATEVER THE INPUT: true; the input reads as it did. -/
def ownerJoinsSpec : ChangeSpec := { name := "ownerJoins", fn := fun _ => fun
  | [d1, d2, d3] => { results := [.lit (.bool true)], args := [d1, d2, d3] }
  | _ => none }
def ownerJoinsRow : OpenClaim := { program := "ytjijejbnnbbjgaa", sum := "6891c485fc189abae878010562fcf0fce6831a9e79aa78dc43ccfbefad54cf3c", func := "steelyard/steelyardlaw11.OwnerJoins", spec := "ownerJoins", unfollowed := true, recurses := true, apart := false }
def OwnerJoinsSaid : Prop := ownerJoinsRow.holds Try.pinned (OpenSpec.ofChange ownerJoinsSpec)

/-- ITS FALSE NEIGHBOUR: 'it returns false'. Refute it at one input. -/
def ownerJoinsWrong : ChangeSpec := { name := "ownerJoins", fn := fun _ => fun
  | [d1, d2, d3] => { results := [.lit (.bool false)], args := [d1, d2, d3] }
  | _ => none }
def OwnerJoinsWrongFalsely : Prop := ownerJoinsRow.holds Try.pinned (OpenSpec.ofChange ownerJoinsWrong)

/-- 'steelyardlaw11.OwnerOne': WHATEVER THE INPUT: true; the input reads as it did. -/
def ownerOneSpec : ChangeSpec := { name := "ownerOne", fn := fun _ => fun
  | [d1, d2, d3, d4, d5] => { results := [.lit (.bool true)], args := [d1, d2, d3, d4, d5] }
  | _ => none }
def ownerOneRow : OpenClaim := { program := "ytjijejbnnbbjgaa", sum := "6891c485fc189abae878010562fcf0fce6831a9e79aa78dc43ccfbefad54cf3c", func := "steelyard/steelyardlaw11.OwnerOne", spec := "ownerOne", unfollowed := true, recurses := true, apart := false }
def OwnerOneSaid : Prop := ownerOneRow.holds Try.pinned (OpenSpec.ofChange ownerOneSpec)

/-- ITS FALSE NEIGHBOUR: 'it returns false'. Refute it at one input. -/
def ownerOneWrong : ChangeSpec := { name := "ownerOne", fn := fun _ => fun
  | [d1, d2, d3, d4, d5] => { results := [.lit (.bool false)], args := [d1, d2, d3, d4, d5] }
  | _ => none }
def OwnerOneWrongFalsely : Prop := ownerOneRow.holds Try.pinned (OpenSpec.ofChange ownerOneWrong)

/- THE SECOND FORM. 'bulk': how many values and letters a reading holds, each counted each time it is reached (what is shared counts as often as it is met; a slice's spare places count too). A statement '..UptoSaid' is the law's where the arguments, and the package variables that the reading takes, are together of bulk at most 1048576: NARROWER than '..Said'. Prove '..Said' where nothing that the law and all that it calls make is longer than what came in: it says more and counts as full. Else prove '..UptoSaid'. A law counts once. -/
mutual
def uptoBulk {H : Type} : DataW H → Nat
  | .lit (.string bytes) => bytes.length + 1
  | .lit _ => 1
  | .nil => 1
  | .ptr d => uptoBulk d + 1
  | .slice elems spare => uptoBulkAll elems + uptoBulkAll spare + 1
  | .agg parts => uptoBulkAll parts + 1
  | .iface _ d => uptoBulk d + 1
  | .map entries => uptoBulkEntries entries + 1
  | .held _ => 1
def uptoBulkAll {H : Type} : List (DataW H) → Nat
  | [] => 0
  | d :: r => uptoBulk d + uptoBulkAll r
def uptoBulkEntries {H : Type} : List (Lit × DataW H) → Nat
  | [] => 0
  | x :: r => uptoBulkEntry x + uptoBulkEntries r
def uptoBulkEntry {H : Type} : Lit × DataW H → Nat
  | (.string bytes, d) => bytes.length + uptoBulk d + 1
  | (_, d) => uptoBulk d + 1
 end
def uptoSmall : (H : Type) → List (DataW H) → Bool := fun _ ds => decide (uptoBulkAll ds ≤ 1048576)
def OpenSpec.upto (s : _root_.Go.ChangeSpec) : _root_.Go.OpenSpec := { _root_.Go.OpenSpec.ofChange s with cond := some uptoSmall }

/-- 'steelyardlaw11.OwnerRanks', WHERE WHAT IT READS IS OF BULK AT MOST 1048576: true; the input reads as it did. -/
def ownerRanksUptoRow : OpenClaim := { program := "ytjijejbnnbbjgaa", sum := "6891c485fc189abae878010562fcf0fce6831a9e79aa78dc43ccfbefad54cf3c", func := "steelyard/steelyardlaw11.OwnerRanks", spec := "ownerRanks", unfollowed := true, recurses := true, apart := false, narrowed := true }
def OwnerRanksUptoSaid : Prop := ownerRanksUptoRow.holds Try.pinned (OpenSpec.upto ownerRanksSpec)

/-- 'steelyardlaw11.OwnerMasks', WHERE WHAT IT READS IS OF BULK AT MOST 1048576: true; the input reads as it did. -/
def ownerMasksUptoRow : OpenClaim := { program := "ytjijejbnnbbjgaa", sum := "6891c485fc189abae878010562fcf0fce6831a9e79aa78dc43ccfbefad54cf3c", func := "steelyard/steelyardlaw11.OwnerMasks", spec := "ownerMasks", unfollowed := true, recurses := true, apart := false, narrowed := true }
def OwnerMasksUptoSaid : Prop := ownerMasksUptoRow.holds Try.pinned (OpenSpec.upto ownerMasksSpec)

/-- 'steelyardlaw11.OwnerStays', WHERE WHAT IT READS IS OF BULK AT MOST 1048576: true; the input reads as it did. -/
def ownerStaysUptoRow : OpenClaim := { program := "ytjijejbnnbbjgaa", sum := "6891c485fc189abae878010562fcf0fce6831a9e79aa78dc43ccfbefad54cf3c", func := "steelyard/steelyardlaw11.OwnerStays", spec := "ownerStays", unfollowed := true, recurses := true, apart := false, narrowed := true }
def OwnerStaysUptoSaid : Prop := ownerStaysUptoRow.holds Try.pinned (OpenSpec.upto ownerStaysSpec)

/-- 'steelyardlaw11.OwnerJoins', WHERE WHAT IT READS IS OF BULK AT MOST 1048576: true; the input reads as it did. -/
def ownerJoinsUptoRow : OpenClaim := { program := "ytjijejbnnbbjgaa", sum := "6891c485fc189abae878010562fcf0fce6831a9e79aa78dc43ccfbefad54cf3c", func := "steelyard/steelyardlaw11.OwnerJoins", spec := "ownerJoins", unfollowed := true, recurses := true, apart := false, narrowed := true }
def OwnerJoinsUptoSaid : Prop := ownerJoinsUptoRow.holds Try.pinned (OpenSpec.upto ownerJoinsSpec)

/-- 'steelyardlaw11.OwnerOne', WHERE WHAT IT READS IS OF BULK AT MOST 1048576: true; the input reads as it did. -/
def ownerOneUptoRow : OpenClaim := { program := "ytjijejbnnbbjgaa", sum := "6891c485fc189abae878010562fcf0fce6831a9e79aa78dc43ccfbefad54cf3c", func := "steelyard/steelyardlaw11.OwnerOne", spec := "ownerOne", unfollowed := true, recurses := true, apart := false, narrowed := true }
def OwnerOneUptoSaid : Prop := ownerOneUptoRow.holds Try.pinned (OpenSpec.upto ownerOneSpec)

end Rows
end Go.Proofs.Ytjijejbnnbbjgaa
