/-
  No cell of these rows narrows 'for every input' (looked for: loops, veiled, ifaces, maps, wideKeys, modest, calm, conditions, laid).
  DERIVED. THE GIVEN ROWS OF THIS SEAT. 4 by the template 'for every input the law returns true; each argument reads behind the call as it read before'; 0 by the template 'total and deterministic' (their statements: YthafkjjbnbanmaaTotals.lean).
  GIVEN WITH THE SEED: the statements are not yours to turn. If you find one false, say at which input.
  Laid BY PROGRAM, IN A SANDBOX (cutbox-rows.mjs): the forced cells as the released guide's own fill.sh prints them over the translation 8d8ad63d3e393e0f… (all of the seat's roots in one cut). By AI agents, Wed Nov 11 2026. No macro, syntax, notation, axiom, sorry.
-/
import Derived.Test.YthafkjjbnbanmaaChecked
import GoSem.Claim
import GoSem.ClaimJoined
import GoSem.ClaimMapViews
import Derived.JoinedTies
import Derived.KernelRfl
namespace Go.Proofs.Ythafkjjbnbanmaa
/- THE CELL 'sum', in the pinned program and in every row, IS THE sha256 OF THE DUMP (.gsa) THAT YthafkjjbnbanmaaProg.lean LOADS. Nothing in Lean hashes anything: it is a label: what it is worth is what the hold of that sum in a sandbox is worth. -/
noncomputable def Try.pinned : Pinned := { name := "ythafkjjbnbanmaa", sum := "8d8ad63d3e393e0fb12696997cf6133937fb5d323edc74f836e45afc431163e5", checked := Try.checked }
namespace Rows
def none {H : Type} : Left H := { results := [], args := [] }

/-- 'steelyardlaw19.FlowSteps': WHATEVER THE INPUT: true; the input reads as it did. -/
def flowStepsSpec : ChangeSpec := { name := "flowSteps", fn := fun _ => fun
  | [d1, d2, d3, d4] => { results := [.lit (.bool true)], args := [d1, d2, d3, d4] }
  | _ => none }
def flowStepsRow : OpenClaim := { program := "ythafkjjbnbanmaa", sum := "8d8ad63d3e393e0fb12696997cf6133937fb5d323edc74f836e45afc431163e5", func := "steelyard/steelyardlaw19.FlowSteps", spec := "flowSteps", unfollowed := true, recurses := true, apart := false }
def FlowStepsSaid : Prop := flowStepsRow.holds Try.pinned (OpenSpec.ofChange flowStepsSpec)

/-- ITS FALSE NEIGHBOUR: 'it returns false'. Refute it at one input. -/
def flowStepsWrong : ChangeSpec := { name := "flowSteps", fn := fun _ => fun
  | [d1, d2, d3, d4] => { results := [.lit (.bool false)], args := [d1, d2, d3, d4] }
  | _ => none }
def FlowStepsWrongFalsely : Prop := flowStepsRow.holds Try.pinned (OpenSpec.ofChange flowStepsWrong)

/-- 'steelyardlaw19.FlowIdle': WHATEVER THE INPUT: true; the input reads as it did. -/
def flowIdleSpec : ChangeSpec := { name := "flowIdle", fn := fun _ => fun
  | [d1, d2] => { results := [.lit (.bool true)], args := [d1, d2] }
  | _ => none }
def flowIdleRow : OpenClaim := { program := "ythafkjjbnbanmaa", sum := "8d8ad63d3e393e0fb12696997cf6133937fb5d323edc74f836e45afc431163e5", func := "steelyard/steelyardlaw19.FlowIdle", spec := "flowIdle", unfollowed := true, recurses := true, apart := false }
def FlowIdleSaid : Prop := flowIdleRow.holds Try.pinned (OpenSpec.ofChange flowIdleSpec)

/-- ITS FALSE NEIGHBOUR: 'it returns false'. Refute it at one input. -/
def flowIdleWrong : ChangeSpec := { name := "flowIdle", fn := fun _ => fun
  | [d1, d2] => { results := [.lit (.bool false)], args := [d1, d2] }
  | _ => none }
def FlowIdleWrongFalsely : Prop := flowIdleRow.holds Try.pinned (OpenSpec.ofChange flowIdleWrong)

/-- 'steelyardlaw19.FlowNever': WHATEVER THE INPUT: true; the input reads as it did. -/
def flowNeverSpec : ChangeSpec := { name := "flowNever", fn := fun _ => fun
  | [d1, d2, d3, d4] => { results := [.lit (.bool true)], args := [d1, d2, d3, d4] }
  | _ => none }
def flowNeverRow : OpenClaim := { program := "ythafkjjbnbanmaa", sum := "8d8ad63d3e393e0fb12696997cf6133937fb5d323edc74f836e45afc431163e5", func := "steelyard/steelyardlaw19.FlowNever", spec := "flowNever", unfollowed := true, recurses := true, apart := false }
def FlowNeverSaid : Prop := flowNeverRow.holds Try.pinned (OpenSpec.ofChange flowNeverSpec)

/-- ITS FALSE NEIGHBOUR: 'it returns false'. Refute it at one input. -/
def flowNeverWrong : ChangeSpec := { name := "flowNever", fn := fun _ => fun
  | [d1, d2, d3, d4] => { results := [.lit (.bool false)], args := [d1, d2, d3, d4] }
  | _ => none }
def FlowNeverWrongFalsely : Prop := flowNeverRow.holds Try.pinned (OpenSpec.ofChange flowNeverWrong)

/-- 'steelyardlaw19.FlowRuns': WHATEVER THE INPUT: true; the input reads as it did. -/
def flowRunsSpec : ChangeSpec := { name := "flowRuns", fn := fun _ => fun
  | [d1, d2] => { results := [.lit (.bool true)], args := [d1, d2] }
  | _ => none }
def flowRunsRow : OpenClaim := { program := "ythafkjjbnbanmaa", sum := "8d8ad63d3e393e0fb12696997cf6133937fb5d323edc74f836e45afc431163e5", func := "steelyard/steelyardlaw19.FlowRuns", spec := "flowRuns", unfollowed := true, recurses := true, apart := false }
def FlowRunsSaid : Prop := flowRunsRow.holds Try.pinned (OpenSpec.ofChange flowRunsSpec)

/-- ITS FALSE NEIGHBOUR: 'it returns false'. Refute it at one input. -/
def flowRunsWrong : ChangeSpec := { name := "flowRuns", fn := fun _ => fun
  | [d1, d2] => { results := [.lit (.bool false)], args := [d1, d2] }
  | _ => none }
def FlowRunsWrongFalsely : Prop := flowRunsRow.holds Try.pinned (OpenSpec.ofChange flowRunsWrong)

/- THE SECOND FORM. 'bulk': how many values and letters a reading holds, each counted each time it is reached (what is shared counts as often as it is met; a slice's spare places count too). A statement '..UptoSaid' is the law's where the arguments, and the package variables that the reading takes, are together of bulk at most 1048576: NARROWER than '..Said'. Prove '..Said' where nothing that the law and all that it calls make is longer than what came in: it says more and counts as full. Else prove '..UptoSaid'. A law counts once. -/
mutual
def uptoBulk {H : Type} : DataW H → Nat
  | .lit (.string bytes) => bytes.length + 1
  | .lit _ => 1
  | .nil => 1
  | .ptr d => uptoBulk d + 1
  | .slice elems spare => uptoBulkAll elems + uptoBulkAll spare + 1
  | .agg parts => uptoBulkAll parts + 1
  | .iface _ d => uptoBulk d + 1
  | .map entries => uptoBulkEntries entries + 1
  | .held _ => 1
def uptoBulkAll {H : Type} : List (DataW H) → Nat
  | [] => 0
  | d :: r => uptoBulk d + uptoBulkAll r
def uptoBulkEntries {H : Type} : List (Lit × DataW H) → Nat
  | [] => 0
  | x :: r => uptoBulkEntry x + uptoBulkEntries r
def uptoBulkEntry {H : Type} : Lit × DataW H → Nat
  | (.string bytes, d) => bytes.length + uptoBulk d + 1
  | (_, d) => uptoBulk d + 1
 end
def uptoSmall : (H : Type) → List (DataW H) → Bool := fun _ ds => decide (uptoBulkAll ds ≤ 1048576)
def OpenSpec.upto (s : _root_.Go.ChangeSpec) : _root_.Go.OpenSpec := { _root_.Go.OpenSpec.ofChange s with cond := some uptoSmall }

/-- 'steelyardlaw19.FlowSteps', WHERE WHAT IT READS IS OF BULK AT MOST 1048576: true; the input reads as it did. -/
def flowStepsUptoRow : OpenClaim := { program := "ythafkjjbnbanmaa", sum := "8d8ad63d3e393e0fb12696997cf6133937fb5d323edc74f836e45afc431163e5", func := "steelyard/steelyardlaw19.FlowSteps", spec := "flowSteps", unfollowed := true, recurses := true, apart := false, narrowed := true }
def FlowStepsUptoSaid : Prop := flowStepsUptoRow.holds Try.pinned (OpenSpec.upto flowStepsSpec)

/-- 'steelyardlaw19.FlowIdle', WHERE WHAT IT READS IS OF BULK AT MOST 1048576: true; the input reads as it did. -/
def flowIdleUptoRow : OpenClaim := { program := "ythafkjjbnbanmaa", sum := "8d8ad63d3e393e0fb12696997cf6133937fb5d323edc74f836e45afc431163e5", func := "steelyard/steelyardlaw19.FlowIdle", spec := "flowIdle", unfollowed := true, recurses := true, apart := false, narrowed := true }
def FlowIdleUptoSaid : Prop := flowIdleUptoRow.holds Try.pinned (OpenSpec.upto flowIdleSpec)

/-- 'steelyardlaw19.FlowNever', WHERE WHAT IT READS IS OF BULK AT MOST 1048576: true; the input reads as it did. -/
def flowNeverUptoRow : OpenClaim := { program := "ythafkjjbnbanmaa", sum := "8d8ad63d3e393e0fb12696997cf6133937fb5d323edc74f836e45afc431163e5", func := "steelyard/steelyardlaw19.FlowNever", spec := "flowNever", unfollowed := true, recurses := true, apart := false, narrowed := true }
def FlowNeverUptoSaid : Prop := flowNeverUptoRow.holds Try.pinned (OpenSpec.upto flowNeverSpec)

/-- 'steelyardlaw19.FlowRuns', WHERE WHAT IT READS IS OF BULK AT MOST 1048576: true; the input reads as it did. -/
def flowRunsUptoRow : OpenClaim := { program := "ythafkjjbnbanmaa", sum := "8d8ad63d3e393e0fb12696997cf6133937fb5d323edc74f836e45afc431163e5", func := "steelyard/steelyardlaw19.FlowRuns", spec := "flowRuns", unfollowed := true, recurses := true, apart := false, narrowed := true }
def FlowRunsUptoSaid : Prop := flowRunsUptoRow.holds Try.pinned (OpenSpec.upto flowRunsSpec)

end Rows
end Go.Proofs.Ythafkjjbnbanmaa
