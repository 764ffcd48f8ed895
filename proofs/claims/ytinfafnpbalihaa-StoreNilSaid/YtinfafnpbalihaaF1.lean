/- Contracts of layer flow's small functions. -/
import Derived.Test.YtinfafnpbalihaaProg
import Derived.WalkKit
import Derived.WalkSpells
import Derived.WalkLawsBesides
import Derived.WalkSmall
import Derived.KernelRfl
import Derived.Deep.RegionHeld3
import Derived.BigQuiet
import Derived.Deep.DeepCutAuto
import Derived.Lib.Hide
import Derived.Laws.EntriesVeiled
import Derived.Laws.ResultCell
namespace Go.Proofs.Ytinfafnpbalihaa
open Go.RowKit

def ruleV (p : Int) : Value := if p = 6 then .agg #[.int .i64 60, .int .i64 3, .int .i64 255, .func (.func 47) #[] #[]] else if p = 17 then .agg #[.int .i64 20, .int .i64 1, .int .i64 0, .func (.func 48) #[] #[]] else .agg #[.int .i64 0, .int .i64 0, .int .i64 0, .nilFunc]
def ruleB (p : Int) : Bool := decide (p = 6 ∨ p = 17)

set_option maxHeartbeats 400000 in
theorem ruleOf_6 (w : World) : Calls Try.prog 37 #[.int .i64 6] w fun e w' => e = .returned (.tuple #[.agg #[.int .i64 60, .int .i64 3, .int .i64 255, .func (.func 47) #[] #[]], .bool true]) ∧ Below w.heap.size w w' := by
  go_enter Try.func37, Try.ntmps37
  go_wp2
  refine bodyPost_ret (v := .tuple #[.agg #[.int .i64 60, .int .i64 3, .int .i64 255, .func (.func 47) #[] #[]], .bool true]) (by simp [results, Try.results37, go_sem]) rfl ⟨rfl, ?_⟩
  exact (Below.refl _ _).alloc (Nat.le_refl _) _
set_option maxHeartbeats 400000 in
theorem ruleOf_17 (w : World) : Calls Try.prog 37 #[.int .i64 17] w fun e w' => e = .returned (.tuple #[.agg #[.int .i64 20, .int .i64 1, .int .i64 0, .func (.func 48) #[] #[]], .bool true]) ∧ Below w.heap.size w w' := by
  go_enter Try.func37, Try.ntmps37
  go_wp2
  refine bodyPost_ret (v := .tuple #[.agg #[.int .i64 20, .int .i64 1, .int .i64 0, .func (.func 48) #[] #[]], .bool true]) (by simp [results, Try.results37, go_sem]) rfl ⟨rfl, ?_⟩
  exact (Below.refl _ _).alloc (Nat.le_refl _) _
set_option maxHeartbeats 400000 in
theorem ruleOf_no (p : Int) (h6 : p ≠ 6) (h17 : p ≠ 17) (w : World) : Calls Try.prog 37 #[.int .i64 p] w fun e w' => e = .returned (.tuple #[.agg #[.int .i64 0, .int .i64 0, .int .i64 0, .nilFunc], .bool false]) ∧ Below w.heap.size w w' := by
  go_enter Try.func37, Try.ntmps37
  go_wp2
  refine bodyPost_ret (v := .tuple #[.agg #[.int .i64 0, .int .i64 0, .int .i64 0, .nilFunc], .bool false]) (by simp [results, Try.results37, go_sem]) rfl ⟨rfl, ?_⟩
  exact (Below.refl _ _).alloc (Nat.le_refl _) _
end Go.Proofs.Ytinfafnpbalihaa
