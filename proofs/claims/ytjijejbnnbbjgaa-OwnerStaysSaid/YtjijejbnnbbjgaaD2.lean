/- Contracts: which claim stands ahead, and the closure that sorts by it. -/
import Derived.Test.YtjijejbnnbbjgaaProg
import Derived.WalkKit
import Derived.WalkSpells
import Derived.WalkLawsBesides
import Derived.WalkSmall
import Derived.KernelRfl
import Derived.Laws.EntriesVeiled
set_option linter.unusedSimpArgs false
namespace Go.Proofs.Ytjijejbnnbbjgaa
open Go.RowKit
/-- claims: a number and a replica: below 0, if x stands ahead -/
def cfC (x y : Int × Int) : Int := if x = y then 0 else if y.1 < x.1 ∨ x.1 = y.1 ∧ x.2 < y.2 then -1 else 1
def clm (x : Int × Int) : Value := .agg #[.int .u64 x.1, .int .i64 x.2]
def clmO (x : Int × Int) : Obj := .cells #[.int .u64 x.1, .int .i64 x.2] 44
theorem ret_int {k : IntKind} {a b : Int} (h : a = b) : Ending.returned (.int k a) = .returned (.int k b) := by rw [h]
set_option maxHeartbeats 800000 in
theorem ahead_any (x y : Int × Int) (w : World) : Calls Try.prog 24 #[.agg #[.int .u64 x.1, .int .i64 x.2], .agg #[.int .u64 y.1, .int .i64 y.2]] w fun e w' => e = .returned (.int .i64 (cfC x y)) ∧ w' = (w.alloc (clmO x)).alloc (clmO y) := by
  obtain ⟨a, i⟩ := x
  obtain ⟨b, j⟩ := y
  by_cases h1 : a = b
  · subst h1
    by_cases h2 : i = j
    · subst h2
      go_enter Try.func24, Try.ntmps24
      go_wp2
      go_ret
      exact ⟨ret_int (by simp [cfC]), rfl⟩
    · have g2 : (i == j) = false := by simp [h2]
      go_enter Try.func24, Try.ntmps24
      go_wp2
      all_goals go_ret
      all_goals refine ⟨ret_int ?_, rfl⟩
      · have : i < j := by assumption
        simp [cfC, h2, this]
      · have : ¬ i < j := by omega
        simp [cfC, h2, this]
  · have g1 : (a == b) = false := by simp [h1]
    go_enter Try.func24, Try.ntmps24
    go_wp2
    all_goals go_ret
    all_goals refine ⟨ret_int ?_, rfl⟩
    · have : ¬ b < a := by omega
      simp [cfC, h1, this]
    · have : b < a := by assumption
      simp [cfC, h1, this]
set_option maxHeartbeats 800000 in
theorem closure_any (x y : Int × Int) (w : World) : Calls Try.prog 23 #[.agg #[.int .u64 x.1, .int .i64 x.2], .agg #[.int .u64 y.1, .int .i64 y.2]] w fun e w' => e = .returned (.int .i64 (cfC x y)) ∧ w' = (((w.alloc (clmO x)).alloc (clmO y)).alloc (clmO x)).alloc (clmO y) := by
  go_enter Try.func23, Try.ntmps23
  go_wp2_with (first | (go_at_call 24; go_must (refine (ahead_any _ _ _).mono ?_; rintro e w1 ⟨rfl, rfl⟩)))
  go_ret
  exact ⟨rfl, rfl⟩
end Go.Proofs.Ytjijejbnnbbjgaa
