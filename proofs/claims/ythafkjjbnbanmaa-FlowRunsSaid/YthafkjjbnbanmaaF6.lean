/- Contracts of layer flow's references. -/
import Derived.Test.YthafkjjbnbanmaaF5
set_option linter.unusedSimpArgs false
namespace Go.Proofs.Ythafkjjbnbanmaa
open Go.RowKit

set_option maxHeartbeats 400000 in
theorem rclock_any (n : Int) (w : World) : Calls Try.prog 27 #[.int .i64 n] w fun e w' => e = .returned (.bool (clkB n)) ∧ w = w' := by
  by_cases h : 0 ≤ n
  · go_enter Try.func27, Try.ntmps27
    go_wp2
    go_ret
    exact ⟨ret_bool (by simp [clkB, h]), rfl⟩
  · go_enter Try.func27, Try.ntmps27
    go_wp2
    go_ret
    exact ⟨ret_bool (by rw [clkB_f (by omega)]), rfl⟩
set_option maxHeartbeats 400000 in
theorem ridle_any (p : Int) (w : World) : Calls Try.prog 28 #[.int .i64 p] w fun e w' => e = .returned (.int .i64 (fIdle p)) ∧ w = w' := by
  go_enter Try.func28, Try.ntmps28
  go_wp2
  all_goals
    go_ret
    exact ⟨ret_int (by simp_all [fIdle]), rfl⟩
def hasT (f o : Int) : Bool := (f.tdiv o).tmod 2 == 1
theorem tdiv_bd {f o : Int} (h1 : -9223372036854775808 ≤ f) (h2 : f ≤ 9223372036854775807) (ho : 1 ≤ o) : -9223372036854775808 ≤ f.tdiv o ∧ f.tdiv o ≤ 9223372036854775807 := by
  by_cases h : 0 ≤ f
  · rw [Int.tdiv_eq_ediv_of_nonneg h]
    have h3 := Int.ediv_le_self o h
    have h4 : 0 ≤ f / o := Int.ediv_nonneg h (by omega)
    omega
  · have e : f.tdiv o = -((-f) / o) := by
      rw [← Int.tdiv_eq_ediv_of_nonneg (by omega : 0 ≤ -f), Int.neg_tdiv, Int.neg_neg]
    have h3 := Int.ediv_le_self o (by omega : 0 ≤ -f)
    have h4 : 0 ≤ (-f) / o := Int.ediv_nonneg (by omega) (by omega)
    omega
theorem wrap_in {n : Int} (h : -9223372036854775808 ≤ n) (k : n ≤ 9223372036854775807) : wrap64 n = n := IntWalk.wrap64_in n ⟨h, k⟩
theorem kwrap (n : Int) : IntKind.i64.wrap n = wrap64 n := by unfold wrap64; exact IntKind.wrap_i64 n
set_option maxHeartbeats 400000 in
theorem rhas_any (f o : Int) (h1 : -9223372036854775808 ≤ f) (h2 : f ≤ 9223372036854775807) (ho : 1 ≤ o) (w : World) : Calls Try.prog 25 #[.int .i64 f, .int .i64 o] w fun e w' => e = .returned (.bool (hasT f o)) ∧ w = w' := by
  have ho' : (o == 0) = false := beq_eq_false_iff_ne.mpr (by omega)
  go_enter Try.func25, Try.ntmps25
  go_wp2
  go_ret
  exact ⟨ret_bool (by first | rfl | (have hb := tdiv_bd h1 h2 ho; rw [wrap_in hb.1 hb.2]; rfl)), rfl⟩
def rGiven (p f n : Int) : Bool := decide (0 ≤ f ∧ f ≤ 255 ∧ (p = 6 ∨ f = 0)) && clkB n
set_option maxHeartbeats 400000 in
theorem rgiven_any (p f n : Int) (w : World) : Calls Try.prog 24 #[.int .i64 p, .int .i64 f, .int .i64 n] w fun e w' => e = .returned (.bool (rGiven p f n)) ∧ w = w' := by
  by_cases h1 : 0 ≤ f
  · by_cases h2 : f ≤ 255
    · by_cases h3 : p = 6
      · go_enter Try.func24, Try.ntmps24
        go_wp2_with (first | (go_at_call 27; refine (rclock_any _ _).mono ?_; rintro e w1 ⟨rfl, rfl⟩))
        go_ret
        exact ⟨ret_bool (by simp [rGiven, h1, h2, h3]), rfl⟩
      · by_cases h4 : f = 0
        · go_enter Try.func24, Try.ntmps24
          go_wp2_with (first | (go_at_call 27; refine (rclock_any _ _).mono ?_; rintro e w1 ⟨rfl, rfl⟩))
          go_ret
          exact ⟨ret_bool (by simp [rGiven, h4]), rfl⟩
        · go_enter Try.func24, Try.ntmps24
          go_wp2_with (first | (go_at_call 27; refine (rclock_any _ _).mono ?_; rintro e w1 ⟨rfl, rfl⟩))
          go_ret
          exact ⟨ret_bool (by simp [rGiven, h3, h4]), rfl⟩
    · go_enter Try.func24, Try.ntmps24
      go_wp2_with (first | (go_at_call 27; refine (rclock_any _ _).mono ?_; rintro e w1 ⟨rfl, rfl⟩))
      go_ret
      have h2' : ¬ f ≤ 255 := by omega
      exact ⟨ret_bool (by simp [rGiven, h2']), rfl⟩
  · go_enter Try.func24, Try.ntmps24
    go_wp2_with (first | (go_at_call 27; refine (rclock_any _ _).mono ?_; rintro e w1 ⟨rfl, rfl⟩))
    go_ret
    have h1' : ¬ 0 ≤ f := by omega
    exact ⟨ret_bool (by simp [rGiven, h1']), rfl⟩

set_option maxHeartbeats 400000 in
theorem rright_any (p s l : Int) (w : World) : Calls Try.prog 13 #[.agg #[.int .i64 p, .int .i64 s, .int .i64 l]] w fun e w' => e = .returned (.bool (fRight p s l)) ∧ Below w.heap.size w w' := by
  go_enter Try.func13, Try.ntmps13
  go_wp2_with (first | (go_at_call 27; refine (rclock_any _ _).mono ?_; rintro e w1 ⟨rfl, rfl⟩))
  all_goals
    go_ret
    refine ⟨ret_bool ?_, (Below.refl _ _).alloc (Nat.le_refl _) _⟩
    unfold fRight mostS
    rw [Bool.eq_iff_iff]
    cases clkB l <;> simp_all
    try omega

end Go.Proofs.Ythafkjjbnbanmaa
