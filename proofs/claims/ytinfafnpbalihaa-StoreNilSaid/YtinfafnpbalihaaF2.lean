/- Contracts of layer flow's small functions. -/
import Derived.Test.YtinfafnpbalihaaF1
namespace Go.Proofs.Ytinfafnpbalihaa
open Go.RowKit

def clkB (n : Int) : Bool := decide (0 ≤ n ∧ n ≤ 1099511627776)
theorem clkB_t {n : Int} (h : 0 ≤ n) (k : n ≤ 1099511627776) : clkB n = true := decide_eq_true ⟨h, k⟩
theorem clkB_f {n : Int} (h : ¬ (0 ≤ n ∧ n ≤ 1099511627776)) : clkB n = false := decide_eq_false h

theorem bcell {W w1 : World} (hb : Below W.heap.size W w1) : (∀ b o, b < W.heap.size → w1.cell? ⟨b, o, none⟩ = W.cell? ⟨b, o, none⟩) ∧ (∀ b o, b < W.heap.size → w1.frozen? ⟨b, o, none⟩ = W.frozen? ⟨b, o, none⟩) :=
  ⟨fun b o h => hb.cell (p := ⟨b, o, none⟩) h, fun b o h => hb.frozen (p := ⟨b, o, none⟩) h⟩

theorem ret_int {k : IntKind} {a b : Int} (h : a = b) : Ending.returned (.int k a) = .returned (.int k b) := by rw [h]
theorem ret_bool {a b : Bool} (h : a = b) : Ending.returned (.bool a) = .returned (.bool b) := by rw [h]

set_option maxHeartbeats 400000 in
theorem clock_any (n : Int) (w : World) : Calls Try.prog 49 #[.int .i64 n] w fun e w' => e = .returned (.bool (clkB n)) ∧ w = w' := by
  by_cases h : 0 ≤ n
  · go_enter Try.func49, Try.ntmps49
    go_wp2
    go_ret
    exact ⟨ret_bool (by simp [clkB, h]), rfl⟩
  · go_enter Try.func49, Try.ntmps49
    go_wp2
    go_ret
    exact ⟨ret_bool (by rw [clkB_f (by omega)]), rfl⟩

def tcpV (s f : Int) : Int := if bits .and .i64 f 4 ≠ 0 then 3 else if bits .and .i64 f 1 ≠ 0 then 2 else if s = 2 ∧ bits .and .i64 f 16 ≠ 0 then 3 else s
set_option maxHeartbeats 400000 in
theorem tcp_any (s f : Int) (w : World) : Calls Try.prog 47 #[.int .i64 s, .int .i64 f] w fun e w' => e = .returned (.int .i64 (tcpV s f)) ∧ w = w' := by
  go_enter Try.func47, Try.ntmps47
  go_wp2
  all_goals
    go_ret
    exact ⟨ret_int (by simp_all [tcpV]), rfl⟩
set_option maxHeartbeats 400000 in
theorem udp_any (s f : Int) (w : World) : Calls Try.prog 48 #[.int .i64 s, .int .i64 f] w fun e w' => e = .returned (.int .i64 s) ∧ w = w' := by
  go_enter Try.func48, Try.ntmps48
  go_wp2
  go_ret
  exact ⟨rfl, rfl⟩
def mostS (p : Int) : Int := if p = 6 then 3 else 1
def fRight (p s l : Int) : Bool := decide ((p = 6 ∨ p = 17) ∧ 1 ≤ s ∧ s ≤ mostS p) && clkB l
set_option maxHeartbeats 400000 in
theorem right_6 (s l : Int) (w : World) : Calls Try.prog 39 #[.agg #[.int .i64 6, .int .i64 s, .int .i64 l]] w fun e w' => e = .returned (.bool (fRight 6 s l)) ∧ Below w.heap.size w w' := by
  go_enter Try.func39, Try.ntmps39
  go_wp2_with (first | (go_at_call 37; refine (ruleOf_6 _).mono ?_; rintro e w1 ⟨rfl, hb1⟩; obtain ⟨hc1, hf1⟩ := bcell hb1; have hz1 : w.heap.size < w1.heap.size := by (have := hb1.size; simp at this; omega)) | (go_at_call 49; refine (clock_any _ _).mono ?_; rintro e w2 ⟨rfl, rfl⟩))
  all_goals
    go_ret
    exact ⟨ret_bool (by simp [fRight, mostS]; omega), ((((Below.refl _ _).alloc (Nat.le_refl _) _).trans (hb1.mono (by simp))).alloc (by omega) _)⟩
set_option maxHeartbeats 400000 in
theorem right_17 (s l : Int) (w : World) : Calls Try.prog 39 #[.agg #[.int .i64 17, .int .i64 s, .int .i64 l]] w fun e w' => e = .returned (.bool (fRight 17 s l)) ∧ Below w.heap.size w w' := by
  go_enter Try.func39, Try.ntmps39
  go_wp2_with (first | (go_at_call 37; refine (ruleOf_17 _).mono ?_; rintro e w1 ⟨rfl, hb1⟩; obtain ⟨hc1, hf1⟩ := bcell hb1; have hz1 : w.heap.size < w1.heap.size := by (have := hb1.size; simp at this; omega)) | (go_at_call 49; refine (clock_any _ _).mono ?_; rintro e w2 ⟨rfl, rfl⟩))
  all_goals
    go_ret
    exact ⟨ret_bool (by simp [fRight, mostS]; omega), ((((Below.refl _ _).alloc (Nat.le_refl _) _).trans (hb1.mono (by simp))).alloc (by omega) _)⟩
set_option maxHeartbeats 400000 in
theorem right_no (p s l : Int) (h6 : p ≠ 6) (h17 : p ≠ 17) (w : World) : Calls Try.prog 39 #[.agg #[.int .i64 p, .int .i64 s, .int .i64 l]] w fun e w' => e = .returned (.bool (fRight p s l)) ∧ Below w.heap.size w w' := by
  go_enter Try.func39, Try.ntmps39
  go_wp2_with (first | (go_at_call 37; refine (ruleOf_no p h6 h17 _).mono ?_; rintro e w1 ⟨rfl, hb1⟩; obtain ⟨hc1, hf1⟩ := bcell hb1; have hz1 : w.heap.size < w1.heap.size := by (have := hb1.size; simp at this; omega)) | (go_at_call 49; refine (clock_any _ _).mono ?_; rintro e w2 ⟨rfl, rfl⟩))
  all_goals
    go_ret
    exact ⟨ret_bool (by simp [fRight, h6, h17]), ((((Below.refl _ _).alloc (Nat.le_refl _) _).trans (hb1.mono (by simp))).alloc (by omega) _)⟩
theorem right_any (p s l : Int) (w : World) : Calls Try.prog 39 #[.agg #[.int .i64 p, .int .i64 s, .int .i64 l]] w fun e w' => e = .returned (.bool (fRight p s l)) ∧ Below w.heap.size w w' := by
  by_cases h6 : p = 6
  · subst h6; exact right_6 s l w
  by_cases h17 : p = 17
  · subst h17; exact right_17 s l w
  exact right_no p s l h6 h17 w
end Go.Proofs.Ytinfafnpbalihaa
