/- Contracts of layer flow's functions. -/
import Derived.Test.YtinfafnpbalihaaF2
namespace Go.Proofs.Ytinfafnpbalihaa
open Go.RowKit

def fIdle (p : Int) : Int := if p = 6 then 60 else 20
def fEnd (p s l : Int) : Int := if fRight p s l = true ∧ s ≠ 3 then l + fIdle p + 1 else 0
def fLive (p s l n : Int) : Bool := fRight p s l && (decide (l ≤ n) && decide (n < fEnd p s l))
theorem fRight_bd {p s l : Int} (h : fRight p s l = true) : (p = 6 ∨ p = 17) ∧ 1 ≤ s ∧ s ≤ mostS p ∧ 0 ≤ l ∧ l ≤ 1099511627776 := by
  unfold fRight clkB at h; simp at h; omega
def fWrong (f flags now : Int) : Bool := !(decide (0 ≤ flags ∧ flags ≤ f) && clkB now)

theorem step_below {B : Nat} {w u u' : World} (h : Below B w u) (hb : Below u.heap.size u u') (hB : B ≤ u.heap.size) : Below B w u' := h.trans (hb.mono hB)

theorem wrong_close (f flags : Int) (c r : Bool) (h : r = (decide (flags < 0) || decide (f < flags) || !c)) : r = !(decide (0 ≤ flags ∧ flags ≤ f) && c) := by
  subst h
  rw [Bool.eq_iff_iff]
  cases c <;> simp <;> omega
set_option maxHeartbeats 400000 in
theorem wrong_any (i m f flags now : Int) (g : Value) (w : World) : Calls Try.prog 38 #[.agg #[.int .i64 i, .int .i64 m, .int .i64 f, g], .int .i64 flags, .int .i64 now] w fun e w' => e = .returned (.bool (fWrong f flags now)) ∧ Below w.heap.size w w' := by
  go_enter Try.func38, Try.ntmps38
  go_wp2_with (first | (go_at_call 49; refine (clock_any _ _).mono ?_; rintro e w2 ⟨rfl, rfl⟩))
  all_goals
    go_ret
    exact ⟨ret_bool (wrong_close _ _ _ _ (by first | rfl | (simp; left; omega))), (Below.refl _ _).alloc (Nat.le_refl _) _⟩
set_option maxHeartbeats 400000 in
theorem end_f (p s l : Int) (h : fRight p s l = false) (w : World) : Calls Try.prog 40 #[.agg #[.int .i64 p, .int .i64 s, .int .i64 l]] w fun e w' => e = .returned (.int .i64 (fEnd p s l)) ∧ Below w.heap.size w w' := by
  go_enter Try.func40, Try.ntmps40
  go_wp2_with (first | (go_at_call 39; refine (right_any _ _ _ _).mono ?_; rintro e w1 ⟨rfl, hb1⟩; obtain ⟨hc1, hf1⟩ := bcell hb1; have hz1 : w.heap.size < w1.heap.size := by (have := hb1.size; simp at this; omega)))
  go_ret
  exact ⟨ret_int (by simp [fEnd, h]), step_below ((Below.refl _ _).alloc (Nat.le_refl _) _) hb1 (by simp)⟩
set_option maxHeartbeats 400000 in
theorem end_3 (p l : Int) (h : fRight p 3 l = true) (w : World) : Calls Try.prog 40 #[.agg #[.int .i64 p, .int .i64 3, .int .i64 l]] w fun e w' => e = .returned (.int .i64 (fEnd p 3 l)) ∧ Below w.heap.size w w' := by
  go_enter Try.func40, Try.ntmps40
  go_wp2_with (first | (go_at_call 39; refine (right_any _ _ _ _).mono ?_; rintro e w1 ⟨rfl, hb1⟩; obtain ⟨hc1, hf1⟩ := bcell hb1; have hz1 : w.heap.size < w1.heap.size := by (have := hb1.size; simp at this; omega)))
  go_ret
  exact ⟨ret_int (by simp [fEnd]), step_below ((Below.refl _ _).alloc (Nat.le_refl _) _) hb1 (by simp)⟩
set_option maxHeartbeats 400000 in
theorem end_6 (s l : Int) (h : fRight 6 s l = true) (h3 : s ≠ 3) (w : World) : Calls Try.prog 40 #[.agg #[.int .i64 6, .int .i64 s, .int .i64 l]] w fun e w' => e = .returned (.int .i64 (fEnd 6 s l)) ∧ Below w.heap.size w w' := by
  have hbd := fRight_bd h
  obtain ⟨_, _, _, b1, b2⟩ := hbd
  go_enter Try.func40, Try.ntmps40
  go_wp2_with (first | (go_at_call 39; refine (right_any _ _ _ _).mono ?_; rintro e w1 ⟨rfl, hb1⟩; obtain ⟨hc1, hf1⟩ := bcell hb1; have hz1 : w.heap.size < w1.heap.size := by (have := hb1.size; simp at this; omega)) | (go_at_call 37; refine (ruleOf_6 _).mono ?_; rintro e w2 ⟨rfl, hb2⟩; obtain ⟨hc2, hf2⟩ := bcell hb2; have hz2 : w.heap.size < w2.heap.size := by (have := hb2.size; omega)))
  go_ret
  exact ⟨ret_int (by simp [fEnd, h, h3, fIdle]), (step_below (step_below ((Below.refl _ _).alloc (Nat.le_refl _) _) hb1 (by simp)) hb2 (by omega)).alloc (by omega) _⟩
set_option maxHeartbeats 400000 in
theorem end_17 (s l : Int) (h : fRight 17 s l = true) (h3 : s ≠ 3) (w : World) : Calls Try.prog 40 #[.agg #[.int .i64 17, .int .i64 s, .int .i64 l]] w fun e w' => e = .returned (.int .i64 (fEnd 17 s l)) ∧ Below w.heap.size w w' := by
  have hbd := fRight_bd h
  obtain ⟨_, _, _, b1, b2⟩ := hbd
  go_enter Try.func40, Try.ntmps40
  go_wp2_with (first | (go_at_call 39; refine (right_any _ _ _ _).mono ?_; rintro e w1 ⟨rfl, hb1⟩; obtain ⟨hc1, hf1⟩ := bcell hb1; have hz1 : w.heap.size < w1.heap.size := by (have := hb1.size; simp at this; omega)) | (go_at_call 37; refine (ruleOf_17 _).mono ?_; rintro e w2 ⟨rfl, hb2⟩; obtain ⟨hc2, hf2⟩ := bcell hb2; have hz2 : w.heap.size < w2.heap.size := by (have := hb2.size; omega)))
  go_ret
  exact ⟨ret_int (by simp [fEnd, h, h3, fIdle]), (step_below (step_below ((Below.refl _ _).alloc (Nat.le_refl _) _) hb1 (by simp)) hb2 (by omega)).alloc (by omega) _⟩
theorem end_any (p s l : Int) (w : World) : Calls Try.prog 40 #[.agg #[.int .i64 p, .int .i64 s, .int .i64 l]] w fun e w' => e = .returned (.int .i64 (fEnd p s l)) ∧ Below w.heap.size w w' := by
  cases h : fRight p s l with
  | false => exact end_f p s l h w
  | true =>
    by_cases h3 : s = 3
    · subst h3; exact end_3 p l h w
    rcases (fRight_bd h).1 with rfl | rfl
    · exact end_6 s l h h3 w
    · exact end_17 s l h h3 w
set_option maxHeartbeats 400000 in
theorem live_any (p s l n : Int) (w : World) : Calls Try.prog 29 #[.agg #[.int .i64 p, .int .i64 s, .int .i64 l], .int .i64 n] w fun e w' => e = .returned (.bool (fLive p s l n)) ∧ Below w.heap.size w w' := by
  by_cases h : fRight p s l = true
  · by_cases hl : l ≤ n
    · go_enter Try.func29, Try.ntmps29
      go_wp2_with (first | (go_at_call 39; refine (right_any _ _ _ _).mono ?_; rintro e w1 ⟨rfl, hb1⟩; obtain ⟨hc1, hf1⟩ := bcell hb1; have hz1 : w.heap.size < w1.heap.size := by (have := hb1.size; simp at this; omega)) | (go_at_call 40; refine (end_any _ _ _ _).mono ?_; rintro e w2 ⟨rfl, hb2⟩))
      go_ret
      exact ⟨ret_bool (by simp [fLive, h, hl]), step_below (step_below ((Below.refl _ _).alloc (Nat.le_refl _) _) hb1 (by simp)) hb2 (by omega)⟩
    · go_enter Try.func29, Try.ntmps29
      go_wp2_with (first | (go_at_call 39; refine (right_any _ _ _ _).mono ?_; rintro e w1 ⟨rfl, hb1⟩; obtain ⟨hc1, hf1⟩ := bcell hb1; have hz1 : w.heap.size < w1.heap.size := by (have := hb1.size; simp at this; omega)) | (go_at_call 40; refine (end_any _ _ _ _).mono ?_; rintro e w2 ⟨rfl, hb2⟩))
      go_ret
      exact ⟨ret_bool (by have hl' : ¬ l ≤ n := by omega
                          simp [fLive, hl']), step_below ((Below.refl _ _).alloc (Nat.le_refl _) _) hb1 (by simp)⟩
  · have h' : fRight p s l = false := by simpa using h
    go_enter Try.func29, Try.ntmps29
    go_wp2_with (first | (go_at_call 39; refine (right_any _ _ _ _).mono ?_; rintro e w1 ⟨rfl, hb1⟩; obtain ⟨hc1, hf1⟩ := bcell hb1; have hz1 : w.heap.size < w1.heap.size := by (have := hb1.size; simp at this; omega)) | (go_at_call 40; refine (end_any _ _ _ _).mono ?_; rintro e w2 ⟨rfl, hb2⟩))
    go_ret
    exact ⟨ret_bool (by simp [fLive, h']), step_below ((Below.refl _ _).alloc (Nat.le_refl _) _) hb1 (by simp)⟩
end Go.Proofs.Ytinfafnpbalihaa
