/- How often news are told among any number is what the reference says, for every number; the fixed calls come to what they should. -/
import Derived.Test.YtafkglhdpcmdbaaPGossipTimesx1
namespace Go.Proofs.Ytafkglhdpcmdbaa.Pure
open Go.RowKit Go.Proofs.Ytafkglhdpcmdbaa.PGossipTimes Go.Proofs.YtafkglhdpcmdbaaW.PrintWords Go.Proofs.YtafkglhdpcmdbaaW.PrintLast


theorem w64 {n : Int} (h : -9223372036854775808 ≤ n) (k : n ≤ 9223372036854775807) : wrap64 n = n := by unfold wrap64; omega
def tk (a : Int) : Nat → Nat → Nat
  | 0, k => k
  | n + 1, k => if (2 : Int) ^ k ≤ a then tk a n (k + 1) else k
theorem shr_pos (a : Int) (k : Nat) (hk : k < 63) : (shr .i64 a (k : Int)) > 0 ↔ (2 : Int) ^ k ≤ a := by
  unfold shr
  rw [Int.toNat_natCast, Nat.min_eq_left (by show k ≤ 64; omega)]
  have hp : (0 : Int) < 2 ^ k := Int.pow_pos (by decide)
  have := Int.le_ediv_iff_mul_le (a := 1) (b := a) hp
  rw [Int.one_mul] at this
  omega
theorem times_ev (a : Int) : ∀ n k : Nat, k + n = 63 → Ev (fun K => gossip_Times.l0 K a (k : Int)) (3 * (tk a n k : Int))
  | 0, k, h => by
    refine ⟨1, fun K hK => ?_⟩
    obtain ⟨K, rfl⟩ : ∃ m, K = m + 1 := ⟨K - 1, by omega⟩
    simp only [gossip_Times.l0]
    rw [if_neg (by omega), w64 (by omega) (by omega)]; rfl
  | n + 1, k, h => by
    have hs := shr_pos a k (by omega)
    simp only [tk]
    by_cases hc : (2 : Int) ^ k ≤ a
    · rw [if_pos hc]
      refine Ev.step (fun K => ?_) (times_ev a n (k + 1) (by omega))
      simp only [gossip_Times.l0]
      rw [if_pos (by omega), if_pos (by omega), if_pos (hs.2 hc), w64 (by omega) (by omega)]; rfl
    · rw [if_neg hc]
      refine ⟨1, fun K hK => ?_⟩
      obtain ⟨K, rfl⟩ : ∃ m, K = m + 1 := ⟨K - 1, by omega⟩
      simp only [gossip_Times.l0]
      rw [if_pos (by omega), if_pos (by omega), if_neg (fun h => hc (hs.1 h)), w64 (by omega) (by omega)]
theorem shl_pow (k : Nat) (hk : k < 62) : shl .i64 1 (IntKind.u64.wrap (k : Int)) = (2 : Int) ^ k := by
  have hu : IntKind.u64.wrap (k : Int) = (k : Int) := by simp [IntKind.wrap, IntKind.bits, IntKind.signed]; omega
  rw [hu]
  unfold shl
  rw [Int.toNat_natCast, Nat.min_eq_left (by show k ≤ 64; omega), Int.one_mul, IntKind.wrap_i64]
  have hp : (0 : Int) < 2 ^ k := Int.pow_pos (by decide)
  have hq : (2 : Nat) ^ k ≤ 2 ^ 61 := Nat.pow_le_pow_right (by decide) (by omega)
  have hq' : (2 : Int) ^ k ≤ 2 ^ 61 := by exact_mod_cast hq
  omega
theorem rtimes_ev (a : Int) : ∀ n k : Nat, k + (n + 1) = 63 → Ev (fun K => steelyardref15_Times.l0 K a (k : Int)) (3 * (tk a (n + 1) k : Int))
  | 0, k, h => by
    refine ⟨1, fun K hK => ?_⟩
    obtain ⟨K, rfl⟩ : ∃ m, K = m + 1 := ⟨K - 1, by omega⟩
    obtain rfl : k = 62 := by omega
    simp only [steelyardref15_Times.l0, tk]
    rw [if_neg (by omega)]
    by_cases hc : (2 : Int) ^ 62 ≤ a
    · rw [if_pos hc, if_pos (by omega)]; rfl
    · rw [if_neg hc, if_neg (by omega), w64 (by omega) (by omega)]
  | n + 1, k, h => by
    have hu : IntKind.u64.wrap (k : Int) = (k : Int) := by simp [IntKind.wrap, IntKind.bits, IntKind.signed]; omega
    have hs := shl_pow k (by omega)
    rw [tk]
    by_cases hc : (2 : Int) ^ k ≤ a
    · rw [if_pos hc]
      refine Ev.step (fun K => ?_) (rtimes_ev a n (k + 1) (by omega))
      simp only [steelyardref15_Times.l0]
      rw [if_pos (by omega), if_pos (by rw [hu]; omega), hs, if_pos hc, w64 (by omega) (by omega)]; rfl
    · rw [if_neg hc]
      refine ⟨1, fun K hK => ?_⟩
      obtain ⟨K, rfl⟩ : ∃ m, K = m + 1 := ⟨K - 1, by omega⟩
      have hq : (2 : Nat) ^ k ≤ 2 ^ 61 := Nat.pow_le_pow_right (by decide) (by omega)
      have hq' : (2 : Int) ^ k ≤ 2 ^ 61 := by exact_mod_cast hq
      simp only [steelyardref15_Times.l0]
      rw [if_pos (by omega), if_pos (by rw [hu]; omega), hs, if_neg hc, if_neg (by omega), w64 (by omega) (by omega)]
theorem GossipTimes : steelyardlaw15_GossipTimes.Pure := by
  intro a _
  obtain ⟨K1, h1⟩ := times_ev a 62 1 (by omega)
  obtain ⟨K2, h2⟩ := rtimes_ev a 61 1 (by omega)
  have h1 : ∀ k, K1 ≤ k → gossip_Times.f k a = _ := h1
  have h2 : ∀ k, K2 ≤ k → steelyardref15_Times.f k a = _ := h2
  refine ⟨K1 + K2, ?_⟩
  unfold steelyardlaw15_GossipTimes.f
  rw [h1 _ (by omega), h2 _ (by omega)]
  simp only [Option.bind_some]
  rw [if_pos trivial]
  rfl

end Go.Proofs.Ytafkglhdpcmdbaa.Pure
