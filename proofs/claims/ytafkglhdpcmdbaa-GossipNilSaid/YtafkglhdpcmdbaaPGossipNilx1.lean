/- Written by a program of this session, over the kit's print: functions of the translation as Lean functions, and that their calls come to them. -/
import Derived.Test.YtafkglhdpcmdbaaPGossipNilx0
namespace Go.Proofs.Ytafkglhdpcmdbaa.PGossipNil
open Go.RowKit Go.Proofs.YtafkglhdpcmdbaaW.PrintWords Go.Proofs.YtafkglhdpcmdbaaW.PrintLast Go.Proofs.YtafkglhdpcmdbaaW.PrintMore
attribute [local go_sem] max2_int min2_int max_two min_two max_three min_three max_four min_four   -- for this text's walks alone
set_option linter.unusedVariables false
set_option linter.unusedSimpArgs false

/-! ### steelyardlaw15_GossipNil: function 7 -/
def steelyardlaw15_GossipNil.f (a0 : Int) (l1 : List Int) (a2 : Int) : Option (Bool) := some true
theorem steelyardlaw15_GossipNil.calls (a0 : Int) (A1 : Option Addr) (c1 : Nat) (l1 : List Int) (a2 : Int) (r : Bool) (w : World) (hr1 : Kd.C (Kd.int .u8) w A1 l1.length l1) (hc1 : l1.length ≤ c1) (h : steelyardlaw15_GossipNil.f a0 l1 a2 = some r) :
    Calls Try.prog 7 #[.int .i64 a0, .slice A1 l1.length c1, .int .i64 a2] w fun e w' => e = .returned (.bool r) ∧ Below w.heap.size w w' := by
  obtain rfl := Option.some.inj h
  exact nil_law a0 A1 _ c1 a2 w
def steelyardlaw15_GossipNil.Pure : Prop := ∀ (a0 : Int) (l1 : List Int) (a2 : Int), (Lit.int .i64 a0).wf = true → l1.length ≤ maxLen → l1.length * 1 ≤ 140737488351232 → (∀ x ∈ l1, (Lit.int .u8 x).wf = true) → (Lit.int .i64 a2).wf = true → steelyardlaw15_GossipNil.f a0 l1 a2 = some true
theorem steelyardlaw15_GossipNil.walk (P : steelyardlaw15_GossipNil.Pure) (a0 : Int) (a1 : Option Addr) (len1 cap1 : Nat) (z1 : List Int) (a2 : Int) (w : World) (w0 : (Lit.int .i64 a0).wf = true) (w1 : (a1 = none ∧ len1 = 0 ∧ cap1 = 0 ∧ z1 = []) ∨ ∃ x, a1 = some x ∧ len1 ≤ cap1 ∧ cap1 ≤ maxLen ∧ z1.length = cap1 ∧ (∀ i, i < z1.length → w.cell? (x.add i) = some (.int .u8 (z1.getD i 0))) ∧ ∀ n ∈ z1, (Lit.int .u8 n).wf = true) (y1 : len1 * 1 ≤ 140737488351232) (w2 : (Lit.int .i64 a2).wf = true) :
    Calls Try.prog 7 #[.int .i64 a0, .slice a1 len1 cap1, .int .i64 a2] w fun e w' => e = .returned (.bool true) ∧ Below w.heap.size w w' := by
  obtain ⟨l1, rfl, hr1, hm1, hw1, hc1⟩ := ReadsInt.ofRowC w1
  have h := P a0 l1 a2 w0 hm1 y1 hw1 w2
  refine (steelyardlaw15_GossipNil.calls a0 _ _ l1 a2 true w (Kd.C_of_reads (d := (0 : Int)) (h1 := fun _ => rfl) hr1) hc1 h).mono ?_
  rintro e w' ⟨rfl, hd⟩
  exact ⟨rfl, hd⟩

end Go.Proofs.Ytafkglhdpcmdbaa.PGossipNil
