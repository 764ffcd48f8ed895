/- An argument that is a row of packets, as the law FlowRuns takes it. -/
import Derived.Test.YthafkjjbnbanmaaFF
import Derived.Deep.SlicePairs
import Derived.ProofKit
import Derived.SizedLaws
import Derived.OpenShut
namespace Go.Proofs.Ythafkjjbnbanmaa
open Go.RowKit Go.ChangeShapes Go.WideShapes Go.Deep
theorem cell_lt {w : World} {a : Addr} {v : Value} (h : w.cell? a = some v) : a.block < w.heap.size := by
  cases hb : w.heap[a.block]? with
  | none => unfold World.cell? at h; rw [hb] at h; simp at h
  | some o => exact lt_of_block hb
theorem cell_spot {w : World} {a : Addr} {v : Value} (h : w.cell? a = some v) : a.spot = none := by
  unfold World.cell? at h
  split at h
  · split at h
    · cases h
    · rename_i hs; simpa using hs
  · cases h
def intV : Value → Int | .int _ n => n | _ => 0
theorem packets_of {H : Type} {enc : TypeId × Value → H} {W : World} {a : Option Addr} {len cap : Nat} {d : DataW H} {p : List MemPlace} (h : DataW.Trod enc Try.prog W 0 (fun _ => true) true 43 (.slice a len cap) d p) :
    ∃ l : List (Int × Int), l.length = len ∧ WfRow l ∧ ArgRow W a l ∧ (len = 0 ∨ ∃ elems sp, d = .slice elems sp ∧ elems.length = len) := by
  obtain ⟨fuel, hf⟩ := h
  rcases open_slice_pairs Try.underlying43 Try.underlying46 (by kernel_rfl) rfl rfl (by kernel_rfl) (by kernel_rfl) hf with ⟨hcs, _⟩ | ⟨x, ln, cp, m, n, V0, V1, D0, D1, P0, P1, hcs, _, hl, _, hm, hx, hi⟩
  · simp [Value.cells] at hcs
    obtain ⟨rfl, rfl, rfl⟩ := hcs
    exact ⟨[], rfl, fun k hk => by simp at hk, .inl rfl, .inl rfl⟩
  · simp [Value.cells] at hcs
    obtain ⟨rfl, rfl, rfl⟩ := hcs
    have hml : len ≤ m := by rw [hm]; simpa using hl
    have each : ∀ i, i < len → W.cell? (x.add (i * 2)) = some (.int .i64 (intV (V0 i))) ∧ W.cell? (x.add (i * 2 + 1)) = some (.int .i64 (intV (V1 i))) ∧ (Lit.int .i64 (intV (V0 i))).wf = true ∧ (Lit.int .i64 (intV (V1 i))).wf = true := by
      intro i hlt
      obtain ⟨c0, c1, t0, t1⟩ := hi i (by omega)
      obtain ⟨n0, e0, _, w0⟩ := DataW.trod_int Try.underlying3 t0
      obtain ⟨n1, e1, _, w1⟩ := DataW.trod_int Try.underlying2 t1
      simp at e0 e1
      rw [c0, c1, e0, e1]
      exact ⟨rfl, rfl, w0, w1⟩
    refine ⟨(List.range len).map fun i => (intV (V0 i), intV (V1 i)), by simp, ?_, ?_, .inr ⟨_, _, (Prod.mk.inj hx).1, by simp⟩⟩
    · intro k hk
      have hk' : k < len := by simpa using hk
      obtain ⟨_, _, w0, w1⟩ := each k hk'
      have b0 := bounds_i64 w0
      have b1 := bounds_i64 w1
      have e : ((List.range len).map fun i => (intV (V0 i), intV (V1 i))).getD k (0, 0) = (intV (V0 k), intV (V1 k)) := by
        rw [List.getD_eq_getElem?_getD, List.getElem?_map, List.getElem?_range hk']; rfl
      rw [e]
      exact ⟨b0.1, b0.2, b1.2⟩
    · by_cases h0 : len = 0
      · left; subst h0; rfl
      · right
        have e0 := (each 0 (by omega)).1
        simp only [Nat.zero_mul, Addr.add, if_true] at e0
        have hs := cell_spot e0
        refine ⟨x.block, x.off, by rw [← hs], cell_lt e0, fun k hk => ?_⟩
        have hk' : k < len := by simpa using hk
        have e : ((List.range len).map fun i => (intV (V0 i), intV (V1 i))).getD k (0, 0) = (intV (V0 k), intV (V1 k)) := by
          rw [List.getD_eq_getElem?_getD, List.getElem?_map, List.getElem?_range hk']; rfl
        obtain ⟨c0, c1, _, _⟩ := each k hk'
        rw [e]
        have ad : ∀ j, x.add j = ⟨x.block, x.off + j, none⟩ := by
          intro j
          unfold Addr.add
          split
          · subst j; cases x; simp at hs; subst hs; rfl
          · rfl
        rw [ad] at c0 c1
        exact ⟨c0, by simpa [Nat.add_assoc] using c1⟩
end Go.Proofs.Ythafkjjbnbanmaa
