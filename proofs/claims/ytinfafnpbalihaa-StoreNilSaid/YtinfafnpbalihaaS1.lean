/- Store: tuples kept whole; the small functions over them. -/
import Derived.Test.YtinfafnpbalihaaF5
import Derived.Test.YtinfafnpbalihaaH
import Derived.Test.YtinfafnpbalihaaPlan2
import Derived.Deep.MidRow
import Derived.Deep.WholeRow
import Derived.Maps.Keyed
import Derived.Maps.OwnSet
import Derived.Maps.RangeWalk
import Derived.DeepKeys5
import Derived.Deep.DeepCutAuto
import Derived.Deep.CutBlock
set_option linter.unusedSimpArgs false
set_option linter.unusedVariables false
namespace Go.Proofs.Ytinfafnpbalihaa
open Go.RowKit Go.Maps Go.WideMaps Go.Proofs.YtinfafnpbalihaaW.PrintWords
theorem laidOut : laidOutB Try.prog = true := by kernel_rfl
theorem law33 : Keyed Try.prog 33 := Keyed.of_law (deep_law_gate laidOut (of_decide_eq_true (by kernel_rfl)) (of_decide_eq_true (by kernel_rfl)) (by kernel_rfl) (by kernel_rfl))
theorem law73 : Keyed Try.prog 73 := Keyed.of_law (deep_law_gate laidOut (of_decide_eq_true (by kernel_rfl)) (of_decide_eq_true (by kernel_rfl)) (by kernel_rfl) (by kernel_rfl))
theorem size33 : (Try.prog.info? 33).map (·.size) = some 37 := by kernel_rfl
theorem size38 : (Try.prog.info? 38).map (·.size) = some 42 := by kernel_rfl
theorem size31 : (Try.prog.info? 31).map (·.size) = some 17 := by kernel_rfl
set_option maxHeartbeats 400000 in
theorem sclock_any (n : Int) (w : World) : Calls Try.prog 22 #[.int .i64 n] w fun e w' => e = .returned (.bool (clkB n)) ∧ w = w' := by
  by_cases h0 : 0 ≤ n
  · by_cases h1 : n ≤ 1099511627776
    · have hb := clkB_t h0 h1
      rw [hb]; clear hb
      go_enter Try.func22, Try.ntmps22
      go_wp2
      go_ret
      exact ⟨rfl, rfl⟩
    · have hb := clkB_f (n := n) (fun h => h1 h.2)
      rw [hb]; clear hb
      go_enter Try.func22, Try.ntmps22
      go_wp2
      go_ret
      exact ⟨rfl, rfl⟩
  · have hb := clkB_f (n := n) (fun h => h0 h.1)
    rw [hb]; clear hb
    go_enter Try.func22, Try.ntmps22
    go_wp2
    go_ret
    exact ⟨rfl, rfl⟩
set_option maxHeartbeats 400000 in
theorem port_any (n : Int) (w : World) : Calls Try.prog 35 #[.int .i64 n] w fun e w' => e = .returned (.bool (decide (0 ≤ n ∧ n ≤ 65535))) ∧ w = w' := by
  by_cases h0 : 0 ≤ n
  · by_cases h1 : n ≤ 65535
    · rw [decide_eq_true ⟨h0, h1⟩]
      go_enter Try.func35, Try.ntmps35
      go_wp2
      go_ret
      exact ⟨rfl, rfl⟩
    · rw [decide_eq_false (fun h => h1 h.2)]
      go_enter Try.func35, Try.ntmps35
      go_wp2
      go_ret
      exact ⟨rfl, rfl⟩
  · rw [decide_eq_false (fun h => h0 h.1)]
    go_enter Try.func35, Try.ntmps35
    go_wp2
    go_ret
    exact ⟨rfl, rfl⟩
/-- an address's cells: a bool and sixteen bytes -/
structure AddrOk (cs : List Value) (v6 : Bool) : Prop where
  len : cs.length = 17
  v6 : cs[0]? = some (.bool v6)
  bytes : ∀ i, i < 16 → ∃ n : Int, cs[1 + i]? = some (.int .u8 n) ∧ 0 ≤ n ∧ n ≤ 255
set_option maxHeartbeats 400000 in
set_option maxRecDepth 100000 in
theorem size_any (cs : Array Value) (v6 : Bool) (h : AddrOk cs.toList v6) (w : World) : Calls Try.prog 46 #[.agg cs] w fun e w' => e = .returned (.int .i64 (if v6 = true then 16 else 4)) ∧ Below w.heap.size w w' := by
  have h0 : cs[0]? = some (.bool v6) := by have := h.v6; rwa [Array.getElem?_toList] at this
  have hn := heap_alloc_new w (.cells cs 31)
  have c0 : (w.alloc (.cells cs 31)).cell? ⟨w.heap.size, 0, none⟩ = some (.bool v6) := (blk_cell hn 0).trans h0
  have HB := Aside0.mk (below_alloc (Below.refl w.heap.size w) (.cells cs 31))
  clear h h0 hn
  cases v6 with
  | true =>
    go_enter Try.func46, Try.ntmps46
    go_wp2_with fail
    go_ret
    exact ⟨rfl, HB.out⟩
  | false =>
    go_enter Try.func46, Try.ntmps46
    go_wp2_with fail
    go_ret
    exact ⟨rfl, HB.out⟩
end Go.Proofs.Ytinfafnpbalihaa
