/- Store: a store that is not there. -/
import Derived.Test.YtinfafnpbalihaaSJ
set_option linter.unusedSimpArgs false
set_option linter.unusedVariables false
namespace Go.Proofs.Ytinfafnpbalihaa
open Go.RowKit Go.Maps Go.WideMaps Go.Proofs.YtinfafnpbalihaaW.PrintWords
def NilPost (w : World) (v : Value) (e : Ending) (w' : World) : Prop := e = .returned v ∧ Below w.heap.size w w'
theorem nil_bel {w W8 : World} {o o' : Obj} (hf : Fr (fun k => k = w.heap.size + 1) ((w.alloc o).alloc o') W8) : Below w.heap.size w W8 :=
  (((Below.refl _ _).alloc (Nat.le_refl _) o).alloc (by rw [size_alloc1]; omega) o').trans (hf.below (fun k hk e => by omega) (by rw [size_alloc1, size_alloc1]; omega))
set_option maxHeartbeats 1000000 in
set_option maxRecDepth 100000 in
theorem nil_packet (cs : Array Value) (f n u : Int) (w : World) : Calls Try.prog 11 #[.pointer none, .agg cs, .int .i64 f, .int .i64 n, .int .i64 u] w (NilPost w (.tuple #[.agg Pn.zero.cells.toArray, .int .i64 2])) := by
  go_enter Try.func11, Try.ntmps11
  go_wp2_with (first
    | (refine wpList_store_fr (by rfl) 38 _ _ rfl (w.heap.size + 1) 0 Pn.zero.cells rfl rfl (by rw [size_alloc1, size_alloc1]; omega) (there_blk (heap_alloc2_new w _ _) (Nat.le_refl _)) size38 Pn.one ?_; intro W8 hr8 hf8 hs8))
  have hl := run_loadVar_mid W8 (w.heap.size + 1) 0 38 Pn.zero.cells _ hr8 Try.underlying38 rfl size38
  refine bodyPost_ret (v := .tuple #[.agg Pn.zero.cells.toArray, .int .i64 2]) (results_two rfl _ _ _ _ _ rfl rfl hl) rfl ?_
  exact ⟨rfl, nil_bel hf8⟩
set_option maxHeartbeats 1000000 in
set_option maxRecDepth 100000 in
theorem nil_begin (cs : Array Value) (f n u b g : Int) (w : World) : Calls Try.prog 10 #[.pointer none, .agg cs, .int .i64 f, .int .i64 n, .int .i64 u, .int .i64 b, .int .i64 g] w (NilPost w (.tuple #[.agg Pn.zero.cells.toArray, .int .i64 2])) := by
  go_enter Try.func10, Try.ntmps10
  go_wp2_with (first
    | (refine wpList_store_fr (by rfl) 38 _ _ rfl (w.heap.size + 1) 0 Pn.zero.cells rfl rfl (by rw [size_alloc1, size_alloc1]; omega) (there_blk (heap_alloc2_new w _ _) (Nat.le_refl _)) size38 Pn.one ?_; intro W8 hr8 hf8 hs8))
  have hl := run_loadVar_mid W8 (w.heap.size + 1) 0 38 Pn.zero.cells _ hr8 Try.underlying38 rfl size38
  refine bodyPost_ret (v := .tuple #[.agg Pn.zero.cells.toArray, .int .i64 2]) (results_two rfl _ _ _ _ _ rfl rfl hl) rfl ?_
  exact ⟨rfl, nil_bel hf8⟩
set_option maxHeartbeats 1000000 in
set_option maxRecDepth 100000 in
theorem nil_get (cs : Array Value) (n : Int) (w : World) : Calls Try.prog 16 #[.pointer none, .agg cs, .int .i64 n] w (NilPost w (.tuple #[.agg Pn.zero.cells.toArray, .bool false])) := by
  go_enter Try.func16, Try.ntmps16
  go_wp2_with (first
    | (refine wpList_store_fr (by rfl) 38 _ _ rfl (w.heap.size + 1) 0 Pn.zero.cells rfl rfl (by rw [size_alloc1, size_alloc1]; omega) (there_blk (heap_alloc2_new w _ _) (Nat.le_refl _)) size38 Pn.one ?_; intro W8 hr8 hf8 hs8))
  have hl := run_loadVar_mid W8 (w.heap.size + 1) 0 38 Pn.zero.cells _ hr8 Try.underlying38 rfl size38
  refine bodyPost_ret (v := .tuple #[.agg Pn.zero.cells.toArray, .bool false]) (results_two rfl _ _ _ _ _ rfl rfl hl) rfl ?_
  exact ⟨rfl, nil_bel hf8⟩
set_option maxHeartbeats 1000000 in
theorem nil_until (b g : Int) (w : World) : Calls Try.prog 18 #[.pointer none, .int .i64 b, .int .i64 g] w (NilPost w (.int .i64 0)) := by
  go_enter Try.func18, Try.ntmps18
  go_wp2_with fail
  go_ret
  exact ⟨rfl, Below.refl _ _⟩
set_option maxHeartbeats 1000000 in
theorem nil_busy (b g n : Int) (w : World) : Calls Try.prog 12 #[.pointer none, .int .i64 b, .int .i64 g, .int .i64 n] w (NilPost w (.bool false)) := by
  go_enter Try.func12, Try.ntmps12
  go_wp2_with fail
  go_ret
  exact ⟨rfl, Below.refl _ _⟩
set_option maxHeartbeats 1000000 in
theorem nil_list (n : Int) (w : World) : Calls Try.prog 20 #[.pointer none, .int .i64 n] w (NilPost w (.slice none 0 0)) := by
  go_enter Try.func20, Try.ntmps20
  go_wp2_with fail
  go_ret
  exact ⟨rfl, by first | exact Below.refl _ _ | exact below_alloc (Below.refl _ _) _⟩
set_option maxHeartbeats 1000000 in
theorem nil_sweep (n : Int) (w : World) : Calls Try.prog 19 #[.pointer none, .int .i64 n] w (NilPost w (.int .i64 0)) := by
  have HB := Aside0.mk (below_alloc (Below.refl w.heap.size w) (.cells #[.int .i64 n] 2))
  go_enter Try.func19, Try.ntmps19
  go_wp2_with fail
  go_ret
  exact ⟨rfl, HB.out⟩
set_option maxHeartbeats 1000000 in
theorem nil_count (cs : Array Value) (w : World) : Calls Try.prog 26 #[.pointer none, .agg cs] w (NilPost w (.int .i64 0)) := by
  have HB := Aside0.mk (below_alloc (Below.refl w.heap.size w) (.cells cs 77))
  go_enter Try.func26, Try.ntmps26
  go_wp2_with fail
  go_ret
  exact ⟨rfl, HB.out⟩
set_option maxHeartbeats 1000000 in
theorem nil_len (n : Int) (w : World) : Calls Try.prog 14 #[.pointer none, .int .i64 n] w (NilPost w (.int .i64 0)) := by
  have H := Aside0.mk (fun cs => nil_count cs w)
  go_enter Try.func14, Try.ntmps14
  go_wp2_with fail
  refine (H.out _).mono ?_
  rintro e w1 ⟨rfl, hb⟩
  have HB := Aside0.mk hb
  clear hb
  go_wp2_with fail
  go_ret
  exact ⟨rfl, HB.out⟩
set_option maxHeartbeats 1000000 in
theorem nil_cnt (b g n : Int) (w : World) : Calls Try.prog 15 #[.pointer none, .int .i64 b, .int .i64 g, .int .i64 n] w (NilPost w (.int .i64 0)) := by
  have b1 : Below w.heap.size w ((w.alloc (.cells #[.int .i64 b] 3)).alloc (.cells #[.int .i64 g] 2)) := ((Below.refl _ _).alloc (Nat.le_refl _) _).alloc (by rw [size_alloc1]; omega) _
  have H := Aside0.mk (fun cs => nil_count cs ((w.alloc (.cells #[.int .i64 b] 3)).alloc (.cells #[.int .i64 g] 2)))
  have HB1 := Aside0.mk b1
  clear b1
  go_enter Try.func15, Try.ntmps15
  go_wp2_with fail
  refine (H.out _).mono ?_
  rintro e w1 ⟨rfl, hb⟩
  have HB := Aside0.mk (HB1.out.trans (hb.mono HB1.out.size))
  clear hb
  go_wp2_with fail
  go_ret
  exact ⟨rfl, HB.out⟩
theorem eq55 (w : World) : (Op.equalIn 10000 55 (.agg Pn.zero.cells.toArray) (.agg Pn.zero.cells.toArray)).run Try.prog w = .ok true w := by kernel_rfl
theorem size55 : (Try.prog.info? 55).map (·.size) = some 42 := by kernel_rfl
theorem eqg55 : Try.prog.eqGuardType Try.prog.depth 55 = false := by kernel_rfl
theorem built55 : Try.prog.built 55 [(0, .agg Pn.zero.t.cells.toArray), (1, .int .i64 0), (2, .int .i64 0), (3, .agg #[.int .i64 0, .int .i64 0, .int .i64 0])] = some Pn.zero.cells.toArray := by kernel_rfl
end Go.Proofs.Ytinfafnpbalihaa
