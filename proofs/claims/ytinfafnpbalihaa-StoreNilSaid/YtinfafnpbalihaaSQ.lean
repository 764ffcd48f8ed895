/- Store: StoreNil. -/
import Derived.Test.YtinfafnpbalihaaSP
set_option linter.unusedSimpArgs false
set_option linter.unusedVariables false
namespace Go.Proofs.Ytinfafnpbalihaa
open Go.RowKit Go.Maps Go.WideMaps Go.Proofs.YtinfafnpbalihaaW.PrintWords
theorem wpList_build4 {w : World} {ops : Array Oper} {rest : List Oper} {op : Oper} {a : Act} {Q : Exit → Act → World → Prop} (hw : Region.wanted op (yielded ops a.tmps) = true) (ty : TypeId) (x y z u : Operand) (hop : op.op = .build ty #[(0, x), (1, y), (2, z), (3, u)]) (p q r s : Value) (hx : a.eval x = p) (hy : a.eval y = q) (hz : a.eval z = r) (hu : a.eval u = s) (v : Value) (hr : (Instr.build ty #[(0, p), (1, q), (2, r), (3, s)]).run Try.prog w = .ok v w)
    (h : wpList Try.prog ops Q rest (a.put op.dst v) w) : wpList Try.prog ops Q (op :: rest) a w :=
  BigFrame.wpList_want hw fun _ hK => by
    subst hx; subst hy; subst hz; subst hu
    unfold Oper.wp execOp
    simp only [hop, Sem.run_bind, Sem.run_pure, List.map_toArray, List.map_cons, List.map_nil, hr, Result.andThen_ok]
    exact hK _ _ h
set_option maxHeartbeats 2000000 in
set_option maxRecDepth 100000 in
theorem taken_aux (ZC TZ : List Value) (w : World) (l2 : ZC.length = 42) (l1 : TZ.length = 37) (oz : ∀ v ∈ ZC, v.oneCell' = true)
    (HR : Aside0 (∀ Z : Array Value, Z.size = 42 → ((w.alloc (.cells ZC.toArray 38)).alloc (.cells Z 55)).rangeAt w.heap.size 0 TZ ∧ ∀ j, j < 5 → ((w.alloc (.cells ZC.toArray 38)).alloc (.cells Z 55)).cell? ⟨w.heap.size, 37 + j, none⟩ = some (.int .i64 0)))
    (HBU : Aside0 (∀ W, (Instr.build 55 #[(0, .agg TZ.toArray), (1, .int .i64 0), (2, .int .i64 0), (3, .agg #[.int .i64 0, .int .i64 0, .int .i64 0])]).run Try.prog W = .ok (.agg ZC.toArray) W)) :
    Calls Try.prog 17 #[.agg ZC.toArray] w (NilPost w (.agg ZC.toArray)) := by
  obtain ⟨Z55, hZ⟩ : ∃ Z55 : Array Value, Z55 = Pn.zero.cells.toArray := ⟨_, rfl⟩
  have hR := HR.out #[.bool false, .int .u8 0, .int .u8 0, .int .u8 0, .int .u8 0, .int .u8 0, .int .u8 0, .int .u8 0, .int .u8 0, .int .u8 0, .int .u8 0, .int .u8 0, .int .u8 0, .int .u8 0, .int .u8 0, .int .u8 0, .int .u8 0, .bool false, .int .u8 0, .int .u8 0, .int .u8 0, .int .u8 0, .int .u8 0, .int .u8 0, .int .u8 0, .int .u8 0, .int .u8 0, .int .u8 0, .int .u8 0, .int .u8 0, .int .u8 0, .int .u8 0, .int .u8 0, .int .u8 0, .int .i64 0, .int .i64 0, .int .i64 0, .int .i64 0, .int .i64 0, .int .i64 0, .int .i64 0, .int .i64 0] rfl
  have c37 := hR.2 0 (by omega)
  have c38 := hR.2 1 (by omega)
  have c39 := hR.2 2 (by omega)
  have c40 := hR.2 3 (by omega)
  have c41 := hR.2 4 (by omega)
  have KT := hR.1
  clear hR HR hZ
  go_enter Try.func17, Try.ntmps17
  go_wp2_with (first
    | (refine wpList_load_midG (by rfl) 33 _ rfl w.heap.size 0 rfl TZ _ KT Try.underlying33 rfl (by rw [l1]; exact size33) ?_)
    | (refine wpList_build4 (by rfl) 55 _ _ _ _ rfl (.agg TZ.toArray) (.int .i64 0) (.int .i64 0) (.agg #[.int .i64 0, .int .i64 0, .int .i64 0]) rfl rfl rfl rfl (.agg ZC.toArray) (HBU.out _) ?_)
    | (refine wpList_store_fr (by rfl) 55 _ _ rfl (w.heap.size + 1) 0 ZC rfl rfl (by rw [size_alloc1, size_alloc1]; omega) (by rw [l2]; exact there_blk (heap_alloc2_new w _ _) (Nat.le_refl _)) (by rw [l2]; exact size55) oz ?_; intro W8 hr8 hf8 hs8))
  have hl := run_loadVar_mid W8 (w.heap.size + 1) 0 55 ZC _ hr8 Try.underlying55 rfl (by rw [l2]; exact size55)
  refine bodyPost_ret (v := .agg ZC.toArray) (results_one rfl _ _ _ _ rfl hl) rfl ?_
  exact ⟨rfl, nil_bel hf8⟩
theorem taken_zero (w : World) : Calls Try.prog 17 #[.agg Pn.zero.cells.toArray] w (NilPost w (.agg Pn.zero.cells.toArray)) := by
  refine taken_aux Pn.zero.cells Pn.zero.t.cells w (Pn.len tz_ok) (Tup.len tz_ok) Pn.one ⟨fun Z hZ => ?_⟩ ⟨fun W => run_build W 55 _ _ built55⟩
  have hb := rangeAt_blk (heap_alloc2_old w (.cells Pn.zero.cells.toArray 38) (.cells Z 55))
  refine ⟨range_pre (r := [.int .i64 0, .int .i64 0, .int .i64 0, .int .i64 0, .int .i64 0]) hb, fun j hj => ?_⟩
  have := hb (37 + j) (.int .i64 0) (by
    rw [Pn.at_end tz_ok]
    match j, hj with
    | 0, _ => rfl
    | 1, _ => rfl
    | 2, _ => rfl
    | 3, _ => rfl
    | 4, _ => rfl)
  rwa [Nat.zero_add] at this
end Go.Proofs.Ytinfafnpbalihaa
