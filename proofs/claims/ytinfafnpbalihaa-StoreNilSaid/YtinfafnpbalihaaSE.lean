/- Store: a pin is built. -/
import Derived.Test.YtinfafnpbalihaaSD
set_option linter.unusedSimpArgs false
set_option linter.unusedVariables false
namespace Go.Proofs.Ytinfafnpbalihaa
open Go.RowKit Go.Maps Go.WideMaps Go.Proofs.YtinfafnpbalihaaW.PrintWords
set_option maxRecDepth 100000 in
theorem built38 (v0 v1 v2 v3 v4 v5 v6 v7 v8 v9 v10 v11 v12 v13 v14 v15 v16 v17 v18 v19 v20 v21 v22 v23 v24 v25 v26 v27 v28 v29 v30 v31 v32 v33 v34 v35 v36 : Value) (b g : Int) : Try.prog.built 38 [(0, .agg #[v0, v1, v2, v3, v4, v5, v6, v7, v8, v9, v10, v11, v12, v13, v14, v15, v16, v17, v18, v19, v20, v21, v22, v23, v24, v25, v26, v27, v28, v29, v30, v31, v32, v33, v34, v35, v36]), (1, .int .i64 b), (2, .int .i64 g)] = some #[v0, v1, v2, v3, v4, v5, v6, v7, v8, v9, v10, v11, v12, v13, v14, v15, v16, v17, v18, v19, v20, v21, v22, v23, v24, v25, v26, v27, v28, v29, v30, v31, v32, v33, v34, v35, v36, .int .i64 b, .int .i64 g, .int .i64 0, .int .i64 0, .int .i64 0] := by
  kernel_rfl
theorem cons_len {n : Nat} {l : List Value} (h : l.length = n + 1) : ∃ a r, l = a :: r ∧ r.length = n := by
  cases l with
  | nil => cases h
  | cons a r => exact ⟨a, r, rfl, by simpa using h⟩
theorem list37 {l : List Value} (h : l.length = 37) : ∃ v0 v1 v2 v3 v4 v5 v6 v7 v8 v9 v10 v11 v12 v13 v14 v15 v16 v17 v18 v19 v20 v21 v22 v23 v24 v25 v26 v27 v28 v29 v30 v31 v32 v33 v34 v35 v36, l = [v0, v1, v2, v3, v4, v5, v6, v7, v8, v9, v10, v11, v12, v13, v14, v15, v16, v17, v18, v19, v20, v21, v22, v23, v24, v25, v26, v27, v28, v29, v30, v31, v32, v33, v34, v35, v36] := by
  obtain ⟨v0, r0, rfl, h1⟩ := cons_len h
  obtain ⟨v1, r1, rfl, h2⟩ := cons_len h1
  obtain ⟨v2, r2, rfl, h3⟩ := cons_len h2
  obtain ⟨v3, r3, rfl, h4⟩ := cons_len h3
  obtain ⟨v4, r4, rfl, h5⟩ := cons_len h4
  obtain ⟨v5, r5, rfl, h6⟩ := cons_len h5
  obtain ⟨v6, r6, rfl, h7⟩ := cons_len h6
  obtain ⟨v7, r7, rfl, h8⟩ := cons_len h7
  obtain ⟨v8, r8, rfl, h9⟩ := cons_len h8
  obtain ⟨v9, r9, rfl, h10⟩ := cons_len h9
  obtain ⟨v10, r10, rfl, h11⟩ := cons_len h10
  obtain ⟨v11, r11, rfl, h12⟩ := cons_len h11
  obtain ⟨v12, r12, rfl, h13⟩ := cons_len h12
  obtain ⟨v13, r13, rfl, h14⟩ := cons_len h13
  obtain ⟨v14, r14, rfl, h15⟩ := cons_len h14
  obtain ⟨v15, r15, rfl, h16⟩ := cons_len h15
  obtain ⟨v16, r16, rfl, h17⟩ := cons_len h16
  obtain ⟨v17, r17, rfl, h18⟩ := cons_len h17
  obtain ⟨v18, r18, rfl, h19⟩ := cons_len h18
  obtain ⟨v19, r19, rfl, h20⟩ := cons_len h19
  obtain ⟨v20, r20, rfl, h21⟩ := cons_len h20
  obtain ⟨v21, r21, rfl, h22⟩ := cons_len h21
  obtain ⟨v22, r22, rfl, h23⟩ := cons_len h22
  obtain ⟨v23, r23, rfl, h24⟩ := cons_len h23
  obtain ⟨v24, r24, rfl, h25⟩ := cons_len h24
  obtain ⟨v25, r25, rfl, h26⟩ := cons_len h25
  obtain ⟨v26, r26, rfl, h27⟩ := cons_len h26
  obtain ⟨v27, r27, rfl, h28⟩ := cons_len h27
  obtain ⟨v28, r28, rfl, h29⟩ := cons_len h28
  obtain ⟨v29, r29, rfl, h30⟩ := cons_len h29
  obtain ⟨v30, r30, rfl, h31⟩ := cons_len h30
  obtain ⟨v31, r31, rfl, h32⟩ := cons_len h31
  obtain ⟨v32, r32, rfl, h33⟩ := cons_len h32
  obtain ⟨v33, r33, rfl, h34⟩ := cons_len h33
  obtain ⟨v34, r34, rfl, h35⟩ := cons_len h34
  obtain ⟨v35, r35, rfl, h36⟩ := cons_len h35
  obtain ⟨v36, r36, rfl, h37⟩ := cons_len h36
  obtain rfl := List.length_eq_zero_iff.1 h37
  exact ⟨v0, v1, v2, v3, v4, v5, v6, v7, v8, v9, v10, v11, v12, v13, v14, v15, v16, v17, v18, v19, v20, v21, v22, v23, v24, v25, v26, v27, v28, v29, v30, v31, v32, v33, v34, v35, v36, rfl⟩
theorem build_pin (TS : List Value) (h : TS.length = 37) (b g : Int) (w : World) : (Instr.build 38 #[(0, .agg TS.toArray), (1, .int .i64 b), (2, .int .i64 g)]).run Try.prog w = .ok (.agg (TS ++ [Value.int .i64 b, Value.int .i64 g, Value.int .i64 0, Value.int .i64 0, Value.int .i64 0]).toArray) w := by
  obtain ⟨v0, v1, v2, v3, v4, v5, v6, v7, v8, v9, v10, v11, v12, v13, v14, v15, v16, v17, v18, v19, v20, v21, v22, v23, v24, v25, v26, v27, v28, v29, v30, v31, v32, v33, v34, v35, v36, rfl⟩ := list37 h
  exact run_build w 38 _ _ (built38 v0 v1 v2 v3 v4 v5 v6 v7 v8 v9 v10 v11 v12 v13 v14 v15 v16 v17 v18 v19 v20 v21 v22 v23 v24 v25 v26 v27 v28 v29 v30 v31 v32 v33 v34 v35 v36 b g)
theorem wpList_build {w : World} {ops : Array Oper} {rest : List Oper} {op : Oper} {a : Act} {Q : Exit → Act → World → Prop} (hw : Region.wanted op (yielded ops a.tmps) = true) (ty : TypeId) (x y z : Operand) (hop : op.op = .build ty #[(0, x), (1, y), (2, z)]) (p q r : Value) (hx : a.eval x = p) (hy : a.eval y = q) (hz : a.eval z = r) (v : Value) (hr : (Instr.build ty #[(0, p), (1, q), (2, r)]).run Try.prog w = .ok v w)
    (h : wpList Try.prog ops Q rest (a.put op.dst v) w) : wpList Try.prog ops Q (op :: rest) a w :=
  BigFrame.wpList_want hw fun _ hK => by
    subst hx; subst hy; subst hz
    unfold Oper.wp execOp
    simp only [hop, Sem.run_bind, Sem.run_pure, List.map_toArray, List.map_cons, List.map_nil, hr, Result.andThen_ok]
    exact hK _ _ h

end Go.Proofs.Ytinfafnpbalihaa
