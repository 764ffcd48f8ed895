/- Store: tuples; is one right? -/
import Derived.Test.YtinfafnpbalihaaS2
set_option linter.unusedSimpArgs false
set_option linter.unusedVariables false
namespace Go.Proofs.Ytinfafnpbalihaa
open Go.RowKit Go.Maps Go.WideMaps Go.Proofs.YtinfafnpbalihaaW.PrintWords
structure Tup where
  v : Bool
  s : List Int
  u : Bool
  d : List Int
  p : Int
  sp : Int
  dp : Int
def Tup.cells (t : Tup) : List Value := addrC t.v t.s ++ (addrC t.u t.d ++ [.int .i64 t.p, .int .i64 t.sp, .int .i64 t.dp])
def Tup.lits (t : Tup) : List Lit := .bool t.v :: (t.s.map (.int .u8) ++ (.bool t.u :: (t.d.map (.int .u8) ++ [.int .i64 t.p, .int .i64 t.sp, .int .i64 t.dp])))
def Tup.key (t : Tup) : Lit := .string (keyBytes t.lits)
structure Tup.Ok (t : Tup) : Prop where
  s : Bytes16 t.s
  d : Bytes16 t.d
  p : (Lit.int .i64 t.p).wf = true
  sp : (Lit.int .i64 t.sp).wf = true
  dp : (Lit.int .i64 t.dp).wf = true
/-- one that the statements name -/
def Tup.nice (t : Tup) : Prop := t.v = false ∧ t.u = false ∧ t.s.drop 4 = List.replicate 12 0 ∧ t.d.drop 4 = List.replicate 12 0 ∧ (t.p = 6 ∨ t.p = 17) ∧ (0 ≤ t.sp ∧ t.sp ≤ 65535) ∧ (0 ≤ t.dp ∧ t.dp ≤ 65535)
theorem Tup.len {t : Tup} (h : t.Ok) : t.cells.length = 37 := by simp [Tup.cells, addrC, bytesV, h.s.len, h.d.len]
theorem kt33 : Try.prog.keyType 33 = true := by kernel_rfl
theorem cells33 : Try.prog.cellsOf 33 = 37 := by kernel_rfl
theorem cells31 : Try.prog.cellsOf 31 = 17 := by kernel_rfl
theorem cells3 : Try.prog.cellsOf 3 = 1 := by kernel_rfl
theorem cells4 : Try.prog.cellsOf 4 = 1 := by kernel_rfl
set_option maxRecDepth 10000 in
theorem lits29 {bs : List Int} (h : Bytes16 bs) (N : Nat) : Try.prog.keyLits (N + 2) 29 (bytesV bs) = some (bs.map (.int .u8)) := by
  obtain ⟨a, b, c, d, e, f, g, i, j, k, m, n, o, p, q, r, rfl⟩ := list16 h.len
  have hw := h.wf
  simp only [List.mem_cons, List.not_mem_nil, or_false, forall_eq_or_imp, forall_eq] at hw
  unfold Program.keyLits
  simp only [Try.underlying29]
  rw [if_pos (by simp [cells29, bytesV]), show List.range 16 = [0, 1, 2, 3, 4, 5, 6, 7, 8, 9, 10, 11, 12, 13, 14, 15] from rfl]
  simp [List.mapM_cons, cells5, Program.keyLits, Try.underlying5, hw, bytesV]
theorem lits31 {v : Bool} {bs : List Int} (h : Bytes16 bs) (N : Nat) : Try.prog.keyLits (N + 3) 31 (addrC v bs) = some (.bool v :: bs.map (.int .u8)) := by
  have h1 := lits29 h N
  have h2 : (bytesV bs).length = 16 := by simp [bytesV, h.len]
  unfold Program.keyLits
  simp only [Try.underlying31]
  rw [if_pos (by simp [cells31, addrC, h2])]
  simp only [List.mapM_cons, List.mapM_nil, cells4, cells29, addrC, List.drop_zero, List.take_succ_cons, List.take_zero, List.drop_succ_cons]
  rw [← h2, List.take_length, h1]
  simp [Program.keyLits, Try.underlying4]
set_option maxHeartbeats 1000000 in
theorem key33 {t : Tup} (h : t.Ok) : keyOf Try.prog 33 (.agg t.cells.toArray) = some t.key := by
  have h1 := lits31 (v := t.v) h.s 136
  have h2 := lits31 (v := t.u) h.d 136
  have l1 : (addrC t.v t.s).length = 17 := addrC_len h.s.len
  have l2 : (addrC t.u t.d).length = 17 := addrC_len h.d.len
  have e1 : t.cells.take 17 = addrC t.v t.s := by unfold Tup.cells; rw [List.take_append_of_le_length (by omega), ← l1, List.take_length]
  have e2 : (t.cells.drop 17).take 17 = addrC t.u t.d := by unfold Tup.cells; rw [← l1, List.drop_left, l1, List.take_append_of_le_length (by omega), ← l2, List.take_length]
  have e3 : t.cells.drop 34 = [.int .i64 t.p, .int .i64 t.sp, .int .i64 t.dp] := by unfold Tup.cells; rw [show 34 = (addrC t.v t.s).length + 17 by omega, ← List.drop_drop, List.drop_left, ← l2, List.drop_left]
  have e4 : t.cells.drop 35 = [.int .i64 t.sp, .int .i64 t.dp] := by rw [show 35 = 34 + 1 by rfl, ← List.drop_drop, e3]; rfl
  have e5 : t.cells.drop 36 = [.int .i64 t.dp] := by rw [show 36 = 34 + 2 by rfl, ← List.drop_drop, e3]; rfl
  unfold keyOf
  simp only [Try.underlying33]
  rw [if_pos (by simp [kt33, Value.formed, Try.underlying33, cells33, Tup.len h]), types_sz]
  unfold Program.keyLits
  simp only [Try.underlying33]
  rw [if_pos (by simp [cells33, Value.cells, Tup.len h])]
  simp only [List.mapM_cons, List.mapM_nil, cells31, cells3, Value.cells, List.drop_zero, e1, e2, e3, e4, e5, h1, h2]
  simp [Program.keyLits, Try.underlying3, h.p, h.sp, h.dp, Tup.key, Tup.lits]
end Go.Proofs.Ytinfafnpbalihaa
