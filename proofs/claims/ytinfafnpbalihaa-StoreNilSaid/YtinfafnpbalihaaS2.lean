/- Store: is an address right? -/
import Derived.Test.YtinfafnpbalihaaS1
import Derived.Laws.IdiomCopy
set_option linter.unusedSimpArgs false
set_option linter.unusedVariables false
namespace Go.Proofs.Ytinfafnpbalihaa
open Go.RowKit Go.Maps Go.WideMaps Go.Proofs.YtinfafnpbalihaaW.PrintWords
theorem copy_at (w : World) {op : Oper} {a : Act} {K : Act → World → Prop} {Q : Exit → Act → World → Prop} {x y : Operand} {dT sT : TypeId} {dst src res : Value} {w' : World} (hop : op.op = .call { callee := .builtin .copy, args := #[x, y], argTypes := #[dT, sT] })
    (hx : a.eval x = dst) (hy : a.eval y = src) (hrun : (Builtin.copy_ #[dT, sT] op.type #[dst, src]).run Try.prog w = .ok res w') (hK : K (a.put op.dst res) w') : op.wp Try.prog a w K Q := by
  subst hx; subst hy
  unfold Oper.wp execOp
  simp only [hop, resolve, invoke, builtin, Sem.run_bind, Sem.run_pure, Result.andThen_ok, List.map_toArray, List.map_cons, List.map_nil, hrun]
  exact hK
theorem Plan2.loadMid {P : Program} {ops : Array Oper} {Q : Exit → Act → World → Prop} {m : Nat} {S : World → Prop} {i : Nat} {past : Bool} {rest : List (Nat × Nat)} {a : Act} {w : World} {o : Oper} {N : Option Tmp} {a' : Act} (ho : ops[i]? = some o) (hw : Region.wanted o (yielded ops a.tmps) = true) (hN : o.dst = N)
    (ty : TypeId) (x : Operand) (hop : o.op = .load ty x) (b off : Nat) (hx : a.eval x = .pointer (some ⟨b, off, none⟩)) (cs : List Value) (d : TypeDesc) (hc : ∀ w', S w' → w'.rangeAt b off cs) (hu : P.underlying ty = some d) (hd : d.isRow = true) (hi : (P.info? ty).map (·.size) = some cs.length)
    (ha : a.put N (.agg cs.toArray) = a') (h : Plan2.Wp P ops Q m S past rest a' w) : Plan2.Wp P ops Q m S past ((i, 1) :: rest) a w :=
  Plan2.load ho hw hN (fun w' hS => by
    unfold Plan2.IsV execOp
    simp only [hop, hx, Instr.loadAt, Instr.sureAddr, Sem.run_bind, Sem.run_pure, Result.andThen_ok, run_loadVar_mid w' b off ty cs d (hc w' hS) hu hd hi]) ha h
theorem eqop_at (w : World) {ops : Array Oper} {rest : List Oper} {o : Oper} {a : Act} {Q : Exit → Act → World → Prop} (hg : o.guard = none) (x y : Operand) (ty t2 : TypeId) (op : BinOp) (hop : o.op = .binOp op ty x y t2) (u v : Array Value) (hx : a.eval x = .agg u) (hy : a.eval y = .agg v) (hm : Try.prog.eqGuardType Try.prog.depth ty = false) {r r' : Bool}
    (hrun : (Op.equalIn 10000 ty (.agg u) (.agg v)).run Try.prog w = .ok r w) (he : (op = .eql ∧ r' = r) ∨ (op = .neq ∧ r' = !r)) (h : wpList Try.prog ops Q rest (a.put o.dst (.bool r')) w) : wpList Try.prog ops Q (o :: rest) a w := by
  refine wpList_plain hg fun K' hK' => ?_
  unfold Oper.wp execOp
  rw [hop]
  simp only [hx, hy]
  have hq := run_eqGuard_agg (P := Try.prog) (w := w) op ty x y u v hm
  rcases he with ⟨rfl, rfl⟩ | ⟨rfl, rfl⟩
  · simp [binOp, Op.equal, Op.maxDepth, hq, hrun, Result.andThen]
    exact hK' _ _ h
  · simp [binOp, Op.equal, Op.maxDepth, hq, hrun, Result.andThen]
    exact hK' _ _ h
theorem eqg29 : Try.prog.eqGuardType Try.prog.depth 29 = false := by kernel_rfl
theorem eqg33 : Try.prog.eqGuardType Try.prog.depth 33 = false := by kernel_rfl
def zeros (n : Nat) : List Value := List.replicate n (.int .u8 0)
def bytesV (bs : List Int) : List Value := bs.map (.int .u8)
def addrC (v6 : Bool) (bs : List Int) : List Value := .bool v6 :: bytesV bs
structure Bytes16 (bs : List Int) : Prop where
  len : bs.length = 16
  wf : ∀ b ∈ bs, (Lit.int .u8 b).wf = true
theorem addrC_len {v6 : Bool} {bs : List Int} (h : bs.length = 16) : (addrC v6 bs).length = 17 := by simp [addrC, bytesV, h]
theorem list16 {l : List Int} (h : l.length = 16) : ∃ a b c d e f g i j k m n o p q r, l = [a, b, c, d, e, f, g, i, j, k, m, n, o, p, q, r] := by
  match l, h with
  | [a, b, c, d, e, f, g, i, j, k, m, n, o, p, q, r], _ => exact ⟨a, b, c, d, e, f, g, i, j, k, m, n, o, p, q, r, rfl⟩
theorem addr_ok {v6 : Bool} {bs : List Int} (h : Bytes16 bs) : AddrOk (addrC v6 bs).toArray.toList v6 := by
  refine ⟨by simpa using addrC_len h.len, rfl, fun i hi => ?_⟩
  have hi' : i < bs.length := by rw [h.len]; exact hi
  have hw := h.wf bs[i] (List.getElem_mem hi')
  simp only [Lit.wf, Bool.and_eq_true, decide_eq_true_eq, show IntKind.u8.min = 0 by decide, show IntKind.u8.max = 255 by decide] at hw
  refine ⟨bs[i], ?_, ?_, ?_⟩
  · show (Value.bool v6 :: bytesV bs)[1 + i]? = _
    rw [Nat.add_comm, List.getElem?_cons_succ, bytesV, List.getElem?_map, List.getElem?_eq_getElem hi']; rfl
  · exact hw.1
  · exact hw.2
theorem rangeAt_blk {w : World} {b : Nat} {cs : List Value} {t : TypeId} {fr : Nat × Nat} (h : w.heap[b]? = some (.cells cs.toArray t fr)) : w.rangeAt b 0 cs := fun j v hj => by
  rw [Nat.zero_add, cell_of_row w b j _ t fr h]; simpa using hj
theorem there_blk {w : World} {b n : Nat} {cs : Array Value} {t : TypeId} (h : w.heap[b]? = some (.cells cs t (0, 0))) (hn : n ≤ cs.size) : w.there b 0 n := fun j hj => by
  rw [Nat.zero_add]
  refine ⟨?_, blk_frozen h j⟩
  rw [blk_cell h j, Array.getElem?_eq_getElem (by omega)]; rfl
theorem law29 : Keyed Try.prog 29 := Keyed.of_law (deep_law_gate laidOut (of_decide_eq_true (by kernel_rfl)) (of_decide_eq_true (by kernel_rfl)) (by kernel_rfl) (by kernel_rfl))
theorem kt29 : Try.prog.keyType 29 = true := by kernel_rfl
theorem types_sz : Try.prog.types.size = 139 := by kernel_rfl
theorem kt29' : ∃ m, m ≤ 10000 ∧ Try.prog.keyTypeAt m 29 = true := by
  have h := kt29
  unfold Program.keyType at h
  rw [types_sz] at h
  exact ⟨140, by omega, h⟩
theorem size29 : (Try.prog.info? 29).map (·.size) = some 16 := by kernel_rfl
theorem cells29 : Try.prog.cellsOf 29 = 16 := by kernel_rfl
theorem cells5 : Try.prog.cellsOf 5 = 1 := by kernel_rfl
theorem types_n : ∃ n, Try.prog.types.size = n + 2 := ⟨137, types_sz⟩
theorem key29 {bs : List Int} (h : Bytes16 bs) : ∃ l, keyOf Try.prog 29 (.agg (bytesV bs).toArray) = some l := by
  obtain ⟨a, b, c, d, e, f, g, i, j, k, m, n, o, p, q, r, rfl⟩ := list16 h.len
  have hw := h.wf
  simp only [List.mem_cons, List.not_mem_nil, or_false, forall_eq_or_imp, forall_eq] at hw
  obtain ⟨N, hN⟩ := types_n
  unfold keyOf
  simp only [Try.underlying29]
  rw [if_pos (by simp [kt29, Value.formed, Try.underlying29, cells29, bytesV]), hN]
  unfold Program.keyLits
  simp only [Try.underlying29, Value.cells]
  rw [if_pos (by simp [cells29, bytesV]), show List.range 16 = [0, 1, 2, 3, 4, 5, 6, 7, 8, 9, 10, 11, 12, 13, 14, 15] from rfl]
  simp [List.mapM_cons, cells5, Program.keyLits, Try.underlying5, hw, bytesV]
/-- what the region keeps -/
structure KeepS (w : World) (v6 : Bool) (bs : List Int) (w' : World) : Prop where
  at1 : w'.rangeAt w.heap.size 0 (addrC v6 bs)
  th : w'.there (w.heap.size + 1) 0 16
  bl : Below w.heap.size w w'
  sz : w.heap.size + 2 ≤ w'.heap.size
structure Keep1 (w : World) (v6 : Bool) (bs : List Int) (w' : World) : Prop where
  s : KeepS w v6 bs w'
  z : w'.rangeAt (w.heap.size + 1) 0 (zeros 16)
theorem range_below {B : Nat} {w w' : World} {b o : Nat} {cs : List Value} (h : w.rangeAt b o cs) (hb : Below B w w') (hB : b < B) : w'.rangeAt b o cs := fun j v hv => (hb.cell (p := ⟨b, o + j, none⟩) hB).trans (h j v hv)
theorem there_below {B : Nat} {w w' : World} {b o n : Nat} (h : w.there b o n) (hb : Below B w w') (hB : b < B) : w'.there b o n := fun j hj => ⟨by rw [hb.cell (p := ⟨b, o + j, none⟩) hB]; exact (h j hj).1, (hb.frozen (p := ⟨b, o + j, none⟩) hB).trans (h j hj).2⟩
theorem Keep1.call {w w1 w2 : World} {v6 : Bool} {bs : List Int} (h : Keep1 w v6 bs w1) (hb : Below w1.heap.size w1 w2) : Keep1 w v6 bs w2 :=
  have h2 := h.s.sz
  ⟨⟨range_below h.s.at1 hb (by omega), there_below h.s.th hb (by omega), h.s.bl.trans (hb.mono (by omega)), Nat.le_trans h.s.sz hb.size⟩, range_below h.z hb (by omega)⟩
theorem Keep1.drew {w w1 : World} {v6 : Bool} {bs : List Int} (h : Keep1 w v6 bs w1) : Keep1 w v6 bs w1.drew := ⟨⟨h.s.at1, h.s.th, ⟨h.s.bl.os, h.s.bl.tape, h.s.bl.output, h.s.bl.size, h.s.bl.block⟩, h.s.sz⟩, h.z⟩
theorem Keep1.start (w : World) (v6 : Bool) (bs : List Int) : Keep1 w v6 bs ((w.alloc (.cells (addrC v6 bs).toArray 31)).alloc (.cells #[.int .u8 0, .int .u8 0, .int .u8 0, .int .u8 0, .int .u8 0, .int .u8 0, .int .u8 0, .int .u8 0, .int .u8 0, .int .u8 0, .int .u8 0, .int .u8 0, .int .u8 0, .int .u8 0, .int .u8 0, .int .u8 0] 29)) := by
  have h1 := heap_alloc2_old w (.cells (addrC v6 bs).toArray 31) (.cells #[.int .u8 0, .int .u8 0, .int .u8 0, .int .u8 0, .int .u8 0, .int .u8 0, .int .u8 0, .int .u8 0, .int .u8 0, .int .u8 0, .int .u8 0, .int .u8 0, .int .u8 0, .int .u8 0, .int .u8 0, .int .u8 0] 29)
  have h2 := heap_alloc2_new w (.cells (addrC v6 bs).toArray 31) (.cells #[.int .u8 0, .int .u8 0, .int .u8 0, .int .u8 0, .int .u8 0, .int .u8 0, .int .u8 0, .int .u8 0, .int .u8 0, .int .u8 0, .int .u8 0, .int .u8 0, .int .u8 0, .int .u8 0, .int .u8 0, .int .u8 0] 29)
  have e : ((w.alloc (.cells (addrC v6 bs).toArray 31)).alloc (.cells #[.int .u8 0, .int .u8 0, .int .u8 0, .int .u8 0, .int .u8 0, .int .u8 0, .int .u8 0, .int .u8 0, .int .u8 0, .int .u8 0, .int .u8 0, .int .u8 0, .int .u8 0, .int .u8 0, .int .u8 0, .int .u8 0] 29)).heap.size = w.heap.size + 1 + 1 := by
    show ((w.heap.push _).push _).size = _
    rw [Array.size_push, Array.size_push]
  refine ⟨⟨rangeAt_blk h1, there_blk h2 (by decide), ((Below.refl _ _).alloc (Nat.le_refl _) _).alloc (Nat.le_of_lt (by show _ < (w.heap.push _).size; rw [Array.size_push]; omega)) _, by omega⟩, ?_⟩
  exact rangeAt_blk (cs := zeros 16) h2
theorem src4 {w w2 : World} {bs : List Int} (hl : bs.length = 16) (h : w2.rangeAt w.heap.size 0 (addrC false bs)) : ∀ j v, (bytesV (bs.drop 4))[j]? = some v → w2.cell? ((⟨w.heap.size, 1 + 4, none⟩ : Addr).add j) = some v := fun j v hv => by
  have h1 := h (5 + j) v (by
    show (Value.bool false :: bytesV bs)[5 + j]? = some v
    rw [show 5 + j = (4 + j) + 1 by omega, List.getElem?_cons_succ]
    rw [bytesV, List.map_drop, List.getElem?_drop] at hv
    exact hv)
  rw [Addr.add_mid]
  rw [show 1 + 4 + j = 0 + (5 + j) by omega]
  exact h1
theorem size_setCells1 (b : Nat) : ∀ (vs : List Value) (o : Nat) (w : World), (w.setCells b o vs).heap.size = w.heap.size
  | [], _, _ => rfl
  | v :: r, o, w => (size_setCells1 b r (o + 1) _).trans (by simp [World.setCell])
theorem below_setCells1 {B : Nat} {a : World} (b : Nat) (hb : B ≤ b) : ∀ (vs : List Value) (o : Nat) {w : World}, Below B a w → Below B a (w.setCells b o vs)
  | [], _, _, h => h
  | v :: r, o, w, h => below_setCells1 b hb r (o + 1) (h.setCell (p := ⟨b, o, none⟩) hb v)
theorem equal29 {xs ys : List Int} (hx : Bytes16 xs) (hy : Bytes16 ys) (w : World) : ∃ r : Bool, (Op.equalIn 10000 29 (.agg (bytesV xs).toArray) (.agg (bytesV ys).toArray)).run Try.prog w = .ok r w ∧ (xs = ys → r = true) := by
  obtain ⟨l, hl⟩ := key29 hx
  obtain ⟨l', hl'⟩ := key29 hy
  obtain ⟨m, hm, hk⟩ := kt29'
  obtain ⟨r, h1, h2⟩ := run_equal_deep (P := Try.prog) w hm hk (by simp [Try.underlying29]) hl hl'
  exact ⟨r, h1, fun e => h2.2 (by subst e; exact Option.some.inj (hl.symm.trans hl'))⟩
theorem zero16 : Bytes16 (List.replicate 16 0) := ⟨rfl, fun b hb => by rw [List.eq_of_mem_replicate hb]; decide⟩
theorem zero16V : bytesV (List.replicate 16 0) = zeros 16 := rfl
theorem equal29z (w : World) : (Op.equalIn 10000 29 (.agg (zeros 16).toArray) (.agg (zeros 16).toArray)).run Try.prog w = .ok true w := by
  obtain ⟨r, h1, h2⟩ := equal29 zero16 zero16 w
  rw [h2 rfl] at h1
  exact h1
set_option maxHeartbeats 4000000 in
set_option maxRecDepth 100000 in
theorem aright_6 (bs : List Int) (h : Bytes16 bs) (w : World) : Calls Try.prog 36 #[.agg (addrC true bs).toArray] w fun e w' => e = .returned (.bool true) ∧ Below w.heap.size w w' := by
  have hl := h.len
  have HS := Aside0.mk (fun W => size_any (addrC true bs).toArray true (addr_ok h) W)
  have KK := Aside0.mk (Keep1.start w true bs).drew
  have HB := Aside0.mk h
  clear h
  go_enter Try.func36, Try.ntmps36
  go_wp2_with fail
  refine Plan2.region 1000 (KeepS w true bs) [(0, 0), (1, 0), (2, 1), (3, 2), (4, 0), (5, 2)] (by kernel_rfl) (by kernel_rfl) (fun _ _ d _ _ h => by cases d <;> exact h) ?_ ?_
  focus (first | exact KK3.out.1 | exact KK2.out.s | exact KK.out.s)
  (refine' Plan2.pure (N := (some 4)) rfl (by rfl) rfl ?_ ?_ ?_; rotate_left 2; (focus (intro w'; go_simp; exact Plan2.isV)); (focus (simp only [Act.put, List.setIfInBounds_toArray, List.set_cons_zero, List.set_cons_succ]; rfl)))
  (refine' Plan2.pure (N := (some 5)) rfl (by rfl) rfl ?_ ?_ ?_; rotate_left 2; (focus (intro w'; go_simp; exact Plan2.isV)); (focus (simp only [Act.put, List.setIfInBounds_toArray, List.set_cons_zero, List.set_cons_succ]; rfl)))
  (refine' Plan2.loadMid (N := (some 6)) rfl (by rfl) rfl 31 _ rfl w.heap.size 0 rfl (addrC true bs) _ ?_ Try.underlying31 rfl (by rw [addrC_len hl]; exact size31) ?_ ?_; rotate_left 2; (focus (simp only [Act.put, List.setIfInBounds_toArray, List.set_cons_zero, List.set_cons_succ]; rfl)); rotate_left 1; (focus (intro w' hS; exact hS.1)))
  (refine' Plan2.acts (past' := false) rfl (by rfl) rfl (fun K hK => ?_); go_simp; (refine (HS.out _).mono ?_); rintro e w2 ⟨rfl, hb2⟩; have KK2 := Aside0.mk (KK.out.call hb2); clear hb2; (refine hK.out _ _ (fun hp => ?_) (fun hS => ?_)); (focus (clear hp; (first | exact KK3.out.1 | exact KK2.out.s | exact KK.out.s))))
  (refine' Plan2.pure (N := (some 8)) rfl (by rfl) rfl ?_ ?_ ?_; rotate_left 2; (focus (intro w'; go_simp; exact Plan2.isV)); (focus (simp only [Act.put, List.setIfInBounds_toArray, List.set_cons_zero, List.set_cons_succ]; rfl)))
  (refine' Plan2.acts (past' := false) rfl (by rfl) rfl (fun K hK => ?_); refine copy_at _ rfl rfl rfl (run_copy_none _ 98 98 _ 5 _ _ _ _ _ _ Try.underlying98 (by kernel_rfl) rfl) ?_; (refine hK.out _ _ (fun hp => ?_) (fun hS => ?_)); (focus (clear hp; (first | exact KK3.out.1 | exact KK2.out.s | exact KK.out.s))))
  refine Plan2.done ?_
  go_wp2_with (first
    | (refine wpList_load_mid rfl 29 _ rfl (w.heap.size + 1) 0 rfl (zeros 16) _ KK2.out.z Try.underlying29 rfl size29 ?_)
    | (refine eqop_at _ rfl _ _ 29 29 .eql rfl (zeros 16).toArray (zeros 16).toArray rfl rfl eqg29 (equal29z w2) (.inl ⟨rfl, rfl⟩) ?_)
    | go_in)
  go_ret
  exact ⟨rfl, KK2.out.s.bl⟩
theorem Keep1.copied {w w2 : World} {bs : List Int} (hl : bs.length = 16) (h : Keep1 w false bs w2) : KeepS w false bs (w2.setCells (w.heap.size + 1) 0 (bytesV (bs.drop 4))) ∧ (w2.setCells (w.heap.size + 1) 0 (bytesV (bs.drop 4))).rangeAt (w.heap.size + 1) 0 (bytesV (bs.drop 4 ++ List.replicate 4 0)) := by
  have h12 : (bytesV (bs.drop 4)).length = 12 := by simp [bytesV, hl]
  have hth : w2.there (w.heap.size + 1) 0 (bytesV (bs.drop 4)).length := fun j hj => h.s.th j (by omega)
  refine ⟨⟨World.rangeAt_setCells_apart h.s.at1 _ _ _ (.inl (by omega)), ?_, ?_, by rw [size_setCells1]; exact h.s.sz⟩, ?_⟩
  · intro j hj
    by_cases h1 : j < 12
    · refine ⟨?_, by rw [World.frozen?_setCells]; exact (h.s.th j hj).2⟩
      rw [World.cell?_setCells_in _ _ _ _ (fun i hi => (hth i hi).1) j (by omega)]
      rfl
    · refine ⟨?_, by rw [World.frozen?_setCells]; exact (h.s.th j hj).2⟩
      rw [World.cell?_setCells_out _ _ _ _ ⟨w.heap.size + 1, 0 + j, none⟩ (fun _ _ => by right; show 0 + (bytesV (bs.drop 4)).length ≤ 0 + j; omega)]
      exact (h.s.th j hj).1
  · exact below_setCells1 _ (by omega) _ _ h.s.bl
  · intro j v hv
    have he : bytesV (bs.drop 4 ++ List.replicate 4 0) = bytesV (bs.drop 4) ++ zeros 4 := by simp [bytesV, zeros]
    rw [he] at hv
    by_cases h1 : j < 12
    · rw [World.cell?_setCells_in _ _ _ _ (fun i hi => (hth i hi).1) j (by omega)]
      rw [List.getElem?_append_left (by omega), List.getElem?_eq_getElem (by omega)] at hv
      exact hv
    · rw [World.cell?_setCells_out _ _ _ _ ⟨w.heap.size + 1, 0 + j, none⟩ (fun _ _ => by right; show 0 + (bytesV (bs.drop 4)).length ≤ 0 + j; omega)]
      refine h.z j v ?_
      rw [List.getElem?_append_right (by omega)] at hv
      rw [h12] at hv
      have hj := (List.getElem?_eq_some_iff.1 hv).1
      simp only [zeros, List.getElem?_replicate] at hv ⊢
      simp [zeros] at hj
      rw [if_pos (by omega)] at hv ⊢
      exact hv
def RightPost (w : World) (v6 : Bool) (bs : List Int) (e : Ending) (w' : World) : Prop := (∃ b, e = .returned (.bool b) ∧ (v6 = true ∨ bs.drop 4 = List.replicate 12 0 → b = true)) ∧ Below w.heap.size w w'
set_option maxHeartbeats 4000000 in
set_option maxRecDepth 100000 in
theorem aright_4 (bs : List Int) (h : Bytes16 bs) (w : World) : Calls Try.prog 36 #[.agg (addrC false bs).toArray] w (RightPost w false bs) := by
  have hl := h.len
  have HS := Aside0.mk (fun W => size_any (addrC false bs).toArray false (addr_ok h) W)
  have KK := Aside0.mk (Keep1.start w false bs).drew
  have HB := Aside0.mk h
  clear h
  go_enter Try.func36, Try.ntmps36
  go_wp2_with fail
  refine Plan2.region 1000 (KeepS w false bs) [(0, 0), (1, 0), (2, 1), (3, 2), (4, 0), (5, 2)] (by kernel_rfl) (by kernel_rfl) (fun _ _ d _ _ h => by cases d <;> exact h) ?_ ?_
  focus (first | exact KK3.out.1 | exact KK2.out.s | exact KK.out.s)
  (refine' Plan2.pure (N := (some 4)) rfl (by rfl) rfl ?_ ?_ ?_; rotate_left 2; (focus (intro w'; go_simp; exact Plan2.isV)); (focus (simp only [Act.put, List.setIfInBounds_toArray, List.set_cons_zero, List.set_cons_succ]; rfl)))
  (refine' Plan2.pure (N := (some 5)) rfl (by rfl) rfl ?_ ?_ ?_; rotate_left 2; (focus (intro w'; go_simp; exact Plan2.isV)); (focus (simp only [Act.put, List.setIfInBounds_toArray, List.set_cons_zero, List.set_cons_succ]; rfl)))
  (refine' Plan2.loadMid (N := (some 6)) rfl (by rfl) rfl 31 _ rfl w.heap.size 0 rfl (addrC false bs) _ ?_ Try.underlying31 rfl (by rw [addrC_len hl]; exact size31) ?_ ?_; rotate_left 2; (focus (simp only [Act.put, List.setIfInBounds_toArray, List.set_cons_zero, List.set_cons_succ]; rfl)); rotate_left 1; (focus (intro w' hS; exact hS.1)))
  (refine' Plan2.acts (past' := false) rfl (by rfl) rfl (fun K hK => ?_); go_simp; (refine (HS.out _).mono ?_); rintro e w2 ⟨rfl, hb2⟩; have KK2 := Aside0.mk (KK.out.call hb2); clear hb2; (refine hK.out _ _ (fun hp => ?_) (fun hS => ?_)); (focus (clear hp; (first | exact KK3.out.1 | exact KK2.out.s | exact KK.out.s))))
  (refine' Plan2.pure (N := (some 8)) rfl (by rfl) rfl ?_ ?_ ?_; rotate_left 2; (focus (intro w'; go_simp; exact Plan2.isV)); (focus (simp only [Act.put, List.setIfInBounds_toArray, List.set_cons_zero, List.set_cons_succ]; rfl)))
  (refine' Plan2.acts (past' := false) rfl (by rfl) rfl (fun K hK => ?_); refine copy_at _ rfl rfl rfl (run_copy_cells _ 98 98 _ 5 (w.heap.size + 1) 0 16 16 ⟨w.heap.size, 1 + 4, none⟩ 12 12 (bytesV (bs.drop 4)) Try.underlying98 (by kernel_rfl) (by simp [bytesV, hl]) (src4 hl KK2.out.s.at1) (fun j hj => (KK2.out.s.th j (by simp [bytesV, hl] at hj; omega)).1) (fun j hj => (KK2.out.s.th j (by simp [bytesV, hl] at hj; omega)).2) (fun v hv => by obtain ⟨b, _, rfl⟩ := List.mem_map.1 hv; rfl)) ?_; have KK3 := Aside0.mk (KK2.out.copied hl); (refine hK.out _ _ (fun hp => ?_) (fun hS => ?_)); (focus (clear hp; (first | exact KK3.out.1 | exact KK2.out.s | exact KK.out.s))))
  refine Plan2.done ?_
  have h16 : Bytes16 (bs.drop 4 ++ List.replicate 4 0) := ⟨by simp [hl], fun b hb => by
    rcases List.mem_append.1 hb with hb | hb
    · exact HB.out.wf b (List.mem_of_mem_drop hb)
    · rw [List.eq_of_mem_replicate hb]; decide⟩
  obtain ⟨r, hr, hr1⟩ := equal29 h16 zero16 (w2.setCells (w.heap.size + 1) 0 (bytesV (bs.drop 4)))
  go_wp2_with (first
    | (refine wpList_load_mid rfl 29 _ rfl (w.heap.size + 1) 0 rfl (bytesV (bs.drop 4 ++ List.replicate 4 0)) _ KK3.out.2 Try.underlying29 rfl (by rw [show (bytesV (bs.drop 4 ++ List.replicate 4 0)).length = 16 by simp [bytesV, hl]]; exact size29) ?_)
    | (refine eqop_at _ rfl _ _ 29 29 .eql rfl (bytesV (bs.drop 4 ++ List.replicate 4 0)).toArray (zeros 16).toArray rfl rfl eqg29 hr (.inl ⟨rfl, rfl⟩) ?_)
    | go_in)
  refine bodyPost_ret (v := .bool r) (by simp [results, Try.results36, go_sem]) rfl ⟨⟨r, rfl, fun e => hr1 (by rw [e.resolve_left (by decide)]; rfl)⟩, KK3.out.1.bl⟩
theorem aright_any (v6 : Bool) (bs : List Int) (h : Bytes16 bs) (w : World) : Calls Try.prog 36 #[.agg (addrC v6 bs).toArray] w (RightPost w v6 bs) := by
  cases v6 with
  | true => exact (aright_6 bs h w).mono (fun e w' ⟨h1, h2⟩ => ⟨⟨true, h1, fun _ => rfl⟩, h2⟩)
  | false => exact aright_4 bs h w
end Go.Proofs.Ytinfafnpbalihaa
