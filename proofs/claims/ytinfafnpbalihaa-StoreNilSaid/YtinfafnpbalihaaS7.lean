/- Store: put. -/
import Derived.Test.YtinfafnpbalihaaS6
set_option linter.unusedSimpArgs false
set_option linter.unusedVariables false
namespace Go.Proofs.Ytinfafnpbalihaa
open Go.RowKit Go.Maps Go.WideMaps Go.Proofs.YtinfafnpbalihaaW.PrintWords
theorem Plan2.look {P : Program} {ops : Array Oper} {Q : Exit → Act → World → Prop} {m : Nat} {S : World → Prop} {i : Nat} {past : Bool} {rest : List (Nat × Nat)} {a : Act} {w : World} {o : Oper} {N : Option Tmp} {a' : Act} (ho : ops[i]? = some o) (hw : Region.wanted o (yielded ops a.tmps) = true) (hN : o.dst = N)
    (ty : TypeId) (x y : Operand) (c : Bool) (hop : o.op = .lookup ty x y c) (mv kv : Value) (hx : a.eval x = mv) (hy : a.eval y = kv) (v : Value) (hr : ∀ w', S w' → (Instr.lookup ty mv kv c).run P w' = .ok v w')
    (ha : a.put N v = a') (h : Plan2.Wp P ops Q m S past rest a' w) : Plan2.Wp P ops Q m S past ((i, 1) :: rest) a w :=
  Plan2.load ho hw hN (fun w' hS => by
    unfold Plan2.IsV execOp
    simp only [hop, hx, hy, Sem.run_bind, Sem.run_pure, hr w' hS, Result.andThen_ok]) ha h
theorem mapUpdate_at {w : World} {op : Oper} {a : Act} {K : Act → World → Prop} {Q : Exit → Act → World → Prop} {x y z : Operand} {ty : TypeId} {mv kv vv : Value} {w' : World} (hop : op.op = .mapUpdate ty x y z) (hx : a.eval x = mv) (hy : a.eval y = kv) (hz : a.eval z = vv)
    (hrun : (Instr.mapUpdate ty mv kv vv).run Try.prog w = .ok () w') (hK : K (a.put op.dst undef) w') : op.wp Try.prog a w K Q := by
  subst hx; subst hy; subst hz
  unfold Oper.wp execOp
  simp only [hop, Sem.run_bind, Sem.run_pure, Result.andThen_ok, hrun]
  exact hK
def mx (a b : Int) : Int := if b > a then b else a
theorem run_max (ty : TypeId) (ts : Array TypeId) (a b : Int) (w : World) : (Builtin.max_ ts ty #[.int .i64 a, .int .i64 b]).run Try.prog w = .ok (.int .i64 (mx a b)) w := by
  unfold Builtin.max_
  simp only [List.foldlM_cons, List.foldlM_nil, Builtin.max2]
  simp [mx]
theorem mx_wf {a b : Int} (ha : wf64 a) (hb : wf64 b) : wf64 (mx a b) := by unfold mx; split <;> assumption
theorem Plan2.maxOp {ops : Array Oper} {Q : Exit → Act → World → Prop} {m : Nat} {S : World → Prop} {i : Nat} {past : Bool} {rest : List (Nat × Nat)} {a : Act} {w : World} {o : Oper} {N : Option Tmp} {a' : Act} (ho : ops[i]? = some o) (hw : Region.wanted o (yielded ops a.tmps) = true) (hN : o.dst = N)
    (x y : Operand) (t1 t2 : TypeId) (hop : o.op = .call { callee := .builtin .max, args := #[x, y], argTypes := #[t1, t2] }) (p q : Int) (hx : a.eval x = .int .i64 p) (hy : a.eval y = .int .i64 q)
    (ha : a.put N (.int .i64 (mx p q)) = a') (h : Plan2.Wp Try.prog ops Q m S past rest a' w) : Plan2.Wp Try.prog ops Q m S past ((i, 1) :: rest) a w :=
  Plan2.load ho hw hN (fun w' hS => by
    unfold Plan2.IsV execOp
    simp only [hop, resolve, invoke, builtin, List.map_toArray, List.map_cons, List.map_nil, hx, hy, Sem.run_bind, Sem.run_pure, Result.andThen_ok, run_max]) ha h
theorem IsS.mono {w : World} {g bm bu : Nat} {most : Int} {c c' : Nat} {M : List Pn} {U : Int → Int → Option Int} (h : IsS w g bm bu most c M U) (hc : c ≤ c') : IsS w g bm bu most c' M U := by
  obtain ⟨D, ho, hD⟩ := h.pins
  obtain ⟨D', ho', hD'⟩ := h.use
  exact ⟨h.blk, ⟨D, ho.mono hc, hD⟩, ⟨D', ho'.mono hc, hD'⟩, h.ne⟩
/-- on the way of a put -/
structure PutK (w : World) (g bm bu : Nat) (most : Int) (c : Nat) (M : List Pn) (U : Int → Int → Option Int) (x : Pn) (W : World) : Prop where
  s : IsS W g bm bu most c M U
  at1 : W.rangeAt w.heap.size 0 x.cells
  fr : Fr (Maps2 bm bu) w W
  sz : w.heap.size + 1 ≤ W.heap.size
  lt : bm < w.heap.size ∧ bu < w.heap.size ∧ g < w.heap.size
section
variable {w W W1 : World} {g bm bu : Nat} {most : Int} {c : Nat} {M : List Pn} {U : Int → Int → Option Int} {x : Pn}
theorem range_pre {w : World} {b o : Nat} {a r : List Value} (h : w.rangeAt b o (a ++ r)) : w.rangeAt b o a := fun j v hj => h j v (by rw [List.getElem?_append_left (List.getElem?_eq_some_iff.1 hj).1]; exact hj)
theorem PutK.tup (h : PutK w g bm bu most c M U x W) : W.rangeAt w.heap.size 0 x.t.cells := range_pre h.at1
theorem Pn.at_end {x : Pn} (h : x.t.Ok) {j : Nat} : x.cells[37 + j]? = [Value.int .i64 x.b, .int .i64 x.g, .int .i64 x.p, .int .i64 x.s, .int .i64 x.l][j]? := by
  unfold Pn.cells; rw [List.getElem?_append_right (by rw [Tup.len h]; omega), Tup.len h, Nat.add_sub_cancel_left]
theorem range_fr {S : Nat → Prop} {w w1 : World} {b o : Nat} {cs : List Value} (h : w.rangeAt b o cs) (hf : Fr S w w1) (hn : ¬ S b) (hb : b < w.heap.size) : w1.rangeAt b o cs := fun j v hj => by
  rw [← h j v hj]
  unfold World.cell?
  simp only [hf.block b hb hn]
theorem PutK.start (h : IsS w g bm bu most c M U) : PutK w g bm bu most c M U x ((w.alloc (.cells x.cells.toArray 38)).drew) :=
  ⟨h.fr (Fr.alloc (Fr.refl SNo _) _).drew (fun h => h) (fun h => h) (fun h => h), rangeAt_blk (heap_alloc_new w _), (Fr.alloc (Fr.refl _ _) _).drew, by show _ ≤ (w.heap.push _).size; rw [Array.size_push]; omega, h.pins.lt, h.use.lt, h.lt⟩
theorem PutK.pin (h : PutK w g bm bu most c M U x W) (hx : x.t.Ok) (hc : c < 1000000) : ∃ W', (Instr.mapUpdate 61 (.map (some bm)) (.agg x.t.cells.toArray) (.agg x.cells.toArray)).run Try.prog W = .ok () W' ∧ PutK w g bm bu most (c + 1) (putM M x) U x W' := by
  obtain ⟨W', hr, hp, ht⟩ := store_pin h.s.pins hx hc
  have hf : Fr (fun k => k = bm) W W' := (Fr.of_grown ht.grown).mono (fun k _ hk => (Option.some.inj hk).symm)
  have hm := h.s.mono (Nat.le_succ c)
  exact ⟨W', hr, ⟨hf.blk h.s.blk h.s.gm.1, hp, hm.use.fr hf h.s.ne.symm, h.s.ne⟩, range_fr h.at1 hf (fun e => by have := h.lt.1; omega) (by have := h.sz; omega), h.fr.trans hf (fun k hk => .inl (.inl hk)), Nat.le_trans h.sz hf.size, h.lt⟩
theorem PutK.use (h : PutK w g bm bu most c M U x W) {b t v : Int} (hb : wf64 b) (ht : wf64 t) (hv : wf64 v) (hc : c < 1000000) : ∃ W', (Instr.mapUpdate 62 (.map (some bu)) (tgt b t) (.int .i64 v)).run Try.prog W = .ok () W' ∧ IsS W' g bm bu most (c + 1) M (putU U b t v) ∧ Fr (Maps2 bm bu) w W' := by
  obtain ⟨W', hr, hp, ht⟩ := store_use h.s.use hb ht hv hc
  have hf : Fr (fun k => k = bu) W W' := (Fr.of_grown ht.grown).mono (fun k _ hk => (Option.some.inj hk).symm)
  have hm := h.s.mono (Nat.le_succ c)
  exact ⟨W', hr, ⟨hf.blk h.s.blk h.s.gm.2, hm.pins.fr hf h.s.ne, hp, h.s.ne⟩, h.fr.trans hf (fun k hk => .inl (.inr hk))⟩
theorem PutK.below (h : PutK w g bm bu most c M U x W) (hb : Below W.heap.size W W1) : PutK w g bm bu most c M U x W1 :=
  ⟨h.s.below hb, range_below h.at1 hb (by have := h.sz; omega), h.fr.trans (Fr.of_below hb SNo) (fun k hk => hk.elim), Nat.le_trans h.sz hb.size, h.lt⟩
end
theorem PutK.box2 {w W1 : World} {g bm bu : Nat} {most : Int} {c : Nat} {M : List Pn} {U : Int → Int → Option Int} {x : Pn} (h : PutK w g bm bu most c M U x W1) (p q : Int) :
    PutK w g bm bu most c M U x (W1.alloc (.cells #[.int .i64 p, .int .i64 q] 73)).drew ∧ (W1.alloc (.cells #[.int .i64 p, .int .i64 q] 73)).drew.rangeAt W1.heap.size 0 [.int .i64 p, .int .i64 q] := by
  have hb : Below W1.heap.size W1 (W1.alloc (.cells #[.int .i64 p, .int .i64 q] 73)).drew := by
    have h1 := below_alloc (Below.refl W1.heap.size W1) (.cells #[.int .i64 p, .int .i64 q] 73)
    exact ⟨h1.os, h1.tape, h1.output, h1.size, h1.block⟩
  exact ⟨h.below hb, rangeAt_blk (cs := [.int .i64 p, .int .i64 q]) (heap_alloc_new W1 _)⟩
theorem size73 : (Try.prog.info? 73).map (·.size) = some 2 := by kernel_rfl
def PutPost (w : World) (g bm bu : Nat) (most : Int) (c : Nat) (M : List Pn) (U : Int → Int → Option Int) (x : Pn) (n : Int) (e : Ending) (w' : World) : Prop :=
  e = .returned (.tuple #[]) ∧ IsS w' g bm bu most (c + 2) (putM M x) (putU U x.b x.g (mx ((U x.b x.g).getD 0) n)) ∧ Fr (Maps2 bm bu) w w'
set_option maxHeartbeats 2000000 in
set_option maxRecDepth 100000 in
theorem put_aux (w : World) (g bm bu : Nat) (most : Int) (c : Nat) (M : List Pn) (U : Int → Int → Option Int) (x : Pn) (n : Int) (CS TS : List Value) (hA : x.cells = CS) (hB : x.t.cells = TS) (l1 : TS.length = 37) (l2 : CS.length = 42)
    (HK : Aside0 (PutK w g bm bu most c M U x (w.alloc (.cells CS.toArray 38)).drew)) (HX : Aside0 (x.t.Ok ∧ wf64 x.b ∧ wf64 x.g ∧ wf64 n ∧ c < 999990)) :
    Calls Try.prog 24 #[.pointer (some ⟨g, 0, none⟩), .agg CS.toArray, .int .i64 n] w (PutPost w g bm bu most c M U x n) := by
  go_enter Try.func24, Try.ntmps24
  go_wp2_with fail
  refine Plan2.region 7 (PutK w g bm bu most c M U x) [(0, 0), (1, 0), (2, 0), (3, 1), (4, 0), (5, 1), (6, 1), (7, 2)] (by kernel_rfl) (by kernel_rfl) (fun _ _ d _ _ h => by cases d <;> exact h) ?_ ?_
  focus exact HK.out
  (refine' Plan2.pure (N := (some 7)) rfl (by rfl) rfl ?_ ?_ ?_; rotate_left 2; (focus (intro w'; go_simp; exact Plan2.isV)); (focus (simp only [Act.put, List.setIfInBounds_toArray, List.set_cons_zero, List.set_cons_succ]; rfl)))
  (refine' Plan2.pure (N := (some 8)) rfl (by rfl) rfl ?_ ?_ ?_; rotate_left 2; (focus (intro w'; go_simp; exact Plan2.isV)); (focus (simp only [Act.put, List.setIfInBounds_toArray, List.set_cons_zero, List.set_cons_succ]; rfl)))
  (refine' Plan2.pure (N := (some 9)) rfl (by rfl) rfl ?_ ?_ ?_; rotate_left 2; (focus (intro w'; go_simp; exact Plan2.isV)); (focus (simp only [Act.put, List.setIfInBounds_toArray, List.set_cons_zero, List.set_cons_succ]; rfl)))
  (refine' Plan2.load (N := (some 10)) rfl (by rfl) rfl ?_ ?_ ?_; rotate_left 2; (focus (intro w' hS; have hc := hS.s.c1; go_simp; exact Plan2.isV)); (focus (simp only [Act.put, List.setIfInBounds_toArray, List.set_cons_zero, List.set_cons_succ]; rfl)))
  (refine' Plan2.pure (N := (some 11)) rfl (by rfl) rfl ?_ ?_ ?_; rotate_left 2; (focus (intro w'; go_simp; exact Plan2.isV)); (focus (simp only [Act.put, List.setIfInBounds_toArray, List.set_cons_zero, List.set_cons_succ]; rfl)))
  (refine' Plan2.loadMid (N := (some 12)) rfl (by rfl) rfl 33 _ rfl w.heap.size 0 rfl TS _ ?_ Try.underlying33 rfl (by rw [l1]; exact size33) ?_ ?_; rotate_left 2; (focus (simp only [Act.put, List.setIfInBounds_toArray, List.set_cons_zero, List.set_cons_succ]; rfl)); rotate_left 1; (focus (intro w' hS; exact hB ▸ hS.tup)))
  (refine' Plan2.loadMid (N := (some 13)) rfl (by rfl) rfl 38 _ rfl w.heap.size 0 rfl CS _ ?_ Try.underlying38 rfl (by rw [l2]; exact size38) ?_ ?_; rotate_left 2; (focus (simp only [Act.put, List.setIfInBounds_toArray, List.set_cons_zero, List.set_cons_succ]; rfl)); rotate_left 1; (focus (intro w' hS; exact hA ▸ hS.at1)))
  (refine' Plan2.acts (past' := true) rfl (by rfl) rfl (fun K hK => ?_); (obtain ⟨W1, hr1, HK1⟩ := HK.out.pin HX.out.1 (by have := HX.out.2.2.2.2; omega)); rw [hA, hB] at hr1; (refine mapUpdate_at rfl rfl rfl rfl hr1 ?_); (refine hK.out _ _ (fun hp => ?_) (fun hS => ?_)); (focus (cases hp)))
  refine Plan2.done ?_
  have c37 := HK1.at1 37 _ (by rw [show 37 = 37 + 0 by rfl, Pn.at_end HX.out.1]; rfl)
  have c38 := HK1.at1 38 _ (by rw [show 38 = 37 + 1 by rfl, Pn.at_end HX.out.1]; rfl)
  rw [Nat.zero_add] at c37 c38
  have HK1 := Aside0.mk HK1
  generalize hXB : x.b = XB at c37
  generalize hXG : x.g = XG at c38
  have HE := Aside0.mk (And.intro hXB hXG)
  clear hXB hXG hr1 HK
  go_wp2_with fail
  have HK2 := Aside0.mk (PutK.box2 HK1.out XB XG)
  clear HK1
  obtain ⟨hx, hb, hg, hn, hc⟩ := HX.out
  rw [HE.out.1] at hb
  rw [HE.out.2] at hg
  have HY := Aside0.mk (And.intro hb (And.intro hg (And.intro hn hc)))
  clear hx hb hg hn hc
  refine Plan2.region 13 (fun W => PutK w g bm bu most (c + 1) (putM M x) U x W ∧ W.rangeAt W1.heap.size 0 [.int .i64 XB, .int .i64 XG]) [(0, 0), (1, 0), (2, 0), (3, 1), (4, 1), (5, 0), (6, 0), (7, 0), (8, 1), (9, 1), (10, 1), (11, 0), (12, 1), (13, 2)] (by kernel_rfl) (by kernel_rfl) (fun _ _ d _ _ h => by cases d <;> exact h) ?_ ?_
  focus exact HK2.out
  (refine' Plan2.pure (N := (some 19)) rfl (by rfl) rfl ?_ ?_ ?_; rotate_left 2; (focus (intro w'; go_simp; exact Plan2.isV)); (focus (simp only [Act.put, List.setIfInBounds_toArray, List.set_cons_zero, List.set_cons_succ]; rfl)))
  (refine' Plan2.pure (N := (some 20)) rfl (by rfl) rfl ?_ ?_ ?_; rotate_left 2; (focus (intro w'; go_simp; exact Plan2.isV)); (focus (simp only [Act.put, List.setIfInBounds_toArray, List.set_cons_zero, List.set_cons_succ]; rfl)))
  (refine' Plan2.pure (N := (some 21)) rfl (by rfl) rfl ?_ ?_ ?_; rotate_left 2; (focus (intro w'; go_simp; exact Plan2.isV)); (focus (simp only [Act.put, List.setIfInBounds_toArray, List.set_cons_zero, List.set_cons_succ]; rfl)))
  (refine' Plan2.load (N := (some 22)) rfl (by rfl) rfl ?_ ?_ ?_; rotate_left 2; (focus (intro w' hS; have hc := hS.1.s.c2; go_simp; exact Plan2.isV)); (focus (simp only [Act.put, List.setIfInBounds_toArray, List.set_cons_zero, List.set_cons_succ]; rfl)))
  (refine' Plan2.loadMid (N := (some 23)) rfl (by rfl) rfl 73 _ rfl W1.heap.size 0 rfl [.int .i64 XB, .int .i64 XG] _ ?_ Try.underlying73 rfl size73 ?_ ?_; rotate_left 2; (focus (simp only [Act.put, List.setIfInBounds_toArray, List.set_cons_zero, List.set_cons_succ]; rfl)); rotate_left 1; (focus (intro w' hS; exact hS.2)))
  (refine' Plan2.pure (N := (some 24)) rfl (by rfl) rfl ?_ ?_ ?_; rotate_left 2; (focus (intro w'; go_simp; exact Plan2.isV)); (focus (simp only [Act.put, List.setIfInBounds_toArray, List.set_cons_zero, List.set_cons_succ]; rfl)))
  (refine' Plan2.pure (N := (some 25)) rfl (by rfl) rfl ?_ ?_ ?_; rotate_left 2; (focus (intro w'; go_simp; exact Plan2.isV)); (focus (simp only [Act.put, List.setIfInBounds_toArray, List.set_cons_zero, List.set_cons_succ]; rfl)))
  (refine' Plan2.pure (N := (some 26)) rfl (by rfl) rfl ?_ ?_ ?_; rotate_left 2; (focus (intro w'; go_simp; exact Plan2.isV)); (focus (simp only [Act.put, List.setIfInBounds_toArray, List.set_cons_zero, List.set_cons_succ]; rfl)))
  (refine' Plan2.load (N := (some 27)) rfl (by rfl) rfl ?_ ?_ ?_; rotate_left 2; (focus (intro w' hS; have hc := hS.1.s.c2; go_simp; exact Plan2.isV)); (focus (simp only [Act.put, List.setIfInBounds_toArray, List.set_cons_zero, List.set_cons_succ]; rfl)))
  (refine' Plan2.loadMid (N := (some 28)) rfl (by rfl) rfl 73 _ rfl W1.heap.size 0 rfl [.int .i64 XB, .int .i64 XG] _ ?_ Try.underlying73 rfl size73 ?_ ?_; rotate_left 2; (focus (simp only [Act.put, List.setIfInBounds_toArray, List.set_cons_zero, List.set_cons_succ]; rfl)); rotate_left 1; (focus (intro w' hS; exact hS.2)))
  (refine' Plan2.look (N := (some 29)) rfl (by rfl) rfl 62 _ _ false rfl _ _ rfl rfl (.int .i64 ((U XB XG).getD 0)) ?_ ?_ ?_; rotate_left 2; (focus (simp only [Act.put, List.setIfInBounds_toArray, List.set_cons_zero, List.set_cons_succ]; rfl)); rotate_left 1; (focus (intro w' hS; exact (look_use hS.1.s.use HY.out.1 HY.out.2.1).2.1)))
  (refine' Plan2.pure (N := (some 30)) rfl (by rfl) rfl ?_ ?_ ?_; rotate_left 2; (focus (intro w'; go_simp; exact Plan2.isV)); (focus (simp only [Act.put, List.setIfInBounds_toArray, List.set_cons_zero, List.set_cons_succ]; rfl)))
  (refine' Plan2.maxOp (N := (some 31)) rfl (by rfl) rfl _ _ 2 2 rfl _ _ rfl rfl ?_ ?_; rotate_left 1; (focus (simp only [Act.put, List.setIfInBounds_toArray, List.set_cons_zero, List.set_cons_succ]; rfl)))
  (refine' Plan2.acts (past' := true) rfl (by rfl) rfl (fun K hK => ?_); (obtain ⟨W2, hr2, HS2, hf2⟩ := HK2.out.1.use HY.out.1 HY.out.2.1 (mx_wf (look_use HK2.out.1.s.use HY.out.1 HY.out.2.1).2.2 HY.out.2.2.1) (by have := HY.out.2.2.2; omega)); (refine mapUpdate_at rfl rfl rfl rfl hr2 ?_); (refine hK.out _ _ (fun hp => ?_) (fun hS => ?_)); (focus (cases hp)))
  refine Plan2.done ?_
  go_wp2_with fail
  refine bodyPost_ret (v := .tuple #[]) (by simp [results, Try.results24, go_sem]) rfl ?_
  refine ⟨rfl, ?_, hf2⟩
  rw [HE.out.1, HE.out.2]
  exact HS2
theorem put_any (w : World) (g bm bu : Nat) (most : Int) (c : Nat) (M : List Pn) (U : Int → Int → Option Int) (x : Pn) (n : Int) (h : IsS w g bm bu most c M U) (hx : x.t.Ok) (hb : wf64 x.b) (hg : wf64 x.g) (hn : wf64 n) (hc : c < 999990) :
    Calls Try.prog 24 #[.pointer (some ⟨g, 0, none⟩), x.val, .int .i64 n] w (PutPost w g bm bu most c M U x n) :=
  put_aux w g bm bu most c M U x n x.cells x.t.cells rfl rfl (Tup.len hx) (Pn.len hx) ⟨PutK.start h⟩ ⟨hx, hb, hg, hn, hc⟩
end Go.Proofs.Ytinfafnpbalihaa
