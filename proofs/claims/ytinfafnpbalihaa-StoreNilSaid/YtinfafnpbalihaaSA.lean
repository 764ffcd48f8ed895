/- Store: Len, Count, Busy, Until. -/
import Derived.Test.YtinfafnpbalihaaS9
set_option linter.unusedSimpArgs false
set_option linter.unusedVariables false
namespace Go.Proofs.Ytinfafnpbalihaa
open Go.RowKit Go.Maps Go.WideMaps Go.Proofs.YtinfafnpbalihaaW.PrintWords
theorem wpList_look {w : World} {ops : Array Oper} {rest : List Oper} {op : Oper} {a : Act} {Q : Exit → Act → World → Prop} (hw : Region.wanted op (yielded ops a.tmps) = true) (ty : TypeId) (x y : Operand) (c : Bool) (hop : op.op = .lookup ty x y c) (mv kv : Value) (hx : a.eval x = mv) (hy : a.eval y = kv) (v : Value) (hr : (Instr.lookup ty mv kv c).run Try.prog w = .ok v w)
    (h : wpList Try.prog ops Q rest (a.put op.dst v) w) : wpList Try.prog ops Q (op :: rest) a w :=
  BigFrame.wpList_want hw fun _ hK => by
    unfold Oper.wp execOp
    simp only [hop, hx, hy, Sem.run_bind, Sem.run_pure, hr, Result.andThen_ok]
    exact hK _ _ h
set_option maxHeartbeats 1000000 in
set_option maxRecDepth 100000 in
theorem yes_any (cs : Array Value) (w : World) : Calls Try.prog 27 #[.agg cs] w fun e w' => e = .returned (.bool true) ∧ Below w.heap.size w w' := by
  have HB := Aside0.mk (below_alloc (Below.refl w.heap.size w) (.cells cs 38))
  go_enter Try.func27, Try.ntmps27
  go_wp2_with fail
  go_ret
  exact ⟨rfl, HB.out⟩
def toPd (b g : Int) (x : Pn) : Bool := decide (x.b = b) && decide (x.g = g)
set_option maxHeartbeats 1000000 in
set_option maxRecDepth 100000 in
theorem to_aux (CS : List Value) (w : World) (B G XB XG : Int) (b5 b6 : Nat) (c37 : (w.alloc (.cells CS.toArray 38)).cell? ⟨w.heap.size, 37, none⟩ = some (.int .i64 XB)) (c38 : (w.alloc (.cells CS.toArray 38)).cell? ⟨w.heap.size, 38, none⟩ = some (.int .i64 XG)) (c5 : (w.alloc (.cells CS.toArray 38)).cell? ⟨b5, 0, none⟩ = some (.int .i64 B)) (c6 : (w.alloc (.cells CS.toArray 38)).cell? ⟨b6, 0, none⟩ = some (.int .i64 G)) :
    Calls Try.prog 28 #[.agg CS.toArray, .pointer (some ⟨b5, 0, none⟩), .pointer (some ⟨b6, 0, none⟩)] w fun e w' => e = .returned (.bool (decide (XB = B) && decide (XG = G))) ∧ Below w.heap.size w w' := by
  have HB := Aside0.mk (below_alloc (Below.refl w.heap.size w) (.cells CS.toArray 38))
  by_cases h1 : XB = B
  · subst h1
    by_cases h2 : XG = G
    · subst h2
      go_enter Try.func28, Try.ntmps28
      go_wp2_with fail
      go_ret
      exact ⟨by simp, HB.out⟩
    · go_enter Try.func28, Try.ntmps28
      go_wp2_with fail
      go_ret
      exact ⟨by simp [h2], HB.out⟩
  · go_enter Try.func28, Try.ntmps28
    go_wp2_with fail
    go_ret
    exact ⟨by simp [h1], HB.out⟩
theorem to_any (x : Pn) (hx : x.t.Ok) (w : World) (B G : Int) (b5 b6 : Nat) (h5 : w.cell? ⟨b5, 0, none⟩ = some (.int .i64 B)) (h6 : w.cell? ⟨b6, 0, none⟩ = some (.int .i64 G)) :
    Calls Try.prog 28 #[.agg x.cells.toArray, .pointer (some ⟨b5, 0, none⟩), .pointer (some ⟨b6, 0, none⟩)] w fun e w' => e = .returned (.bool (toPd B G x)) ∧ Below w.heap.size w w' := by
  have hb := heap_alloc_new w (.cells x.cells.toArray 38)
  have h0 := below_alloc (Below.refl w.heap.size w) (.cells x.cells.toArray 38)
  refine to_aux x.cells w B G x.b x.g b5 b6 ?_ ?_ ((h0.cell (p := ⟨b5, 0, none⟩) (block_lt_of_cell h5)).trans h5) ((h0.cell (p := ⟨b6, 0, none⟩) (block_lt_of_cell h6)).trans h6)
  · have := rangeAt_blk hb 37 _ (by rw [show 37 = 37 + 0 by rfl, Pn.at_end hx]; rfl)
    rwa [Nat.zero_add] at this
  · have := rangeAt_blk hb 38 _ (by rw [show 38 = 37 + 1 by rfl, Pn.at_end hx]; rfl)
    rwa [Nat.zero_add] at this
def lenS (M : List Pn) (n : Int) : Nat := (M.filter (fun x => x.live n)).length
def cntS (M : List Pn) (b g n : Int) : Nat := (M.filter (fun x => x.live n && toPd b g x)).length
def busyS (M : List Pn) (U : Int → Int → Option Int) (b g n : Int) : Bool := ((U b g).isSome && decide (n ≤ (U b g).getD 0)) || decide (0 < cntS M b g n)
set_option maxHeartbeats 1000000 in
set_option maxRecDepth 100000 in
theorem len_any (w : World) (g bm bu : Nat) (most : Int) (c : Nat) (M : List Pn) (U : Int → Int → Option Int) (n : Int) (h : IsS w g bm bu most c M U) (hc : c < 1000000) :
    Calls Try.prog 14 #[.pointer (some ⟨g, 0, none⟩), .int .i64 n] w fun e w' => e = .returned (.int .i64 (lenS M n : Nat)) ∧ Below w.heap.size w w' := by
  have H := count_27 w g bm bu most c M U n (fun _ => true) h hc ⟨fun W x hx hb => yes_any _ W⟩
  simp only [Bool.and_true] at H
  clear h
  go_enter Try.func14, Try.ntmps14
  go_wp2_with fail
  refine H.mono ?_
  rintro e w1 ⟨rfl, hb⟩
  have HB := Aside0.mk hb
  clear hb H
  go_wp2_with fail
  go_ret
  exact ⟨rfl, HB.out⟩
set_option maxHeartbeats 1000000 in
set_option maxRecDepth 100000 in
theorem cnt_any (w : World) (g bm bu : Nat) (most : Int) (c : Nat) (M : List Pn) (U : Int → Int → Option Int) (b t n : Int) (h : IsS w g bm bu most c M U) (hc : c < 1000000) :
    Calls Try.prog 15 #[.pointer (some ⟨g, 0, none⟩), .int .i64 b, .int .i64 t, .int .i64 n] w fun e w' => e = .returned (.int .i64 (cntS M b t n : Nat)) ∧ Below w.heap.size w w' := by
  have b1 : Below w.heap.size w ((w.alloc (.cells #[.int .i64 b] 3)).alloc (.cells #[.int .i64 t] 2)) := ((Below.refl _ _).alloc (Nat.le_refl _) _).alloc (by rw [size_alloc1]; omega) _
  have H := count_28 ((w.alloc (.cells #[.int .i64 b] 3)).alloc (.cells #[.int .i64 t] 2)) g bm bu most c M U n w.heap.size (w.heap.size + 1) (toPd b t) (h.below b1) hc ⟨fun W x hx hb => to_any x hx W b t _ _ ((hb.cell (p := ⟨w.heap.size, 0, none⟩) (by rw [size_alloc1, size_alloc1]; show w.heap.size < _; omega)).trans ((blk_cell (heap_alloc2_old w _ _) 0).trans rfl)) ((hb.cell (p := ⟨w.heap.size + 1, 0, none⟩) (by rw [size_alloc1, size_alloc1]; show w.heap.size + 1 < _; omega)).trans ((blk_cell (heap_alloc2_new w _ _) 0).trans rfl))⟩
  have HB1 := Aside0.mk b1
  clear h b1
  go_enter Try.func15, Try.ntmps15
  go_wp2_with fail
  refine H.mono ?_
  rintro e w1 ⟨rfl, hb⟩
  have HB := Aside0.mk (HB1.out.trans (hb.mono HB1.out.size))
  clear hb H
  go_wp2_with fail
  go_ret
  exact ⟨rfl, HB.out⟩
set_option maxHeartbeats 1000000 in
set_option maxRecDepth 100000 in
theorem until_any (w : World) (g bm bu : Nat) (most : Int) (c : Nat) (M : List Pn) (U : Int → Int → Option Int) (b t : Int) (h : IsS w g bm bu most c M U) (hb : wf64 b) (ht : wf64 t) :
    Calls Try.prog 18 #[.pointer (some ⟨g, 0, none⟩), .int .i64 b, .int .i64 t] w fun e w' => e = .returned (.int .i64 ((U b t).getD 0)) ∧ w = w' := by
  have c2 := h.c2
  have hl := (look_use h.use hb ht).2.1
  clear h hb ht
  go_enter Try.func18, Try.ntmps18
  go_wp2_with (first | (refine wpList_look (by rfl) 62 _ _ false rfl _ _ rfl rfl _ hl ?_))
  go_ret
  exact ⟨rfl, rfl⟩
set_option maxHeartbeats 1000000 in
set_option maxRecDepth 100000 in
theorem busy_any (w : World) (g bm bu : Nat) (most : Int) (c : Nat) (M : List Pn) (U : Int → Int → Option Int) (b t n : Int) (h : IsS w g bm bu most c M U) (hc : c < 1000000) (hb : wf64 b) (ht : wf64 t) :
    Calls Try.prog 12 #[.pointer (some ⟨g, 0, none⟩), .int .i64 b, .int .i64 t, .int .i64 n] w fun e w' => e = .returned (.bool (busyS M U b t n)) ∧ Below w.heap.size w w' := by
  have c2 := h.c2
  have hl := (look_use h.use hb ht).1
  have H := Aside0.mk (cnt_any w g bm bu most c M U b t n h hc)
  have hbs : busyS M U b t n = ((U b t).isSome && decide (n ≤ (U b t).getD 0) || decide (0 < cntS M b t n)) := rfl
  clear h hb ht
  generalize hf : (U b t).isSome = f at *
  generalize hv : (U b t).getD 0 = v at *
  clear hf hv
  rw [hbs]
  clear hbs
  have hcz : ((cntS M b t n : Nat) : Int) > 0 ↔ 0 < cntS M b t n := by omega
  cases f
  · go_enter Try.func12, Try.ntmps12
    go_wp2_with (first | (refine wpList_look (by rfl) 62 _ _ true rfl _ _ rfl rfl _ hl ?_))
    refine H.out.mono ?_
    rintro e w1 ⟨rfl, hb1⟩
    have HB := Aside0.mk hb1
    clear hb1 hl c2
    by_cases hz : 0 < cntS M b t n
    · go_wp2_with fail
      go_ret
      exact ⟨by simp [hz], HB.out⟩
    · go_wp2_with fail
      go_ret
      exact ⟨by simp [hz], HB.out⟩
  · by_cases hn : n ≤ v
    · go_enter Try.func12, Try.ntmps12
      go_wp2_with (first | (refine wpList_look (by rfl) 62 _ _ true rfl _ _ rfl rfl _ hl ?_))
      go_ret
      exact ⟨by simp [hn], Below.refl _ _⟩
    · go_enter Try.func12, Try.ntmps12
      go_wp2_with (first | (refine wpList_look (by rfl) 62 _ _ true rfl _ _ rfl rfl _ hl ?_))
      refine H.out.mono ?_
      rintro e w1 ⟨rfl, hb1⟩
      have HB := Aside0.mk hb1
      clear hb1 hl c2
      by_cases hz : 0 < cntS M b t n
      · go_wp2_with fail
        go_ret
        exact ⟨by simp [hz], HB.out⟩
      · go_wp2_with fail
        go_ret
        exact ⟨by simp [hz, hn], HB.out⟩
end Go.Proofs.Ytinfafnpbalihaa
