/- Wheel: the order of what is due: cmp.Compare, cmp.Or, order. -/
import Derived.Test.YtodgcfkdnellpaaA1
import Derived.Test.YtodgcfkdnellpaaShelfP
import Derived.Lib.SliceRun
import Derived.StillTailTactics
import Derived.LoopTactic
set_option linter.unusedSimpArgs false
set_option linter.unusedVariables false
namespace Go.Proofs.Ytodgcfkdnellpaa
open Go.RowKit Go.Proofs.YtodgcfkdnellpaaW.PrintWords
def cmpI (x y : Int) : Int := if x < y then -1 else if y < x then 1 else 0
set_option maxHeartbeats 1000000 in
theorem compare_any (x y : Int) (w : World) : Calls Try.prog 38 #[.int .i64 x, .int .i64 y] w fun e w' => e = .returned (.int .i64 (cmpI x y)) ∧ w' = w := by
  unfold cmpI
  by_cases h1 : x < y
  · rw [if_pos h1]
    go_enter Try.func38, Try.ntmps38
    go_wp2
    go_ret
    exact ⟨rfl, rfl⟩
  · rw [if_neg h1]
    by_cases h2 : y < x
    · rw [if_pos h2]
      go_enter Try.func38, Try.ntmps38
      go_wp2
      go_ret
      exact ⟨rfl, rfl⟩
    · rw [if_neg h2]
      go_enter Try.func38, Try.ntmps38
      go_wp2
      go_ret
      exact ⟨rfl, rfl⟩
def or2 (a b : Int) : Int := if a = 0 then b else a
def OrRel (a b : Int) (i : Value) : Prop := i = .int .i64 0 ∨ (i = .int .i64 1 ∧ a = 0) ∨ (i = .int .i64 2 ∧ a = 0 ∧ b = 0)
theorem ret_int {k : IntKind} {a b : Int} (h : a = b) : Ending.returned (.int k a) = .returned (.int k b) := by rw [h]
set_option maxHeartbeats 1000000 in
theorem or_any (a b r : Int) (hr : or2 a b = r) (g : Nat) (w : World) (h0 : w.cell? ⟨g, 0, none⟩ = some (.int .i64 a)) (h1 : w.cell? ⟨g, 1, none⟩ = some (.int .i64 b)) : Calls Try.prog 37 #[.slice (some ⟨g, 0, none⟩) 2 2] w fun e w' => e = .returned (.int .i64 r) ∧ w' = w := by
  have HR := Aside0.mk hr; clear hr
  go_enter Try.func37, Try.ntmps37
  go_wp2
  go_loop [5, 8] (fun _ i => OrRel a b i) (fun _ i => 2 - (intOf i).toNat)
  case atStart => exact .inl rfl
  case round =>
    rcases hrel with rfl | ⟨rfl, h⟩ | ⟨rfl, h, h'⟩
    · by_cases hz : a = 0
      · have hb : (a != 0) = false := by simpa using hz
        have HZ := Aside0.mk hz; clear hz
        go_wp2
        go_round
        case rel => exact .inr (.inl ⟨rfl, HZ.out⟩)
        case measure => simp [intOf]
      · have hb : (a != 0) = true := by simpa using hz
        go_wp2
        go_ret
        exact ⟨ret_int (by rw [← HR.out]; unfold or2; rw [if_neg hz]), rfl⟩
    · have HA := Aside0.mk h; clear h
      by_cases hz : b = 0
      · have hb : (b != 0) = false := by simpa using hz
        have HZ := Aside0.mk hz; clear hz
        go_wp2
        go_round
        case rel => exact .inr (.inr ⟨rfl, HA.out, HZ.out⟩)
        case measure => simp [intOf]
      · have hb : (b != 0) = true := by simpa using hz
        go_wp2
        go_ret
        exact ⟨ret_int (by rw [← HR.out]; unfold or2; rw [if_pos HA.out]), rfl⟩
    · have HA := Aside0.mk h; clear h
      have HZ := Aside0.mk h'; clear h'
      go_wp2
      go_ret
      exact ⟨ret_int (by rw [← HR.out]; unfold or2; rw [if_pos HA.out, HZ.out]), rfl⟩
/-- draws and new blocks alone -/
def Gr (w w' : World) : Prop := ∃ q os, w' = Go.Sort.grow (w.drewN q) os
theorem Gr.refl (w : World) : Gr w w := ⟨0, #[], by simp [Go.Sort.grow]; rfl⟩
theorem Gr.drew {w w' : World} (h : Gr w w') : Gr w w'.drew := by
  obtain ⟨q, os, rfl⟩ := h
  exact ⟨q + 1, os, rfl⟩
theorem Gr.drewN {w w' : World} (h : Gr w w') (n : Nat) : Gr w (w'.drewN n) := by
  obtain ⟨q, os, rfl⟩ := h
  exact ⟨q + n, os, by simp [World.drewN, Go.Sort.grow]; omega⟩
theorem Gr.alloc {w w' : World} (h : Gr w w') (o : Obj) : Gr w (w'.alloc o) := by
  obtain ⟨q, os, rfl⟩ := h
  exact ⟨q, os ++ #[o], by rw [Go.Sort.alloc_eq_grow, Go.Sort.grow_grow]⟩
def due (d : Du) : Value := .agg #[.int .i64 d.id, .int .i64 d.at_]
theorem Gr.fr {w w' : World} (h : Gr w w') (S : Nat → Prop) : Fr S w w' := by
  obtain ⟨q, os, rfl⟩ := h
  refine ⟨rfl, rfl, rfl, by simp [Go.Sort.grow], fun k hk _ => ?_⟩
  show (w.heap ++ os)[k]? = _
  rw [Array.getElem?_append_left hk]
theorem two_first (W : World) (c d : Array Value) : ((W.alloc (.cells c 33)).alloc (.cells d 33)).heap[W.heap.size]? = some (.cells c 33 (0, 0)) := blk_alloc (heap_alloc_new W _) _
theorem two_second (W : World) (c d : Array Value) : ((W.alloc (.cells c 33)).alloc (.cells d 33)).heap[W.heap.size + 1]? = some (.cells d 33 (0, 0)) := by
  have := heap_alloc_new (W.alloc (.cells c 33)) (.cells d 33)
  have e : (W.alloc (.cells c 33)).heap.size = W.heap.size + 1 := Array.size_push _
  rw [e] at this
  exact this
def cmpDu (a b : Du) : Int := or2 (cmpI a.at_ b.at_) (cmpI a.id b.id)
set_option maxHeartbeats 1000000 in
set_option maxRecDepth 100000 in
theorem order_any (x y : Du) (W : World) : Calls Try.prog 32 #[due x, due y] W fun e w' => e = .returned (.int .i64 (cmpDu x y)) ∧ Gr W w' := by
  obtain ⟨c1, hc1⟩ : ∃ c, c = cmpI x.at_ y.at_ := ⟨_, rfl⟩
  obtain ⟨c2, hc2⟩ : ∃ c, c = cmpI x.id y.id := ⟨_, rfl⟩
  have e1 : or2 c1 c2 = cmpDu x y := by rw [hc1, hc2]; rfl
  have W2 : Gr W ((W.alloc (.cells #[.int .i64 x.id, .int .i64 x.at_] 33)).alloc (.cells #[.int .i64 y.id, .int .i64 y.at_] 33)).drew := (((Gr.refl W).alloc _).alloc _).drew
  have K1 := compare_any x.at_ y.at_ ((W.alloc (.cells #[.int .i64 x.id, .int .i64 x.at_] 33)).alloc (.cells #[.int .i64 y.id, .int .i64 y.at_] 33)).drew
  have K2 := compare_any x.id y.id ((W.alloc (.cells #[.int .i64 x.id, .int .i64 x.at_] 33)).alloc (.cells #[.int .i64 y.id, .int .i64 y.at_] 33)).drew
  rw [← hc1] at K1
  rw [← hc2] at K2
  unfold due
  generalize cmpDu x y = r at *
  generalize x.id = xi at *
  generalize y.id = yi at *
  generalize x.at_ = xa at *
  generalize y.at_ = ya at *
  have b1 := two_first W #[.int .i64 xi, .int .i64 xa] #[.int .i64 yi, .int .i64 ya]
  have b2 := two_second W #[.int .i64 xi, .int .i64 xa] #[.int .i64 yi, .int .i64 ya]
  have HC := Aside0.mk (And.intro hc1 (And.intro hc2 e1)); clear hc1 hc2 e1
  have HK1 := Aside0.mk K1; have HK2 := Aside0.mk K2; have HW := Aside0.mk W2; have HB := Aside0.mk (And.intro b1 b2); clear K1 K2 W2 b1 b2
  go_enter Try.func32, Try.ntmps32
  go_wp2
  generalize (W.alloc (.cells #[.int .i64 xi, .int .i64 xa] 33)).alloc (.cells #[.int .i64 yi, .int .i64 ya] 33) = V at *
  have f1 : V.cell? ⟨W.heap.size, 0, none⟩ = some (.int .i64 xi) := blk_cell HB.out.1 0
  have f2 : V.cell? ⟨W.heap.size, 1, none⟩ = some (.int .i64 xa) := blk_cell HB.out.1 1
  have f3 : V.cell? ⟨W.heap.size + 1, 0, none⟩ = some (.int .i64 yi) := blk_cell HB.out.2 0
  have f4 : V.cell? ⟨W.heap.size + 1, 1, none⟩ = some (.int .i64 ya) := blk_cell HB.out.2 1
  go_still_tail 10, (by kernel_rfl)
  still_call HK1.out
  repeat still_step
  still_call HK2.out
  refine wpStill_nil ?_
  change wpList _ _ _ _ _ V.drew
  have HG := HW
  clear f1 f2 f3 f4 HK1 HK2 HB
  generalize V.drew = w2 at *
  go_wp2_with (first | (go_at_call 37; (with_reducible refine (or_any c1 c2 r HC.out.2.2 w2.heap.size _ (by simp) (by simp)).mono ?_); rintro e w' ⟨rfl, rfl⟩))
  go_ret
  exact ⟨rfl, HG.out.alloc _⟩
end Go.Proofs.Ytodgcfkdnellpaa
