/- Gossip: the order of the news: cmp.Compare, cmp.Or, the sort's closure. -/
import Derived.Test.YtafkglhdpcmdbaaG5
import Derived.StillTailTactics
import Derived.LoopTactic
set_option linter.unusedSimpArgs false
set_option linter.unusedVariables false
namespace Go.Proofs.Ytafkglhdpcmdbaa
open Go.RowKit Go.Proofs.YtafkglhdpcmdbaaW.PrintWords
def cmpI (x y : Int) : Int := if x < y then -1 else if y < x then 1 else 0
set_option maxHeartbeats 1000000 in
theorem compare_any (x y : Int) (w : World) : Calls Try.prog 36 #[.int .i64 x, .int .i64 y] w fun e w' => e = .returned (.int .i64 (cmpI x y)) ∧ w' = w := by
  unfold cmpI
  by_cases h1 : x < y
  · rw [if_pos h1]
    go_enter Try.func36, Try.ntmps36
    go_wp2
    go_ret
    exact ⟨rfl, rfl⟩
  · rw [if_neg h1]
    by_cases h2 : y < x
    · rw [if_pos h2]
      go_enter Try.func36, Try.ntmps36
      go_wp2
      go_ret
      exact ⟨rfl, rfl⟩
    · rw [if_neg h2]
      go_enter Try.func36, Try.ntmps36
      go_wp2
      go_ret
      exact ⟨rfl, rfl⟩
def or2 (a b : Int) : Int := if a = 0 then b else a
def OrRel (a b : Int) (i : Value) : Prop := i = .int .i64 0 ∨ (i = .int .i64 1 ∧ a = 0) ∨ (i = .int .i64 2 ∧ a = 0 ∧ b = 0)
theorem ret_int {k : IntKind} {a b : Int} (h : a = b) : Ending.returned (.int k a) = .returned (.int k b) := by rw [h]
set_option maxHeartbeats 1000000 in
theorem or_any (a b r : Int) (hr : or2 a b = r) (g : Nat) (w : World) (h0 : w.cell? ⟨g, 0, none⟩ = some (.int .i64 a)) (h1 : w.cell? ⟨g, 1, none⟩ = some (.int .i64 b)) : Calls Try.prog 35 #[.slice (some ⟨g, 0, none⟩) 2 2] w fun e w' => e = .returned (.int .i64 r) ∧ w' = w := by
  have HR := Aside0.mk hr; clear hr
  go_enter Try.func35, Try.ntmps35
  go_wp2
  go_loop [5, 8] (fun _ i => OrRel a b i) (fun _ i => 2 - (intOf i).toNat)
  case atStart => exact .inl rfl
  case round =>
    rcases hrel with rfl | ⟨rfl, h⟩ | ⟨rfl, h, h'⟩
    · by_cases hz : a = 0
      · have hb : (a != 0) = false := by simpa using hz
        have HZ := Aside0.mk hz; clear hz
        go_wp2
        go_round
        case rel => exact .inr (.inl ⟨rfl, HZ.out⟩)
        case measure => simp [intOf]
      · have hb : (a != 0) = true := by simpa using hz
        go_wp2
        go_ret
        exact ⟨ret_int (by rw [← HR.out]; unfold or2; rw [if_neg hz]), rfl⟩
    · have HA := Aside0.mk h; clear h
      by_cases hz : b = 0
      · have hb : (b != 0) = false := by simpa using hz
        have HZ := Aside0.mk hz; clear hz
        go_wp2
        go_round
        case rel => exact .inr (.inr ⟨rfl, HA.out, HZ.out⟩)
        case measure => simp [intOf]
      · have hb : (b != 0) = true := by simpa using hz
        go_wp2
        go_ret
        exact ⟨ret_int (by rw [← HR.out]; unfold or2; rw [if_pos HA.out]), rfl⟩
    · have HA := Aside0.mk h; clear h
      have HZ := Aside0.mk h'; clear h'
      go_wp2
      go_ret
      exact ⟨ret_int (by rw [← HR.out]; unfold or2; rw [if_pos HA.out, HZ.out]), rfl⟩
/-- draws and new blocks alone -/
def Gr (w w' : World) : Prop := ∃ q os, w' = Go.Sort.grow (w.drewN q) os
theorem Gr.refl (w : World) : Gr w w := ⟨0, #[], by simp [Go.Sort.grow]; rfl⟩
theorem Gr.drew {w w' : World} (h : Gr w w') : Gr w w'.drew := by
  obtain ⟨q, os, rfl⟩ := h
  exact ⟨q + 1, os, rfl⟩
theorem Gr.drewN {w w' : World} (h : Gr w w') (n : Nat) : Gr w (w'.drewN n) := by
  obtain ⟨q, os, rfl⟩ := h
  exact ⟨q + n, os, by simp [World.drewN, Go.Sort.grow]; omega⟩
theorem Gr.alloc {w w' : World} (h : Gr w w') (o : Obj) : Gr w (w'.alloc o) := by
  obtain ⟨q, os, rfl⟩ := h
  exact ⟨q, os ++ #[o], by rw [Go.Sort.alloc_eq_grow, Go.Sort.grow_grow]⟩
def cmpIt (a b : It) : Int := or2 (cmpI b.left a.left) (cmpI a.key b.key)
set_option maxHeartbeats 1000000 in
set_option maxRecDepth 100000 in
theorem pick1 (x y : PI) (W : World) (hx0 : W.cell? ⟨x.p, 0, none⟩ = some (.int .i64 x.it.key)) (hx2 : W.cell? ⟨x.p, 2, none⟩ = some (.int .i64 x.it.left)) (hy0 : W.cell? ⟨y.p, 0, none⟩ = some (.int .i64 y.it.key)) (hy2 : W.cell? ⟨y.p, 2, none⟩ = some (.int .i64 y.it.left)) :
    Calls Try.prog 34 #[ptr x.p, ptr y.p] W fun e w' => e = .returned (.int .i64 (cmpIt x.it y.it)) ∧ Gr W w' := by
  obtain ⟨c1, hc1⟩ : ∃ c, c = cmpI y.it.left x.it.left := ⟨_, rfl⟩
  obtain ⟨c2, hc2⟩ : ∃ c, c = cmpI x.it.key y.it.key := ⟨_, rfl⟩
  have K1 := compare_any y.it.left x.it.left W.drew
  have K2 := compare_any x.it.key y.it.key W.drew
  rw [← hc1] at K1
  rw [← hc2] at K2
  have e1 : or2 c1 c2 = cmpIt x.it y.it := by rw [hc1, hc2]; rfl
  generalize cmpIt x.it y.it = r at *
  generalize x.it.left = xl at *
  generalize y.it.left = yl at *
  generalize x.it.key = xk at *
  generalize y.it.key = yk at *
  generalize x.p = xp at *
  generalize y.p = yp at *
  have HC := Aside0.mk (And.intro hc1 (And.intro hc2 e1)); clear hc1 hc2 e1
  have HK1 := Aside0.mk K1; have HK2 := Aside0.mk K2; clear K1 K2
  unfold ptr
  go_enter Try.func34, Try.ntmps34
  go_wp2
  go_still_tail 18, (by kernel_rfl)
  still_call HK1.out
  repeat still_step
  still_call HK2.out
  refine wpStill_nil ?_
  change wpList _ _ _ _ _ W.drew
  have HG := Aside0.mk (Gr.refl W).drew
  clear hx0 hx2 hy0 hy2 HK1 HK2
  generalize W.drew = w2 at *
  go_wp2_with (first | (go_at_call 35; (with_reducible refine (or_any c1 c2 r HC.out.2.2 w2.heap.size _ (by simp) (by simp)).mono ?_); rintro e w' ⟨rfl, rfl⟩))
  go_ret
  exact ⟨rfl, HG.out.alloc _⟩
end Go.Proofs.Ytafkglhdpcmdbaa
