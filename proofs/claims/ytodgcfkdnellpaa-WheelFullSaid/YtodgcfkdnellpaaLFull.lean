/- Wheel: the law WheelFull, walked. -/
import Derived.Test.YtodgcfkdnellpaaC5
import Derived.WalkArith
set_option linter.unusedSimpArgs false
set_option linter.unusedVariables false
namespace Go.Proofs.Ytodgcfkdnellpaa
open Go.RowKit Go.Proofs.YtodgcfkdnellpaaW.PrintWords
theorem IsW.ids {w : World} {F : Nat → Prop} {g : Nat} {now : Int} {L : List Du} (h : IsW w F g now L) : (L.map (·.id)).Nodup := by
  obtain ⟨bm, R, C, hr, hm, hi⟩ := h
  exact hi.ids
theorem setL_any {now : Int} {L : List Du} {x a : Int} (h : setRes now L x a = 0) (y : Int) : (setL now L x a).any (fun d => d.id == y) = (decide (y = x) || L.any (fun d => d.id == y)) := by
  unfold setL
  rw [if_pos h, any_perm (insDu_perm _ _), List.any_cons, any_drop]
  show ((x == y) || _) = _
  by_cases e : y = x
  · subst e; simp
  · have : ¬ x = y := fun h => e h.symm
    rw [beq_false_of_ne this, beq_false_of_ne e, decide_eq_false e]; rfl
theorem setL_len {now : Int} {L : List Du} {x a : Int} (h : setRes now L x a = 0) (hn : (L.map (·.id)).Nodup) : (setL now L x a).length = if L.any (fun d => d.id == x) = true then L.length else L.length + 1 := by
  unfold setL
  rw [if_pos h, (insDu_perm _ _).length_eq, List.length_cons]
  by_cases e : L.any (fun d => d.id == x) = true
  · rw [if_pos e]; exact drop_len hn e
  · rw [if_neg e, drop_none (by simpa using e)]
theorem setL_at {now : Int} {L : List Du} {x a : Int} (h : setRes now L x a = 0) (hn : (L.map (·.id)).Nodup) : atOf (setL now L x a) x = a := by
  have hn2 : ((insDu ⟨x, a⟩ (dropL L x)).map (·.id)).Nodup := ins_nodup (d := ⟨x, a⟩) (hn.sublist (List.filter_sublist.map _)) (drop_any_none L x)
  unfold setL
  rw [if_pos h]
  exact atOf_mem (d := ⟨x, a⟩) hn2 ((insDu_perm _ _).mem_iff.2 (List.mem_cons_self ..))
theorem wf_nat {n : Nat} (h : n ≤ 4096) : (Lit.int .i64 (n : Int)).wf = true := by
  exact WalkArith.wf_i64 (by omega)
structure FullI (w wr : World) (g i : Nat) (F : Nat → Prop) (L : List Du) : Prop where
  own : Own w wr F
  isw : IsW wr F g 0 L
  len : L.length = i
  ids : ∀ x : Int, L.any (fun d => d.id == x) = decide (0 ≤ x ∧ x < i)
def FullA (w : World) (g : Nat) (v7 : Value) (wr : World) : Prop := ∃ (i : Nat) (F : Nat → Prop) (L : List Du), v7 = .int .i64 i ∧ i ≤ 4096 ∧ FullI w wr g i F L
theorem full_step {w wr : World} {g i : Nat} {F : Nat → Prop} {L : List Du} {a : Int} (h : FullI w wr g i F L) (hi : i < 4096) (h1 : 1 ≤ a) (h2 : a ≤ 2000) : Calls Try.prog 10 #[.pointer (some ⟨g, 0, none⟩), .int .i64 (i : Int), .int .i64 a] wr fun e w' => e = .returned (.int .i64 0) ∧ ∃ F' L', FullI w w' g (i + 1) F' L' := by
  have hany : L.any (fun d => d.id == (i : Int)) = false := by rw [h.ids]; simp
  have hr : setRes 0 L i a = 0 := by
    unfold setRes
    rw [if_neg (by omega), if_neg (by omega), if_neg (by rw [h.len]; omega)]
  refine (set_any wr F g 0 L i a (wf_nat (by omega)) h.isw).mono ?_
  rintro e w' ⟨rfl, F', hq, ht⟩
  rw [hr]
  refine ⟨rfl, F', _, h.own.turn ht, hq, ?_, fun x => ?_⟩
  · rw [setL_len hr h.isw.ids, if_neg (by rw [hany]; decide), h.len]
  · rw [setL_any hr, h.ids, ← Bool.decide_or, decide_eq_decide]
    push_cast
    omega
theorem count_any (a : Int) (n : Nat) (w : World) (hn : 1 ≤ n) (hn2 : n ≤ 4096) : Calls Try.prog 18 #[.int .i64 a, .int .i64 (n : Int)] w fun e w' => ∃ r : Nat, e = .returned (.int .i64 r) ∧ r < n ∧ ∃ nd, w' = w.drewN nd := by
  have h1 := Int.tmod_lt_of_pos a (show (0 : Int) < n by omega)
  have h2 : -(n : Int) < a.tmod n := by have := Int.lt_tmod_of_pos a (show (0 : Int) < n by omega); exact this
  obtain ⟨r, hr, hlt⟩ : ∃ r : Nat, T.steelyardref01_Count.f a n = some (r : Int) ∧ r < n := by
    unfold T.steelyardref01_Count.f
    rw [if_neg (by omega), if_neg (by omega)]
    by_cases hz : a.tmod n < 0
    · rw [if_pos hz]
      refine ⟨(a.tmod n + n).toNat, ?_, by omega⟩
      congr 1
      unfold wrap64; omega
    · rw [if_neg hz]
      exact ⟨(a.tmod n).toNat, by congr 1; omega, by omega⟩
  refine (T.steelyardref01_Count.calls a n r w hr).mono ?_
  rintro e w' ⟨rfl, nd, hd⟩
  exact ⟨r, rfl, hlt, nd, hd⟩
set_option maxHeartbeats 40000000 in
set_option maxRecDepth 100000 in
theorem full_law (a0 a1 : Int) (w : World) : Calls Try.prog 6 #[.int .i64 a0, .int .i64 a1] w fun e w' => e = .returned (.bool true) ∧ Below w.heap.size w w' := by
  go_enter Try.func6, Try.ntmps6
  go_wp2_with fail
  refine (new_ok 0 w (by decide) (by decide)).mono ?_
  rintro e w1 ⟨g, F1, rfl, hq1, hF1, hb1⟩
  have HI : Aside0 (FullI w w1 g 0 F1 []) := Aside0.mk ⟨⟨hb1, hF1⟩, hq1, rfl, fun x => by simp⟩
  clear hq1 hF1 hb1
  go_wp2_with fail
  refine (count_any (a0.tmod 1000) 1000 w1 (by decide) (by decide)).mono ?_
  rintro e w2 ⟨r, rfl, hr, nd, rfl⟩
  have HI2 : Aside0 (FullI w (w1.drewN nd) g 0 F1 []) := Aside0.mk ⟨HI.out.own.step (below_drawn _ _), HI.out.isw.below (below_drawn _ _), HI.out.len, HI.out.ids⟩
  generalize w1.drewN nd = w2 at *
  clear HI
  go_wp2_with fail
  go_loopw [7] (fun v7 wr => FullA w g v7 wr) (fun v _ => 4096 - (intOf v).toNat)
  case atStart => exact ⟨0, F1, [], rfl, by omega, HI2.out⟩
  case round =>
    obtain ⟨i, F, L, rfl, hi, hI⟩ := hrel
    have HI := Aside0.mk hI; clear hI
    by_cases hlt : i < 4096
    · have hz : (i : Int) < 4096 := by omega
      have hcon := full_step (a := 1 + (r : Int) + (i : Int) % 7) HI.out hlt (by omega) (by omega)
      have HC := Aside0.mk hcon; clear hcon
      go_wp2_with fail
      refine HC.out.mono ?_
      rintro e w3 ⟨rfl, F', L', h3⟩
      have H3 := Aside0.mk h3; clear h3
      go_wp2_with fail
      go_roundw
      case measure => simp [intOf]; omega
      case rel => exact ⟨i + 1, F', L', by go_num, by omega, H3.out⟩
    · obtain rfl : i = 4096 := by omega
      go_wp2_with fail
      refine (count_any a1 4096 wr (by decide) (by decide)).mono ?_
      rintro e w4 ⟨x, rfl, hx, nd, rfl⟩
      have hI4 : FullI w (wr.drewN nd) g 4096 F L := ⟨HI.out.own.step (below_drawn _ _), HI.out.isw.below (below_drawn _ _), HI.out.len, HI.out.ids⟩
      generalize wr.drewN nd = w4 at *
      clear HI
      have hn := hI4.isw.ids
      have r1 : setRes 0 L 4096 (1 + (r : Int)) = 4 := by
        unfold setRes
        rw [if_neg (by omega), if_neg (by omega), if_pos ⟨by rw [hI4.ids]; simp, hI4.len⟩]
      have c1 := set_any w4 F g 0 L 4096 (1 + (r : Int)) (wf_nat (n := 4096) (by omega)) hI4.isw
      rw [r1, show setL 0 L 4096 (1 + (r : Int)) = L from by unfold setL; rw [r1]; rfl] at c1
      have hxx : L.any (fun d => d.id == (x : Int)) = true := by rw [hI4.ids]; simp; omega
      have r2 : setRes 0 L x (1 + (r : Int) + 9) = 0 := by
        unfold setRes
        rw [if_neg (by omega), if_neg (by omega), if_neg (by rw [hxx]; simp)]
      obtain ⟨L2, hL2⟩ : ∃ L2, L2 = setL 0 L x (1 + (r : Int) + 9) := ⟨_, rfl⟩
      have l2 : L2.length = 4096 := by rw [hL2, setL_len r2 hn, if_pos hxx, hI4.len]
      have a2 : atOf L2 x = 1 + (r : Int) + 9 := by rw [hL2]; exact setL_at r2 hn
      have y2 : ∀ y : Int, L2.any (fun d => d.id == y) = (decide (y = x) || L.any (fun d => d.id == y)) := fun y => by rw [hL2]; exact setL_any r2 y
      have hx2 : L2.any (fun d => d.id == (x : Int)) = true := by rw [y2]; simp
      have hx3 : (dropL L2 x).any (fun d => d.id == (x : Int)) = false := drop_any_none L2 x
      have H4 := Aside0.mk (And.intro hI4 (And.intro c1 (And.intro r2 (And.intro hL2 (And.intro l2 (And.intro a2 (And.intro y2 (And.intro hx2 hx3))))))))
      clear hI4 c1 r2 hL2 l2 a2 y2 hx2 hx3 hn r1 hxx
      have hwx : (Lit.int .i64 (x : Int)).wf = true := wf_nat (by omega)
      have HW := Aside0.mk hwx; clear hwx
      go_wp2_with fail
      refine H4.out.2.1.mono ?_
      rintro e w5 ⟨rfl, F5, hq5, ht5⟩
      have HO5 := Aside0.mk (H4.out.1.own.turn ht5)
      have c2 := set_any w5 F5 g 0 L x (1 + (r : Int) + 9) HW.out hq5
      rw [H4.out.2.2.1, ← H4.out.2.2.2.1] at c2
      have HC2 := Aside0.mk c2; clear c2 hq5 ht5
      go_wp2_with fail
      refine HC2.out.mono ?_
      rintro e w6 ⟨rfl, F6, hq6, ht6⟩
      have HO6 := Aside0.mk (HO5.out.turn ht6)
      have c3 := at_any w6 F6 g 0 L2 x HW.out hq6
      rw [H4.out.2.2.2.2.2.1] at c3
      have c4 := len_any w6 F6 g 0 L2 hq6
      rw [H4.out.2.2.2.2.1] at c4
      have c5 := drop_any w6 F6 g 0 L2 x HW.out hq6
      rw [H4.out.2.2.2.2.2.2.2.1] at c5
      have HC6 := Aside0.mk (And.intro c3 (And.intro c4 (And.intro c5 hq6))); clear c3 c4 c5 hq6 ht6
      go_wp2_with fail
      refine HC6.out.1.mono ?_
      rintro e w' ⟨rfl, rfl⟩
      go_wp2_with fail
      refine HC6.out.2.1.mono ?_
      rintro e w' ⟨rfl, rfl⟩
      go_wp2_with fail
      refine HC6.out.2.2.1.mono ?_
      rintro e w7 ⟨rfl, F7, hq7, ht7⟩
      have HO7 := Aside0.mk (HO6.out.turn ht7)
      have c7 := drop_any w7 F7 g 0 (dropL L2 x) x HW.out hq7
      rw [H4.out.2.2.2.2.2.2.2.2] at c7
      have HC7 := Aside0.mk (And.intro hq7 c7); clear c7 hq7 ht7
      go_wp2_with fail
      refine HC7.out.2.mono ?_
      rintro e w8 ⟨rfl, F8, hq8, ht8⟩
      have HO8 := Aside0.mk (HO7.out.turn ht8)
      have l8 : (dropL (dropL L2 x) x).length = 4095 := by
        rw [drop_none H4.out.2.2.2.2.2.2.2.2]
        have := drop_len (H4.out.2.2.2.1 ▸ (HC6.out.2.2.2.ids)) H4.out.2.2.2.2.2.2.2.1
        have := H4.out.2.2.2.2.1
        omega
      have r8 : setRes 0 (dropL (dropL L2 x) x) 4096 (1 + (r : Int)) = 0 := by
        unfold setRes
        rw [if_neg (by omega), if_neg (by omega), if_neg (by rw [l8]; omega)]
      have c8 := set_any w8 F8 g 0 _ 4096 (1 + (r : Int)) (wf_nat (n := 4096) (by omega)) hq8
      rw [r8] at c8
      have HC8 := Aside0.mk c8; clear c8 hq8 ht8 l8 r8
      go_wp2_with fail
      refine HC8.out.mono ?_
      rintro e w9 ⟨rfl, F9, hq9, ht9⟩
      have HO9 := Aside0.mk (HO8.out.turn ht9)
      clear hq9 ht9
      go_wp2_with fail
      refine (known_any _).mono ?_
      rintro e w10 ⟨rfl, hb⟩
      go_wp2_with fail
      go_ret
      exact ⟨rfl, (HO9.out.step hb).below⟩
end Go.Proofs.Ytodgcfkdnellpaa
