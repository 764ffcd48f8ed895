/- Wheel: the law WheelPlays, walked. -/
import Derived.Test.YtodgcfkdnellpaaLP1
set_option linter.unusedSimpArgs false
set_option linter.unusedVariables false
namespace Go.Proofs.Ytodgcfkdnellpaa
open Go.RowKit Go.Proofs.YtodgcfkdnellpaaW.PrintWords
open T (S33 S55 k33 k55)
set_option maxHeartbeats 40000000 in
set_option maxRecDepth 100000 in
theorem plays_law (n0 : Int) (A : Option Addr) (c : Nat) (l : List Ac) (w : World) (hA : AcsAt w A l) (hl : l.length ≤ maxLen) : Calls Try.prog 7 #[.int .i64 n0, .slice A l.length c] w fun e w' => e = .returned (.bool true) ∧ Below w.heap.size w w' := by
  have HAC := Aside0.mk hA; clear hA
  unfold maxLen at hl
  by_cases hn : 0 ≤ n0 ∧ n0 ≤ 1099511627776
  case neg =>
    have HNO := Aside0.mk (And.intro (new_no n0 w hn) (rnew_no n0 w hn)); clear hn
    go_enter Try.func7, Try.ntmps7
    go_wp2_with fail
    refine HNO.out.1.mono ?_
    rintro e w' ⟨rfl, rfl⟩
    go_wp2_with fail
    refine HNO.out.2.mono ?_
    rintro e w' ⟨rfl, rfl⟩
    go_wp2_with fail
    refine (known_any _).mono ?_
    rintro e w10 ⟨rfl, hb⟩
    go_wp2_with fail
    go_ret
    exact ⟨rfl, hb⟩
  obtain ⟨hn1, hn2⟩ := hn
  go_enter Try.func7, Try.ntmps7
  go_wp2_with fail
  refine (new_ok n0 w hn1 hn2).mono ?_
  rintro e w1 ⟨g, F1, rfl, hq1, hF1, hb1⟩
  have HQ1 := Aside0.mk (And.intro hb1 (And.intro hF1 hq1)); clear hq1 hF1 hb1
  go_wp2_with fail
  refine (rnew_ok n0 w1 hn1 hn2).mono ?_
  rintro e w2 ⟨rfl, hr2, hb2⟩
  have HQ2 := Aside0.mk (show PlayI w w2 g w1.heap.size F1 (fun k => k = w1.heap.size) n0 [] n0 [] (.slice none 0 0) from ⟨HQ1.out.1.trans (hb2.mono HQ1.out.1.size), HQ1.out.2.1, fun k hk => by subst hk; exact HQ1.out.1.size, HQ1.out.2.2.below hb2, hr2, fun k h1 h2 => by have := HQ1.out.2.2.lt k h1; omega⟩)
  clear hr2 hb2
  obtain ⟨r, hr⟩ : ∃ r, r = w1.heap.size := ⟨_, rfl⟩
  rw [← hr] at HQ2 ⊢
  clear hr HQ1
  go_wp2_with fail
  go_loopw [8, 9, 10, 11, 12, 13, 14, 15, 16, 17] (fun v8 _ _ _ _ _ _ _ _ _ wr => PlayA w g r l.length v8 wr) (fun v8 _ _ _ _ _ _ _ _ _ _ => 200 - (intOf v8).toNat)
  case atStart => exact ⟨0, F1, _, n0, [], _, rfl, Nat.zero_le _, by omega, HQ2.out⟩
  case round =>
    obtain ⟨i, F, G, now, L, v, rfl, hil, hi, hI⟩ := hrel
    have HI := Aside0.mk hI; clear hI
    by_cases hlt : i < l.length ∧ i < 200
    · obtain ⟨hlt1, hlt2⟩ := hlt
      have hz1 : (i : Int) < (l.length : Int) := by omega
      have hz2 : (i : Int) < 200 := by omega
      rcases HAC.out with hn | ⟨b, off, rfl, hacts⟩
      · rw [hn] at hlt1; exact absurd hlt1 (Nat.not_lt_zero _)
      obtain ⟨hc0, hc1, hc2, _, hw1, hw2⟩ := hacts i hlt1
      generalize l[i].kind = kd at *
      generalize l[i].id = xi at *
      generalize l[i].at_ = xa at *
      have cellw : ∀ {p : Addr} {u : Value}, w.cell? p = some u → wr.cell? p = some u := fun {p u} h => (HI.out.below.cell (World.block_lt_of_cell? w p h)).trans h
      have k0 := cellw hc0
      have k1 := cellw hc1
      have k2 := cellw hc2
      have HW := Aside0.mk (And.intro hw1 hw2)
      clear hc0 hc1 hc2 hacts hw1 hw2 cellw
      go_upto_block 2 with fail
      obtain ⟨w5, hw5⟩ : ∃ w5, w5 = wr.alloc (.cells #[.int .i64 kd, .int .i64 xi, .int .i64 xa] 39) := ⟨_, rfl⟩
      obtain ⟨n9, hn9⟩ : ∃ n9, n9 = wr.heap.size := ⟨_, rfl⟩
      have hb5 : Below wr.heap.size wr w5 := by rw [hw5]; exact below_alloc (Below.refl _ _) _
      have hnew : w5.heap[n9]? = some (.cells #[.int .i64 kd, .int .i64 xi, .int .i64 xa] 39 (0, 0)) := by rw [hw5, hn9]; exact heap_alloc_new wr _
      have j1 : w5.cell? ⟨n9, 1, none⟩ = some (.int .i64 xi) := blk_cell hnew 1
      have j2 : w5.cell? ⟨n9, 2, none⟩ = some (.int .i64 xa) := blk_cell hnew 2
      have HJ := Aside0.mk (show PlayJ w w5 g r n9 xi xa F G now L now L v from ⟨HI.out.step hb5, fun h => by have := HI.out.isw.lt _ h; omega, fun h => by have := HI.out.isr.lt _ h; omega, blk_lt hnew, j1, j2⟩)
      have HLL := Aside0.mk (list_facts HI.out.isw)
      rw [← hw5, ← hn9]
      clear hw5 hn9 hb5 hnew k0 k1 k2
      go_cut [10] (fun s10 wx => PlayC w g r n9 xi xa s10 wx)
      case first =>
        rcases (show (kd = 0 ∨ kd = 1 ∨ kd = 2 ∨ kd = 3) ∨ kd = 4 ∨ (kd = 5 ∨ kd = 6) ∨ (kd ≠ 0 ∧ kd ≠ 1 ∧ kd ≠ 2 ∧ kd ≠ 3 ∧ kd ≠ 4 ∧ kd ≠ 5 ∧ kd ≠ 6) by omega) with hkd | rfl | hkd | ⟨h0, h1, h2, h3, h4, h5, h6⟩
        · have hk : w5.drew.cell? ⟨n9, 1, none⟩ = some (.int .i64 xi) ∧ w5.drew.cell? ⟨n9, 2, none⟩ = some (.int .i64 xa) := ⟨j1, j2⟩
          have HA := Aside0.mk (set_any w5.drew F g now L xi xa HW.out.1 HJ.out.drew.pl.isw)
          clear j1 j2
          go_upto_if 64 with fail
          go_cut [64] (fun s64 wx => s64 = .bool true ∧ w5 = wx)
          case first =>
            rcases hkd with rfl | rfl | rfl | rfl
            all_goals
              go_wp2_with fail
              go_meet
              exact ⟨rfl, rfl⟩
          case rest =>
            obtain ⟨rfl, rfl⟩ := hcut
            go_wp2_with fail
            refine Plan2.region 1000 (fun w' => w'.cell? ⟨n9, 1, none⟩ = some (.int .i64 xi) ∧ w'.cell? ⟨n9, 2, none⟩ = some (.int .i64 xa)) [(0, 0), (1, 0), (2, 1), (3, 0), (4, 1), (6, 0), (7, 0), (8, 1), (9, 0), (10, 1), (5, 2), (11, 2), (12, 0), (13, 0)] (by kernel_rfl) (by kernel_rfl) (fun _ _ d _ _ h => by cases d <;> exact h) ?_ ?_
            focus (first | exact hk | exact H3.out.cells | exact H4.out.cells)
            (refine' Plan2.pure (N := (some 69)) rfl (by rfl) rfl ?_ ?_ ?_; rotate_left 2; (focus (intro w'; go_simp; exact Plan2.isV)); (focus (first | (refine (put_lit _ _ _ _).trans ?_; (try dsimp only [List.set_cons_succ, List.set_cons_zero]); rfl) | (simp only [Act.put, List.setIfInBounds_toArray, List.set_cons_zero, List.set_cons_succ]; rfl))))
            (refine' Plan2.pure (N := (some 70)) rfl (by rfl) rfl ?_ ?_ ?_; rotate_left 2; (focus (intro w'; go_simp; exact Plan2.isV)); (focus (first | (refine (put_lit _ _ _ _).trans ?_; (try dsimp only [List.set_cons_succ, List.set_cons_zero]); rfl) | (simp only [Act.put, List.setIfInBounds_toArray, List.set_cons_zero, List.set_cons_succ]; rfl))))
            (refine' Plan2.load (N := (some 71)) rfl (by rfl) rfl ?_ ?_ ?_; rotate_left 2; (focus (intro w' hS; (try dsimp only at hS); go_simp; exact Plan2.isV)); (focus (first | (refine (put_lit _ _ _ _).trans ?_; (try dsimp only [List.set_cons_succ, List.set_cons_zero]); rfl) | (simp only [Act.put, List.setIfInBounds_toArray, List.set_cons_zero, List.set_cons_succ]; rfl))))
            (refine' Plan2.pure (N := (some 72)) rfl (by rfl) rfl ?_ ?_ ?_; rotate_left 2; (focus (intro w'; go_simp; exact Plan2.isV)); (focus (first | (refine (put_lit _ _ _ _).trans ?_; (try dsimp only [List.set_cons_succ, List.set_cons_zero]); rfl) | (simp only [Act.put, List.setIfInBounds_toArray, List.set_cons_zero, List.set_cons_succ]; rfl))))
            (refine' Plan2.load (N := (some 73)) rfl (by rfl) rfl ?_ ?_ ?_; rotate_left 2; (focus (intro w' hS; (try dsimp only at hS); go_simp; exact Plan2.isV)); (focus (first | (refine (put_lit _ _ _ _).trans ?_; (try dsimp only [List.set_cons_succ, List.set_cons_zero]); rfl) | (simp only [Act.put, List.setIfInBounds_toArray, List.set_cons_zero, List.set_cons_succ]; rfl))))
            (refine' Plan2.pure (N := (some 75)) rfl (by rfl) rfl ?_ ?_ ?_; rotate_left 2; (focus (intro w'; go_simp; exact Plan2.isV)); (focus (first | (refine (put_lit _ _ _ _).trans ?_; (try dsimp only [List.set_cons_succ, List.set_cons_zero]); rfl) | (simp only [Act.put, List.setIfInBounds_toArray, List.set_cons_zero, List.set_cons_succ]; rfl))))
            (refine' Plan2.pure (N := (some 76)) rfl (by rfl) rfl ?_ ?_ ?_; rotate_left 2; (focus (intro w'; go_simp; exact Plan2.isV)); (focus (first | (refine (put_lit _ _ _ _).trans ?_; (try dsimp only [List.set_cons_succ, List.set_cons_zero]); rfl) | (simp only [Act.put, List.setIfInBounds_toArray, List.set_cons_zero, List.set_cons_succ]; rfl))))
            (refine' Plan2.load (N := (some 77)) rfl (by rfl) rfl ?_ ?_ ?_; rotate_left 2; (focus (intro w' hS; (try dsimp only at hS); go_simp; exact Plan2.isV)); (focus (first | (refine (put_lit _ _ _ _).trans ?_; (try dsimp only [List.set_cons_succ, List.set_cons_zero]); rfl) | (simp only [Act.put, List.setIfInBounds_toArray, List.set_cons_zero, List.set_cons_succ]; rfl))))
            (refine' Plan2.pure (N := (some 78)) rfl (by rfl) rfl ?_ ?_ ?_; rotate_left 2; (focus (intro w'; go_simp; exact Plan2.isV)); (focus (first | (refine (put_lit _ _ _ _).trans ?_; (try dsimp only [List.set_cons_succ, List.set_cons_zero]); rfl) | (simp only [Act.put, List.setIfInBounds_toArray, List.set_cons_zero, List.set_cons_succ]; rfl))))
            (refine' Plan2.load (N := (some 79)) rfl (by rfl) rfl ?_ ?_ ?_; rotate_left 2; (focus (intro w' hS; (try dsimp only at hS); go_simp; exact Plan2.isV)); (focus (first | (refine (put_lit _ _ _ _).trans ?_; (try dsimp only [List.set_cons_succ, List.set_cons_zero]); rfl) | (simp only [Act.put, List.setIfInBounds_toArray, List.set_cons_zero, List.set_cons_succ]; rfl))))
            (refine' Plan2.acts (past' := false) rfl (by rfl) rfl (fun K hK => ?_); go_simp; (refine (HA.out).mono ?_); rintro e w3 ⟨rfl, F3, hq3, ht3⟩; have H3 := Aside0.mk (HJ.out.drew.turn1 hq3 ht3); clear hq3 ht3; have HB := Aside0.mk (rset_any w3 G r now L v xi xa H3.out.pl.isr HLL.out.1 HLL.out.2.1); (refine hK.out _ _ (fun hp => ?_) (fun hS => ?_)); (focus (clear hp; (first | exact hk | exact H3.out.cells | exact H4.out.cells))))
            (refine' Plan2.acts (past' := false) rfl (by rfl) rfl (fun K hK => ?_); go_simp; (refine (HB.out).mono ?_); rintro e w4 ⟨rfl, G4, v4, hq4, ht4⟩; have H4 := Aside0.mk (H3.out.turn2 hq4 ht4); clear hq4 ht4; (refine hK.out _ _ (fun hp => ?_) (fun hS => ?_)); (focus (clear hp; (first | exact hk | exact H3.out.cells | exact H4.out.cells))))
            (refine' Plan2.pure (N := (some 81)) rfl (by rfl) rfl ?_ ?_ ?_; rotate_left 2; (focus (intro w'; go_simp; exact Plan2.isV)); (focus (first | (refine (put_lit _ _ _ _).trans ?_; (try dsimp only [List.set_cons_succ, List.set_cons_zero]); rfl) | (simp only [Act.put, List.setIfInBounds_toArray, List.set_cons_zero, List.set_cons_succ]; rfl))))
            (refine' Plan2.pure (N := (some 10)) rfl (by rfl) rfl ?_ ?_ ?_; rotate_left 2; (focus (intro w'; go_simp; exact Plan2.isV)); (focus (first | (refine (put_lit _ _ _ _).trans ?_; (try dsimp only [List.set_cons_succ, List.set_cons_zero]); rfl) | (simp only [Act.put, List.setIfInBounds_toArray, List.set_cons_zero, List.set_cons_succ]; rfl))))
            refine Plan2.done ?_
            go_wp2_with fail
            go_meet
            exact ⟨rfl, F3, G4, now, _, v4, H4.out⟩
        · have hk : w5.drew.cell? ⟨n9, 1, none⟩ = some (.int .i64 xi) ∧ w5.drew.cell? ⟨n9, 2, none⟩ = some (.int .i64 xa) := ⟨j1, j2⟩
          have HA := Aside0.mk (drop_any w5.drew F g now L xi HW.out.1 HJ.out.drew.pl.isw)
          clear j1 j2
          go_wp2_with fail
          refine Plan2.region 1000 (fun w' => w'.cell? ⟨n9, 1, none⟩ = some (.int .i64 xi) ∧ w'.cell? ⟨n9, 2, none⟩ = some (.int .i64 xa)) [(0, 0), (1, 0), (2, 1), (4, 0), (5, 0), (6, 1), (3, 2), (7, 2), (8, 0), (9, 0)] (by kernel_rfl) (by kernel_rfl) (fun _ _ d _ _ h => by cases d <;> exact h) ?_ ?_
          focus (first | exact hk | exact H3.out.cells | exact H4.out.cells)
          (refine' Plan2.pure (N := (some 84)) rfl (by rfl) rfl ?_ ?_ ?_; rotate_left 2; (focus (intro w'; go_simp; exact Plan2.isV)); (focus (first | (refine (put_lit _ _ _ _).trans ?_; (try dsimp only [List.set_cons_succ, List.set_cons_zero]); rfl) | (simp only [Act.put, List.setIfInBounds_toArray, List.set_cons_zero, List.set_cons_succ]; rfl))))
          (refine' Plan2.pure (N := (some 85)) rfl (by rfl) rfl ?_ ?_ ?_; rotate_left 2; (focus (intro w'; go_simp; exact Plan2.isV)); (focus (first | (refine (put_lit _ _ _ _).trans ?_; (try dsimp only [List.set_cons_succ, List.set_cons_zero]); rfl) | (simp only [Act.put, List.setIfInBounds_toArray, List.set_cons_zero, List.set_cons_succ]; rfl))))
          (refine' Plan2.load (N := (some 86)) rfl (by rfl) rfl ?_ ?_ ?_; rotate_left 2; (focus (intro w' hS; (try dsimp only at hS); go_simp; exact Plan2.isV)); (focus (first | (refine (put_lit _ _ _ _).trans ?_; (try dsimp only [List.set_cons_succ, List.set_cons_zero]); rfl) | (simp only [Act.put, List.setIfInBounds_toArray, List.set_cons_zero, List.set_cons_succ]; rfl))))
          (refine' Plan2.pure (N := (some 88)) rfl (by rfl) rfl ?_ ?_ ?_; rotate_left 2; (focus (intro w'; go_simp; exact Plan2.isV)); (focus (first | (refine (put_lit _ _ _ _).trans ?_; (try dsimp only [List.set_cons_succ, List.set_cons_zero]); rfl) | (simp only [Act.put, List.setIfInBounds_toArray, List.set_cons_zero, List.set_cons_succ]; rfl))))
          (refine' Plan2.pure (N := (some 89)) rfl (by rfl) rfl ?_ ?_ ?_; rotate_left 2; (focus (intro w'; go_simp; exact Plan2.isV)); (focus (first | (refine (put_lit _ _ _ _).trans ?_; (try dsimp only [List.set_cons_succ, List.set_cons_zero]); rfl) | (simp only [Act.put, List.setIfInBounds_toArray, List.set_cons_zero, List.set_cons_succ]; rfl))))
          (refine' Plan2.load (N := (some 90)) rfl (by rfl) rfl ?_ ?_ ?_; rotate_left 2; (focus (intro w' hS; (try dsimp only at hS); go_simp; exact Plan2.isV)); (focus (first | (refine (put_lit _ _ _ _).trans ?_; (try dsimp only [List.set_cons_succ, List.set_cons_zero]); rfl) | (simp only [Act.put, List.setIfInBounds_toArray, List.set_cons_zero, List.set_cons_succ]; rfl))))
          (refine' Plan2.acts (past' := false) rfl (by rfl) rfl (fun K hK => ?_); go_simp; (refine (HA.out).mono ?_); rintro e w3 ⟨rfl, F3, hq3, ht3⟩; have H3 := Aside0.mk (HJ.out.drew.turn1 hq3 ht3); clear hq3 ht3; have HB := Aside0.mk (rdrop_any w3 G r now L v xi H3.out.pl.isr HLL.out.1); (refine hK.out _ _ (fun hp => ?_) (fun hS => ?_)); (focus (clear hp; (first | exact hk | exact H3.out.cells | exact H4.out.cells))))
          (refine' Plan2.acts (past' := false) rfl (by rfl) rfl (fun K hK => ?_); go_simp; (refine (HB.out).mono ?_); rintro e w4 ⟨rfl, G4, v4, hq4, ht4⟩; have H4 := Aside0.mk (H3.out.turn2 hq4 ht4); clear hq4 ht4; (refine hK.out _ _ (fun hp => ?_) (fun hS => ?_)); (focus (clear hp; (first | exact hk | exact H3.out.cells | exact H4.out.cells))))
          (refine' Plan2.pure (N := (some 92)) rfl (by rfl) rfl ?_ ?_ ?_; rotate_left 2; (focus (intro w'; go_simp; exact Plan2.isV)); (focus (first | (refine (put_lit _ _ _ _).trans ?_; (try dsimp only [List.set_cons_succ, List.set_cons_zero]); rfl) | (simp only [Act.put, List.setIfInBounds_toArray, List.set_cons_zero, List.set_cons_succ]; rfl))))
          (refine' Plan2.pure (N := (some 10)) rfl (by rfl) rfl ?_ ?_ ?_; rotate_left 2; (focus (intro w'; go_simp; exact Plan2.isV)); (focus (first | (refine (put_lit _ _ _ _).trans ?_; (try dsimp only [List.set_cons_succ, List.set_cons_zero]); rfl) | (simp only [Act.put, List.setIfInBounds_toArray, List.set_cons_zero, List.set_cons_succ]; rfl))))
          refine Plan2.done ?_
          go_wp2_with fail
          go_meet
          exact ⟨rfl, F3, G4, now, _, v4, H4.out⟩
        · have hd0 : (kd == 0) = false := beq_false_of_ne (by omega)
          have hd1 : (kd == 1) = false := beq_false_of_ne (by omega)
          have hd2 : (kd == 2) = false := beq_false_of_ne (by omega)
          have hd3 : (kd == 3) = false := beq_false_of_ne (by omega)
          have hd4 : (kd == 4) = false := beq_false_of_ne (by omega)
          go_upto_if 93 with fail
          go_cut [93] (fun s93 wx => s93 = .bool true ∧ w5 = wx)
          case first =>
            rcases hkd with rfl | rfl
            all_goals
              go_wp2_with fail
              go_meet
              exact ⟨rfl, rfl⟩
          case rest =>
            obtain ⟨rfl, rfl⟩ := hcut
            clear hd0 hd1 hd2 hd3 hd4
            rcases (show xa < now ∨ (now ≤ xa ∧ 1099511627776 < xa) ∨ (now ≤ xa ∧ xa ≤ 1099511627776) by omega) with h1 | ⟨h1, h2⟩ | ⟨h1, h2⟩
            · go_wp2_with fail
              refine (adv_old w5 F g now L xa HJ.out.pl.isw h1).mono ?_
              rintro e w' ⟨rfl, rfl⟩
              go_wp2_with fail
              refine (radv_old w5 G r now L v xa HJ.out.pl.isr h1).mono ?_
              rintro e w' ⟨rfl, rfl⟩
              go_wp2_with fail
              refine (taken_any w5 none 0 0 [] (ORow.nil _) (by decide)).mono ?_
              rintro e w8 ⟨A8, c8, rfl, hc8, hx8, hb8⟩
              have hs8 := same_any w8 A8 c8 [] none 0 [] (hx8 SNo w8 (Fr.refl _ _) (fun _ _ _ h => h)) hc8 (C_of_prow (PRow.nil w8)) (Nat.le_refl _) (by decide)
              rw [decide_eq_true rfl] at hs8
              have H8 := Aside0.mk (And.intro (HJ.out.step hb8) hs8); clear hc8 hx8 hb8 hs8
              go_wp2_with fail
              refine H8.out.2.mono ?_
              rintro e w9 ⟨rfl, nd, rfl⟩
              have H9 := Aside0.mk (H8.out.1.step (below_drawn w8 nd))
              generalize w8.drewN nd = w9 at *
              go_wp2_with fail
              go_meet
              exact ⟨rfl, F, G, now, L, v, H9.out⟩
            · go_wp2_with fail
              refine (adv_arg w5 F g now L xa HJ.out.pl.isw h1 h2).mono ?_
              rintro e w' ⟨rfl, rfl⟩
              go_wp2_with fail
              refine (radv_arg w5 G r now L v xa HJ.out.pl.isr h1 h2).mono ?_
              rintro e w' ⟨rfl, rfl⟩
              go_wp2_with fail
              refine (taken_any w5 none 0 0 [] (ORow.nil _) (by decide)).mono ?_
              rintro e w8 ⟨A8, c8, rfl, hc8, hx8, hb8⟩
              have hs8 := same_any w8 A8 c8 [] none 0 [] (hx8 SNo w8 (Fr.refl _ _) (fun _ _ _ h => h)) hc8 (C_of_prow (PRow.nil w8)) (Nat.le_refl _) (by decide)
              rw [decide_eq_true rfl] at hs8
              have H8 := Aside0.mk (And.intro (HJ.out.step hb8) hs8); clear hc8 hx8 hb8 hs8
              go_wp2_with fail
              refine H8.out.2.mono ?_
              rintro e w9 ⟨rfl, nd, rfl⟩
              have H9 := Aside0.mk (H8.out.1.step (below_drawn w8 nd))
              generalize w8.drewN nd = w9 at *
              go_wp2_with fail
              go_meet
              exact ⟨rfl, F, G, now, L, v, H9.out⟩
            · obtain ⟨X, hX⟩ : ∃ X, X = L.filter (upTo xa) := ⟨_, rfl⟩
              obtain ⟨M, hM⟩ : ∃ M, M = L.filter (fun d => !upTo xa d) := ⟨_, rfl⟩
              have hxl : X.length ≤ 4096 := by rw [hX]; exact Nat.le_trans (List.length_filter_le _ _) HLL.out.1
              have HC := Aside0.mk (adv_to (g := g) HJ.out.pl.isw h1 h2 hX hM)
              have HE := Aside0.mk (And.intro hX (And.intro hM hxl))
              clear hX hM hxl
              go_wp2_with fail
              refine HC.out.mono ?_
              rintro e w3 ⟨A3, c3, F3, rfl, ho3, hn3, hq3, ht3⟩
              have H3 := Aside0.mk (And.intro (HJ.out.turn1 hq3 ht3) (And.intro ho3 hn3)); clear ho3 hn3 hq3 ht3
              have q2 := H3.out.1.cells.2
              have HB := Aside0.mk (radv_any w3 G r now L v xa X M H3.out.1.pl.isr HLL.out.1 h1 h2 HLL.out.2.2 HE.out.1 HE.out.2.1)
              go_wp2_with fail
              refine HB.out.mono ?_
              rintro e w4 ⟨A4, c4, G4, v4, rfl, ho4, hq4, ht4⟩
              have h4 := H3.out.1.turn2 hq4 ht4
              have ho34 := H3.out.2.1.frame ht4.fr (fun k hk hG => by have := (H3.out.2.2 k hk).1; have := HJ.out.pl.isr.lt k hG; omega)
              have H4 := Aside0.mk (And.intro h4 (And.intro ho4 (taken_any w4 A3 _ c3 X ho34 (by have := HE.out.2.2; omega)))); clear h4 ho34 ho4 hq4 ht4
              go_wp2_with fail
              refine H4.out.2.2.mono ?_
              rintro e w8 ⟨A8, c8, rfl, hc8, hx8, hb8⟩
              have ho48 := H4.out.2.1.frame (Fr.of_below hb8 SNo) (fun _ _ h => h)
              have hs8 := same_any w8 A8 c8 X A4 c4 X (hx8 SNo w8 (Fr.refl _ _) (fun _ _ _ h => h)) hc8 (C_of_prow ho48) (by obtain ⟨_, _, e, h, _⟩ := ho48.len; injection e with _ _ e; omega) (by have := HE.out.2.2; omega)
              rw [decide_eq_true rfl] at hs8
              have H8 := Aside0.mk (And.intro (H4.out.1.step hb8) hs8); clear hc8 hx8 hb8 hs8 ho48
              go_wp2_with fail
              refine H8.out.2.mono ?_
              rintro e w9 ⟨rfl, nd, rfl⟩
              have H9 := Aside0.mk (H8.out.1.step (below_drawn w8 nd))
              generalize w8.drewN nd = w9 at *
              go_wp2_with fail
              go_meet
              exact ⟨rfl, F3, G4, xa, M, v4, H9.out⟩
        · have h0' : (kd == 0) = false := beq_false_of_ne h0
          have h1' : (kd == 1) = false := beq_false_of_ne h1
          have h2' : (kd == 2) = false := beq_false_of_ne h2
          have h3' : (kd == 3) = false := beq_false_of_ne h3
          have h4' : (kd == 4) = false := beq_false_of_ne h4
          have h5' : (kd == 5) = false := beq_false_of_ne h5
          have h6' : (kd == 6) = false := beq_false_of_ne h6
          go_wp2_with fail
          go_meet
          exact ⟨rfl, F, G, now, L, v, HJ.out⟩
      case rest =>
        obtain ⟨rfl, F2, G2, now2, L2, v2, hJ⟩ := hcut
        rename_i hup
        refine hup _ _ ?_
        clear hup HJ HLL j1 j2
        refine play_checks w wc g r n9 xi xa F2 G2 now2 L2 v2 _ _ _ _ _ _ _ _ _ _ _ _ _ _ _ _ _ _ _ _ _ _ _ _ _ _ _ _ _ _ _ _ _ _ _ _ _ _ _ _ _ _ _ _ _ _ _ _ _ _ _ _ _ _ _ _ _ _ _ _ _ _ _ _ _ _ _ _ _ _ _ _ _ _ _ _ _ _ _ _ _ _ _ _ _ _ _ _ _ _ _ _ _ _ _ _ _ _ _ _ _ _ _ _ _ _ _ _ _ _ _ _ _ _ _ _ _ _ _ _ _ _ _ _ _ _ _ _ _ _ _ _ _ _ _ _ _ _ _ _ _ _ _ _ _ _ _ _ _ _ _ _ _ _ _ _ _ _ _ _ _ _ _ _ _ _ _ _ _ _ _ _ _ _ _ _ _ _ _ _ _ _ _ _ _ _ _ _ _ _ hJ HW.out.1 (fun u15 u16 u17 u119 u120 u121 u122 u123 u124 u125 u126 u127 u128 u129 u130 u131 u132 u133 u134 u135 u136 u137 u138 u139 u140 u141 u142 u143 u144 u145 u146 u147 u148 u149 u150 u151 u152 u153 u154 u155 u156 u157 u158 u159 u160 u161 u162 u163 u164 u165 u166 u167 u168 u169 u170 u171 u172 u173 u174 u175 u176 u177 u178 u179 u180 u181 u182 u183 u184 u185 u186 u187 u188 u189 u190 u191 w' hp => ?_) (fun _ _ d _ _ h => by cases d <;> exact h)
        go_wp2_with fail
        go_roundw
        case measure => simp [intOf] <;> omega
        case rel => exact ⟨i + 1, F2, G2, now2, L2, _, by go_num, by omega, by omega, hp⟩
    · have HO := Aside0.mk (show Own w wr F from ⟨HI.out.below, HI.out.new1⟩)
      go_wp2_with fail
      all_goals
        refine (known_any _).mono ?_
        rintro e w10 ⟨rfl, hb⟩
        go_wp2_with fail
        go_ret
        exact ⟨rfl, (HO.out.step hb).below⟩
end Go.Proofs.Ytodgcfkdnellpaa
