/- Wheel: the law WheelSteps, walked. -/
import Derived.Test.YtodgcfkdnellpaaR2
set_option linter.unusedSimpArgs false
set_option linter.unusedVariables false
namespace Go.Proofs.Ytodgcfkdnellpaa
open Go.RowKit Go.Proofs.YtodgcfkdnellpaaW.PrintWords
open T (S33 S55 k33 k55)
set_option maxHeartbeats 40000000 in
set_option maxRecDepth 100000 in
theorem steps_law (A : Option Addr) (c : Nat) (l : List Ac) (a b : Int) (w : World) (hA : AcsAt w A l) (hl : l.length ≤ maxLen) : Calls Try.prog 4 #[.slice A l.length c, .int .i64 a, .int .i64 b] w fun e w' => e = .returned (.bool true) ∧ Below w.heap.size w w' := by
  have HA := Aside0.mk hA; clear hA
  unfold maxLen at hl
  go_enter Try.func4, Try.ntmps4
  go_wp2_with fail
  refine (new_ok 0 w (by decide) (by decide)).mono ?_
  rintro e w1 ⟨g1, G1, rfl, hq1, hF1, hb1⟩
  have HQ1 := Aside0.mk (And.intro hb1 (And.intro hF1 hq1)); clear hq1 hF1 hb1
  go_wp2_with fail
  refine (new_ok 0 w1 (by decide) (by decide)).mono ?_
  rintro e w2 ⟨g2, G2, rfl, hq2, hF2, hb2⟩
  have HQ0 := Aside0.mk (Two.new HQ1.out.1 HQ1.out.2.1 HQ1.out.2.2 hb2 hF2 hq2); clear hq2 hF2 hb2 HQ1
  by_cases hab : 0 ≤ a ∧ a ≤ b ∧ b ≤ 1099511627776
  case neg =>
    rcases (show a < 0 ∨ (0 ≤ a ∧ b < a) ∨ (0 ≤ a ∧ a ≤ b ∧ 1099511627776 < b) by omega) with h1 | ⟨h1, h2⟩ | ⟨h1, h2, h3⟩
    all_goals
      clear hab
      go_wp2_with fail
      refine (known_any _).mono ?_
      rintro e w10 ⟨rfl, hb⟩
      go_wp2_with fail
      go_ret
      exact ⟨rfl, (HQ0.out.own1.step hb).below⟩
  obtain ⟨ha0, hab, hb0⟩ := hab
  have HAB := Aside0.mk (And.intro ha0 (And.intro hab hb0))
  go_wp2_with fail
  clear ha0 hab hb0
  go_loopw [11] (fun v wr => SetsA w g1 g2 l.length v wr) (fun v _ => 100 - (intOf v).toNat)
  case atStart => exact ⟨0, G1, G2, [], rfl, Nat.zero_le _, by omega, HQ0.out⟩
  case round =>
    obtain ⟨i, F1, F2, L, rfl, hil, hi, hI⟩ := hrel
    have HI := Aside0.mk hI; clear hI
    by_cases hlt : i < l.length ∧ i < 100
    · obtain ⟨hlt1, hlt2⟩ := hlt
      have hz1 : (i : Int) < (l.length : Int) := by omega
      have hz2 : (i : Int) < 100 := by omega
      rcases HA.out with hn | ⟨b, off, rfl, hacts⟩
      · rw [hn] at hlt1; exact absurd hlt1 (Nat.not_lt_zero _)
      obtain ⟨_, hc1, hc2, _, hw1, _⟩ := hacts i hlt1
      generalize l[i].id = x at *
      generalize l[i].at_ = t at *
      have HC := Aside0.mk (And.intro hc1 hc2)
      have hk : wr.drew.cell? ⟨b, off + i * 3 + 1, none⟩ = some (.int .i64 x) ∧ wr.drew.cell? ⟨b, off + i * 3 + 2, none⟩ = some (.int .i64 t) := ⟨HI.out.cell hc1, HI.out.cell hc2⟩
      have HW := Aside0.mk hw1
      have HS1 := Aside0.mk (set_any wr.drew F1 g1 0 L x t HW.out HI.out.drew.is1)
      clear hc1 hc2 hacts hw1
      go_wp2_with fail
      refine Plan2.region 11 (fun w' => w'.cell? ⟨b, off + i * 3 + 1, none⟩ = some (.int .i64 x) ∧ w'.cell? ⟨b, off + i * 3 + 2, none⟩ = some (.int .i64 t)) [(0, 0), (1, 0), (2, 0), (3, 0), (4, 0), (5, 1), (6, 0), (7, 0), (8, 0), (9, 0), (10, 1), (11, 2)] (by kernel_rfl) (by kernel_rfl) (fun _ _ d _ _ h => by cases d <;> exact h) ?_ ?_
      focus exact hk
      (refine' Plan2.pure (N := (some 63)) rfl (by rfl) rfl ?_ ?_ ?_; rotate_left 2; (focus (intro w'; go_simp; exact Plan2.isV)); (focus (simp only [Act.put, List.setIfInBounds_toArray, List.set_cons_zero, List.set_cons_succ]; rfl)))
      (refine' Plan2.pure (N := (some 64)) rfl (by rfl) rfl ?_ ?_ ?_; rotate_left 2; (focus (intro w'; go_simp; exact Plan2.isV)); (focus (simp only [Act.put, List.setIfInBounds_toArray, List.set_cons_zero, List.set_cons_succ]; rfl)))
      (refine' Plan2.pure (N := (some 65)) rfl (by rfl) rfl ?_ ?_ ?_; rotate_left 2; (focus (intro w'; go_simp; exact Plan2.isV)); (focus (simp only [Act.put, List.setIfInBounds_toArray, List.set_cons_zero, List.set_cons_succ]; rfl)))
      (refine' Plan2.pure (N := (some 66)) rfl (by rfl) rfl ?_ ?_ ?_; rotate_left 2; (focus (intro w'; go_simp; exact Plan2.isV)); (focus (simp only [Act.put, List.setIfInBounds_toArray, List.set_cons_zero, List.set_cons_succ]; rfl)))
      (refine' Plan2.pure (N := (some 67)) rfl (by rfl) rfl ?_ ?_ ?_; rotate_left 2; (focus (intro w'; go_simp; exact Plan2.isV)); (focus (simp only [Act.put, List.setIfInBounds_toArray, List.set_cons_zero, List.set_cons_succ]; rfl)))
      (refine' Plan2.load (N := (some 68)) rfl (by rfl) rfl ?_ ?_ ?_; rotate_left 2; (focus (intro w' hS; (try dsimp only at hS); go_simp; exact Plan2.isV)); (focus (simp only [Act.put, List.setIfInBounds_toArray, List.set_cons_zero, List.set_cons_succ]; rfl)))
      (refine' Plan2.pure (N := (some 69)) rfl (by rfl) rfl ?_ ?_ ?_; rotate_left 2; (focus (intro w'; go_simp; exact Plan2.isV)); (focus (simp only [Act.put, List.setIfInBounds_toArray, List.set_cons_zero, List.set_cons_succ]; rfl)))
      (refine' Plan2.pure (N := (some 70)) rfl (by rfl) rfl ?_ ?_ ?_; rotate_left 2; (focus (intro w'; go_simp; exact Plan2.isV)); (focus (simp only [Act.put, List.setIfInBounds_toArray, List.set_cons_zero, List.set_cons_succ]; rfl)))
      (refine' Plan2.pure (N := (some 71)) rfl (by rfl) rfl ?_ ?_ ?_; rotate_left 2; (focus (intro w'; go_simp; exact Plan2.isV)); (focus (simp only [Act.put, List.setIfInBounds_toArray, List.set_cons_zero, List.set_cons_succ]; rfl)))
      (refine' Plan2.pure (N := (some 72)) rfl (by rfl) rfl ?_ ?_ ?_; rotate_left 2; (focus (intro w'; go_simp; exact Plan2.isV)); (focus (simp only [Act.put, List.setIfInBounds_toArray, List.set_cons_zero, List.set_cons_succ]; rfl)))
      (refine' Plan2.load (N := (some 73)) rfl (by rfl) rfl ?_ ?_ ?_; rotate_left 2; (focus (intro w' hS; (try dsimp only at hS); go_simp; exact Plan2.isV)); (focus (simp only [Act.put, List.setIfInBounds_toArray, List.set_cons_zero, List.set_cons_succ]; rfl)))
      (refine' Plan2.acts (past' := true) rfl (by rfl) rfl (fun K hK => ?_); go_simp; (refine (HS1.out).mono ?_); rintro e w3 ⟨rfl, F3, hq3, ht3⟩; have H3 := Aside0.mk (HI.out.drew.turn1 hq3 ht3); clear hq3 ht3; (refine hK.out _ _ (fun hp => ?_) (fun hS => ?_)); (focus (cases hp)))
      refine Plan2.done ?_
      have hj : w3.drew.cell? ⟨b, off + i * 3 + 1, none⟩ = some (.int .i64 x) ∧ w3.drew.cell? ⟨b, off + i * 3 + 2, none⟩ = some (.int .i64 t) := ⟨H3.out.cell HC.out.1, H3.out.cell HC.out.2⟩
      have HS2 := Aside0.mk (set_any w3.drew F2 g2 0 L x t HW.out H3.out.drew.is2)
      clear hk
      go_wp2_with fail
      refine Plan2.region 11 (fun w' => w'.cell? ⟨b, off + i * 3 + 1, none⟩ = some (.int .i64 x) ∧ w'.cell? ⟨b, off + i * 3 + 2, none⟩ = some (.int .i64 t)) [(0, 0), (1, 0), (2, 0), (3, 0), (4, 0), (5, 1), (6, 0), (7, 0), (8, 0), (9, 0), (10, 1), (11, 2)] (by kernel_rfl) (by kernel_rfl) (fun _ _ d _ _ h => by cases d <;> exact h) ?_ ?_
      focus exact hj
      (refine' Plan2.pure (N := (some 75)) rfl (by rfl) rfl ?_ ?_ ?_; rotate_left 2; (focus (intro w'; go_simp; exact Plan2.isV)); (focus (simp only [Act.put, List.setIfInBounds_toArray, List.set_cons_zero, List.set_cons_succ]; rfl)))
      (refine' Plan2.pure (N := (some 76)) rfl (by rfl) rfl ?_ ?_ ?_; rotate_left 2; (focus (intro w'; go_simp; exact Plan2.isV)); (focus (simp only [Act.put, List.setIfInBounds_toArray, List.set_cons_zero, List.set_cons_succ]; rfl)))
      (refine' Plan2.pure (N := (some 77)) rfl (by rfl) rfl ?_ ?_ ?_; rotate_left 2; (focus (intro w'; go_simp; exact Plan2.isV)); (focus (simp only [Act.put, List.setIfInBounds_toArray, List.set_cons_zero, List.set_cons_succ]; rfl)))
      (refine' Plan2.pure (N := (some 78)) rfl (by rfl) rfl ?_ ?_ ?_; rotate_left 2; (focus (intro w'; go_simp; exact Plan2.isV)); (focus (simp only [Act.put, List.setIfInBounds_toArray, List.set_cons_zero, List.set_cons_succ]; rfl)))
      (refine' Plan2.pure (N := (some 79)) rfl (by rfl) rfl ?_ ?_ ?_; rotate_left 2; (focus (intro w'; go_simp; exact Plan2.isV)); (focus (simp only [Act.put, List.setIfInBounds_toArray, List.set_cons_zero, List.set_cons_succ]; rfl)))
      (refine' Plan2.load (N := (some 80)) rfl (by rfl) rfl ?_ ?_ ?_; rotate_left 2; (focus (intro w' hS; (try dsimp only at hS); go_simp; exact Plan2.isV)); (focus (simp only [Act.put, List.setIfInBounds_toArray, List.set_cons_zero, List.set_cons_succ]; rfl)))
      (refine' Plan2.pure (N := (some 81)) rfl (by rfl) rfl ?_ ?_ ?_; rotate_left 2; (focus (intro w'; go_simp; exact Plan2.isV)); (focus (simp only [Act.put, List.setIfInBounds_toArray, List.set_cons_zero, List.set_cons_succ]; rfl)))
      (refine' Plan2.pure (N := (some 82)) rfl (by rfl) rfl ?_ ?_ ?_; rotate_left 2; (focus (intro w'; go_simp; exact Plan2.isV)); (focus (simp only [Act.put, List.setIfInBounds_toArray, List.set_cons_zero, List.set_cons_succ]; rfl)))
      (refine' Plan2.pure (N := (some 83)) rfl (by rfl) rfl ?_ ?_ ?_; rotate_left 2; (focus (intro w'; go_simp; exact Plan2.isV)); (focus (simp only [Act.put, List.setIfInBounds_toArray, List.set_cons_zero, List.set_cons_succ]; rfl)))
      (refine' Plan2.pure (N := (some 84)) rfl (by rfl) rfl ?_ ?_ ?_; rotate_left 2; (focus (intro w'; go_simp; exact Plan2.isV)); (focus (simp only [Act.put, List.setIfInBounds_toArray, List.set_cons_zero, List.set_cons_succ]; rfl)))
      (refine' Plan2.load (N := (some 85)) rfl (by rfl) rfl ?_ ?_ ?_; rotate_left 2; (focus (intro w' hS; (try dsimp only at hS); go_simp; exact Plan2.isV)); (focus (simp only [Act.put, List.setIfInBounds_toArray, List.set_cons_zero, List.set_cons_succ]; rfl)))
      (refine' Plan2.acts (past' := true) rfl (by rfl) rfl (fun K hK => ?_); go_simp; (refine (HS2.out).mono ?_); rintro e w4 ⟨rfl, F4, hq4, ht4⟩; have H4 := Aside0.mk (H3.out.drew.turn2 hq4 ht4); clear hq4 ht4; (refine hK.out _ _ (fun hp => ?_) (fun hS => ?_)); (focus (cases hp)))
      refine Plan2.done ?_
      clear hj
      go_wp2_with fail
      go_roundw
      case measure => simp [intOf]; omega
      case rel => exact ⟨i + 1, F3, F4, _, by go_num, by omega, by omega, H4.out⟩
    · obtain ⟨C, hinv⟩ := HI.out.is1.inv
      obtain ⟨X, hX⟩ : ∃ X, X = L.filter (upTo a) := ⟨_, rfl⟩
      obtain ⟨M, hM⟩ : ∃ M, M = L.filter (fun d => !upTo a d) := ⟨_, rfl⟩
      obtain ⟨Y, hY⟩ : ∃ Y, Y = M.filter (upTo b) := ⟨_, rfl⟩
      obtain ⟨N, hN⟩ : ∃ N, N = M.filter (fun d => !upTo b d) := ⟨_, rfl⟩
      obtain ⟨Z, hZ⟩ : ∃ Z, Z = L.filter (upTo b) := ⟨_, rfl⟩
      obtain ⟨K, hK⟩ : ∃ K, K = L.filter (fun d => !upTo b d) := ⟨_, rfl⟩
      have hlx : X.length ≤ 4096 := by rw [hX]; exact Nat.le_trans (List.length_filter_le _ _) hinv.few
      have hlm : M.length ≤ 4096 := by rw [hM]; exact Nat.le_trans (List.length_filter_le _ _) hinv.few
      have hly : Y.length ≤ 4096 := by rw [hY]; exact Nat.le_trans (List.length_filter_le _ _) hlm
      have hlz : Z.length ≤ 4096 := by rw [hZ]; exact Nat.le_trans (List.length_filter_le _ _) hinv.few
      have hxyz : X ++ Y = Z := by
        rw [hX, hY, hZ, hM]
        exact filter_split hinv.sorted (upTo_mono a) (fun d hd => by have := HAB.out; unfold upTo at *; simp at *; omega)
      have hkn : K.length = N.length := by
        rw [hK, hN, hM, List.filter_filter]
        congr 1
        refine List.filter_congr (fun d hd => ?_)
        have := HAB.out; unfold upTo
        rw [Bool.eq_iff_iff]; simp; omega
      have HL := Aside0.mk (And.intro hlx (And.intro hly (And.intro hlz (And.intro hxyz hkn))))
      have HC1 := Aside0.mk (adv_to (g := g1) HI.out.is1 HAB.out.1 (by have := HAB.out.2; omega) hX hM)
      have HE := Aside0.mk (And.intro hY (And.intro hN (And.intro hZ hK)))
      clear hinv hX hM hY hN hZ hK hlx hlm hly hlz hxyz hkn
      go_wp2_with fail
      all_goals
        refine HC1.out.mono ?_
        rintro e w3 ⟨A3, c3, F3, rfl, ho3, hn3, hq3, ht3⟩
        have H3 := HI.out.turn1 hq3 ht3
        have HX3 := Aside0.mk (And.intro H3 (And.intro ho3 hn3))
        have HC3 := Aside0.mk (adv_to (g := g1) hq3 HAB.out.2.1 HAB.out.2.2 HE.out.1 HE.out.2.1)
        clear ho3 hn3 hq3 ht3 H3
        go_wp2_with fail
        refine HC3.out.mono ?_
        rintro e w4 ⟨A4, c4, F4, rfl, ho4, hn4, hq4, ht4⟩
        have H4 := HX3.out.1.turn1 hq4 ht4
        have ho34 := HX3.out.2.1.frame ht4.fr (fun k hk => (HX3.out.2.2 k hk).2)
        have HX4 := Aside0.mk (And.intro H4 (And.intro ho34 (And.intro ho4 hn4)))
        have HC4 := Aside0.mk (adv_to (g := g2) H4.is2 (by have := HAB.out; omega) HAB.out.2.2 HE.out.2.2.1 HE.out.2.2.2)
        clear ho34 ho4 hn4 hq4 ht4 H4
        go_wp2_with fail
        refine HC4.out.mono ?_
        rintro e w5 ⟨A5, c5, F5, rfl, ho5, hn5, hq5, ht5⟩
        have H5 := HX4.out.1.turn2 hq5 ht5
        have ho35 := HX4.out.2.1.frame ht5.fr (fun k hk hF => by have := (HX3.out.2.2 k hk).1; have := HI.out.is2.lt k hF; omega)
        have ho45 := HX4.out.2.2.1.frame ht5.fr (fun k hk hF => by have := (HX4.out.2.2.2 k hk).1; have := HX3.out.1.is2.lt k hF; omega)
        have HX5 := Aside0.mk (And.intro H5 (And.intro ho35 (And.intro ho45 ho5)))
        clear ho35 ho45 ho5 hn5 hq5 ht5 H5
        go_wp2_with (first
          | (at_builtin; refine wp_app rfl (.slice none 0 0) (.slice A3 X.length c3) [] X X.length (ORow.nil _) rfl (src_orow HX5.out.2.1) (by have := HL.out.1; simp; omega) rfl rfl rfl ?_; intro v6 w6 ho6 hf6 hl6; rw [List.nil_append] at ho6; have hb6 := hf6.below (B := w5.heap.size) (fun k _ e => by cases e) (Nat.le_refl _); obtain ⟨A6, c6, rfl, _, _⟩ := ho6.len; have ho46 := HX5.out.2.2.1.frame (Fr.of_below hb6 SNo) (fun _ _ h => h); have HX6 := Aside0.mk (And.intro hb6 (And.intro ho6 (And.intro hl6 ho46))); clear ho6 hf6 hl6 hb6 ho46)
          | (at_builtin; refine wp_app rfl (.slice A6 X.length c6) (.slice A4 Y.length c4) X Y Y.length HX6.out.2.1 rfl (src_orow HX6.out.2.2.2) (by have := HL.out; omega) rfl rfl rfl ?_; intro v7 w7 ho7 hf7 hl7; have hb7 := HX6.out.1.trans (hf7.below (B := w5.heap.size) (fun k hk e => HX6.out.2.2.1.elim (fun h => by rw [h] at e; cases e) (fun ⟨b', h, h'⟩ => by rw [h] at e; injection e with e; omega)) HX6.out.1.size); rw [HL.out.2.2.2.1] at ho7; obtain ⟨A7, c7, rfl, _, _⟩ := ho7.len; have ho57 := HX5.out.2.2.2.frame (Fr.of_below hb7 SNo) (fun _ _ h => h); have HX7 := Aside0.mk (And.intro (HX5.out.1.step hb7) (And.intro ho57 (taken_any w7 A7 _ c7 Z ho7 (by have := HL.out; omega)))); clear ho7 hf7 hl7 hb7 ho57)
          | fail)
        refine HX7.out.2.2.mono ?_
        rintro e w8 ⟨A8, c8, rfl, hc8, hx8, hb8⟩
        have ho58 := HX7.out.2.1.frame (Fr.of_below hb8 SNo) (fun _ _ h => h)
        have HX8 := Aside0.mk (And.intro (HX7.out.1.step hb8) (And.intro hc8 (And.intro hx8 (taken_any w8 A5 _ c5 Z ho58 (by have := HL.out; omega))))); clear hc8 hx8 hb8 ho58
        go_wp2_with fail
        refine HX8.out.2.2.2.mono ?_
        rintro e w9 ⟨A9, c9, rfl, hc9, hx9, hb9⟩
        have hsame := same_any w9 A8 c8 Z A9 c9 Z (HX8.out.2.2.1 SNo w9 (Fr.of_below hb9 SNo) (fun _ _ _ h => h)) HX8.out.2.1 (hx9 SNo w9 (Fr.refl _ _) (fun _ _ _ h => h)) hc9 (by have := HL.out; omega)
        rw [decide_eq_true rfl] at hsame
        have HX9 := Aside0.mk (And.intro (HX8.out.1.step hb9) hsame); clear hc9 hx9 hb9 hsame
        go_wp2_with fail
        refine HX9.out.2.mono ?_
        rintro e w10 ⟨rfl, nd, rfl⟩
        have HT := Aside0.mk (HX9.out.1.step (below_drawn w9 nd))
        generalize w9.drewN nd = w10 at *
        go_wp2_with fail
        refine (len_any w10 F4 g1 b N HT.out.is1).mono ?_
        rintro e w' ⟨rfl, rfl⟩
        go_wp2_with fail
        refine (len_any w10 F5 g2 b K HT.out.is2).mono ?_
        rw [HL.out.2.2.2.2]
        rintro e w' ⟨rfl, rfl⟩
        go_wp2_with fail
        refine (known_any _).mono ?_
        rintro e w11 ⟨rfl, hb⟩
        go_wp2_with fail
        go_ret
        exact ⟨rfl, (HT.out.own1.step hb).below⟩
end Go.Proofs.Ytodgcfkdnellpaa
