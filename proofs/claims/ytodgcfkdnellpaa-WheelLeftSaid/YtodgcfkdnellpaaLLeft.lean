/- Wheel: the law WheelLeft, walked. -/
import Derived.Test.YtodgcfkdnellpaaR2
set_option linter.unusedSimpArgs false
set_option linter.unusedVariables false
namespace Go.Proofs.Ytodgcfkdnellpaa
open Go.RowKit Go.Proofs.YtodgcfkdnellpaaW.PrintWords
open T (S33 S55 k33 k55)
theorem ints_form {w : World} {k : IntKind} {A : Option Addr} {n : Nat} {xs : List Int} (h : ReadsInt w k A n xs) (h0 : 0 < n) : ∃ b off, A = some ⟨b, off, none⟩ ∧ b < w.heap.size ∧ ∀ j, j < n → w.cell? ⟨b, off + j, none⟩ = some (.int k (xs.getD j 0)) := by
  obtain ⟨⟨b, off, sp⟩, rfl, hc⟩ := h.2.2 h0
  have h1 := hc 0 h0
  obtain rfl : sp = none := by
    cases sp with
    | none => rfl
    | some s =>
      simp only [Addr.add, if_true, World.cell?] at h1
      split at h1 <;> simp at h1
  refine ⟨b, off, rfl, World.block_lt_of_cell? w _ h1, fun j hj => ?_⟩
  have := hc j hj
  have e : (⟨b, off, none⟩ : Addr).add j = ⟨b, off + j, none⟩ := by unfold Addr.add; split <;> simp_all
  rwa [e] at this
def dropAll (L : List Du) (xs : List Int) : List Du := xs.foldl dropL L
def gone (xs : List Int) (n : Int) : Bool := xs.any (fun x => x == n)
theorem dropAll_eq : ∀ (xs : List Int) (L : List Du), dropAll L xs = L.filter (fun d => !gone xs d.id)
  | [], L => (List.filter_eq_self.2 (fun _ _ => rfl)).symm
  | x :: xs, L => by
    show dropAll (dropL L x) xs = _
    rw [dropAll_eq xs]
    unfold dropL
    rw [List.filter_filter]
    refine List.filter_congr (fun d _ => ?_)
    unfold gone
    rw [List.any_cons, Bool.not_or, Bool.and_comm]
    congr 2
    exact Bool.beq_comm ..
theorem dropAll_succ (L : List Du) {xs : List Int} {k : Nat} (hk : k < xs.length) : dropAll L (xs.take (k + 1)) = dropL (dropAll L (xs.take k)) xs[k] := by
  unfold dropAll
  rw [List.take_succ_eq_append_getElem hk, List.foldl_append]
  rfl
theorem gone_succ {xs : List Int} {k : Nat} (hk : k < xs.length) (n : Int) : gone (xs.take (k + 1)) n = (gone (xs.take k) n || xs[k] == n) := by
  unfold gone
  rw [List.take_succ_eq_append_getElem hk, List.any_append]
  simp
def LeftB (w : World) (g1 g2 K : Nat) (ds : List Int) (L : List Du) (v : Value) (wr : World) : Prop := ∃ (k : Nat) (F1 F2 : Nat → Prop), v = .int .i64 k ∧ k ≤ K ∧ Two w wr g1 g2 F1 F2 0 (dropAll L (ds.take k)) 0 L
def leftOf (D : List Int) (Y : List Du) : List Du := Y.filter (fun d => !gone D d.id)
theorem leftOf_succ (D : List Int) {Y : List Du} {i : Nat} (hi : i < Y.length) : leftOf D (Y.take (i + 1)) = if gone D Y[i].id = true then leftOf D (Y.take i) else leftOf D (Y.take i) ++ [Y[i]] := by
  unfold leftOf
  rw [List.take_succ_eq_append_getElem hi, List.filter_append]
  by_cases h : gone D Y[i].id = true
  · rw [if_pos h]; simp [h]
  · rw [if_neg h]; simp [h]
def LeftC (w6 : World) (D : List Int) (Y : List Du) (v15 v16 : Value) (wr : World) : Prop := ∃ (i : Nat), v16 = .int .i64 i ∧ i ≤ Y.length ∧ ORow wr v15 (leftOf D (Y.take i)) ∧ (∀ b, v15.ownBlock = some b → w6.heap.size ≤ b) ∧ Below w6.heap.size w6 wr
theorem leftOf_len (D : List Int) (Y : List Du) : (leftOf D Y).length ≤ Y.length := List.length_filter_le _ _
theorem left_own {w6 wr w9 : World} {v v1 : Value} {o : Obj} (h1 : ∀ b, v.ownBlock = some b → w6.heap.size ≤ b) (h2 : Below w6.heap.size w6 wr) (h3 : Below wr.heap.size wr w9) (hl : v1.ownBlock = v.ownBlock ∨ ∃ b, v1.ownBlock = some b ∧ (w9.alloc o).heap.size ≤ b) : ∀ b, v1.ownBlock = some b → w6.heap.size ≤ b := fun b hb => by
  rcases hl with e | ⟨b', e, hle⟩
  · exact h1 b (by rw [← e]; exact hb)
  · rw [hb] at e; injection e with e; subst e
    have := h2.size; have := h3.size; have := ((Fr.refl SNo w9).alloc o).size; omega
theorem left_below {w6 wr w9 w10 : World} {v : Value} {o : Obj} (h1 : ∀ b, v.ownBlock = some b → w6.heap.size ≤ b) (h2 : Below w6.heap.size w6 wr) (h3 : Below wr.heap.size wr w9) (hf : Fr (fun k => v.ownBlock = some k) (w9.alloc o) w10) : Below w6.heap.size w6 w10 := by
  have h4 := below_alloc (h2.trans (h3.mono h2.size)) o
  exact h4.trans (hf.below (fun k hk e => by have := h1 k e; omega) h4.size)
def LeftD (wr : World) (K : Nat) (ds : List Int) (n : Int) (v17 v18 : Value) (w : World) : Prop := ∃ (k m : Nat), v17 = .bool (gone (ds.take k) n) ∧ v18 = .int .i64 k ∧ k ≤ K ∧ w = wr.drewN m
set_option maxHeartbeats 40000000 in
set_option maxRecDepth 100000 in
theorem left_law (A : Option Addr) (c : Nat) (l : List Ac) (A1 : Option Addr) (c1 : Nat) (ds : List Int) (w : World) (hA : AcsAt w A l) (hl : l.length ≤ maxLen) (hr1 : ReadsInt w .i64 A1 ds.length ds) (hm1 : ds.length ≤ maxLen) (hw1 : ∀ x ∈ ds, (Lit.int .i64 x).wf = true) : Calls Try.prog 5 #[.slice A l.length c, .slice A1 ds.length c1] w fun e w' => e = .returned (.bool true) ∧ Below w.heap.size w w' := by
  unfold maxLen at hm1
  have HD := Aside0.mk (And.intro hr1 hw1); clear hr1 hw1
  obtain ⟨K, hK⟩ : ∃ K, K = min ds.length 50 := ⟨_, rfl⟩
  have hK1 : K ≤ ds.length := by omega
  have hK2 : K ≤ 50 := by omega
  have hK3 : K = ds.length ∨ K = 50 := by omega
  clear hK
  have HK := Aside0.mk hK3; clear hK3
  have HA := Aside0.mk hA; clear hA
  unfold maxLen at hl
  go_enter Try.func5, Try.ntmps5
  go_wp2_with fail
  refine (new_ok 0 w (by decide) (by decide)).mono ?_
  rintro e w1 ⟨g1, G1, rfl, hq1, hF1, hb1⟩
  have HQ1 := Aside0.mk (And.intro hb1 (And.intro hF1 hq1)); clear hq1 hF1 hb1
  go_wp2_with fail
  refine (new_ok 0 w1 (by decide) (by decide)).mono ?_
  rintro e w2 ⟨g2, G2, rfl, hq2, hF2, hb2⟩
  have HQ0 := Aside0.mk (Two.new HQ1.out.1 HQ1.out.2.1 HQ1.out.2.2 hb2 hF2 hq2); clear hq2 hF2 hb2 HQ1
  go_wp2_with fail
  go_loopw [9] (fun v wr => SetsA w g1 g2 l.length v wr) (fun v _ => 100 - (intOf v).toNat)
  case atStart => exact ⟨0, G1, G2, [], rfl, Nat.zero_le _, by omega, HQ0.out⟩
  case round =>
    obtain ⟨i, F1, F2, L, rfl, hil, hi, hI⟩ := hrel
    have HI := Aside0.mk hI; clear hI
    by_cases hlt : i < l.length ∧ i < 100
    · obtain ⟨hlt1, hlt2⟩ := hlt
      have hz1 : (i : Int) < (l.length : Int) := by omega
      have hz2 : (i : Int) < 100 := by omega
      rcases HA.out with hn | ⟨b, off, rfl, hacts⟩
      · rw [hn] at hlt1; exact absurd hlt1 (Nat.not_lt_zero _)
      obtain ⟨_, hc1, hc2, _, hw1, _⟩ := hacts i hlt1
      generalize l[i].id = x at *
      generalize l[i].at_ = t at *
      have HC := Aside0.mk (And.intro hc1 hc2)
      have hk : wr.drew.cell? ⟨b, off + i * 3 + 1, none⟩ = some (.int .i64 x) ∧ wr.drew.cell? ⟨b, off + i * 3 + 2, none⟩ = some (.int .i64 t) := ⟨HI.out.cell hc1, HI.out.cell hc2⟩
      have HW := Aside0.mk hw1
      have HS1 := Aside0.mk (set_any wr.drew F1 g1 0 L x t HW.out HI.out.drew.is1)
      clear hc1 hc2 hacts hw1
      go_wp2_with fail
      refine Plan2.region 11 (fun w' => w'.cell? ⟨b, off + i * 3 + 1, none⟩ = some (.int .i64 x) ∧ w'.cell? ⟨b, off + i * 3 + 2, none⟩ = some (.int .i64 t)) [(0, 0), (1, 0), (2, 0), (3, 0), (4, 0), (5, 1), (6, 0), (7, 0), (8, 0), (9, 0), (10, 1), (11, 2)] (by kernel_rfl) (by kernel_rfl) (fun _ _ d _ _ h => by cases d <;> exact h) ?_ ?_
      focus exact hk
      (refine' Plan2.pure (N := (some 51)) rfl (by rfl) rfl ?_ ?_ ?_; rotate_left 2; (focus (intro w'; go_simp; exact Plan2.isV)); (focus (simp only [Act.put, List.setIfInBounds_toArray, List.set_cons_zero, List.set_cons_succ]; rfl)))
      (refine' Plan2.pure (N := (some 52)) rfl (by rfl) rfl ?_ ?_ ?_; rotate_left 2; (focus (intro w'; go_simp; exact Plan2.isV)); (focus (simp only [Act.put, List.setIfInBounds_toArray, List.set_cons_zero, List.set_cons_succ]; rfl)))
      (refine' Plan2.pure (N := (some 53)) rfl (by rfl) rfl ?_ ?_ ?_; rotate_left 2; (focus (intro w'; go_simp; exact Plan2.isV)); (focus (simp only [Act.put, List.setIfInBounds_toArray, List.set_cons_zero, List.set_cons_succ]; rfl)))
      (refine' Plan2.pure (N := (some 54)) rfl (by rfl) rfl ?_ ?_ ?_; rotate_left 2; (focus (intro w'; go_simp; exact Plan2.isV)); (focus (simp only [Act.put, List.setIfInBounds_toArray, List.set_cons_zero, List.set_cons_succ]; rfl)))
      (refine' Plan2.pure (N := (some 55)) rfl (by rfl) rfl ?_ ?_ ?_; rotate_left 2; (focus (intro w'; go_simp; exact Plan2.isV)); (focus (simp only [Act.put, List.setIfInBounds_toArray, List.set_cons_zero, List.set_cons_succ]; rfl)))
      (refine' Plan2.load (N := (some 56)) rfl (by rfl) rfl ?_ ?_ ?_; rotate_left 2; (focus (intro w' hS; (try dsimp only at hS); go_simp; exact Plan2.isV)); (focus (simp only [Act.put, List.setIfInBounds_toArray, List.set_cons_zero, List.set_cons_succ]; rfl)))
      (refine' Plan2.pure (N := (some 57)) rfl (by rfl) rfl ?_ ?_ ?_; rotate_left 2; (focus (intro w'; go_simp; exact Plan2.isV)); (focus (simp only [Act.put, List.setIfInBounds_toArray, List.set_cons_zero, List.set_cons_succ]; rfl)))
      (refine' Plan2.pure (N := (some 58)) rfl (by rfl) rfl ?_ ?_ ?_; rotate_left 2; (focus (intro w'; go_simp; exact Plan2.isV)); (focus (simp only [Act.put, List.setIfInBounds_toArray, List.set_cons_zero, List.set_cons_succ]; rfl)))
      (refine' Plan2.pure (N := (some 59)) rfl (by rfl) rfl ?_ ?_ ?_; rotate_left 2; (focus (intro w'; go_simp; exact Plan2.isV)); (focus (simp only [Act.put, List.setIfInBounds_toArray, List.set_cons_zero, List.set_cons_succ]; rfl)))
      (refine' Plan2.pure (N := (some 60)) rfl (by rfl) rfl ?_ ?_ ?_; rotate_left 2; (focus (intro w'; go_simp; exact Plan2.isV)); (focus (simp only [Act.put, List.setIfInBounds_toArray, List.set_cons_zero, List.set_cons_succ]; rfl)))
      (refine' Plan2.load (N := (some 61)) rfl (by rfl) rfl ?_ ?_ ?_; rotate_left 2; (focus (intro w' hS; (try dsimp only at hS); go_simp; exact Plan2.isV)); (focus (simp only [Act.put, List.setIfInBounds_toArray, List.set_cons_zero, List.set_cons_succ]; rfl)))
      (refine' Plan2.acts (past' := true) rfl (by rfl) rfl (fun K hK => ?_); go_simp; (refine (HS1.out).mono ?_); rintro e w3 ⟨rfl, F3, hq3, ht3⟩; have H3 := Aside0.mk (HI.out.drew.turn1 hq3 ht3); clear hq3 ht3; (refine hK.out _ _ (fun hp => ?_) (fun hS => ?_)); (focus (cases hp)))
      refine Plan2.done ?_
      have hj : w3.drew.cell? ⟨b, off + i * 3 + 1, none⟩ = some (.int .i64 x) ∧ w3.drew.cell? ⟨b, off + i * 3 + 2, none⟩ = some (.int .i64 t) := ⟨H3.out.cell HC.out.1, H3.out.cell HC.out.2⟩
      have HS2 := Aside0.mk (set_any w3.drew F2 g2 0 L x t HW.out H3.out.drew.is2)
      clear hk
      go_wp2_with fail
      refine Plan2.region 11 (fun w' => w'.cell? ⟨b, off + i * 3 + 1, none⟩ = some (.int .i64 x) ∧ w'.cell? ⟨b, off + i * 3 + 2, none⟩ = some (.int .i64 t)) [(0, 0), (1, 0), (2, 0), (3, 0), (4, 0), (5, 1), (6, 0), (7, 0), (8, 0), (9, 0), (10, 1), (11, 2)] (by kernel_rfl) (by kernel_rfl) (fun _ _ d _ _ h => by cases d <;> exact h) ?_ ?_
      focus exact hj
      (refine' Plan2.pure (N := (some 63)) rfl (by rfl) rfl ?_ ?_ ?_; rotate_left 2; (focus (intro w'; go_simp; exact Plan2.isV)); (focus (simp only [Act.put, List.setIfInBounds_toArray, List.set_cons_zero, List.set_cons_succ]; rfl)))
      (refine' Plan2.pure (N := (some 64)) rfl (by rfl) rfl ?_ ?_ ?_; rotate_left 2; (focus (intro w'; go_simp; exact Plan2.isV)); (focus (simp only [Act.put, List.setIfInBounds_toArray, List.set_cons_zero, List.set_cons_succ]; rfl)))
      (refine' Plan2.pure (N := (some 65)) rfl (by rfl) rfl ?_ ?_ ?_; rotate_left 2; (focus (intro w'; go_simp; exact Plan2.isV)); (focus (simp only [Act.put, List.setIfInBounds_toArray, List.set_cons_zero, List.set_cons_succ]; rfl)))
      (refine' Plan2.pure (N := (some 66)) rfl (by rfl) rfl ?_ ?_ ?_; rotate_left 2; (focus (intro w'; go_simp; exact Plan2.isV)); (focus (simp only [Act.put, List.setIfInBounds_toArray, List.set_cons_zero, List.set_cons_succ]; rfl)))
      (refine' Plan2.pure (N := (some 67)) rfl (by rfl) rfl ?_ ?_ ?_; rotate_left 2; (focus (intro w'; go_simp; exact Plan2.isV)); (focus (simp only [Act.put, List.setIfInBounds_toArray, List.set_cons_zero, List.set_cons_succ]; rfl)))
      (refine' Plan2.load (N := (some 68)) rfl (by rfl) rfl ?_ ?_ ?_; rotate_left 2; (focus (intro w' hS; (try dsimp only at hS); go_simp; exact Plan2.isV)); (focus (simp only [Act.put, List.setIfInBounds_toArray, List.set_cons_zero, List.set_cons_succ]; rfl)))
      (refine' Plan2.pure (N := (some 69)) rfl (by rfl) rfl ?_ ?_ ?_; rotate_left 2; (focus (intro w'; go_simp; exact Plan2.isV)); (focus (simp only [Act.put, List.setIfInBounds_toArray, List.set_cons_zero, List.set_cons_succ]; rfl)))
      (refine' Plan2.pure (N := (some 70)) rfl (by rfl) rfl ?_ ?_ ?_; rotate_left 2; (focus (intro w'; go_simp; exact Plan2.isV)); (focus (simp only [Act.put, List.setIfInBounds_toArray, List.set_cons_zero, List.set_cons_succ]; rfl)))
      (refine' Plan2.pure (N := (some 71)) rfl (by rfl) rfl ?_ ?_ ?_; rotate_left 2; (focus (intro w'; go_simp; exact Plan2.isV)); (focus (simp only [Act.put, List.setIfInBounds_toArray, List.set_cons_zero, List.set_cons_succ]; rfl)))
      (refine' Plan2.pure (N := (some 72)) rfl (by rfl) rfl ?_ ?_ ?_; rotate_left 2; (focus (intro w'; go_simp; exact Plan2.isV)); (focus (simp only [Act.put, List.setIfInBounds_toArray, List.set_cons_zero, List.set_cons_succ]; rfl)))
      (refine' Plan2.load (N := (some 73)) rfl (by rfl) rfl ?_ ?_ ?_; rotate_left 2; (focus (intro w' hS; (try dsimp only at hS); go_simp; exact Plan2.isV)); (focus (simp only [Act.put, List.setIfInBounds_toArray, List.set_cons_zero, List.set_cons_succ]; rfl)))
      (refine' Plan2.acts (past' := true) rfl (by rfl) rfl (fun K hK => ?_); go_simp; (refine (HS2.out).mono ?_); rintro e w4 ⟨rfl, F4, hq4, ht4⟩; have H4 := Aside0.mk (H3.out.drew.turn2 hq4 ht4); clear hq4 ht4; (refine hK.out _ _ (fun hp => ?_) (fun hS => ?_)); (focus (cases hp)))
      refine Plan2.done ?_
      clear hj
      go_wp2_with fail
      go_roundw
      case measure => simp [intOf]; omega
      case rel => exact ⟨i + 1, F3, F4, _, by go_num, by omega, by omega, H4.out⟩
    · have HLI := Aside0.mk HI.out.is1.inv
      go_wp2_with fail
      all_goals
        go_loopw [10] (fun v wr => LeftB w g1 g2 K ds L v wr) (fun v _ => 50 - (intOf v).toNat)
        case atStart => exact ⟨0, F1, F2, rfl, Nat.zero_le _, HI.out⟩
        case round =>
          obtain ⟨k, E1, E2, rfl, hk, hT⟩ := hrel
          have HT := Aside0.mk hT; clear hT
          by_cases hlt : k < K
          · have hz1 : (k : Int) < (ds.length : Int) := by omega
            have hz2 : (k : Int) < 50 := by omega
            obtain ⟨bd, od, rfl, _, hcell⟩ := ints_form HD.out.1 (by omega)
            have hk := HT.out.cell (hcell k (by omega))
            have hg : ds.getD k 0 = ds[k]'(by omega) := by rw [List.getD_eq_getElem?_getD, List.getElem?_eq_getElem (by omega)]; rfl
            have hs := dropAll_succ L (xs := ds) (k := k) (by omega)
            have hwf := HD.out.2 _ (List.getElem_mem (l := ds) (n := k) (by omega))
            rw [hg] at hk
            generalize ds[k]'(by omega) = x at *
            have HS := Aside0.mk hs; have HW := Aside0.mk hwf
            clear hcell hg hs hwf
            go_wp2_with fail
            refine (drop_any wr E1 g1 0 _ x HW.out HT.out.is1).mono ?_
            rintro e w3 ⟨rfl, E3, hq3, ht3⟩
            rw [← HS.out] at hq3
            have H3 := Aside0.mk (HT.out.turn1 hq3 ht3); clear hq3 ht3 hk
            go_wp2_with fail
            go_roundw
            case measure => simp [intOf]; omega
            case rel => exact ⟨k + 1, E3, E2, by go_num, by omega, H3.out⟩
          · obtain rfl : k = K := by omega
            obtain ⟨D, hD⟩ : ∃ D, D = ds.take k := ⟨_, rfl⟩
            obtain ⟨C, hinv⟩ := HLI.out
            have hX : dropAll L D = (dropAll L D).filter (upTo 1099511627776) := (List.filter_eq_self.2 (fun d hd => by rw [dropAll_eq] at hd; have := hinv.late d (List.mem_filter.1 hd).1; unfold upTo; simpa using this.2)).symm
            have hY : L = L.filter (upTo 1099511627776) := (List.filter_eq_self.2 (fun d hd => by have := hinv.late d hd; unfold upTo; simpa using this.2)).symm
            have hM1 : [] = (dropAll L D).filter (fun d => !upTo 1099511627776 d) := (List.filter_eq_nil_iff.2 (fun d hd => by rw [dropAll_eq] at hd; have := hinv.late d (List.mem_filter.1 hd).1; unfold upTo; simp; exact this.2)).symm
            have hM2 : [] = L.filter (fun d => !upTo 1099511627776 d) := (List.filter_eq_nil_iff.2 (fun d hd => by have := hinv.late d hd; unfold upTo; simp; exact this.2)).symm
            have hfew := hinv.few
            have hfewX : (dropAll L D).length ≤ 4096 := by rw [dropAll_eq]; exact Nat.le_trans (List.length_filter_le _ _) hfew
            have hT := HT.out
            rw [← hD] at hT
            have HC1 := Aside0.mk (adv_to (g := g1) hT.is1 (by decide) (by decide) hX hM1)
            have hXl : dropAll L D = leftOf D L := dropAll_eq D L
            obtain ⟨X, hXX⟩ : ∃ X, X = dropAll L D := ⟨_, rfl⟩
            rw [← hXX] at HC1 hXl hfewX
            have HE := Aside0.mk (And.intro hD (And.intro hXl (And.intro hT (And.intro hY (And.intro hM2 (And.intro hfew hfewX))))))
            clear hD hX hY hM1 hM2 hfew hfewX hT hXl hXX hinv
            have hstop : (¬ (k : Int) < ds.length) ∨ ((k : Int) < ds.length ∧ ¬ (k : Int) < 50) := by have := HK.out; omega
            rcases hstop with hs1 | ⟨hs1, hs2⟩
            all_goals
              go_wp2_with fail
              refine HC1.out.mono ?_
              rintro e w3 ⟨A3, c3, F3, rfl, ho3, hn3, hq3, ht3⟩
              have H3 := HE.out.2.2.1.turn1 hq3 ht3
              have HX3 := Aside0.mk (And.intro H3 (And.intro ho3 hn3))
              have HC3 := Aside0.mk (adv_to (g := g2) H3.is2 (by decide) (by decide) HE.out.2.2.2.1 HE.out.2.2.2.2.1)
              clear ho3 hn3 hq3 ht3 H3
              go_wp2_with fail
              refine HC3.out.mono ?_
              rintro e w6 ⟨A4, c4, F4, rfl, ho4, hn4, hq4, ht4⟩
              have H4 := HX3.out.1.turn2 hq4 ht4
              have ho34 := HX3.out.2.1.frame ht4.fr (fun k hk hF => by have := (HX3.out.2.2 k hk).1; have := HE.out.2.2.1.is2.lt k hF; omega)
              have HX4 := Aside0.mk (And.intro H4 (And.intro ho34 ho4))
              clear ho34 ho4 hn4 hq4 ht4 H4
              go_wp2_with fail
              go_loopw [15, 16, 17, 18] (fun v15 v16 _ _ wr => LeftC w6 D L v15 v16 wr) (fun _ v16 _ _ _ => L.length - (intOf v16).toNat)
              case atStart => exact ⟨0, rfl, Nat.zero_le _, ORow.nil _, (fun b hb => by cases hb), Below.refl _ _⟩
              case round =>
                obtain ⟨i, rfl, hi, ho, hown, hb⟩ := hrel
                have HI2 := Aside0.mk (And.intro ho (And.intro hown hb)); clear ho hown hb
                by_cases hlt2 : i < L.length
                · have hz3 : (i : Int) < (L.length : Int) := by omega
                  have hz9 : (i : Int) < 4096 := by have := HE.out.2.2.2.2.2.1; omega
                  have hoy := HX4.out.2.2.frame (Fr.of_below HI2.out.2.2 SNo) (fun _ _ h => h)
                  obtain ⟨by_, oy, c', he⟩ := orow_some hoy (by omega)
                  injection he with he e2 e3
                  subst he
                  subst e3
                  clear e2
                  obtain ⟨cy0, cy1⟩ := hoy.cellsAt i hlt2
                  have hss := leftOf_succ D hlt2
                  obtain ⟨d, hdd⟩ : ∃ d, d = L[i] := ⟨_, rfl⟩
                  rw [← hdd] at cy0 cy1 hss
                  obtain ⟨yi, hyi⟩ : ∃ z, z = d.id := ⟨_, rfl⟩
                  obtain ⟨ya, hya⟩ : ∃ z, z = d.at_ := ⟨_, rfl⟩
                  rw [← hyi] at cy0 hss
                  rw [← hya] at cy1
                  have HD2 := Aside0.mk (And.intro hyi (And.intro hya hss)); clear hyi hya hss hdd hoy
                  go_wp2_with fail
                  go_loopw [17, 18] (fun v17 v18 w' => LeftD wr k ds yi v17 v18 w') (fun _ v18 _ => 50 - (intOf v18).toNat)
                  case atStart => exact ⟨0, 0, rfl, rfl, Nat.zero_le _, rfl⟩
                  case round =>
                    obtain ⟨n, m, rfl, rfl, hn, rfl⟩ := hrel
                    by_cases hlt3 : n < k
                    · have hz4 : (n : Int) < (ds.length : Int) := by omega
                      have hz5 : (n : Int) < 50 := by omega
                      obtain ⟨bd, od, rfl, _, hcell⟩ := ints_form HD.out.1 (by omega)
                      have hk1 := (HX4.out.1.step HI2.out.2.2).cell (hcell n (by omega))
                      have hg : ds.getD n 0 = ds[n]'(by omega) := by rw [List.getD_eq_getElem?_getD, List.getElem?_eq_getElem (by omega)]; rfl
                      rw [hg] at hk1
                      have hgs := gone_succ (xs := ds) (k := n) (by omega) yi
                      generalize ds[n]'(by omega) = x at *
                      obtain ⟨gb, hgb⟩ : ∃ gb, gb = gone (ds.take n) yi := ⟨_, rfl⟩
                      rw [← hgb] at hgs ⊢
                      have HG := Aside0.mk hgs
                      have hk : (wr.drewN m).drew.cell? ⟨bd, od + n, none⟩ = some (.int .i64 x) ∧ (wr.drewN m).drew.cell? ⟨by_, oy + i * 2, none⟩ = some (.int .i64 yi) := ⟨hk1, cy0⟩
                      clear hcell hg hgs hgb hk1
                      cases gb with
                      | true =>
                        go_wp2_with fail
                        refine Plan2.region 1000 (fun w' => w'.cell? ⟨bd, od + n, none⟩ = some (.int .i64 x) ∧ w'.cell? ⟨by_, oy + i * 2, none⟩ = some (.int .i64 yi)) [(0, 0), (1, 0), (2, 0), (3, 0), (4, 0), (5, 1), (6, 0), (7, 0), (8, 0), (9, 0), (10, 1), (11, 0), (12, 0), (13, 0)] (by kernel_rfl) (by kernel_rfl) (fun _ _ d _ _ h => by cases d <;> exact h) ?_ ?_
                        focus exact hk
                        (refine' Plan2.pure (N := (some 123)) rfl (by rfl) rfl ?_ ?_ ?_; rotate_left 2; (focus (intro w'; go_simp; exact Plan2.isV)); (focus (simp only [Act.put, List.setIfInBounds_toArray, List.set_cons_zero, List.set_cons_succ]; rfl)))
                        (refine' Plan2.pure (N := (some 124)) rfl (by rfl) rfl ?_ ?_ ?_; rotate_left 2; (focus (intro w'; go_simp; exact Plan2.isV)); (focus (simp only [Act.put, List.setIfInBounds_toArray, List.set_cons_zero, List.set_cons_succ]; rfl)))
                        (first | (refine' Plan2.off (N := (some 125)) rfl (by rfl) rfl ?_ ?_; rotate_left 1; (focus (simp only [Act.put, List.setIfInBounds_toArray, List.set_cons_zero, List.set_cons_succ]; rfl))) | (refine' Plan2.pure (N := (some 125)) rfl (by rfl) rfl ?_ ?_ ?_; rotate_left 2; (focus (intro w'; go_simp; exact Plan2.isV)); (focus (simp only [Act.put, List.setIfInBounds_toArray, List.set_cons_zero, List.set_cons_succ]; rfl))))
                        (first | (refine' Plan2.off (N := (some 126)) rfl (by rfl) rfl ?_ ?_; rotate_left 1; (focus (simp only [Act.put, List.setIfInBounds_toArray, List.set_cons_zero, List.set_cons_succ]; rfl))) | (refine' Plan2.pure (N := (some 126)) rfl (by rfl) rfl ?_ ?_ ?_; rotate_left 2; (focus (intro w'; go_simp; exact Plan2.isV)); (focus (simp only [Act.put, List.setIfInBounds_toArray, List.set_cons_zero, List.set_cons_succ]; rfl))))
                        (first | (refine' Plan2.off (N := (some 127)) rfl (by rfl) rfl ?_ ?_; rotate_left 1; (focus (simp only [Act.put, List.setIfInBounds_toArray, List.set_cons_zero, List.set_cons_succ]; rfl))) | (refine' Plan2.pure (N := (some 127)) rfl (by rfl) rfl ?_ ?_ ?_; rotate_left 2; (focus (intro w'; go_simp; exact Plan2.isV)); (focus (simp only [Act.put, List.setIfInBounds_toArray, List.set_cons_zero, List.set_cons_succ]; rfl))))
                        (first | (refine' Plan2.off (N := (some 128)) rfl (by rfl) rfl ?_ ?_; rotate_left 1; (focus (simp only [Act.put, List.setIfInBounds_toArray, List.set_cons_zero, List.set_cons_succ]; rfl))) | (refine' Plan2.load (N := (some 128)) rfl (by rfl) rfl ?_ ?_ ?_; rotate_left 2; (focus (intro w' hS; (try dsimp only at hS); go_simp; exact Plan2.isV)); (focus (simp only [Act.put, List.setIfInBounds_toArray, List.set_cons_zero, List.set_cons_succ]; rfl))))
                        (first | (refine' Plan2.off (N := (some 129)) rfl (by rfl) rfl ?_ ?_; rotate_left 1; (focus (simp only [Act.put, List.setIfInBounds_toArray, List.set_cons_zero, List.set_cons_succ]; rfl))) | (refine' Plan2.pure (N := (some 129)) rfl (by rfl) rfl ?_ ?_ ?_; rotate_left 2; (focus (intro w'; go_simp; exact Plan2.isV)); (focus (simp only [Act.put, List.setIfInBounds_toArray, List.set_cons_zero, List.set_cons_succ]; rfl))))
                        (first | (refine' Plan2.off (N := (some 130)) rfl (by rfl) rfl ?_ ?_; rotate_left 1; (focus (simp only [Act.put, List.setIfInBounds_toArray, List.set_cons_zero, List.set_cons_succ]; rfl))) | (refine' Plan2.pure (N := (some 130)) rfl (by rfl) rfl ?_ ?_ ?_; rotate_left 2; (focus (intro w'; go_simp; exact Plan2.isV)); (focus (simp only [Act.put, List.setIfInBounds_toArray, List.set_cons_zero, List.set_cons_succ]; rfl))))
                        (first | (refine' Plan2.off (N := (some 131)) rfl (by rfl) rfl ?_ ?_; rotate_left 1; (focus (simp only [Act.put, List.setIfInBounds_toArray, List.set_cons_zero, List.set_cons_succ]; rfl))) | (refine' Plan2.pure (N := (some 131)) rfl (by rfl) rfl ?_ ?_ ?_; rotate_left 2; (focus (intro w'; go_simp; exact Plan2.isV)); (focus (simp only [Act.put, List.setIfInBounds_toArray, List.set_cons_zero, List.set_cons_succ]; rfl))))
                        (first | (refine' Plan2.off (N := (some 132)) rfl (by rfl) rfl ?_ ?_; rotate_left 1; (focus (simp only [Act.put, List.setIfInBounds_toArray, List.set_cons_zero, List.set_cons_succ]; rfl))) | (refine' Plan2.pure (N := (some 132)) rfl (by rfl) rfl ?_ ?_ ?_; rotate_left 2; (focus (intro w'; go_simp; exact Plan2.isV)); (focus (simp only [Act.put, List.setIfInBounds_toArray, List.set_cons_zero, List.set_cons_succ]; rfl))))
                        (first | (refine' Plan2.off (N := (some 133)) rfl (by rfl) rfl ?_ ?_; rotate_left 1; (focus (simp only [Act.put, List.setIfInBounds_toArray, List.set_cons_zero, List.set_cons_succ]; rfl))) | (refine' Plan2.load (N := (some 133)) rfl (by rfl) rfl ?_ ?_ ?_; rotate_left 2; (focus (intro w' hS; (try dsimp only at hS); go_simp; exact Plan2.isV)); (focus (simp only [Act.put, List.setIfInBounds_toArray, List.set_cons_zero, List.set_cons_succ]; rfl))))
                        (first | (refine' Plan2.off (N := (some 134)) rfl (by rfl) rfl ?_ ?_; rotate_left 1; (focus (simp only [Act.put, List.setIfInBounds_toArray, List.set_cons_zero, List.set_cons_succ]; rfl))) | (refine' Plan2.pure (N := (some 134)) rfl (by rfl) rfl ?_ ?_ ?_; rotate_left 2; (focus (intro w'; go_simp; exact Plan2.isV)); (focus (simp only [Act.put, List.setIfInBounds_toArray, List.set_cons_zero, List.set_cons_succ]; rfl))))
                        (refine' Plan2.pure (N := (some 135)) rfl (by rfl) rfl ?_ ?_ ?_; rotate_left 2; (focus (intro w'; go_simp; exact Plan2.isV)); (focus (simp only [Act.put, List.setIfInBounds_toArray, List.set_cons_zero, List.set_cons_succ]; rfl)))
                        (refine' Plan2.pure (N := (some 17)) rfl (by rfl) rfl ?_ ?_ ?_; rotate_left 2; (focus (intro w'; go_simp; exact Plan2.isV)); (focus (simp only [Act.put, List.setIfInBounds_toArray, List.set_cons_zero, List.set_cons_succ]; rfl)))
                        refine Plan2.done ?_
                        go_wp2_with fail
                        go_roundw
                        case measure => simp [intOf]; omega
                        case rel => exact ⟨n + 1, m + 1, by rw [HG.out]; rfl, by go_num, by omega, rfl⟩
                      | false =>
                        go_wp2_with fail
                        refine Plan2.region 1000 (fun w' => w'.cell? ⟨bd, od + n, none⟩ = some (.int .i64 x) ∧ w'.cell? ⟨by_, oy + i * 2, none⟩ = some (.int .i64 yi)) [(0, 0), (1, 0), (2, 0), (3, 0), (4, 0), (5, 1), (6, 0), (7, 0), (8, 0), (9, 0), (10, 1), (11, 0), (12, 0), (13, 0)] (by kernel_rfl) (by kernel_rfl) (fun _ _ d _ _ h => by cases d <;> exact h) ?_ ?_
                        focus exact hk
                        (refine' Plan2.pure (N := (some 123)) rfl (by rfl) rfl ?_ ?_ ?_; rotate_left 2; (focus (intro w'; go_simp; exact Plan2.isV)); (focus (simp only [Act.put, List.setIfInBounds_toArray, List.set_cons_zero, List.set_cons_succ]; rfl)))
                        (refine' Plan2.pure (N := (some 124)) rfl (by rfl) rfl ?_ ?_ ?_; rotate_left 2; (focus (intro w'; go_simp; exact Plan2.isV)); (focus (simp only [Act.put, List.setIfInBounds_toArray, List.set_cons_zero, List.set_cons_succ]; rfl)))
                        (first | (refine' Plan2.off (N := (some 125)) rfl (by rfl) rfl ?_ ?_; rotate_left 1; (focus (simp only [Act.put, List.setIfInBounds_toArray, List.set_cons_zero, List.set_cons_succ]; rfl))) | (refine' Plan2.pure (N := (some 125)) rfl (by rfl) rfl ?_ ?_ ?_; rotate_left 2; (focus (intro w'; go_simp; exact Plan2.isV)); (focus (simp only [Act.put, List.setIfInBounds_toArray, List.set_cons_zero, List.set_cons_succ]; rfl))))
                        (first | (refine' Plan2.off (N := (some 126)) rfl (by rfl) rfl ?_ ?_; rotate_left 1; (focus (simp only [Act.put, List.setIfInBounds_toArray, List.set_cons_zero, List.set_cons_succ]; rfl))) | (refine' Plan2.pure (N := (some 126)) rfl (by rfl) rfl ?_ ?_ ?_; rotate_left 2; (focus (intro w'; go_simp; exact Plan2.isV)); (focus (simp only [Act.put, List.setIfInBounds_toArray, List.set_cons_zero, List.set_cons_succ]; rfl))))
                        (first | (refine' Plan2.off (N := (some 127)) rfl (by rfl) rfl ?_ ?_; rotate_left 1; (focus (simp only [Act.put, List.setIfInBounds_toArray, List.set_cons_zero, List.set_cons_succ]; rfl))) | (refine' Plan2.pure (N := (some 127)) rfl (by rfl) rfl ?_ ?_ ?_; rotate_left 2; (focus (intro w'; go_simp; exact Plan2.isV)); (focus (simp only [Act.put, List.setIfInBounds_toArray, List.set_cons_zero, List.set_cons_succ]; rfl))))
                        (first | (refine' Plan2.off (N := (some 128)) rfl (by rfl) rfl ?_ ?_; rotate_left 1; (focus (simp only [Act.put, List.setIfInBounds_toArray, List.set_cons_zero, List.set_cons_succ]; rfl))) | (refine' Plan2.load (N := (some 128)) rfl (by rfl) rfl ?_ ?_ ?_; rotate_left 2; (focus (intro w' hS; (try dsimp only at hS); go_simp; exact Plan2.isV)); (focus (simp only [Act.put, List.setIfInBounds_toArray, List.set_cons_zero, List.set_cons_succ]; rfl))))
                        (first | (refine' Plan2.off (N := (some 129)) rfl (by rfl) rfl ?_ ?_; rotate_left 1; (focus (simp only [Act.put, List.setIfInBounds_toArray, List.set_cons_zero, List.set_cons_succ]; rfl))) | (refine' Plan2.pure (N := (some 129)) rfl (by rfl) rfl ?_ ?_ ?_; rotate_left 2; (focus (intro w'; go_simp; exact Plan2.isV)); (focus (simp only [Act.put, List.setIfInBounds_toArray, List.set_cons_zero, List.set_cons_succ]; rfl))))
                        (first | (refine' Plan2.off (N := (some 130)) rfl (by rfl) rfl ?_ ?_; rotate_left 1; (focus (simp only [Act.put, List.setIfInBounds_toArray, List.set_cons_zero, List.set_cons_succ]; rfl))) | (refine' Plan2.pure (N := (some 130)) rfl (by rfl) rfl ?_ ?_ ?_; rotate_left 2; (focus (intro w'; go_simp; exact Plan2.isV)); (focus (simp only [Act.put, List.setIfInBounds_toArray, List.set_cons_zero, List.set_cons_succ]; rfl))))
                        (first | (refine' Plan2.off (N := (some 131)) rfl (by rfl) rfl ?_ ?_; rotate_left 1; (focus (simp only [Act.put, List.setIfInBounds_toArray, List.set_cons_zero, List.set_cons_succ]; rfl))) | (refine' Plan2.pure (N := (some 131)) rfl (by rfl) rfl ?_ ?_ ?_; rotate_left 2; (focus (intro w'; go_simp; exact Plan2.isV)); (focus (simp only [Act.put, List.setIfInBounds_toArray, List.set_cons_zero, List.set_cons_succ]; rfl))))
                        (first | (refine' Plan2.off (N := (some 132)) rfl (by rfl) rfl ?_ ?_; rotate_left 1; (focus (simp only [Act.put, List.setIfInBounds_toArray, List.set_cons_zero, List.set_cons_succ]; rfl))) | (refine' Plan2.pure (N := (some 132)) rfl (by rfl) rfl ?_ ?_ ?_; rotate_left 2; (focus (intro w'; go_simp; exact Plan2.isV)); (focus (simp only [Act.put, List.setIfInBounds_toArray, List.set_cons_zero, List.set_cons_succ]; rfl))))
                        (first | (refine' Plan2.off (N := (some 133)) rfl (by rfl) rfl ?_ ?_; rotate_left 1; (focus (simp only [Act.put, List.setIfInBounds_toArray, List.set_cons_zero, List.set_cons_succ]; rfl))) | (refine' Plan2.load (N := (some 133)) rfl (by rfl) rfl ?_ ?_ ?_; rotate_left 2; (focus (intro w' hS; (try dsimp only at hS); go_simp; exact Plan2.isV)); (focus (simp only [Act.put, List.setIfInBounds_toArray, List.set_cons_zero, List.set_cons_succ]; rfl))))
                        (first | (refine' Plan2.off (N := (some 134)) rfl (by rfl) rfl ?_ ?_; rotate_left 1; (focus (simp only [Act.put, List.setIfInBounds_toArray, List.set_cons_zero, List.set_cons_succ]; rfl))) | (refine' Plan2.pure (N := (some 134)) rfl (by rfl) rfl ?_ ?_ ?_; rotate_left 2; (focus (intro w'; go_simp; exact Plan2.isV)); (focus (simp only [Act.put, List.setIfInBounds_toArray, List.set_cons_zero, List.set_cons_succ]; rfl))))
                        (refine' Plan2.pure (N := (some 135)) rfl (by rfl) rfl ?_ ?_ ?_; rotate_left 2; (focus (intro w'; go_simp; exact Plan2.isV)); (focus (simp only [Act.put, List.setIfInBounds_toArray, List.set_cons_zero, List.set_cons_succ]; rfl)))
                        (refine' Plan2.pure (N := (some 17)) rfl (by rfl) rfl ?_ ?_ ?_; rotate_left 2; (focus (intro w'; go_simp; exact Plan2.isV)); (focus (simp only [Act.put, List.setIfInBounds_toArray, List.set_cons_zero, List.set_cons_succ]; rfl)))
                        refine Plan2.done ?_
                        go_wp2_with fail
                        go_roundw
                        case measure => simp [intOf]; omega
                        case rel => exact ⟨n + 1, m + 1, by rw [HG.out]; simp, by go_num, by omega, rfl⟩
                    · obtain rfl : n = k := by omega
                      have hss := HD2.out.2.2
                      rw [← HE.out.1]
                      obtain ⟨A15, c15, hv15, _, _⟩ := HI2.out.1.len
                      subst hv15
                      have hy : (wr.drewN m).cell? ⟨by_, oy + i * 2, none⟩ = some (.int .i64 yi) ∧ (wr.drewN m).cell? ⟨by_, oy + i * 2 + 1, none⟩ = some (.int .i64 ya) := ⟨cy0, cy1⟩
                      obtain ⟨hy0, hy1⟩ := hy
                      obtain ⟨w9, hw9⟩ : ∃ w9, w9 = wr.drewN m := ⟨_, rfl⟩
                      have hb9 : Below wr.heap.size wr w9 := by rw [hw9]; exact below_drawn _ _
                      have hro := HI2.out.1.frame (Fr.of_below hb9 SNo) (fun _ _ h => h)
                      have hlen := leftOf_len D (L.take i)
                      have HB9 := Aside0.mk (And.intro hb9 (And.intro hro (And.intro hlt2 hlen)))
                      rw [← hw9] at hy0 hy1 ⊢
                      clear hw9 cy0 cy1 hro hb9 hlen
                      by_cases hgd : gone D yi = true
                      · rw [if_pos hgd] at hss
                        rw [hgd]
                        have HG := Aside0.mk hss
                        clear hss hgd
                        go_wp2_with fail
                        go_roundw
                        case measure => have := HB9.out.2.2.1; simp [intOf]; omega
                        case rel => exact ⟨i + 1, by go_num, HB9.out.2.2.1, by rw [HG.out]; exact HB9.out.2.1, HI2.out.2.1, HI2.out.2.2.trans (HB9.out.1.mono HI2.out.2.2.size)⟩
                      · rw [if_neg hgd, show d = ⟨yi, ya⟩ from by rw [HD2.out.1, HD2.out.2.1]] at hss
                        rw [show gone D yi = false from by simpa using hgd]
                        have HG := Aside0.mk hss
                        clear hss hgd
                        go_wp2_with (first | (at_builtin; refine wp_app rfl (.slice A15 (leftOf D (L.take i)).length c15) (.slice (some ⟨w9.heap.size, 0, none⟩) 1 1) (leftOf D (L.take i)) [⟨yi, ya⟩] 1 (HB9.out.2.1.frame ((Fr.refl SNo w9).alloc _) (fun _ _ h => h)) rfl (src_new w9 ⟨yi, ya⟩) (by have h1 := HB9.out.2.2.2; have h2 := HE.out.2.2.2.2.2.1; have h3 := HB9.out.2.2.1; simp at h1 ⊢; omega) rfl rfl rfl ?_; intro v10 w10 ho10 hf10 hl10; have H10 := Aside0.mk (And.intro ho10 (And.intro hf10 hl10)); clear ho10 hf10 hl10) | fail)
                        go_roundw
                        case measure => have := HB9.out.2.2.1; simp [intOf]; omega
                        case rel => exact ⟨i + 1, by go_num, HB9.out.2.2.1, by rw [HG.out]; exact H10.out.1, left_own HI2.out.2.1 HI2.out.2.2 HB9.out.1 H10.out.2.2, left_below HI2.out.2.1 HI2.out.2.2 HB9.out.1 H10.out.2.1⟩
                · obtain rfl : i = L.length := by omega
                  rw [List.take_length, ← HE.out.2.1] at HI2
                  have ho3 := HX4.out.2.1.frame (Fr.of_below HI2.out.2.2 SNo) (fun _ _ h => h)
                  have hT := HX4.out.1.step HI2.out.2.2
                  obtain ⟨A15, c15, hv15, _, _⟩ := HI2.out.1.len
                  subst hv15
                  have HX := Aside0.mk (And.intro hT (And.intro HI2.out.1 (taken_any wr A3 _ c3 X ho3 (by have := HE.out.2.2.2.2.2.2; omega)))); clear ho3 hT HI2
                  go_wp2_with fail
                  refine HX.out.2.2.mono ?_
                  rintro e w8 ⟨A8, c8, rfl, hc8, hx8, hb8⟩
                  have ho58 := HX.out.2.1.frame (Fr.of_below hb8 SNo) (fun _ _ h => h)
                  have HX8 := Aside0.mk (And.intro (HX.out.1.step hb8) (And.intro hc8 (And.intro hx8 (taken_any w8 A15 _ c15 X ho58 (by have := HE.out.2.2.2.2.2.2; omega))))); clear hc8 hx8 hb8 ho58
                  go_wp2_with fail
                  refine HX8.out.2.2.2.mono ?_
                  rintro e w9 ⟨A9, c9, rfl, hc9, hx9, hb9⟩
                  have hsame := same_any w9 A8 c8 X A9 c9 X (HX8.out.2.2.1 SNo w9 (Fr.of_below hb9 SNo) (fun _ _ _ h => h)) HX8.out.2.1 (hx9 SNo w9 (Fr.refl _ _) (fun _ _ _ h => h)) hc9 (by have := HE.out.2.2.2.2.2.2; omega)
                  rw [decide_eq_true rfl] at hsame
                  have HX9 := Aside0.mk (And.intro (HX8.out.1.step hb9) hsame); clear hc9 hx9 hb9 hsame
                  go_wp2_with fail
                  refine HX9.out.2.mono ?_
                  rintro e w10 ⟨rfl, nd, rfl⟩
                  have HT2 := Aside0.mk (HX9.out.1.step (below_drawn w9 nd))
                  generalize w9.drewN nd = w10 at *
                  go_wp2_with fail
                  refine (known_any _).mono ?_
                  rintro e w11 ⟨rfl, hb⟩
                  go_wp2_with fail
                  go_ret
                  exact ⟨rfl, (HT2.out.own1.step hb).below⟩
end Go.Proofs.Ytodgcfkdnellpaa
