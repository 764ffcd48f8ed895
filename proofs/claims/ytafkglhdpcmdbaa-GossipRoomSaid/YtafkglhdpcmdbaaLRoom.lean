/- Gossip: the law GossipRoom, walked. -/
import Derived.Test.YtafkglhdpcmdbaaRR
set_option linter.unusedSimpArgs false
set_option linter.unusedVariables false
namespace Go.Proofs.Ytafkglhdpcmdbaa
open Go.RowKit Go.Proofs.YtafkglhdpcmdbaaW.PrintWords
open T (S39 k39)
/-- the first loop -/
structure RoomI (w wr : World) (g i : Nat) (F : Nat → Prop) (q : List It) : Prop where
  good : Good q
  few : q.length ≤ i
  isq : IsQ wr F g 100 q
  own : ∀ k, F k → w.heap.size ≤ k ∧ k < wr.heap.size
  below : Below w.heap.size w wr
def RoomA (w : World) (g n : Nat) (v7 : Value) (wr : World) : Prop := ∃ (i : Nat) (F : Nat → Prop) (q : List It), v7 = .int .i64 i ∧ i ≤ n ∧ i ≤ 50 ∧ RoomI w wr g i F q
def RoomPut (w : World) (g i : Nat) (e : Ending) (w' : World) : Prop := ∃ y, e = .returned (.int .i64 y) ∧ ∃ F' q', RoomI w w' g i F' q'
theorem room_put {w : World} {i : Nat} (wr w5 : World) (nd : Nat) (hw5 : w5 = wr.drew.drewN nd) (F : Nat → Prop) (g : Nat) (q : List It) (key : Int) (dA : Option Addr) (dc : Nat) (data : List Int) (r1 : Nat) (hI : RoomI w wr g i F q ∧ i < 50) (hD : ReadsInt w .u8 dA data.length data) (hdl : data.length ≤ 140737488351232) :
    Calls Try.prog 12 #[.pointer (some ⟨g, 0, none⟩), .int .i64 key, .slice dA data.length dc, .int .i64 (1 + (r1 : Int))] w5 (RoomPut w g (i + 1)) := by
  obtain ⟨h, hi⟩ := hI
  subst hw5
  have hb5 : Below wr.heap.size wr (wr.drew.drewN nd) := pw_below_drewN (below_drew (Below.refl _ _)) nd
  have z := h.below.size
  have hbw : Below w.heap.size w (wr.drew.drewN nd) := h.below.trans (hb5.mono z)
  refine (Put_any _ F g 100 q key dA dc data (1 + (r1 : Int)) (h.isq.below hb5) (by have := h.few; omega) (fun W hW => hD.below (hbw.trans (hW.below (B := w.heap.size) (fun k hk hF => by have := (h.own k hF).1; omega) hbw.size))) hdl).mono ?_
  rintro e w' ⟨rfl, F', hq', ht'⟩
  obtain ⟨hg, hl⟩ := h.good.put 100 key data (1 + (r1 : Int)) hdl (by have := h.few; omega)
  refine ⟨_, rfl, F', _, hg, by have := h.few; omega, hq', fun k hk => ⟨?_, (ht'.new k hk).2⟩, hbw.trans (ht'.fr.below (B := w.heap.size) (fun k hk hF => by have := (h.own k hF).1; omega) hbw.size)⟩
  rcases (ht'.new k hk).1 with h1 | h1
  · exact (h.own k h1).1
  · have h2 : wr.heap.size ≤ k := h1
    omega
theorem news_cells39 {W : World} {base b n c : Nat} {l : List S39} (hr : k39.R 39 W base (fun k => base ≤ k) (.slice (some ⟨b, 0, none⟩) n c) l) {m : Nat} (hm : m < l.length) : W.cell? ⟨b, m * 2, none⟩ = some (.int .i64 l[m].f0) ∧ ∃ A c, W.cell? ⟨b, m * 2 + 1, none⟩ = some (.slice A l[m].f1.length c) := by
  obtain ⟨hn, _, hC⟩ := Kd.R_reads' hr
  obtain ⟨ad, c, e, hcl, hK, hc⟩ := Kd.C_get hC T.z39 (m : Int) (by omega) (by omega)
  injection e with e
  subst e
  rw [Int.toNat_natCast, List.getD_eq_getElem?_getD, List.getElem?_eq_getElem hm] at hK
  obtain ⟨A1, c1, rfl, _, _⟩ := T.k39_open hK
  have h0 := hc 0 _ rfl
  have h1 := hc 1 _ rfl
  simp only [Int.toNat_natCast, add_plain, show k39.sz = 2 from rfl, Nat.add_zero] at h0 h1
  exact ⟨h0, A1, c1, h1⟩
theorem news_form {W : World} {base n c : Nat} {A : Option Addr} {l : List S39} (hr : k39.R 39 W base (fun k => base ≤ k) (.slice A n c) l) (h : 0 < l.length) : ∃ b, A = some ⟨b, 0, none⟩ := by
  obtain ⟨inner, ho⟩ := Kd.R_own hr
  rcases ho.2 with ⟨_, hz⟩ | ⟨b, cap, cur, hv, _, hb, _⟩
  · omega
  · injection hv with hv
    exact ⟨b, hv⟩
def RoomB (w3 : World) (room : Int) (T : List S39) (v10 v11 : Value) (wr : World) : Prop := ∃ (k : Nat), v10 = .int .i64 (roomAt room T k) ∧ v11 = .int .i64 k ∧ k ≤ T.length ∧ wr = w3
def RoomC (w3 : World) (T : List S39) (v12 : Value) (wr : World) : Prop := ∃ (i m : Nat), v12 = .int .i64 i ∧ i ≤ T.length ∧ wr = w3.drewN m
def RoomD (w3 : World) (i : Nat) (v13 : Value) (wr : World) : Prop := ∃ (k m : Nat), v13 = .int .i64 k ∧ k ≤ i ∧ wr = w3.drewN m
set_option maxHeartbeats 40000000 in
set_option maxRecDepth 100000 in
theorem room_law (A : Option Addr) (c : Nat) (l : List Act33) (room : Int) (w : World) (hA : ActsAt w A l) (hl : l.length ≤ maxLen) (hr0 : -9223372036854775808 ≤ room) (hr1 : room ≤ 9223372036854775807) : Calls Try.prog 4 #[.slice A l.length c, .int .i64 room] w fun e w' => e = .returned (.bool true) ∧ Below w.heap.size w w' := by
  have HA := Aside0.mk hA; clear hA
  unfold maxLen at hl
  go_enter Try.func4, Try.ntmps4
  go_wp2_with fail
  refine (New_any _ 100 (by decide) (by decide)).mono ?_
  rintro e w1 ⟨g, F1, rfl, hq1, hF1, hb1⟩
  have HQ1 := Aside0.mk (And.intro hq1 (And.intro hF1 hb1)); clear hq1 hF1 hb1
  go_wp2_with fail
  go_loopw [7] (fun v7 wr => RoomA w g l.length v7 wr) (fun i _ => 50 - (intOf i).toNat)
  case atStart => exact ⟨0, F1, [], rfl, Nat.zero_le _, by omega, Good.nil, Nat.le_refl _, HQ1.out.1, HQ1.out.2.1, HQ1.out.2.2⟩
  case round =>
    obtain ⟨i, F, q, rfl, hil, hi50, hI⟩ := hrel
    by_cases hlt : i < l.length ∧ i < 50
    · obtain ⟨hlt1, hlt2⟩ := hlt
      have hz1 : (i : Int) < (l.length : Int) := by omega
      have hz2 : (i : Int) < 50 := by omega
      rcases HA.out with hn | ⟨b, off, rfl, hacts⟩
      · rw [hn] at hlt1; exact absurd hlt1 (Nat.not_lt_zero _)
      obtain ⟨_, hc1, ⟨dA, dc, hc2, hD⟩, hc3, hdl, _⟩ := hacts i hlt1
      have hk0 : wr.drew.cell? ⟨b, off + i * 4 + 1, none⟩ = some (.int .i64 l[i].key) := (hI.below.cell (p := ⟨b, off + i * 4 + 1, none⟩) (World.block_lt_of_cell? w _ hc1)).trans hc1
      have hk1 : wr.drew.cell? ⟨b, off + i * 4 + 2, none⟩ = some (.slice dA l[i].data.length dc) := (hI.below.cell (p := ⟨b, off + i * 4 + 2, none⟩) (World.block_lt_of_cell? w _ hc2)).trans hc2
      have hk2 : wr.drew.cell? ⟨b, off + i * 4 + 3, none⟩ = some (.int .i64 l[i].times) := (hI.below.cell (p := ⟨b, off + i * 4 + 3, none⟩) (World.block_lt_of_cell? w _ hc3)).trans hc3
      have HC := Aside0.mk (And.intro hc1 (And.intro hc2 hc3))
      clear hc1 hc2 hc3 hacts
      generalize l[i].key = key at *
      generalize l[i].data = data at *
      generalize l[i].times = times at *
      have HD := Aside0.mk hD; clear hD
      have HI := Aside0.mk (And.intro hI hlt2); clear hI
      go_wp2_with fail
      go_wp2_with fail
      refine Plan2.region 1000 (fun w' => w'.cell? ⟨b, off + i * 4 + 1, none⟩ = some (.int .i64 key) ∧ w'.cell? ⟨b, off + i * 4 + 2, none⟩ = some (.slice dA data.length dc) ∧ w'.cell? ⟨b, off + i * 4 + 3, none⟩ = some (.int .i64 times)) [(0, 0), (1, 0), (2, 0), (3, 0), (4, 0), (5, 1), (6, 0), (7, 0), (8, 0), (9, 0), (10, 1), (11, 0), (12, 0), (13, 0), (14, 0), (15, 1), (16, 2), (17, 0), (18, 2)] (by kernel_rfl) (by kernel_rfl) (fun _ _ d _ _ h => by cases d <;> exact h) ?_ ?_
      focus (first | exact ⟨hk0, hk1, hk2⟩ | exact ⟨hj0, hj1, hj2⟩ | exact hl6)
      (refine' Plan2.pure (N := (some 34)) rfl (by rfl) rfl ?_ ?_ ?_; rotate_left 2; (focus (intro w'; go_simp; exact Plan2.isV)); (focus (simp only [Act.put, List.setIfInBounds_toArray, List.set_cons_zero, List.set_cons_succ]; rfl)))
      (refine' Plan2.pure (N := (some 35)) rfl (by rfl) rfl ?_ ?_ ?_; rotate_left 2; (focus (intro w'; go_simp; exact Plan2.isV)); (focus (simp only [Act.put, List.setIfInBounds_toArray, List.set_cons_zero, List.set_cons_succ]; rfl)))
      (refine' Plan2.pure (N := (some 36)) rfl (by rfl) rfl ?_ ?_ ?_; rotate_left 2; (focus (intro w'; go_simp; exact Plan2.isV)); (focus (simp only [Act.put, List.setIfInBounds_toArray, List.set_cons_zero, List.set_cons_succ]; rfl)))
      (refine' Plan2.pure (N := (some 37)) rfl (by rfl) rfl ?_ ?_ ?_; rotate_left 2; (focus (intro w'; go_simp; exact Plan2.isV)); (focus (simp only [Act.put, List.setIfInBounds_toArray, List.set_cons_zero, List.set_cons_succ]; rfl)))
      (refine' Plan2.pure (N := (some 38)) rfl (by rfl) rfl ?_ ?_ ?_; rotate_left 2; (focus (intro w'; go_simp; exact Plan2.isV)); (focus (simp only [Act.put, List.setIfInBounds_toArray, List.set_cons_zero, List.set_cons_succ]; rfl)))
      (refine' Plan2.load (N := (some 39)) rfl (by rfl) rfl ?_ ?_ ?_; rotate_left 2; (focus (intro w' hS; (try dsimp only at hS); go_simp; exact Plan2.isV)); (focus (simp only [Act.put, List.setIfInBounds_toArray, List.set_cons_zero, List.set_cons_succ]; rfl)))
      (refine' Plan2.pure (N := (some 40)) rfl (by rfl) rfl ?_ ?_ ?_; rotate_left 2; (focus (intro w'; go_simp; exact Plan2.isV)); (focus (simp only [Act.put, List.setIfInBounds_toArray, List.set_cons_zero, List.set_cons_succ]; rfl)))
      (refine' Plan2.pure (N := (some 41)) rfl (by rfl) rfl ?_ ?_ ?_; rotate_left 2; (focus (intro w'; go_simp; exact Plan2.isV)); (focus (simp only [Act.put, List.setIfInBounds_toArray, List.set_cons_zero, List.set_cons_succ]; rfl)))
      (refine' Plan2.pure (N := (some 42)) rfl (by rfl) rfl ?_ ?_ ?_; rotate_left 2; (focus (intro w'; go_simp; exact Plan2.isV)); (focus (simp only [Act.put, List.setIfInBounds_toArray, List.set_cons_zero, List.set_cons_succ]; rfl)))
      (refine' Plan2.pure (N := (some 43)) rfl (by rfl) rfl ?_ ?_ ?_; rotate_left 2; (focus (intro w'; go_simp; exact Plan2.isV)); (focus (simp only [Act.put, List.setIfInBounds_toArray, List.set_cons_zero, List.set_cons_succ]; rfl)))
      (refine' Plan2.load (N := (some 44)) rfl (by rfl) rfl ?_ ?_ ?_; rotate_left 2; (focus (intro w' hS; (try dsimp only at hS); go_simp; exact Plan2.isV)); (focus (simp only [Act.put, List.setIfInBounds_toArray, List.set_cons_zero, List.set_cons_succ]; rfl)))
      (refine' Plan2.pure (N := (some 45)) rfl (by rfl) rfl ?_ ?_ ?_; rotate_left 2; (focus (intro w'; go_simp; exact Plan2.isV)); (focus (simp only [Act.put, List.setIfInBounds_toArray, List.set_cons_zero, List.set_cons_succ]; rfl)))
      (refine' Plan2.pure (N := (some 46)) rfl (by rfl) rfl ?_ ?_ ?_; rotate_left 2; (focus (intro w'; go_simp; exact Plan2.isV)); (focus (simp only [Act.put, List.setIfInBounds_toArray, List.set_cons_zero, List.set_cons_succ]; rfl)))
      (refine' Plan2.pure (N := (some 47)) rfl (by rfl) rfl ?_ ?_ ?_; rotate_left 2; (focus (intro w'; go_simp; exact Plan2.isV)); (focus (simp only [Act.put, List.setIfInBounds_toArray, List.set_cons_zero, List.set_cons_succ]; rfl)))
      (refine' Plan2.pure (N := (some 48)) rfl (by rfl) rfl ?_ ?_ ?_; rotate_left 2; (focus (intro w'; go_simp; exact Plan2.isV)); (focus (simp only [Act.put, List.setIfInBounds_toArray, List.set_cons_zero, List.set_cons_succ]; rfl)))
      (refine' Plan2.load (N := (some 49)) rfl (by rfl) rfl ?_ ?_ ?_; rotate_left 2; (focus (intro w' hS; (try dsimp only at hS); go_simp; exact Plan2.isV)); (focus (simp only [Act.put, List.setIfInBounds_toArray, List.set_cons_zero, List.set_cons_succ]; rfl)))
      (refine' Plan2.acts (past' := false) rfl (by rfl) rfl (fun K hK => ?_); go_simp; (refine (count_any times 5 _ (by decide) (by decide)).mono ?_); rintro e w5 ⟨r1, rfl, hr1, nd, hw5⟩; have hs1 : IntKind.i64.wrap (1 + (r1 : Int)) = 1 + (r1 : Int) := IntWalk.i64_in _ (by omega); have HW5 := Aside0.mk hw5; obtain ⟨hj0, hj1, hj2⟩ : w5.cell? ⟨b, off + i * 4 + 1, none⟩ = some (.int .i64 key) ∧ w5.cell? ⟨b, off + i * 4 + 2, none⟩ = some (.slice dA data.length dc) ∧ w5.cell? ⟨b, off + i * 4 + 3, none⟩ = some (.int .i64 times) := (by rw [hw5]; exact ⟨hk0, hk1, hk2⟩); clear hw5; (refine hK.out _ _ (fun hp => ?_) (fun hS => ?_)); (focus (clear hp; (first | exact ⟨hk0, hk1, hk2⟩ | exact ⟨hj0, hj1, hj2⟩ | exact hl6))))
      (refine' Plan2.pure (N := (some 51)) rfl (by rfl) rfl ?_ ?_ ?_; rotate_left 2; (focus (intro w'; go_simp; exact Plan2.isV)); (focus (simp only [Act.put, List.setIfInBounds_toArray, List.set_cons_zero, List.set_cons_succ]; rfl)))
      (refine' Plan2.acts (past' := false) rfl (by rfl) rfl (fun K hK => ?_); go_simp; (refine (room_put wr w5 nd HW5.out F g q key dA dc data r1 HI.out HD.out hdl).mono ?_); rintro e w6 hpost; obtain ⟨y, rfl, F6, q6, hq6⟩ := hpost; have HQ6 := Aside0.mk hq6; clear hq6; have hl6 : w6.cell? ⟨b, off + i * 4 + 1, none⟩ = some (.int .i64 key) ∧ w6.cell? ⟨b, off + i * 4 + 2, none⟩ = some (.slice dA data.length dc) ∧ w6.cell? ⟨b, off + i * 4 + 3, none⟩ = some (.int .i64 times) := ⟨(HQ6.out.below.cell (p := ⟨b, off + i * 4 + 1, none⟩) (World.block_lt_of_cell? w _ HC.out.1)).trans HC.out.1, (HQ6.out.below.cell (p := ⟨b, off + i * 4 + 2, none⟩) (World.block_lt_of_cell? w _ HC.out.2.1)).trans HC.out.2.1, (HQ6.out.below.cell (p := ⟨b, off + i * 4 + 3, none⟩) (World.block_lt_of_cell? w _ HC.out.2.2)).trans HC.out.2.2⟩; (refine hK.out _ _ (fun hp => ?_) (fun hS => ?_)); (focus (clear hp; (first | exact ⟨hk0, hk1, hk2⟩ | exact ⟨hj0, hj1, hj2⟩ | exact hl6))))
      refine Plan2.done ?_
      clear hs1
      go_wp2_with fail
      go_roundw
      case measure => simp [intOf]; omega
      case rel => exact ⟨i + 1, F6, q6, by go_num, by omega, by omega, HQ6.out⟩
    · have HI := Aside0.mk hI; clear hI
      go_wp2_with fail
      all_goals
        refine (Len_any _ F g 100 q HI.out.isq).mono ?_
        rintro e w' ⟨rfl, rfl⟩
        have hcon := Pick_any wr F g 100 q room HI.out.isq (fun k hk => (HI.out.own k hk).2) HI.out.good hr1
        obtain ⟨T, hT⟩ : ∃ T, T = pickQ q room := ⟨_, rfl⟩
        rw [← hT] at hcon
        have hfit := pickQ_fits HI.out.good room
        rw [← hT] at hfit
        have HC := Aside0.mk hcon; have HT := Aside0.mk hfit; clear hcon hT hfit
        have hq50 : q.length ≤ 50 := by have := HI.out.few; omega
        go_wp2_with fail
        refine HC.out.mono ?_
        rintro e w3 ⟨v13, rfl, hr3, hq3, hf3⟩
        obtain ⟨A13, c13, rfl⟩ : ∃ A c, v13 = .slice A T.1.length c := by
          obtain ⟨inner, ho⟩ := Kd.R_own hr3
          exact own_slice ho
        have H3 := Aside0.mk (And.intro hr3 hf3); clear hr3 hq3 hf3
        obtain ⟨T1, T2⟩ := T
        simp only [] at *
        have htl : T1.length ≤ q.length := HT.out.2.2.1
        go_wp2_with fail
        go_loopw [10, 11] (fun v10 v11 wr' => RoomB w3 room T1 v10 v11 wr') (fun _ k _ => T1.length - (intOf k).toNat)
        case atStart => exact ⟨0, by cases T1 <;> rfl, rfl, Nat.zero_le _, rfl⟩
        case round =>
          obtain ⟨k, rfl, rfl, hk, rfl⟩ := hrel
          by_cases hkl : k < T1.length
          · obtain ⟨b13, rfl⟩ := news_form H3.out.1 (by omega)
            obtain ⟨_, dA, dc, ck⟩ := news_cells39 H3.out.1 hkl
            obtain ⟨f1, f2⟩ := fits_at T1 room k hkl HT.out.1
            have f3 := roomAt_le T1 room k
            generalize T1[k].f1.length = dn at *
            obtain ⟨rk, hrk⟩ : ∃ r, r = roomAt room T1 k := ⟨_, rfl⟩
            rw [← hrk] at f1 f2 f3 ⊢
            have HF2 := Aside0.mk (And.intro hrk f2); clear hrk f2
            have g1 : 0 ≤ rk - (dn : Int) := by omega
            have g2 : rk - (dn : Int) ≤ 9223372036854775807 := by omega
            go_wp2_with fail
            go_roundw
            case measure => simp [intOf]; omega
            case rel => exact ⟨k + 1, by rw [HF2.out.2], by go_num, by omega, rfl⟩
          · obtain rfl : k = T1.length := by omega
            go_wp2_with fail
            go_loopw [12, 13] (fun v12 _ wr' => RoomC wr T1 v12 wr') (fun k _ _ => T1.length - (intOf k).toNat)
            case atStart => exact ⟨0, 0, rfl, Nat.zero_le _, rfl⟩
            case round =>
              obtain ⟨i1, m1, rfl, hi1, rfl⟩ := hrel
              by_cases hil : i1 < T1.length
              · obtain ⟨b13, rfl⟩ := news_form H3.out.1 (by omega)
                obtain ⟨ck1, _⟩ := news_cells39 H3.out.1 hil
                go_wp2_with fail
                go_loopw [13] (fun v13 wr' => RoomD wr i1 v13 wr') (fun k _ => i1 - (intOf k).toNat)
                case atStart => exact ⟨0, m1, rfl, Nat.zero_le _, rfl⟩
                case round =>
                  obtain ⟨k2, m2, rfl, hk2, rfl⟩ := hrel
                  by_cases hkl2 : k2 < i1
                  · obtain ⟨ck2, _⟩ := news_cells39 (m := k2) H3.out.1 (by omega)
                    have hne : (T1[i1].f0 == T1[k2].f0) = false := by
                      rw [beq_eq_false_iff_ne]
                      intro he
                      have := (List.getElem_inj (xs := T1.map (·.f0)) (i := i1) (j := k2) (h₀ := by simpa using hil) (h₁ := by simp; omega) HT.out.2.1).1 (by simpa using he)
                      omega
                    generalize T1[i1].f0 = x1 at *
                    generalize T1[k2].f0 = x2 at *
                    go_wp2_with fail
                    go_quiet (fail)
                    go_wp2_with fail
                    go_roundw
                    case measure => simp [intOf]; omega
                    case rel => exact ⟨k2 + 1, _, by go_num, by omega, rfl⟩
                  · obtain rfl : k2 = i1 := by omega
                    go_wp2_with fail
                    go_roundw
                    case measure => simp [intOf]; omega
                    case rel => exact ⟨k2 + 1, _, by go_num, by omega, rfl⟩
              · obtain rfl : i1 = T1.length := by omega
                have htz : (T1.length : Int) ≤ (q.length : Int) := by omega
                have hb3 : Below w.heap.size w wr := HI.out.below.trans (H3.out.2.below (B := w.heap.size) (fun k hk hF => by have := (HI.out.own k hF).1; omega) HI.out.below.size)
                have HB3 := Aside0.mk (pw_below_drewN hb3 m1); clear hb3
                by_cases hroom : 0 ≤ room
                · go_wp2_with (first | (go_at_call 10; (with_reducible refine (known_any _).mono ?_); rintro e w' ⟨rfl, hb9⟩))
                  go_ret
                  exact ⟨rfl, HB3.out.trans (hb9.mono HB3.out.size)⟩
                · have he := HT.out.2.2.2 (by omega)
                  subst he
                  go_wp2_with (first | (go_at_call 10; (with_reducible refine (known_any _).mono ?_); rintro e w' ⟨rfl, hb9⟩))
                  go_ret
                  exact ⟨rfl, HB3.out.trans (hb9.mono HB3.out.size)⟩
end Go.Proofs.Ytafkglhdpcmdbaa
