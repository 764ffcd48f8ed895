/- Gossip: the law GossipTold, walked. -/
import Derived.Test.YtafkglhdpcmdbaaTT
set_option linter.unusedSimpArgs false
set_option linter.unusedVariables false
namespace Go.Proofs.Ytafkglhdpcmdbaa
open Go.RowKit Go.Proofs.YtafkglhdpcmdbaaW.PrintWords
open T (S39 k39)
theorem count_any (a m : Int) (w : World) (h1 : 1 ≤ m) (h2 : m ≤ 1000) : Calls Try.prog 13 #[.int .i64 a, .int .i64 m] w fun e w' => ∃ r : Nat, e = .returned (.int .i64 r) ∧ (r : Int) < m ∧ ∃ n, w' = w.drewN n := by
  have hf : ∃ r, T.steelyardref01_Count.f a m = some r ∧ 0 ≤ r ∧ r < m := by
    unfold T.steelyardref01_Count.f
    rw [if_neg (by omega), if_neg (by omega)]
    have h3 : (Int.tmod a m).natAbs < m.natAbs := by rw [Int.natAbs_tmod]; exact Nat.mod_lt _ (by omega)
    by_cases hneg : Int.tmod a m < 0
    · rw [if_pos hneg]
      refine ⟨_, rfl, ?_⟩
      unfold wrap64
      omega
    · rw [if_neg hneg]
      exact ⟨_, rfl, by omega, by omega⟩
  obtain ⟨r, hf, h0, hr⟩ := hf
  exact (T.steelyardref01_Count.calls a m r w hf).mono fun e w' ⟨he, hd⟩ => ⟨r.toNat, by rw [he, Int.toNat_of_nonneg h0], by omega, hd.out⟩
theorem ints_form {w : World} {k : IntKind} {A : Option Addr} {n : Nat} {xs : List Int} (h : ReadsInt w k A n xs) (h0 : 0 < n) : ∃ b off, A = some ⟨b, off, none⟩ ∧ b < w.heap.size ∧ ∀ j, j < n → w.cell? ⟨b, off + j, none⟩ = some (.int k (xs.getD j 0)) := by
  obtain ⟨⟨b, off, sp⟩, rfl, hc⟩ := h.2.2 h0
  have h1 := hc 0 h0
  obtain rfl : sp = none := by
    cases sp with
    | none => rfl
    | some s =>
      simp only [Addr.add, if_true, World.cell?] at h1
      split at h1 <;> simp at h1
  refine ⟨b, off, rfl, World.block_lt_of_cell? w _ h1, fun j hj => ?_⟩
  have := hc j hj
  have e : (⟨b, off, none⟩ : Addr).add j = ⟨b, off + j, none⟩ := by unfold Addr.add; split <;> simp_all
  rwa [e] at this
theorem made_reads (w : World) (m : Nat) (hm : m ≤ 50) : (w.alloc (.cells (madeCells #[.int .u8 0] m) 5)).heap[w.heap.size]? = some (.cells (nums .u8 (List.replicate m 0)).toArray 5 (0, 0)) := by
  have h := own_made w 0 5 .u8 m (Nat.zero_le _) (by omega)
  rcases h.2 with ⟨h, _⟩ | ⟨g, cap, cur, hv, _, hh, _, _, hs, ht⟩
  · cases h
  · injection hv with ha _ hc
    injection ha with ha
    injection ha with hg
    subst hg; subst hc
    rw [hh]
    congr 2
    apply Array.toList_inj.1
    rw [← ht, List.take_of_length_le (by simp; omega)]
/-- the first loop -/
def ToldA (w : World) (g : Nat) (v8 v7 v9 : Value) (n : Nat) (wr : World) : Prop := ∃ (i : Nat) (L : List Int) (rm : Int) (F : Nat → Prop) (q : List It), v9 = .int .i64 i ∧ v8 = .int .i64 rm ∧ i ≤ n ∧ TInv i L rm q ∧ IsQ wr F g 4096 q ∧ wr.ownsRow 0 3 1 v7 L.length (nums .i64 L) ∧ (∀ k, F k → w.heap.size ≤ k ∧ k < wr.heap.size ∧ v7.ownBlock ≠ some k) ∧ (∀ k, v7.ownBlock = some k → w.heap.size ≤ k) ∧ Below w.heap.size w wr
theorem TInv.rm {i : Nat} {L : List Int} {rm : Int} {q : List It} (h : TInv i L rm q) (hi : i ≤ 30) : 0 ≤ rm ∧ rm ≤ 1500 := by
  have h1 := sumL_le q (fun x hx => (h.each x hx).2.1)
  have h2 := sumL_nonneg q
  have h3 := h.qlen
  have h4 := h.sum
  omega
/-- the third loop -/
def ToldC (w2 : World) (n : Nat) (A7 : Option Addr) (c7 : Nat) (L : List Int) (q : List It) (v14 : Value) (wr : World) : Prop := ∃ (m : Nat) (M : List Int), v14 = .int .i64 m ∧ m ≤ (sortQ q).length ∧ MInv n L M (sortQ q) m ∧ wr.ownsRow 0 3 1 (.slice A7 n c7) n (nums .i64 M) ∧ Fr (fun k => (Value.slice A7 n c7).ownBlock = some k) w2 wr
/-- the second loop -/
def ToldB (w : World) (g n : Nat) (A7 : Option Addr) (c7 : Nat) (rm : Int) (v12 : Value) (wr : World) : Prop := ∃ (j : Nat) (L : List Int) (F : Nat → Prop) (q : List It), v12 = .int .i64 j ∧ j ≤ 14 ∧ PInv n j L rm q ∧ IsQ wr F g 4096 q ∧ wr.ownsRow 0 3 1 (.slice A7 n c7) n (nums .i64 L) ∧ (∀ k, F k → w.heap.size ≤ k ∧ k < wr.heap.size ∧ (Value.slice A7 n c7).ownBlock ≠ some k) ∧ (∀ k, (Value.slice A7 n c7).ownBlock = some k → w.heap.size ≤ k) ∧ Below w.heap.size w wr
theorem info3 : (Try.prog.info? 3).map (fun i => (i.zero, i.size, i.bytes)) = some (some (.int .i64 0), 1, 8) := by kernel_rfl
theorem news_read {w3 W : World} {base : Nat} {S : Nat → Prop} {v : Value} {q : List It} (hr : k39.R 39 w3 base (fun k => base ≤ k) v (q.map It.news)) (hf : Fr S w3 W) (hS : ∀ k, S k → k < base) {m : Nat} (hm : m < q.length) : ∃ b, b < W.heap.size ∧ (∃ c, v = .slice (some ⟨b, 0, none⟩) q.length c) ∧ W.cell? ⟨b, m * 2, none⟩ = some (.int .i64 q[m].key) := by
  have hR : k39.R 39 W base (fun k => base ≤ k) v (q.map It.news) := Kd.R_step hr (fun k hk hlt => hf.block k hlt (fun h => by have := hS k h; omega))
  obtain ⟨inner, ho⟩ := Kd.R_own hR
  rw [List.length_map] at ho
  rcases ho.2 with ⟨_, hz⟩ | ⟨b, cap, cur, hv, _, hb, _⟩
  · omega
  · refine ⟨b, blk_lt hb, ⟨cap, hv⟩, ?_⟩
    rw [hv] at hR
    obtain ⟨_, _, hC⟩ := Kd.R_reads' hR
    obtain ⟨ad, c, e, hcl, hK, hc⟩ := Kd.C_get hC T.z39 (m : Int) (by omega) (by rw [List.length_map]; omega)
    injection e with e
    subst e
    rw [Int.toNat_natCast, List.getD_eq_getElem?_getD, List.getElem?_map, List.getElem?_eq_getElem hm] at hK
    obtain ⟨A1, c1, rfl, _, _⟩ := T.k39_open hK
    have h0 := hc 0 _ rfl
    simp only [Int.toNat_natCast, add_plain, show k39.sz = 2 from rfl, Nat.add_zero] at h0
    exact h0
theorem own_cell {W : World} {g n c : Nat} {A : Option Addr} {xs : List Int} (h : W.ownsRow 0 3 1 (.slice A n c) n (nums .i64 xs)) {i : Nat} (hi : i < n) {x : Int} (hx : xs[i]? = some x) : ∃ g, A = some ⟨g, 0, none⟩ ∧ W.cell? ⟨g, i, none⟩ = some (.int .i64 x) ∧ W.frozen? ⟨g, i, none⟩ = false ∧ ∀ y, (W.setCell ⟨g, i, none⟩ (.int .i64 y)).ownsRow 0 3 1 (.slice A n c) n (nums .i64 (xs.set i y)) := by
  rcases h.2 with ⟨_, hz⟩ | ⟨b, cap, cur, hv, _, hb, _⟩
  · omega
  · injection hv with ha _ hc
    subst ha
    obtain ⟨h1, h2⟩ := own_at h (i : Int) (by omega) (by omega)
    refine ⟨b, rfl, ?_, h2, fun y => (own_store h (i : Int) y).1⟩
    rw [Int.toNat_natCast] at h1
    rw [h1]
    unfold rd
    rw [Int.toNat_natCast, List.getD_eq_getElem?_getD, hx]; rfl
theorem put_told (W : World) (F : Nat → Prop) (g : Nat) (q : List It) (i : Nat) (L : List Int) (rm : Int) (hT : TInv i L rm q) (hi : i < 30) (r0 r1 : Nat) (h0 : 1 + r0 ≤ 50) (h1 : 1 + r1 ≤ 12) (hq : IsQ W F g 4096 q) (hF : ∀ k, F k → k < W.heap.size) :
    Calls Try.prog 12 #[.pointer (some ⟨g, 0, none⟩), .int .i64 i, .slice (some ⟨W.heap.size, 0, none⟩) (1 + r0) (1 + r0), .int .i64 (1 + (r1 : Int))] (W.alloc (.cells (madeCells #[.int .u8 0] (1 + r0)) 5)) fun e w' => e = .returned (.int .i64 0) ∧ ∃ F', (IsQ w' F' g 4096 (q ++ [⟨i, List.replicate (1 + r0) 0, 1 + (r1 : Int)⟩]) ∧ TInv (i + 1) (L ++ [1 + (r1 : Int)]) (rm + (1 + (r0 : Int))) (q ++ [⟨i, List.replicate (1 + r0) 0, 1 + (r1 : Int)⟩])) ∧ Turn (W.alloc (.cells (madeCells #[.int .u8 0] (1 + r0)) 5)) w' F F' := by
  obtain ⟨hp, hT'⟩ := hT.put hi (1 + r0) (1 + (r1 : Int)) (by omega) h0 (by omega) (by omega)
  have h := Put_any (W.alloc (.cells (madeCells #[.int .u8 0] (1 + r0)) 5)) F g 4096 q i (some ⟨W.heap.size, 0, none⟩) (1 + r0) (List.replicate (1 + r0) 0) (1 + (r1 : Int)) (hq.below (below_alloc (Below.refl _ _) _)) (by have := hT.qlen; omega)
    (fun W2 hW => reads_lit (hW.blk (made_reads W (1 + r0) h0) (fun h => by have := hF _ h; omega)) (by simp; omega)) (by simp; omega)
  rw [List.length_replicate] at h
  rw [hp] at h
  refine h.mono fun e w' ⟨he, F', hq', ht'⟩ => ⟨he, F', ⟨hq', ?_⟩, ht'⟩
  have : ((1 + r0 : Nat) : Int) = 1 + (r0 : Int) := by omega
  rw [← this]
  exact hT'
theorem told_next {w wr W w4 w5 : World} {F F4 : Nat → Prop} {g n : Nat} {m : Int} {q' : List It} {v7 v5 : Value} {xs : List Value} (hF : ∀ k, F k → w.heap.size ≤ k ∧ k < wr.heap.size ∧ v7.ownBlock ≠ some k) (hLb : ∀ k, v7.ownBlock = some k → w.heap.size ≤ k) (hL : wr.ownsRow 0 3 1 v7 n xs) (hb : Below w.heap.size w wr) (hW : Below wr.heap.size wr W)
    (ht : Turn W w4 F F4) (hq : IsQ w4 F4 g m q') (hgr : w4.grownBy w5 v7.ownBlock) (hat : v5.ownBlock = v7.ownBlock ∨ ∃ b, v5.ownBlock = some b ∧ w4.heap.size ≤ b) :
    IsQ w5 F4 g m q' ∧ (∀ k, F4 k → w.heap.size ≤ k ∧ k < w5.heap.size ∧ v5.ownBlock ≠ some k) ∧ (∀ k, v5.ownBlock = some k → w.heap.size ≤ k) ∧ Below w.heap.size w w5 := by
  have z1 := hb.size
  have z2 := hW.size
  have z3 := ht.fr.size
  have z4 := hgr.size
  have hlt : ∀ k, v7.ownBlock = some k → k < wr.heap.size := fun k hk => own_lt hL k hk
  have hne : ∀ k, F4 k → v7.ownBlock ≠ some k := fun k hk he => by
    rcases (ht.new k hk).1 with h | h
    · exact (hF k h).2.2 he
    · have := hlt k he; omega
  refine ⟨hq.frame (Fr.of_grown hgr) (fun k hk he => hne k hk he), fun k hk => ⟨?_, ?_, fun he => ?_⟩, fun k hk => ?_, ?_⟩
  · rcases (ht.new k hk).1 with h | h
    · exact (hF k h).1
    · omega
  · have := (ht.new k hk).2; omega
  · rcases hat with h | ⟨b, h, hle⟩
    · exact hne k hk (by rw [← h]; exact he)
    · rw [h] at he
      injection he with he
      have := (ht.new k hk).2
      omega
  · rcases hat with h | ⟨b, h, hle⟩
    · exact hLb k (by rw [← h]; exact hk)
    · rw [h] at hk
      injection hk with hk
      omega
  · have h1 : Below w.heap.size w W := hb.trans (hW.mono z1)
    have h2 := h1.trans (ht.fr.below (B := w.heap.size) (fun k hk hFk => by have := (hF k hFk).1; omega) (by omega))
    exact h2.grown hgr (by omega) hLb
set_option maxHeartbeats 40000000 in
set_option maxRecDepth 100000 in
theorem told_law (A0 : Option Addr) (n0 c0 : Nat) (l0 : List Int) (A1 : Option Addr) (n1 c1 : Nat) (l1 : List Int) (w : World) (h0 : ReadsInt w .i64 A0 n0 l0) (h1 : ReadsInt w .i64 A1 n1 l1) : Calls Try.prog 6 #[.slice A0 n0 c0, .slice A1 n1 c1] w fun e w' => e = .returned (.bool true) ∧ Below w.heap.size w w' := by
  have HR0 := Aside0.mk h0; have HR1 := Aside0.mk h1
  have hn0 := h0.2.1; have hn1 := h1.2.1
  clear h0 h1
  have hmk : ∀ (m : Nat), m ≤ 50 → ∀ W : World, (Instr.makeSlice 31 (.int .i64 (m : Int)) (.int .i64 (m : Int))).run Try.prog W = .ok (.slice (some ⟨W.heap.size, 0, none⟩) m m) (W.alloc (.cells (madeCells #[.int .u8 0] m) 5)) := fun m hm => print_make 31 5 .u8 1 Try.underlying31 info5 (by decide) m (by omega)
  have HMK := Aside0.mk hmk; clear hmk
  go_enter Try.func6, Try.ntmps6
  go_wp2_with fail
  refine (New_any _ 4096 (by decide) (by decide)).mono ?_
  rintro e w1 ⟨g, F1, rfl, hq1, hF1, hb1⟩
  have HQ1 := Aside0.mk (And.intro hq1 (And.intro hF1 hb1)); clear hq1 hF1 hb1
  go_wp2_with fail
  go_loopw [7, 8, 9] (fun v7 v8 v9 wr => ToldA w g v8 v7 v9 (min (min n0 n1) 30) wr) (fun _ _ i _ => 30 - (intOf i).toNat)
  case atStart => exact ⟨0, [], 0, F1, [], rfl, rfl, Nat.zero_le _, TInv.start, HQ1.out.1, own_nil _ _ _ _, fun k hk => ⟨(HQ1.out.2.1 k hk).1, (HQ1.out.2.1 k hk).2, by simp [Value.ownBlock]⟩, fun k hk => by simp [Value.ownBlock] at hk, HQ1.out.2.2⟩
  case round =>
    obtain ⟨i, L, rm, F, q, rfl, rfl, hi, hT, hq, hL, hF, hLb, hb⟩ := hrel
    obtain ⟨A7, c7, rfl⟩ := own_slice hL
    by_cases hlt : i < min (min n0 n1) 30
    · have hi0 : (i : Int) < (n0 : Int) := by omega
      have hi1 : (i : Int) < (n1 : Int) := by omega
      have hi2 : (i : Int) < 30 := by omega
      obtain ⟨b0, o0, rfl, _, hc0⟩ := ints_form (HR0.out.below hb) (by omega)
      obtain ⟨b1, o1, rfl, _, hc1⟩ := ints_form (HR1.out.below hb) (by omega)
      have ck0 := hc0 i (by omega)
      have ck1 := hc1 i (by omega)
      obtain ⟨hrm0, hrm1⟩ := hT.rm (by omega)
      generalize l0.getD i 0 = x0 at ck0
      generalize l1.getD i 0 = x1 at ck1
      clear hc0 hc1
      have HI := Aside0.mk (And.intro hT (And.intro hq (And.intro hL (And.intro hF (And.intro hLb hb))))); clear hT hq hL hF hLb hb
      go_wp2_with fail
      refine (count_any x0 50 _ (by decide) (by decide)).mono ?_
      rintro e w' ⟨r0, rfl, hr0, nd0, rfl⟩
      have hr0' : (1 + r0 : Nat) ≤ 50 := by omega
      go_wp2_with fail
      refine (count_any x1 12 _ (by decide) (by decide)).mono ?_
      rintro e w' ⟨r1, rfl, hr1, nd1, rfl⟩
      have hmk : ∀ W : World, (Instr.makeSlice 31 (.int .i64 (1 + (r0 : Int))) (.int .i64 (1 + (r0 : Int)))).run Try.prog W = .ok (.slice (some ⟨W.heap.size, 0, none⟩) (1 + r0) (1 + r0)) (W.alloc (.cells (madeCells #[.int .u8 0] (1 + r0)) 5)) := fun W => by
        have := HMK.out (1 + r0) hr0' W
        simpa using this
      go_wp2_with fail
      refine (put_told _ F g q i L rm HI.out.1 (by omega) r0 r1 hr0' (by omega) (HI.out.2.1.below (pw_below_drewN (Below.refl _ _) _)) (fun k hk => (HI.out.2.2.2.1 k hk).2.1)).mono ?_
      rintro e w4 ⟨rfl, F4, ⟨hq4, hT4⟩, ht4⟩
      have hL4 : w4.ownsRow 0 3 1 (.slice A7 L.length c7) L.length (nums .i64 L) := ht4.fr.own ((HI.out.2.2.1).alloc _) (fun k hk hFk => (HI.out.2.2.2.1 k hFk).2.2 hk)
      have HO := Aside0.mk hL4
      have H4 := Aside0.mk (And.intro hq4 (And.intro hT4 ht4)); clear hq4 hT4 ht4 hL4
      go_wp2_with (first | (at_builtin; go_loud (refine print_append_num (w0 := w4) 0 rfl (.tmp 61) (.tmp 63) 54 3 .i64 8 rfl Try.underlying54 info3 (by decide) (.slice A7 L.length c7) L (1 + (r1 : Int)) rfl rfl HO.out (Below.refl _ _) (Nat.zero_le _) (by have := HI.out.1.len; omega) ?_; intro v5 w5 hown5 _ hgr5 hat5)))
      go_roundw
      case measure => simp [intOf]; omega
      case rel =>
        have hnx := told_next HI.out.2.2.2.1 HI.out.2.2.2.2.1 HI.out.2.2.1 HI.out.2.2.2.2.2 ((pw_below_drewN (Below.refl _ _) _).alloc (Nat.le_refl _) _) H4.out.2.2 H4.out.1 hgr5 hat5
        exact ⟨i + 1, L ++ [1 + (r1 : Int)], rm + (1 + (r0 : Int)), F4, _, by go_num, by go_num, by omega, H4.out.2.1, hnx.1, hown5, hnx.2.1, hnx.2.2.1, hnx.2.2.2⟩
    · have hP := hT.done (by omega)
      have hlen := hT.len
      subst hlen
      have hrm := (hT.rm (by omega)).2
      have HI := Aside0.mk (And.intro hP (And.intro hq (And.intro hL (And.intro hF (And.intro hLb hb))))); clear hT hq hL hF hLb hb hP
      go_wp2_with fail
      all_goals
        go_loopw [12, 13, 14] (fun j _ _ wr' => ToldB w g L.length A7 c7 rm j wr') (fun j _ _ _ => 14 - (intOf j).toNat)
        case atStart => exact ⟨0, L, F, q, rfl, by omega, HI.out.1, HI.out.2.1, HI.out.2.2.1, HI.out.2.2.2.1, HI.out.2.2.2.2.1, HI.out.2.2.2.2.2⟩
        case round =>
          obtain ⟨j, L2, F2, q2, rfl, hj, hP2, hq2, hL2, hF2, hLb2, hb2⟩ := hrel
          by_cases hj14 : j < 14
          · have hjz : (j : Int) < 14 := by omega
            have hsz2 : ∀ k, F2 k → k < wr.heap.size := fun k hk => (hF2 k hk).2.1
            have hcon := Pick_any wr F2 g 4096 q2 rm hq2 hsz2 hP2.good (by omega)
            rw [hP2.pick] at hcon
            have hsl : (sortQ q2).length ≤ 30 := by rw [(sortQ_perm q2).length_eq]; exact hP2.few
            have HC := Aside0.mk hcon
            have H2 := Aside0.mk (And.intro hP2 (And.intro hL2 (And.intro hF2 (And.intro hLb2 hb2)))); clear hP2 hq2 hL2 hF2 hLb2 hb2 hcon hsz2
            go_wp2_with fail
            refine HC.out.mono ?_
            rintro e w3 ⟨v13, rfl, hr3, hq3, hf3⟩
            obtain ⟨A13, c13, rfl⟩ : ∃ A c, v13 = .slice A (sortQ q2).length c := by
              obtain ⟨inner, ho⟩ := Kd.R_own hr3
              have := own_slice ho
              rwa [List.length_map] at this
            have hL3 := hf3.own H2.out.2.1 (fun k hk hFk => (H2.out.2.2.1 k hFk).2.2 hk)
            have H3 := Aside0.mk (And.intro hr3 (And.intro hq3 (And.intro hf3 hL3))); clear hr3 hq3 hf3 hL3
            go_wp2_with fail
            go_loopw [14] (fun v14 wr2 => ToldC w3 L.length A7 c7 L2 q2 v14 wr2) (fun m _ => (sortQ q2).length - (intOf m).toNat)
            case atStart => exact ⟨0, L2, rfl, Nat.zero_le _, MInv.start H2.out.1.len, H3.out.2.2.2, Fr.refl _ _⟩
            case round =>
              obtain ⟨m, M, rfl, hm, hM, hLM, hfM⟩ := hrel
              by_cases hmlt : m < (sortQ q2).length
              · obtain ⟨x1, x2, x3, x4, x5⟩ := hM.at_ H2.out.1 hmlt
                obtain ⟨b13, _, ⟨cc, hv13⟩, ck⟩ := news_read H3.out.1 hfM (fun k hk => own_lt H2.out.2.1 k hk) hmlt
                obtain ⟨kk, hkk⟩ : ∃ kk : Nat, (sortQ q2)[m].key = kk := ⟨_, (Int.toNat_of_nonneg x1).symm⟩
                rw [hkk] at x1 x2 x3 ck
                rw [Int.toNat_natCast] at x3
                obtain ⟨b7, hA7, y0, y1, hst⟩ := own_cell (g := 0) hLM (by omega) x3
                injection hv13 with hv13
                subst hv13; subst hA7
                obtain ⟨lf, hlf⟩ : ∃ l, l = (sortQ q2)[m].left := ⟨_, rfl⟩
                rw [← hlf] at x4 x5 y0
                have HM := Aside0.mk (And.intro hM (And.intro hst (And.intro hfM (And.intro hkk hlf)))); clear hM hst hfM hkk hlf hLM x3
                go_wp2_with fail
                go_roundw
                case measure => simp [intOf]; omega
                case rel =>
                  have hs := HM.out.1.step H2.out.1 hmlt
                  rw [HM.out.2.2.2.1, ← HM.out.2.2.2.2, Int.toNat_natCast] at hs
                  exact ⟨m + 1, M.set kk (lf - 1), by go_num, by omega, hs, HM.out.2.1 (lf - 1), HM.out.2.2.1.setCell (.inl (by simp [Value.ownBlock])) _⟩
              · obtain rfl : m = (sortQ q2).length := by omega
                have HM := Aside0.mk (And.intro hM (And.intro hLM hfM)); clear hM hLM hfM
                go_wp2_with fail
                go_roundw
                case measure => simp [intOf]; omega
                case rel =>
                  have h1 := H3.out.2.2.1.size
                  have h2 := HM.out.2.2.size
                  have hne : ∀ k, F2 k → ¬ (Value.slice A7 L.length c7).ownBlock = some k := fun k hk => (H2.out.2.2.1 k hk).2.2
                  exact ⟨j + 1, M, F2, _, by go_num, by omega, HM.out.1.finish H2.out.1, H3.out.2.1.frame HM.out.2.2 hne, HM.out.2.1, fun k hk => ⟨(H2.out.2.2.1 k hk).1, by have := (H2.out.2.2.1 k hk).2.1; omega, hne k hk⟩, H2.out.2.2.2.1,
                    (H2.out.2.2.2.2.trans (H3.out.2.2.1.below (B := w.heap.size) (fun k hk hF => by have := (H2.out.2.2.1 k hF).1; omega) H2.out.2.2.2.2.size)).trans (HM.out.2.2.below (B := w.heap.size) (fun k hk hF => by have := H2.out.2.2.2.1 k hF; omega) (by have := H2.out.2.2.2.2.size; omega))⟩
          · have hjz : ¬ (j : Int) < 14 := by omega
            obtain ⟨hqe, hzero⟩ := hP2.over (by omega)
            subst hqe
            have H2 := Aside0.mk (And.intro hP2 (And.intro hL2 (And.intro hF2 (And.intro hLb2 (And.intro hb2 (And.intro hq2 hzero)))))); clear hP2 hL2 hF2 hLb2 hb2 hq2 hzero
            go_wp2_with fail
            go_loopw [15] (fun i wr2 => (∃ i' : Nat, i = .int .i64 i' ∧ i' ≤ L.length) ∧ Below wr.heap.size wr wr2) (fun i _ => L.length - (intOf i).toNat)
            case atStart => exact ⟨⟨0, rfl, Nat.zero_le _⟩, Below.refl _ _⟩
            case round =>
              obtain ⟨⟨i', rfl, hi'⟩, hbw⟩ := hrel
              by_cases hlt' : i' < L.length
              · obtain ⟨b7, hA7, y0, _, _⟩ := own_cell (g := 0) (pw_own_below H2.out.2.1 hbw) hlt' (H2.out.2.2.2.2.2.2 i' hlt')
                subst hA7
                have hcon := Left_any _ F2 g 4096 (i' : Int) [] (H2.out.2.2.2.2.2.1.below hbw)
                have HC := Aside0.mk hcon
                have HB := Aside0.mk hbw; clear hcon hbw
                go_wp2_with fail
                refine HC.out.mono ?_
                rintro e w5 ⟨rfl, hb5⟩
                have HB5 := Aside0.mk hb5; clear hb5
                simp only [leftQ]
                go_wp2_with fail
                go_roundw
                case measure => simp [intOf]; omega
                case rel => exact ⟨⟨i' + 1, by go_num, by omega⟩, HB.out.trans (HB5.out.mono HB.out.size)⟩
              · obtain rfl : i' = L.length := by omega
                have hcon := Len_any _ F2 g 4096 [] (H2.out.2.2.2.2.2.1.below hbw)
                have HC := Aside0.mk hcon
                have HB := Aside0.mk hbw; clear hcon hbw
                go_wp2_with (first | (go_at_call 14; (with_reducible refine HC.out.mono ?_); rintro e w' ⟨rfl, rfl⟩) | (go_at_call 10; (with_reducible refine (known_any _).mono ?_); rintro e w' ⟨rfl, hb9⟩))
                go_ret
                exact ⟨rfl, (H2.out.2.2.2.2.1.trans (HB.out.mono H2.out.2.2.2.2.1.size)).trans (hb9.mono (Nat.le_trans H2.out.2.2.2.2.1.size HB.out.size))⟩
end Go.Proofs.Ytafkglhdpcmdbaa
