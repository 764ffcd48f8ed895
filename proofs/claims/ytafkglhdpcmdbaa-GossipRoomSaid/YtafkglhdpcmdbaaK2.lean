/- Gossip: what the fixed calls come to: known. -/
import Derived.Test.YtafkglhdpcmdbaaK1
import Derived.Lib.SlBytesConst
set_option linter.unusedSimpArgs false
set_option linter.unusedVariables false
namespace Go.Proofs.Ytafkglhdpcmdbaa
open Go.RowKit Go.Proofs.YtafkglhdpcmdbaaW.PrintWords
open T (S39 k39 k39_mkM S58 k58)
theorem reads_lit {w : World} {b : Nat} {data : List Int} {fr : Nat × Nat} (hb : w.heap[b]? = some (.cells (nums .u8 data).toArray 5 fr)) (hl : data.length ≤ 9223372036854775807) : ReadsInt w .u8 (some ⟨b, 0, none⟩) data.length data :=
  ⟨rfl, hl, fun _ => ⟨_, rfl, fun j hj => by
    rw [show (⟨b, 0, none⟩ : Addr).add j = ⟨b, j, none⟩ from add_plain b j, cell_of_row w b j _ 5 fr hb]
    simp [nums, hj]⟩⟩
theorem lit_stays {w : World} {F : Nat → Prop} {data : List Int} {fr : Nat × Nat} (hF : ∀ k, F k → k < w.heap.size) (hl : data.length ≤ 9223372036854775807) : ∀ W, Fr F (w.alloc (.cells (nums .u8 data).toArray 5 fr)) W → ReadsInt W .u8 (some ⟨w.heap.size, 0, none⟩) data.length data :=
  fun W hW => reads_lit (hW.blk (heap_alloc_new w _) (fun h => by have := hF _ h; omega)) hl
set_option maxHeartbeats 4000000 in
set_option maxRecDepth 100000 in
theorem known_any (w : World) : Calls Try.prog 10 #[] w fun e w' => e = .returned (.bool true) ∧ Below w.heap.size w w' := by
  have hcv := fun (w : World) (C : Array Value) (n c : Nat) => Lib.run_convert_bytes_const (P := Try.prog) w 31 5 C n c Try.underlying31 Try.underlying5
  go_enter Try.func10, Try.ntmps10
  go_wp2_with fail
  refine (New_any _ 9 (by decide) (by decide)).mono ?_
  rintro e w1 ⟨g, F1, rfl, hq1, hF1, hb1⟩
  have HQ1 := Aside0.mk (And.intro hq1 (And.intro hF1 hb1)); clear hq1 hF1 hb1
  go_wp2_with fail
  refine (Put_any _ F1 g 9 [] 1 _ 2 [97, 98] 2 (HQ1.out.1.below (below_alloc (Below.refl _ _) _)) (by decide) (lit_stays (fun k hk => (HQ1.out.2.1 k hk).2) (by decide)) (by decide)).mono ?_
  rw [known_put1]
  rintro e w2 ⟨rfl, F2, hq2, ht2⟩
  have HQ2 := Aside0.mk (And.intro hq2 ht2); clear hq2 ht2
  go_wp2_with fail
  refine (Put_any _ F2 g 9 [K1it] 2 _ 1 [99] 3 (HQ2.out.1.below (below_alloc (Below.refl _ _) _)) (by decide) (lit_stays (fun k hk => (HQ2.out.2.new k hk).2) (by decide)) (by decide)).mono ?_
  rw [known_put2]
  rintro e w3 ⟨rfl, F3, hq3, ht3⟩
  have HQ3 := Aside0.mk (And.intro hq3 ht3); clear hq3 ht3
  go_wp2_with fail
  refine (Pick_any _ F3 g 9 [K1it, K2it] 3 HQ3.out.1 (fun k hk => (HQ3.out.2.new k hk).2) good2 (by decide)).mono ?_
  rw [known_pick1]
  rintro e w4 ⟨v4, rfl, hr4, hq4, hf4⟩
  have hcon := taken_any w4 w3.heap.size v4 _ (by decide) hr4 hf4.size
  have HQ4 := Aside0.mk (And.intro hr4 (And.intro hq4 hf4)); clear hr4 hq4 hf4
  go_wp2_with fail
  refine hcon.mono ?_
  rintro e w5 ⟨A5, c5, rfl, ha5, hx5, hb5⟩
  obtain ⟨x5, rfl⟩ := ha5 (by decide)
  have HX5 := Aside0.mk (And.intro hx5 hb5); clear hx5 hb5 hcon ha5
  go_wp2_with fail
  refine (Pick_any _ F3 g 9 _ 1 (HQ4.out.2.1.below HX5.out.2) (fun k hk => by have := (HQ3.out.2.new k hk).2; have := HQ4.out.2.2.size; have := HX5.out.2.size; omega) good3 (by decide)).mono ?_
  rintro e w6 ⟨v6, rfl, hr6, hq6, hf6⟩
  rw [known_pick2] at hr6
  have hcon := taken_any w6 w5.heap.size v6 _ (by decide) hr6 hf6.size
  have HQ6 := Aside0.mk (And.intro hr6 (And.intro hq6 hf6)); clear hr6 hq6 hf6
  go_wp2_with fail
  refine hcon.mono ?_
  rintro e w7 ⟨A7, c7, rfl, ha7, hx7, hb7⟩
  obtain ⟨x7, rfl⟩ := ha7 (by decide)
  have HX7 := Aside0.mk (And.intro hx7 hb7); clear hx7 hb7 hcon ha7
  have hX := HX5.out.1 F3 w7 (HQ6.out.2.2.trans (Fr.of_below HX7.out.2 SNo) (fun _ h => h.elim)) (fun k hk _ hf => by have := (HQ3.out.2.new k hf).2; omega)
  have hY := HX7.out.1 SNo w7 (Fr.refl _ _) (fun _ _ _ h => h)
  obtain ⟨hx0, _⟩ := news_cells hX 0 (by decide) _ rfl
  obtain ⟨_, As, cs, hx1, hs⟩ := news_cells hX 1 (by decide) _ rfl
  obtain ⟨hy0, _⟩ := news_cells hY 0 (by decide) _ rfl
  have hstr := Kd.C_string (P := Try.prog) (src := 31) (dst := 9) (c := cs) Try.underlying31 Try.underlying5 Try.underlying9 hs
  have hx0' : w7.cell? ⟨x5, 0, none⟩ = some (.int .i64 2) := hx0
  have hx1' : w7.cell? ⟨x5, 3, none⟩ = some (.slice As 2 cs) := hx1
  have hy0' : w7.cell? ⟨x7, 0, none⟩ = some (.int .i64 2) := hy0
  have hab : strOfNums [97, 98] = ⟨#[97, 98]⟩ := by kernel_rfl
  have hstr' : (convert 31 9 (.slice As 2 cs)).run Try.prog w7 = .ok (.string ⟨#[97, 98]⟩) w7 := by rw [← hab]; exact hstr
  clear hX hY hs hx0 hx1 hy0 hab hstr
  go_wp2_with (first | (go_at_call 8; (first | (with_reducible refine (T.gossip_Times.calls 4 3 6 _ times3).mono ?_) | (with_reducible refine (T.gossip_Times.calls 5 4 9 _ times4).mono ?_)); rintro e w' ⟨rfl, ⟨nd, rfl⟩⟩))
  go_ret
  refine ⟨rfl, ?_⟩
  have b1 := HQ1.out.2.2
  have z1 := b1.size
  have f1 : ∀ k, k < w.heap.size → ¬ F1 k := fun k hk hF => by have := (HQ1.out.2.1 k hF).1; omega
  have b1' := b1.alloc z1 (.cells (nums .u8 [97, 98]).toArray 5 (2, 3))
  have b2 := b1'.trans (HQ2.out.2.fr.below (B := w.heap.size) f1 b1'.size)
  have f2 : ∀ k, k < w.heap.size → ¬ F2 k := fun k hk hF => by
    have h1 := (HQ2.out.2.new k hF).1
    have h2 := b1'.size
    rcases h1 with h1 | h1
    · exact f1 k hk h1
    · omega
  have b2' := b2.alloc b2.size (.cells (nums .u8 [99]).toArray 5 (1, 2))
  have b3 := b2'.trans (HQ3.out.2.fr.below (B := w.heap.size) f2 b2'.size)
  have f3 : ∀ k, k < w.heap.size → ¬ F3 k := fun k hk hF => by
    have h1 := (HQ3.out.2.new k hF).1
    have h2 := b2'.size
    rcases h1 with h1 | h1
    · exact f2 k hk h1
    · omega
  have b4 := b3.trans (HQ4.out.2.2.below (B := w.heap.size) f3 b3.size)
  have b5 := b4.trans (HX5.out.2.mono b4.size)
  have b6 := b5.trans (HQ6.out.2.2.below (B := w.heap.size) f3 b5.size)
  have b7 := b6.trans (HX7.out.2.mono b6.size)
  exact pw_below_drewN b7 _
end Go.Proofs.Ytafkglhdpcmdbaa
