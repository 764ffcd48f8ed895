/- Wheel: a wheel of a call's own, and what the fixed calls come to. -/
import Derived.Test.YtodgcfkdnellpaaC1
import Derived.Test.YtodgcfkdnellpaaC3
import Derived.Test.YtodgcfkdnellpaaC4
set_option linter.unusedSimpArgs false
set_option linter.unusedVariables false
namespace Go.Proofs.Ytodgcfkdnellpaa
open Go.RowKit Go.Proofs.YtodgcfkdnellpaaW.PrintWords
open T (S33 S55 k33 k55)
theorem below_drawn (w : World) (n : Nat) : Below w.heap.size w (w.drewN n) := pw_below_drewN (Below.refl w.heap.size w) n
theorem IsW.frame {S : Nat → Prop} {w w1 : World} {F : Nat → Prop} {g : Nat} {now : Int} {L : List Du} (h : IsW w F g now L) (hf : Fr S w w1) (hn : ∀ k, F k → ¬ S k) : IsW w1 F g now L := by
  obtain ⟨bm, R, C, hr, hm, hi⟩ := h
  exact ⟨bm, R, C, hr.frame hf hn, hm.frame hf (hn bm hr.fm), hi⟩
theorem IsW.below {w w1 : World} {F : Nat → Prop} {g : Nat} {now : Int} {L : List Du} (h : IsW w F g now L) (hb : Below w.heap.size w w1) : IsW w1 F g now L := h.frame (Fr.of_below hb SNo) (fun _ _ h => h)
theorem IsW.lt {w : World} {F : Nat → Prop} {g : Nat} {now : Int} {L : List Du} (h : IsW w F g now L) : ∀ k, F k → k < w.heap.size := by
  obtain ⟨bm, R, C, hr, hm, hi⟩ := h
  exact hr.lt
/-- what a call has made of its own: the elder blocks are as they were -/
structure Own (w w1 : World) (F : Nat → Prop) : Prop where
  below : Below w.heap.size w w1
  new : ∀ k, F k → w.heap.size ≤ k
theorem Own.turn {w w1 w2 : World} {F F1 : Nat → Prop} (h : Own w w1 F) (t : TurnW w1 w2 F F1) : Own w w2 F1 :=
  ⟨h.below.trans (t.fr.below (B := w.heap.size) (fun k hk hF => by have := h.new k hF; omega) h.below.size), fun k hk => (t.new k hk).elim (h.new k) (fun h1 => Nat.le_trans h.below.size h1)⟩
theorem Own.step {w w1 w2 : World} {F : Nat → Prop} (h : Own w w1 F) (hb : Below w1.heap.size w1 w2) : Own w w2 F := ⟨h.below.trans (hb.mono h.below.size), h.new⟩
theorem c55_lit {w : World} {b : Nat} {l : List Du} {fr : Nat × Nat} (hb : w.heap[b]? = some (.cells (cellsL l).toArray 55 fr)) (hl : l.length ≤ 65536) : k55.C w (some ⟨b, 0, none⟩) l.length (l.map asRef) := by
  refine ⟨by simp, by omega, fun _ => ⟨_, rfl, fun j p hj => ?_⟩⟩
  rw [List.getElem?_map] at hj
  obtain ⟨d, hd, rfl⟩ := Option.map_eq_some_iff.1 hj
  obtain ⟨hlt, rfl⟩ := List.getElem?_eq_some_iff.1 hd
  obtain ⟨c0, c1⟩ := cellsL_at l j hlt
  refine ⟨_, rfl, T.k55_mk w _, fun i u hu => ?_⟩
  match i, hu with
  | 0, hu => obtain rfl : _ = u := by simpa using hu
             show w.cell? ((⟨b, 0, none⟩ : Addr).add (j * 2 + 0)) = _
             rw [add_plain, cell_of_row w b _ _ 55 fr hb, List.getElem?_toArray]; exact c0
  | 1, hu => obtain rfl : _ = u := by simpa using hu
             show w.cell? ((⟨b, 0, none⟩ : Addr).add (j * 2 + 1)) = _
             rw [add_plain, cell_of_row w b _ _ 55 fr hb, List.getElem?_toArray]; exact c1
  | i + 2, hu => simp at hu
set_option maxHeartbeats 4000000 in
set_option maxRecDepth 100000 in
theorem known_any (w : World) : Calls Try.prog 14 #[] w fun e w' => e = .returned (.bool true) ∧ Below w.heap.size w w' := by
  go_enter Try.func14, Try.ntmps14
  go_wp2_with fail
  refine (new_ok 0 w (by decide) (by decide)).mono ?_
  rintro e w1 ⟨g, F1, rfl, hq1, hF1, hb1⟩
  have HO1 : Aside0 (Own w w1 F1) := Aside0.mk ⟨hb1, hF1⟩
  have hcon := set_any w1 F1 g 0 [] 7 5 (by decide) hq1
  rw [show setRes 0 [] 7 5 = 0 from by decide, show setL 0 [] 7 5 = [⟨7, 5⟩] from by decide] at hcon
  have HC1 := Aside0.mk hcon; clear hcon hq1 hF1 hb1
  go_wp2_with fail
  refine HC1.out.mono ?_
  rintro e w2 ⟨rfl, F2, hq2, ht2⟩
  have HO2 := Aside0.mk (HO1.out.turn ht2)
  have hcon := set_any w2 F2 g 0 [⟨7, 5⟩] 3 5 (by decide) hq2
  rw [show setRes 0 [⟨7, 5⟩] 3 5 = 0 from by decide, show setL 0 [⟨7, 5⟩] 3 5 = [⟨3, 5⟩, ⟨7, 5⟩] from by decide] at hcon
  have HC2 := Aside0.mk hcon; clear hcon hq2 ht2
  go_wp2_with fail
  refine HC2.out.mono ?_
  rintro e w3 ⟨rfl, F3, hq3, ht3⟩
  have HO3 := Aside0.mk (HO2.out.turn ht3)
  have hcon := set_any w3 F3 g 0 [⟨3, 5⟩, ⟨7, 5⟩] 9 2 (by decide) hq3
  rw [show setRes 0 [⟨3, 5⟩, ⟨7, 5⟩] 9 2 = 0 from by decide, show setL 0 [⟨3, 5⟩, ⟨7, 5⟩] 9 2 = [⟨9, 2⟩, ⟨3, 5⟩, ⟨7, 5⟩] from by decide] at hcon
  have HC3 := Aside0.mk hcon; clear hcon hq3 ht3
  go_wp2_with fail
  refine HC3.out.mono ?_
  rintro e w4 ⟨rfl, F4, hq4, ht4⟩
  have HO4 := Aside0.mk (HO3.out.turn ht4)
  have hcon := adv_ok w4 F4 g 0 [⟨9, 2⟩, ⟨3, 5⟩, ⟨7, 5⟩] 5 hq4 (by decide) (by decide)
  have HC4 := Aside0.mk hcon; clear hcon hq4 ht4
  go_wp2_with fail
  refine HC4.out.mono ?_
  rintro e w5 ⟨v, F5, rfl, ho5, hn5, hq5, ht5⟩
  rw [show List.filter (upTo 5) [⟨9, 2⟩, ⟨3, 5⟩, ⟨7, 5⟩] = [⟨9, 2⟩, ⟨3, 5⟩, ⟨7, 5⟩] from by decide] at ho5
  rw [show List.filter (fun d => !upTo 5 d) [⟨9, 2⟩, ⟨3, 5⟩, ⟨7, 5⟩] = [] from by decide] at hq5
  have HO5 := Aside0.mk (HO4.out.turn ht5)
  obtain ⟨A5, c5, rfl, _, _⟩ := ho5.len
  have HC5 := Aside0.mk (And.intro hq5 (taken_any w5 A5 _ c5 _ ho5 (by decide))); clear ho5 hn5 hq5 ht5
  go_wp2_with fail
  refine HC5.out.2.mono ?_
  rintro e w6 ⟨A6, c6, rfl, hc6, hx6, hb6⟩
  have HX6 := Aside0.mk (And.intro hx6 (And.intro hb6 hc6)); clear hx6 hb6 hc6
  go_wp2_with fail
  obtain ⟨lit, hl⟩ : ∃ l : List Du, l = [⟨9, 2⟩, ⟨3, 5⟩, ⟨7, 5⟩] := ⟨_, rfl⟩
  have hb7 := below_alloc (Below.refl w6.heap.size w6) (.cells (cellsL lit).toArray 55)
  have hsame := same_any (w6.alloc (.cells (cellsL lit).toArray 55)) A6 c6 lit (some ⟨w6.heap.size, 0, none⟩) 3 lit (by rw [hl]; exact HX6.out.1 SNo _ (Fr.of_below (by rw [← hl]; exact hb7) _) (fun _ _ _ h => h)) (by rw [hl]; exact HX6.out.2.2) (c55_lit (heap_alloc_new w6 _) (by rw [hl]; decide)) (by rw [hl]; decide) (by rw [hl]; decide)
  have hq7 := (HC5.out.1.below HX6.out.2.1).below hb7
  have ho7 := (HO5.out.step HX6.out.2.1).step hb7
  rw [decide_eq_true rfl] at hsame
  subst hl
  refine hsame.mono ?_
  rintro e w8 ⟨rfl, nd, rfl⟩
  have hb8 := below_drawn (w6.alloc (.cells (cellsL [⟨9, 2⟩, ⟨3, 5⟩, ⟨7, 5⟩]).toArray 55)) nd
  have HQ8 := Aside0.mk (And.intro (hq7.below hb8) (ho7.step hb8)); clear hsame hb7 hb8 hq7 ho7
  generalize (w6.alloc (.cells (cellsL [⟨9, 2⟩, ⟨3, 5⟩, ⟨7, 5⟩]).toArray 55)).drewN nd = w8 at *
  go_wp2_with fail
  refine (len_any w8 F5 g 5 [] HQ8.out.1).mono ?_
  rintro e w' ⟨rfl, rfl⟩
  go_wp2_with fail
  refine (now_any w8 F5 g 5 [] HQ8.out.1).mono ?_
  rintro e w' ⟨rfl, rfl⟩
  go_wp2_with fail
  go_ret
  exact ⟨rfl, HQ8.out.2.below⟩
end Go.Proofs.Ytodgcfkdnellpaa
