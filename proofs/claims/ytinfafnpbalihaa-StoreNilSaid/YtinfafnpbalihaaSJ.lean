/- Store: StoreFull. -/
import Derived.Test.YtinfafnpbalihaaSI
set_option linter.unusedSimpArgs false
set_option linter.unusedVariables false
namespace Go.Proofs.Ytinfafnpbalihaa
open Go.RowKit Go.Maps Go.WideMaps Go.Proofs.YtinfafnpbalihaaW.PrintWords
def StO (w : World) (most : Int) (c : Nat) (M : List Pn) (W : World) : Prop := (∃ U, IsS W (w.heap.size + 2) w.heap.size (w.heap.size + 1) most c M U) ∧ Below w.heap.size w W
section
variable {w W W1 : World} {most : Int} {c c' : Nat} {M M' : List Pn}
theorem StO.below (h : StO w most c M W) (hb : Below W.heap.size W W1) : StO w most c M W1 := by
  obtain ⟨⟨U, hs⟩, hl⟩ := h
  exact ⟨⟨U, hs.below hb⟩, hl.trans (hb.mono hl.size)⟩
theorem StO.turn {U : Int → Int → Option Int} (h : StO w most c M W) (hs : IsS W1 (w.heap.size + 2) w.heap.size (w.heap.size + 1) most c' M' U) (hf : Fr (Maps2 w.heap.size (w.heap.size + 1)) W W1) : StO w most c' M' W1 :=
  ⟨⟨U, hs⟩, h.2.trans (maps_below hf (Nat.le_refl _) (by omega) h.2.size)⟩
theorem st_box {o : Obj} {CX : List Value} (h : StO w most c M W) (hr : W1.rangeAt W.heap.size 0 CX) (hf : Fr (fun k => k = W.heap.size) (W.alloc o) W1) (hs : W1.heap.size = (W.alloc o).heap.size) : StO w most c M W1 :=
  h.below ((below_alloc (Below.refl _ _) o).trans (hf.below (fun k hk e => by omega) (by rw [size_alloc1]; omega)))
theorem StO.use (h : StO w most c M W) {R : (Int → Int → Option Int) → Prop} (k : ∀ U, IsS W (w.heap.size + 2) w.heap.size (w.heap.size + 1) most c M U → R U) : ∃ U, IsS W (w.heap.size + 2) w.heap.size (w.heap.size + 1) most c M U ∧ R U := by
  obtain ⟨⟨U, hs⟩, _⟩ := h
  exact ⟨U, hs, k U hs⟩
end
def FullRel (w : World) (m : Nat) (v7 : Value) (wr : World) : Prop := ∃ i : Nat, v7 = .int .i64 i ∧ i ≤ m ∧ StO w m (2 * i) (Mf i) wr
def LawPost (w : World) (e : Ending) (w' : World) : Prop := e = .returned (.bool true) ∧ Below w.heap.size w w'
set_option maxHeartbeats 4000000 in
set_option maxRecDepth 100000 in
theorem full_law (a b : Int) (w : World) : Calls Try.prog 5 #[.int .i64 a, .int .i64 b] w (LawPost w) := by
  go_enter Try.func5, Try.ntmps5
  go_wp2_with fail
  refine (count8 a 40 w (by omega) (by omega)).mono ?_
  rintro e w1 ⟨k, hk0, hk1, rfl, rfl⟩
  obtain ⟨m, hm⟩ : ∃ m : Nat, 1 + k = (m : Int) := ⟨(1 + k).toNat, by omega⟩
  have hs : IntKind.i64.wrap (1 + k) = (m : Int) := by rw [← hm]; exact IntWalk.i64_in _ (by omega)
  have hm1 : 1 ≤ m := by omega
  have hm2 : m ≤ 40 := by omega
  clear hk0 hk1 hm
  go_wp2_with fail
  refine (count8 b m w (by omega) (by omega)).mono ?_
  rintro e w1 ⟨k2, hk0, hk1, rfl, rfl⟩
  obtain ⟨r, rfl⟩ : ∃ r : Nat, k2 = (r : Int) := ⟨k2.toNat, by omega⟩
  have hrm : r < m := by omega
  clear hk0 hk1 hs
  go_wp2_with fail
  refine (new_any w m (by omega) (by omega)).mono ?_
  rintro e w1 ⟨rfl, hs1, hb1⟩
  have HS := Aside0.mk (show StO w m 0 (Mf 0) w1 from ⟨⟨_, hs1⟩, hb1⟩)
  clear hs1 hb1
  go_wp2_with fail
  go_loopw [7, 8, 9] (fun v7 _ _ wr => FullRel w m v7 wr) (fun i _ _ _ => m - (intOf i).toNat)
  case atStart => exact ⟨0, rfl, by omega, HS.out⟩
  case round =>
    obtain ⟨i, rfl, him, HS2⟩ := hrel
    have HS := Aside0.mk HS2
    clear HS2
    by_cases hlt : i < m
    · go_wp2_with fail
      refine (tuple_flat i wr (by omega)).mono ?_
      rintro e w2 ⟨rfl, hb2⟩
      have HS := Aside0.mk (HS.out.below hb2)
      clear hb2
      go_wp2_with fail
      obtain ⟨U, hu, hcl⟩ := HS.out.use (fun U h => st_begin (b := 2) (t := 1) (u := 1) h (j := 1 + (i : Int)) (by omega) (by decide) (by decide) (by decide) (by omega) (full_b1 hlt).1 (tupK_ok (wf64_of (by omega))) (full_b1 hlt).2)
      refine hcl.mono ?_
      rintro e w3 ⟨C, U3, ⟨lC, oC⟩, rfl, hs3, hf3⟩
      have HS := Aside0.mk (HS.out.turn hs3 hf3)
      clear hs3 hf3 hcl hu
      have hwi : IntKind.i64.wrap ((i : Int) + 1) = ((i : Int) + 1) := IntWalk.i64_in _ (by omega)
      go_wp2_with (first
        | (refine wpList_store_fr (by rfl) 38 _ _ rfl w3.heap.size 0 C rfl rfl (by rw [size_alloc1]; omega) (by rw [lC]; exact new_there (Nat.le_refl _)) (by rw [lC]; exact size38) oC ?_; intro w4 hr hf hs; have HS := Aside0.mk (st_box HS.out hr hf hs); clear hr hf hs lC oC))
      exact ⟨⟨i + 1, by simp, by omega, HS.out⟩, by simp [intOf]; omega⟩
    · have him : i = m := by omega
      subst him
      go_wp2_with fail
      refine (tuple_flat i _ (by omega)).mono ?_
      rintro e w1a ⟨rfl, hb2⟩
      have HS := Aside0.mk (HS.out.below hb2)
      clear hb2
      go_wp2_with fail
      obtain ⟨U, hu, hcl⟩ := HS.out.use (fun U h => st_begin (b := 2) (t := 1) (u := 2) h (j := 1 + (i : Int)) (by omega) (by decide) (by decide) (by decide) (by omega) (full_b2 i) tz_ok rfl)
      refine hcl.mono ?_
      rintro e w1b ⟨C, U3, ⟨lC, oC⟩, rfl, hs3, hf3⟩
      have HS := Aside0.mk (HS.out.turn hs3 hf3)
      clear hs3 hf3 hcl hu
      go_wp2_with (first
        | (refine wpList_store_fr (by rfl) 38 _ _ rfl w1b.heap.size 0 C rfl rfl (by rw [size_alloc1]; omega) (by rw [lC]; exact new_there (Nat.le_refl _)) (by rw [lC]; exact size38) oC ?_; intro w1c hr hf hs; have HS := Aside0.mk (st_box HS.out hr hf hs); clear hr hf hs lC oC))
      refine (tuple_flat r _ (by omega)).mono ?_
      rintro e w2a ⟨rfl, hb2⟩
      have HS := Aside0.mk (HS.out.below hb2)
      clear hb2
      go_wp2_with fail
      obtain ⟨U, hu, hcl⟩ := HS.out.use (fun U h => st_packet (u := 3) h (Mf_wf i) (j := 1 + (r : Int)) (by omega) (by decide) (by omega) (full_p hrm) (tupK_ok (wf64_of (by omega))) rfl)
      refine hcl.mono ?_
      rintro e w2b ⟨C, U3, ⟨lC, oC⟩, rfl, hs3, hf3⟩
      have HS := Aside0.mk (HS.out.turn hs3 hf3)
      clear hs3 hf3 hcl hu
      go_wp2_with (first
        | (refine wpList_store_fr (by rfl) 38 _ _ rfl w2b.heap.size 0 C rfl rfl (by rw [size_alloc1]; omega) (by rw [lC]; exact new_there (Nat.le_refl _)) (by rw [lC]; exact size38) oC ?_; intro w2c hr hf hs; have HS := Aside0.mk (st_box HS.out hr hf hs); clear hr hf hs lC oC))
      refine (tuple_flat i _ (by omega)).mono ?_
      rintro e w3a ⟨rfl, hb2⟩
      have HS := Aside0.mk (HS.out.below hb2)
      clear hb2
      go_wp2_with fail
      obtain ⟨U, hu, hcl⟩ := HS.out.use (fun U h => st_begin (b := 2) (t := 1) (u := 4) h (j := 1 + (i : Int)) (by omega) (by decide) (by decide) (by decide) (by omega) (full_b3 hrm).1 (tupK_ok (wf64_of (by omega))) (full_b3 hrm).2)
      refine hcl.mono ?_
      rintro e w3b ⟨C, U3, ⟨lC, oC⟩, rfl, hs3, hf3⟩
      have HS := Aside0.mk (HS.out.turn hs3 hf3)
      clear hs3 hf3 hcl hu
      go_wp2_with (first
        | (refine wpList_store_fr (by rfl) 38 _ _ rfl w3b.heap.size 0 C rfl rfl (by rw [size_alloc1]; omega) (by rw [lC]; exact new_there (Nat.le_refl _)) (by rw [lC]; exact size38) oC ?_; intro w3c hr hf hs; have HS := Aside0.mk (st_box HS.out hr hf hs); clear hr hf hs lC oC))
      obtain ⟨U, hu, hcl⟩ := HS.out.use (fun U h => len_any _ _ _ _ _ _ _ U 4 h (by omega))
      rw [last_len hrm] at hcl
      refine hcl.mono ?_
      rintro e w4 ⟨rfl, hb4⟩
      have HS := Aside0.mk (HS.out.below hb4)
      clear hb4 hcl hu
      go_wp2_with fail
      obtain ⟨U, hu, hcl⟩ := HS.out.use (fun U h => cnt_any _ _ _ _ _ _ _ U 2 1 4 h (by omega))
      rw [last_cnt hrm] at hcl
      refine hcl.mono ?_
      rintro e w5 ⟨rfl, hb5⟩
      have HS := Aside0.mk (HS.out.below hb5)
      clear hb5 hcl hu
      go_wp2_with fail
      refine (known_any _).mono ?_
      rintro e w6 ⟨rfl, hb6⟩
      have HS := Aside0.mk (HS.out.below hb6)
      clear hb6
      go_wp2_with fail
      go_ret
      exact ⟨rfl, HS.out.2⟩
end Go.Proofs.Ytinfafnpbalihaa
