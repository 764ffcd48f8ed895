/- Store: what must come of fixed calls. -/
import Derived.Test.YtinfafnpbalihaaSG
set_option linter.unusedSimpArgs false
set_option linter.unusedVariables false
namespace Go.Proofs.Ytinfafnpbalihaa
open Go.RowKit Go.Maps Go.WideMaps Go.Proofs.YtinfafnpbalihaaW.PrintWords
def U0 : Int → Int → Option Int := fun _ _ => none
def KX : Pn := ⟨tupK 2, 3, 1, 6, 1, 5⟩
def KY : Pn := ⟨tupK 2, 3, 1, 6, 1, 20⟩
def U1 : Int → Int → Option Int := putU U0 3 1 9
def U2 : Int → Int → Option Int := putU U1 3 1 24
theorem kb1 : begRes [] 4 (tupK 2) 2 5 9 3 1 true = (KX, 0, some KX) := by kernel_rfl
theorem kb2 : (if (begRes [] 4 (tupK 2) 2 5 9 3 1 true).2.2.isSome then optM (liveM [] 5) (begRes [] 4 (tupK 2) 2 5 9 3 1 true).2.2 else []) = [KX] := by kernel_rfl
theorem kb3 : optU U0 9 (begRes [] 4 (tupK 2) 2 5 9 3 1 true).2.2 = U1 := by rw [kb1]; rfl
theorem kp1 : pktRes [KX] (tupK 2) 16 20 24 true = (KY, 0, some KY) := by kernel_rfl
theorem kp2 : optM [KX] (pktRes [KX] (tupK 2) 16 20 24 true).2.2 = [KY] := by kernel_rfl
theorem kp3 : optU U1 24 (pktRes [KX] (tupK 2) 16 20 24 true).2.2 = U2 := by rw [kp1]; rfl
theorem kq1 : busyS [KY] U2 3 1 80 = true := by kernel_rfl
theorem kq2 : busyS [KY] U2 3 1 85 = false := by kernel_rfl
theorem kq3 : (U2 3 1).getD 0 = 24 := by kernel_rfl
theorem kq4 : lenS [KY] 20 = 1 := by kernel_rfl
theorem w2 : wf64 2 := by decide
theorem known_begin (w : World) (g bm bu : Nat) (h : IsS w g bm bu 4 0 [] U0) : Calls Try.prog 10 #[.pointer (some ⟨g, 0, none⟩), .agg (tupK 2).cells.toArray, .int .i64 2, .int .i64 5, .int .i64 9, .int .i64 3, .int .i64 1] w (fun e w' => e = .returned (.tuple #[KX.val, .int .i64 0]) ∧ IsS w' g bm bu 4 2 [KX] U1 ∧ Fr (Maps2 bm bu) w w') :=
  (begin_any' w g bm bu 4 0 [] U0 (tupK 2) 2 5 9 3 1 h (tupK_ok w2) (by decide) (by decide) (by decide) (by omega)).mono (fun e w' ⟨rt, hrt, he, hs, hf⟩ => by
    have := hrt (tupK_nice (by omega))
    subst this
    rw [kb2, kb3] at hs
    rw [kb1] at he
    exact ⟨he, hs, hf⟩)
theorem known_packet (w : World) (g bm bu : Nat) (h : IsS w g bm bu 4 2 [KX] U1) : Calls Try.prog 11 #[.pointer (some ⟨g, 0, none⟩), .agg (tupK 2).cells.toArray, .int .i64 16, .int .i64 20, .int .i64 24] w (fun e w' => e = .returned (.tuple #[KY.val, .int .i64 0]) ∧ IsS w' g bm bu 4 4 [KY] U2 ∧ Fr (Maps2 bm bu) w w') :=
  (packet_any w g bm bu 4 2 [KX] U1 (tupK 2) 16 20 24 h (fun x hx => by rw [List.mem_singleton.1 hx]; exact ⟨by decide, by decide⟩) (tupK_ok w2) (by decide) (by omega)).mono (fun e w' ⟨rt, hrt, he, hs, hf⟩ => by
    have := hrt (tupK_nice (by omega))
    subst this
    rw [kp2, kp3] at hs
    rw [kp1] at he
    exact ⟨he, hs, hf⟩)
theorem tuple_flat (n : Int) (w : World) (h : 0 ≤ n ∧ n ≤ 65534) : Calls Try.prog 9 #[.int .i64 n] w (fun e w' => e = .returned (.agg (tupK (1 + n)).cells.toArray) ∧ Below w.heap.size w w') := tuple_any n w h
def KnownPost (w : World) (e : Ending) (w' : World) : Prop := e = .returned (.bool true) ∧ Below w.heap.size w w'
theorem maps_below {B bm bu : Nat} {w w' : World} (h : Fr (Maps2 bm bu) w w') (h1 : B ≤ bm) (h2 : B ≤ bu) (hB : B ≤ w.heap.size) : Below B w w' := h.below (fun k hk e => by rcases e with e | e <;> omega) hB
theorem known_box {w W W1 : World} {o : Obj} {g bm bu c : Nat} {most : Int} {M : List Pn} {U : Int → Int → Option Int} {CX : List Value} (h : IsS W g bm bu most c M U ∧ Below w.heap.size w W) (hr : W1.rangeAt W.heap.size 0 CX) (hf : Fr (fun k => k = W.heap.size) (W.alloc o) W1) (hs : W1.heap.size = (W.alloc o).heap.size) :
    IsS W1 g bm bu most c M U ∧ Below w.heap.size w W1 ∧ W1.rangeAt W.heap.size 0 CX ∧ W.heap.size < W1.heap.size := by
  have hb : Below W.heap.size W W1 := (below_alloc (Below.refl _ _) o).trans (hf.below (fun k hk e => by omega) (by rw [size_alloc1]; omega))
  exact ⟨h.1.below hb, h.2.trans (hb.mono h.2.size), hr, by rw [hs, size_alloc1]; omega⟩
theorem known_last {w W W1 : World} {o : Obj} {g bm bu c b : Nat} {most : Int} {M : List Pn} {U : Int → Int → Option Int} {CX CY : List Value} (h : (IsS W g bm bu most c M U ∧ Below w.heap.size w W) ∧ W.rangeAt b 0 CX) (hr : W1.rangeAt W.heap.size 0 CY) (hf : Fr (fun k => k = W.heap.size) (W.alloc o) W1) (hs : W1.heap.size = (W.alloc o).heap.size) (hb : b < W.heap.size) (cX : CX[37]? = some (.int .i64 3)) (cY : CY[37]? = some (.int .i64 3)) :
    IsS W1 g bm bu most c M U ∧ Below w.heap.size w W1 ∧ W1.cell? ⟨b, 37, none⟩ = some (.int .i64 3) ∧ W1.cell? ⟨W.heap.size, 37, none⟩ = some (.int .i64 3) := by
  have hbl : Below W.heap.size W W1 := (below_alloc (Below.refl _ _) o).trans (hf.below (fun k hk e => by omega) (by rw [size_alloc1]; omega))
  have h1 := range_below h.2 hbl hb 37 _ cX
  have h2 := hr 37 _ cY
  rw [Nat.zero_add] at h1 h2
  exact ⟨h.1.1.below hbl, h.1.2.trans (hbl.mono h.1.2.size), h1, h2⟩
set_option maxHeartbeats 2000000 in
set_option maxRecDepth 100000 in
theorem known_any (w : World) : Calls Try.prog 13 #[] w (KnownPost w) := by
  have HN := Aside0.mk (new_any w 4 (by omega) (by omega))
  have HT := Aside0.mk (fun W => tuple_flat 1 W (by omega))
  have HBG := Aside0.mk known_begin
  have HPK := Aside0.mk known_packet
  have HO := Aside0.mk (And.intro (Pn.len (x := KX) (tupK_ok w2)) (Pn.len (x := KY) (tupK_ok w2)))
  have onX : ∀ v ∈ KX.cells, v.oneCell' = true := Pn.one
  have onY : ∀ v ∈ KY.cells, v.oneCell' = true := Pn.one
  have cX : KX.cells[37]? = some (.int .i64 3) := by rw [show 37 = 37 + 0 by rfl, Pn.at_end (tupK_ok w2)]; rfl
  have cY : KY.cells[37]? = some (.int .i64 3) := by rw [show 37 = 37 + 0 by rfl, Pn.at_end (tupK_ok w2)]; rfl
  have lX := HO.out.1
  have lY := HO.out.2
  clear HO
  simp only [Pn.val] at HBG HPK
  simp only [show (1 : Int) + 1 = 2 by rfl] at HT
  generalize KX.cells = CX at *
  generalize KY.cells = CY at *
  generalize (tupK 2).cells = TC at *
  have HCX := Aside0.mk cX
  have HCY := Aside0.mk cY
  clear cX cY
  go_enter Try.func13, Try.ntmps13
  go_wp2_with fail
  refine HN.out.mono ?_
  rintro e w1 ⟨rfl, hs1, hb1⟩
  have HS1 := Aside0.mk (And.intro hs1 hb1)
  have z1 := hs1.lt
  clear hs1 hb1 HN
  go_wp2_with fail
  refine (HT.out w1).mono ?_
  rintro e w2 ⟨rfl, hb2⟩
  have HS2 := Aside0.mk (And.intro (HS1.out.1.below hb2) (HS1.out.2.trans (hb2.mono HS1.out.2.size)))
  have z2 : w.heap.size + 2 < w2.heap.size := Nat.lt_of_lt_of_le z1 hb2.size
  clear hb2 HS1 z1
  go_wp2_with fail
  refine (HBG.out w2 _ _ _ HS2.out.1).mono ?_
  rintro e w3 ⟨rfl, hs3, hf3⟩
  have HS3 := Aside0.mk (And.intro hs3 (HS2.out.2.trans (maps_below hf3 (Nat.le_refl _) (by omega) (by omega))))
  have z3 : w.heap.size + 2 < w3.heap.size := Nat.lt_of_lt_of_le z2 hf3.size
  clear hs3 hf3 HS2 z2 HBG
  go_wp2_with (first
    | (refine wpList_store_fr (by rfl) 38 _ _ rfl w3.heap.size 0 CX rfl rfl (by rw [size_alloc1]; omega) (by rw [lX]; exact new_there (Nat.le_refl _)) (by rw [lX]; exact size38) onX ?_; intro w4 hr4 hf4 hs4; have HS4 := Aside0.mk (known_box HS3.out hr4 hf4 hs4); have z4 : w3.heap.size < w4.heap.size := HS4.out.2.2.2; clear hr4 hf4 hs4))
  refine (HT.out w4).mono ?_
  rintro e w5 ⟨rfl, hb5⟩
  have HS5 := Aside0.mk (And.intro (HS4.out.1.below hb5) (And.intro (HS4.out.2.1.trans (hb5.mono HS4.out.2.1.size)) (range_below HS4.out.2.2.1 hb5 z4)))
  have z5 : w3.heap.size < w5.heap.size := Nat.lt_of_lt_of_le z4 hb5.size
  clear hb5 HS4 z4 HT
  go_wp2_with fail
  refine (HPK.out w5 _ _ _ HS5.out.1).mono ?_
  rintro e w6 ⟨rfl, hs6, hf6⟩
  have HS6 := Aside0.mk (And.intro (And.intro hs6 (HS5.out.2.1.trans (maps_below hf6 (Nat.le_refl _) (by omega) (by omega)))) (range_fr HS5.out.2.2 hf6 (by rintro (e | e) <;> omega) z5))
  have z6 : w3.heap.size < w6.heap.size := Nat.lt_of_lt_of_le z5 hf6.size
  clear hs6 hf6 HS5 z5 HPK
  go_wp2_with (first
    | (refine wpList_store_fr (by rfl) 38 _ _ rfl w6.heap.size 0 CY rfl rfl (by rw [size_alloc1]; omega) (by rw [lY]; exact new_there (Nat.le_refl _)) (by rw [lY]; exact size38) onY ?_; intro w7 hr7 hf7 hs7; (obtain ⟨HS7, HB7, cx, cy⟩ := known_last HS6.out hr7 hf7 hs7 z6 HCX.out HCY.out); have H7 := Aside0.mk (And.intro HS7 HB7); have q1 := busy_any w7 _ _ _ 4 4 [KY] U2 3 1 80 HS7 (by omega) (by decide) (by decide); rw [kq1] at q1; have HS7 := Aside0.mk HS7; clear hr7 hf7 hs7 HB7))
  refine q1.mono ?_
  rintro e w8 ⟨rfl, hb8⟩
  have H8 := Aside0.mk (And.intro (H7.out.1.below hb8) (H7.out.2.trans (hb8.mono H7.out.2.size)))
  have q2 := busy_any w8 _ _ _ 4 4 [KY] U2 3 1 85 H8.out.1 (by omega) (by decide) (by decide)
  rw [kq2] at q2
  clear hb8 q1 cx cy HS7
  go_wp2_with fail
  refine q2.mono ?_
  rintro e w9 ⟨rfl, hb9⟩
  have H9 := Aside0.mk (And.intro (H8.out.1.below hb9) (H8.out.2.trans (hb9.mono H8.out.2.size)))
  have q3 := until_any w9 _ _ _ 4 4 [KY] U2 3 1 H9.out.1 (by decide) (by decide)
  rw [kq3] at q3
  clear hb9 q2 H7
  go_wp2_with fail
  refine q3.mono ?_
  rintro e w10 ⟨rfl, rfl⟩
  have q4 := len_any w9 _ _ _ 4 4 [KY] U2 20 H9.out.1 (by omega)
  rw [kq4] at q4
  clear q3
  go_wp2_with fail
  refine q4.mono ?_
  rintro e w11 ⟨rfl, hb11⟩
  have H11 := Aside0.mk (H9.out.2.trans (hb11.mono H9.out.2.size))
  clear hb11 q4
  go_wp2_with fail
  go_ret
  exact ⟨rfl, H11.out⟩
end Go.Proofs.Ytinfafnpbalihaa
