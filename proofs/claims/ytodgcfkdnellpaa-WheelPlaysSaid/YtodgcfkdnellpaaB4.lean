/- Wheel: what is due late goes into the sorted row. -/
import Derived.Test.YtodgcfkdnellpaaB3
set_option linter.unusedSimpArgs false
set_option linter.unusedVariables false
namespace Go.Proofs.Ytodgcfkdnellpaa
open Go.RowKit Go.Proofs.YtodgcfkdnellpaaW.PrintWords
set_option maxHeartbeats 4000000 in
set_option maxRecDepth 100000 in
theorem search_nil (w : World) (t : Du) : Calls Try.prog 75 #[.slice none 0 0, due t, .func (.func 32) #[] #[]] w (BsPost w 0) := by
  have HG := Aside0.mk ((Gr.refl w).alloc (.cells #[.int .i64 t.id, .int .i64 t.at_] 33))
  unfold due
  go_enter Try.func75, Try.ntmps75
  go_wp2_with fail
  refine wp_loop_rounds 1 ?_
  rw [rounds_succ]
  go_wp2_with fail
  generalize w.alloc (.cells #[.int .i64 t.id, .int .i64 t.at_] 33) = w1 at *
  refine Plan2.region 1000 (fun _ => True) [(0, 0), (1, 0), (2, 0), (3, 0), (4, 0), (5, 0), (6, 0), (7, 0), (8, 0), (9, 1), (10, 1), (11, 2), (12, 0), (13, 0), (14, 0), (15, 0)] (by kernel_rfl) (by kernel_rfl) (fun _ _ d _ _ h => by cases d <;> exact h) ?_ ?_
  focus exact trivial
  (refine' Plan2.pure (N := (some 35)) rfl (by rfl) rfl ?_ ?_ ?_; rotate_left 2; (focus (intro w'; go_simp; exact Plan2.isV)); (focus (simp only [Act.put, List.setIfInBounds_toArray, List.set_cons_zero, List.set_cons_succ]; rfl)))
  (refine' Plan2.pure (N := (some 36)) rfl (by rfl) rfl ?_ ?_ ?_; rotate_left 2; (focus (intro w'; go_simp; exact Plan2.isV)); (focus (simp only [Act.put, List.setIfInBounds_toArray, List.set_cons_zero, List.set_cons_succ]; rfl)))
  (refine' Plan2.pure (N := (some 37)) rfl (by rfl) rfl ?_ ?_ ?_; rotate_left 2; (focus (intro w'; go_simp; exact Plan2.isV)); (focus (simp only [Act.put, List.setIfInBounds_toArray, List.set_cons_zero, List.set_cons_succ]; rfl)))
  (refine' Plan2.pure (N := (some 38)) rfl (by rfl) rfl ?_ ?_ ?_; rotate_left 2; (focus (intro w'; go_simp; exact Plan2.isV)); (focus (simp only [Act.put, List.setIfInBounds_toArray, List.set_cons_zero, List.set_cons_succ]; rfl)))
  (refine' Plan2.pure (N := (some 39)) rfl (by rfl) rfl ?_ ?_ ?_; rotate_left 2; (focus (intro w'; go_simp; exact Plan2.isV)); (focus (simp only [Act.put, List.setIfInBounds_toArray, List.set_cons_zero, List.set_cons_succ]; rfl)))
  (first | (refine' Plan2.off (N := (some 40)) rfl (by rfl) rfl ?_ ?_; rotate_left 1; (focus (simp only [Act.put, List.setIfInBounds_toArray, List.set_cons_zero, List.set_cons_succ]; rfl))) | (refine' Plan2.pure (N := (some 40)) rfl (by rfl) rfl ?_ ?_ ?_; rotate_left 2; (focus (intro w'; go_simp; exact Plan2.isV)); (focus (simp only [Act.put, List.setIfInBounds_toArray, List.set_cons_zero, List.set_cons_succ]; rfl))))
  (first | (refine' Plan2.off (N := (some 41)) rfl (by rfl) rfl ?_ ?_; rotate_left 1; (focus (simp only [Act.put, List.setIfInBounds_toArray, List.set_cons_zero, List.set_cons_succ]; rfl))) | (refine' Plan2.pure (N := (some 41)) rfl (by rfl) rfl ?_ ?_ ?_; rotate_left 2; (focus (intro w'; go_simp; exact Plan2.isV)); (focus (simp only [Act.put, List.setIfInBounds_toArray, List.set_cons_zero, List.set_cons_succ]; rfl))))
  (first | (refine' Plan2.off (N := (some 42)) rfl (by rfl) rfl ?_ ?_; rotate_left 1; (focus (simp only [Act.put, List.setIfInBounds_toArray, List.set_cons_zero, List.set_cons_succ]; rfl))) | (refine' Plan2.pure (N := (some 42)) rfl (by rfl) rfl ?_ ?_ ?_; rotate_left 2; (focus (intro w'; go_simp; exact Plan2.isV)); (focus (simp only [Act.put, List.setIfInBounds_toArray, List.set_cons_zero, List.set_cons_succ]; rfl))))
  (first | (refine' Plan2.off (N := (some 43)) rfl (by rfl) rfl ?_ ?_; rotate_left 1; (focus (simp only [Act.put, List.setIfInBounds_toArray, List.set_cons_zero, List.set_cons_succ]; rfl))) | (refine' Plan2.pure (N := (some 43)) rfl (by rfl) rfl ?_ ?_ ?_; rotate_left 2; (focus (intro w'; go_simp; exact Plan2.isV)); (focus (simp only [Act.put, List.setIfInBounds_toArray, List.set_cons_zero, List.set_cons_succ]; rfl))))
  (first | (refine' Plan2.off (N := (some 44)) rfl (by rfl) rfl ?_ ?_; rotate_left 1; (focus (simp only [Act.put, List.setIfInBounds_toArray, List.set_cons_zero, List.set_cons_succ]; rfl))) | (refine' Plan2.load (N := (some 44)) rfl (by rfl) rfl ?_ ?_ ?_; rotate_left 2; (focus (intro w' hS; (try dsimp only at hS); go_simp; exact Plan2.isV)); (focus (simp only [Act.put, List.setIfInBounds_toArray, List.set_cons_zero, List.set_cons_succ]; rfl))))
  (first | (refine' Plan2.off (N := (some 45)) rfl (by rfl) rfl ?_ ?_; rotate_left 1; (focus (simp only [Act.put, List.setIfInBounds_toArray, List.set_cons_zero, List.set_cons_succ]; rfl))) | (refine' Plan2.load (N := (some 45)) rfl (by rfl) rfl ?_ ?_ ?_; rotate_left 2; (focus (intro w' hS; (try dsimp only at hS); go_simp; exact Plan2.isV)); (focus (simp only [Act.put, List.setIfInBounds_toArray, List.set_cons_zero, List.set_cons_succ]; rfl))))
  (first | (refine' Plan2.off (N := (some 46)) rfl (by rfl) rfl ?_ ?_; rotate_left 1; (focus (simp only [Act.put, List.setIfInBounds_toArray, List.set_cons_zero, List.set_cons_succ]; rfl))) | (refine' Plan2.acts (past' := false) rfl (by rfl) rfl (fun K hK => ?_); go_simp; (refine hK.out _ _ (fun hp => ?_) (fun hS => ?_)); (focus (clear hp; exact trivial))))
  (first | (refine' Plan2.off (N := (some 47)) rfl (by rfl) rfl ?_ ?_; rotate_left 1; (focus (simp only [Act.put, List.setIfInBounds_toArray, List.set_cons_zero, List.set_cons_succ]; rfl))) | (refine' Plan2.pure (N := (some 47)) rfl (by rfl) rfl ?_ ?_ ?_; rotate_left 2; (focus (intro w'; go_simp; exact Plan2.isV)); (focus (simp only [Act.put, List.setIfInBounds_toArray, List.set_cons_zero, List.set_cons_succ]; rfl))))
  (refine' Plan2.pure (N := (some 48)) rfl (by rfl) rfl ?_ ?_ ?_; rotate_left 2; (focus (intro w'; go_simp; exact Plan2.isV)); (focus (simp only [Act.put, List.setIfInBounds_toArray, List.set_cons_zero, List.set_cons_succ]; rfl)))
  (refine' Plan2.pure (N := (some 6)) rfl (by rfl) rfl ?_ ?_ ?_; rotate_left 2; (focus (intro w'; go_simp; exact Plan2.isV)); (focus (simp only [Act.put, List.setIfInBounds_toArray, List.set_cons_zero, List.set_cons_succ]; rfl)))
  (refine' Plan2.pure (N := (some 7)) rfl (by rfl) rfl ?_ ?_ ?_; rotate_left 2; (focus (intro w'; go_simp; exact Plan2.isV)); (focus (simp only [Act.put, List.setIfInBounds_toArray, List.set_cons_zero, List.set_cons_succ]; rfl)))
  refine Plan2.done ?_
  go_wp2_with fail
  go_ret2
  exact ⟨_, rfl, HG.out.drew⟩
theorem search_all (w : World) (v : Value) (l : List Du) (t : Du) (h : ORow w v l) (hs : l.Pairwise (fun x y => before x y = true)) (hl : l.length ≤ 4096) :
    Calls Try.prog 75 #[v, due t, .func (.func 32) #[] #[]] w (BsPost w (l.countP (fun x => before x t))) := by
  have hh := h
  rcases h with ⟨rfl, rfl⟩ | ⟨b, off, c, cur, rfl, _⟩
  · exact search_nil w t
  · exact search_any w b off c l t hh hs hl
set_option maxHeartbeats 4000000 in
set_option maxRecDepth 100000 in
theorem late_any (w : World) (F : Nat → Prop) (g bm : Nat) (now : Int) (R : Nat → Value) (C : Nat → List Du) (d : Du) (hr : Raw w F g bm now R C) (hbm : g ≠ bm ∧ ∀ i, i < 65 → (R i).ownBlock ≠ some bm) (hlen : (C 64).length ≤ 4096) (hs : (C 64).Pairwise (fun x y => before x y = true)) (hne : ∀ a ∈ C 64, a.id ≠ d.id) :
    Calls Try.prog 74 #[.pointer (some ⟨g, 66, none⟩), due d] w (PutPost w F g bm now (upd C 64 (insDu d (C 64)))) := by
  have hck := hr.cellR 64 (by omega)
  have hrow := hr.row 64 (by omega)
  have hfz := hr.free 66
  obtain ⟨A, c, hvk, hlc, hcm⟩ := hrow.len
  rw [hvk] at hck hrow
  have hgl := hr.lt g hr.fg
  have hvg : (R 64).ownBlock ≠ some g := hr.row_ne 64 (by omega)
  rw [hvk] at hvg
  obtain ⟨cnt, hcnt⟩ : ∃ n, n = (C 64).countP (fun x => before x d) := ⟨_, rfl⟩
  have hcl : cnt ≤ (C 64).length := by rw [hcnt]; exact List.countP_le_length
  have hins := insDu_take hs hne cnt hcnt
  have HR := Aside0.mk (And.intro hr (And.intro hbm hvk)); clear hr hbm hvk
  have HV := Aside0.mk (And.intro hrow (And.intro hs (And.intro hcnt (And.intro hcl hins)))); clear hrow hs hcnt hins hlc hcm hne
  obtain ⟨xi, hxi⟩ : ∃ x, x = d.id := ⟨_, rfl⟩
  obtain ⟨xa, hxa⟩ : ∃ x, x = d.at_ := ⟨_, rfl⟩
  have HX := Aside0.mk (And.intro hxi hxa)
  have hdue : due d = .agg #[.int .i64 xi, .int .i64 xa] := by unfold due; rw [hxi, hxa]
  have hnw := heap_alloc_new w (.cells #[.int .i64 xi, .int .i64 xa] 33)
  have hfw : Fr SNo w (w.alloc (.cells #[.int .i64 xi, .int .i64 xa] 33)) := (Fr.refl _ _).alloc _
  obtain ⟨n0, hn0⟩ : ∃ n, n = w.heap.size := ⟨_, rfl⟩
  have hck1 : (w.alloc (.cells #[.int .i64 xi, .int .i64 xa] 33)).cell? ⟨g, 66, none⟩ = _ := hfw.cellAt (p := ⟨g, 66, none⟩) hgl (fun h => h) hck
  have hfz1 := hfw.frozen hfz hgl (fun h => h)
  have hrow1 := HV.out.1.frame hfw (fun _ _ h => h)
  have hg1 : g < (w.alloc (.cells #[.int .i64 xi, .int .i64 xa] 33)).heap.size := Nat.lt_of_lt_of_le hgl hfw.size
  have hsearch := search_all (w.alloc (.cells #[.int .i64 xi, .int .i64 xa] 33)).drew _ (C 64) d hrow1 HV.out.2.1 hlen
  rw [← HV.out.2.2.1, hdue] at hsearch
  have hvn : (Value.slice A (C 64).length c).ownBlock ≠ some n0 := fun e => by have := HV.out.1.lt n0 e; omega
  rw [← hn0] at hnw
  have HS := Aside0.mk hsearch
  have HN0 := Aside0.mk (And.intro hvn (And.intro hvg hn0))
  rw [hdue]
  clear hxi hxa hn0 hck hfz hgl hsearch hvn hvg hcl
  have HW1 := Aside0.mk (And.intro hnw (And.intro hfw (And.intro hck1 (And.intro hfz1 (And.intro hrow1 hg1))))); clear hnw hfw hck1 hfz1 hrow1 hg1 hdue
  go_enter Try.func74, Try.ntmps74
  go_wp2_with fail
  rw [← HN0.out.2.2]
  generalize w.alloc (.cells #[.int .i64 xi, .int .i64 xa] 33) = w1 at *
  have hK0 : w1.drew.cell? ⟨n0, 0, none⟩ = some (.int .i64 xi) ∧ w1.drew.cell? ⟨n0, 1, none⟩ = some (.int .i64 xa) ∧ w1.drew.cell? ⟨g, 66, none⟩ = some (.slice A (C 64).length c) := ⟨blk_cell (w := w1) HW1.out.1 0, blk_cell (w := w1) HW1.out.1 1, HW1.out.2.2.1⟩
  refine Plan2.region 5 (fun w' => w'.cell? ⟨n0, 0, none⟩ = some (.int .i64 xi) ∧ w'.cell? ⟨n0, 1, none⟩ = some (.int .i64 xa) ∧ w'.cell? ⟨g, 66, none⟩ = some (.slice A (C 64).length c)) [(0, 0), (1, 0), (2, 0), (3, 1), (4, 1), (5, 2), (6, 0), (7, 0), (8, 0), (9, 0), (10, 0)] (by kernel_rfl) (by kernel_rfl) (fun _ _ d _ _ h => by cases d <;> exact h) ?_ ?_
  focus exact hK0
  (refine' Plan2.pure (N := (some 7)) rfl (by rfl) rfl ?_ ?_ ?_; rotate_left 2; (focus (intro w'; go_simp; exact Plan2.isV)); (focus (simp only [Act.put, List.setIfInBounds_toArray, List.set_cons_zero, List.set_cons_succ]; rfl)))
  (refine' Plan2.pure (N := (some 8)) rfl (by rfl) rfl ?_ ?_ ?_; rotate_left 2; (focus (intro w'; go_simp; exact Plan2.isV)); (focus (simp only [Act.put, List.setIfInBounds_toArray, List.set_cons_zero, List.set_cons_succ]; rfl)))
  (refine' Plan2.pure (N := (some 9)) rfl (by rfl) rfl ?_ ?_ ?_; rotate_left 2; (focus (intro w'; go_simp; exact Plan2.isV)); (focus (simp only [Act.put, List.setIfInBounds_toArray, List.set_cons_zero, List.set_cons_succ]; rfl)))
  (refine' Plan2.load (N := (some 10)) rfl (by rfl) rfl ?_ ?_ ?_; rotate_left 2; (focus (intro w' hS; (try dsimp only at hS); go_simp; exact Plan2.isV)); (focus (simp only [Act.put, List.setIfInBounds_toArray, List.set_cons_zero, List.set_cons_succ]; rfl)))
  (refine' Plan2.load (N := (some 11)) rfl (by rfl) rfl ?_ ?_ ?_; rotate_left 2; (focus (intro w' hS; (try dsimp only at hS); go_simp; exact Plan2.isV)); (focus (simp only [Act.put, List.setIfInBounds_toArray, List.set_cons_zero, List.set_cons_succ]; rfl)))
  (refine' Plan2.acts (past' := true) rfl (by rfl) rfl (fun K hK => ?_); go_simp; (refine (HS.out).mono ?_); rintro e w2 ⟨fb, rfl, hg2⟩; have HG2 := Aside0.mk hg2; clear hg2; (refine hK.out _ _ (fun hp => ?_) (fun hS => ?_)); (focus (cases hp)))
  (refine' Plan2.pure (N := (some 6)) rfl (by rfl) rfl ?_ ?_ ?_; rotate_left 2; (focus (intro w'; go_simp; exact Plan2.isV)); (focus (simp only [Act.put, List.setIfInBounds_toArray, List.set_cons_zero, List.set_cons_succ]; rfl)))
  (refine' Plan2.pure (N := (some 13)) rfl (by rfl) rfl ?_ ?_ ?_; rotate_left 2; (focus (intro w'; go_simp; exact Plan2.isV)); (focus (simp only [Act.put, List.setIfInBounds_toArray, List.set_cons_zero, List.set_cons_succ]; rfl)))
  (refine' Plan2.pure (N := (some 14)) rfl (by rfl) rfl ?_ ?_ ?_; rotate_left 2; (focus (intro w'; go_simp; exact Plan2.isV)); (focus (simp only [Act.put, List.setIfInBounds_toArray, List.set_cons_zero, List.set_cons_succ]; rfl)))
  (refine' Plan2.pure (N := (some 4)) rfl (by rfl) rfl ?_ ?_ ?_; rotate_left 2; (focus (intro w'; go_simp; exact Plan2.isV)); (focus (simp only [Act.put, List.setIfInBounds_toArray, List.set_cons_zero, List.set_cons_succ]; rfl)))
  (refine' Plan2.pure (N := (some 5)) rfl (by rfl) rfl ?_ ?_ ?_; rotate_left 2; (focus (intro w'; go_simp; exact Plan2.isV)); (focus (simp only [Act.put, List.setIfInBounds_toArray, List.set_cons_zero, List.set_cons_succ]; rfl)))
  refine Plan2.done ?_
  have hf2 : Fr SNo w1 w2 := ((Fr.refl SNo w1).drew).trans (HG2.out.fr SNo) (fun k h => .inl h)
  have hl1 := blk_lt HW1.out.1
  have hK1' := put_cells hf2 (fun h => h) (fun h => h) hl1 HW1.out.2.2.2.2.2 hK0
  have hK1 : w2.drew.cell? ⟨n0, 0, none⟩ = some (.int .i64 xi) ∧ w2.drew.cell? ⟨n0, 1, none⟩ = some (.int .i64 xa) ∧ w2.drew.cell? ⟨g, 66, none⟩ = some (.slice A (C 64).length c) := hK1'
  have hl2 : n0 < w2.drew.heap.size := Nat.lt_of_lt_of_le hl1 hf2.size
  have hg2 : g < w2.drew.heap.size := Nat.lt_of_lt_of_le HW1.out.2.2.2.2.2 hf2.size
  have hf3 : Fr SNo w2.drew (w2.drew.alloc (.cells #[.int .i64 xi, .int .i64 xa] 33)) := (Fr.refl _ _).alloc _
  have hnb := heap_alloc_new w2.drew (.cells #[.int .i64 xi, .int .i64 xa] 33)
  rw [HX.out.1, HX.out.2] at hnb
  have hrow3 := (HW1.out.2.2.2.2.1.frame (hf2.drew) (fun _ _ h => h)).frame hf3 (fun _ _ h => h)
  have hins := insert_any _ _ (C 64) cnt d w2.drew.heap.size hrow3 HV.out.2.2.2.1 hlen (by rw [HX.out.1, HX.out.2]; exact hnb) (fun e => by have := (HW1.out.2.2.2.2.1.frame (hf2.drew) (fun _ _ h => h)).lt _ e; omega)
  rw [← HV.out.2.2.2.2] at hins
  have HI := Aside0.mk hins
  have HF3 := Aside0.mk (And.intro hl2 (And.intro hg2 (And.intro hf2 hf3)))
  have hz3 := hf3.frozen (p := ⟨g, 66, none⟩) (show w2.drew.frozen? ⟨g, 66, none⟩ = false from hf2.frozen HW1.out.2.2.2.1 HW1.out.2.2.2.2.2 (fun h => h)) hg2 (fun h => h)
  have HN := Aside0.mk (And.intro HN0.out.1 (And.intro HN0.out.2.1 (And.intro hz3 (And.intro (Nat.lt_of_lt_of_le hl2 hf3.size) (Nat.lt_of_lt_of_le hg2 hf3.size)))))
  clear hf2 hl1 hK1' hl2 hg2 hf3 hnb hrow3 hins hz3
  go_wp2_with fail
  refine Plan2.region 11 (fun w' => w'.cell? ⟨n0, 0, none⟩ = some (.int .i64 xi) ∧ w'.cell? ⟨n0, 1, none⟩ = some (.int .i64 xa) ∧ w'.cell? ⟨g, 66, none⟩ = some (.slice A (C 64).length c)) [(0, 0), (1, 0), (2, 0), (3, 0), (4, 1), (5, 0), (6, 1), (7, 2), (8, 2), (9, 0), (10, 0), (11, 2)] (by kernel_rfl) (by kernel_rfl) (fun _ _ d _ _ h => by cases d <;> exact h) ?_ ?_
  focus (first | exact hK1 | exact hK2 | exact hK3)
  (refine' Plan2.pure (N := (some 15)) rfl (by rfl) rfl ?_ ?_ ?_; rotate_left 2; (focus (intro w'; go_simp; exact Plan2.isV)); (focus (simp only [Act.put, List.setIfInBounds_toArray, List.set_cons_zero, List.set_cons_succ]; rfl)))
  (refine' Plan2.pure (N := (some 16)) rfl (by rfl) rfl ?_ ?_ ?_; rotate_left 2; (focus (intro w'; go_simp; exact Plan2.isV)); (focus (simp only [Act.put, List.setIfInBounds_toArray, List.set_cons_zero, List.set_cons_succ]; rfl)))
  (refine' Plan2.pure (N := (some 17)) rfl (by rfl) rfl ?_ ?_ ?_; rotate_left 2; (focus (intro w'; go_simp; exact Plan2.isV)); (focus (simp only [Act.put, List.setIfInBounds_toArray, List.set_cons_zero, List.set_cons_succ]; rfl)))
  (refine' Plan2.pure (N := (some 18)) rfl (by rfl) rfl ?_ ?_ ?_; rotate_left 2; (focus (intro w'; go_simp; exact Plan2.isV)); (focus (simp only [Act.put, List.setIfInBounds_toArray, List.set_cons_zero, List.set_cons_succ]; rfl)))
  (refine' Plan2.load (N := (some 19)) rfl (by rfl) rfl ?_ ?_ ?_; rotate_left 2; (focus (intro w' hS; (try dsimp only at hS); go_simp; exact Plan2.isV)); (focus (simp only [Act.put, List.setIfInBounds_toArray, List.set_cons_zero, List.set_cons_succ]; rfl)))
  (refine' Plan2.pure (N := (some 20)) rfl (by rfl) rfl ?_ ?_ ?_; rotate_left 2; (focus (intro w'; go_simp; exact Plan2.isV)); (focus (simp only [Act.put, List.setIfInBounds_toArray, List.set_cons_zero, List.set_cons_succ]; rfl)))
  (refine' Plan2.load (N := (some 21)) rfl (by rfl) rfl ?_ ?_ ?_; rotate_left 2; (focus (intro w' hS; (try dsimp only at hS); go_simp; exact Plan2.isV)); (focus (simp only [Act.put, List.setIfInBounds_toArray, List.set_cons_zero, List.set_cons_succ]; rfl)))
  (refine' Plan2.acts (past' := false) rfl (by rfl) rfl (fun K hK => ?_); go_simp; have hK2 := put_cells (HF3.out.2.2.2) (fun h => h) (fun h => h) HF3.out.1 HF3.out.2.1 hK1; (refine hK.out _ _ (fun hp => ?_) (fun hS => ?_)); (focus (clear hp; (first | exact hK1 | exact hK2 | exact hK3))))
  (refine' Plan2.acts (past' := false) rfl (by rfl) rfl (fun K hK => ?_); go_simp; (refine (HI.out).mono ?_); rintro e w4 ⟨v4, rfl, ho4, hf4, hl4⟩; obtain ⟨A4, c4, rfl, _, _⟩ := ho4.len; have hK3 := put_cells hf4 HN.out.1 HN.out.2.1 HN.out.2.2.2.1 HN.out.2.2.2.2 hK2; have z4 := hf4.frozen HN.out.2.2.1 HN.out.2.2.2.2 HN.out.2.1; have H4 := Aside0.mk (And.intro ho4 (And.intro hf4 hl4)); clear ho4 hf4 hl4; (refine hK.out _ _ (fun hp => ?_) (fun hS => ?_)); (focus (clear hp; (first | exact hK1 | exact hK2 | exact hK3))))
  (refine' Plan2.pure (N := (some 24)) rfl (by rfl) rfl ?_ ?_ ?_; rotate_left 2; (focus (intro w'; go_simp; exact Plan2.isV)); (focus (simp only [Act.put, List.setIfInBounds_toArray, List.set_cons_zero, List.set_cons_succ]; rfl)))
  (refine' Plan2.pure (N := (some 25)) rfl (by rfl) rfl ?_ ?_ ?_; rotate_left 2; (focus (intro w'; go_simp; exact Plan2.isV)); (focus (simp only [Act.put, List.setIfInBounds_toArray, List.set_cons_zero, List.set_cons_succ]; rfl)))
  (refine' Plan2.acts (past' := true) rfl (by rfl) rfl (fun K hK => ?_); go_simp; (refine hK.out _ _ (fun hp => ?_) (fun hS => ?_)); (focus (cases hp)))
  refine Plan2.done ?_
  go_end0
  obtain ⟨hr, hbm, hvk⟩ := HR.out
  obtain ⟨ho4, hf4, hl4⟩ := H4.out
  have hf02 : Fr SNo w w2 := HW1.out.2.1.trans HF3.out.2.2.1 (fun k h => .inl h)
  have hf03 : Fr SNo w (w2.drew.alloc (.cells #[.int .i64 xi, .int .i64 xa] 33)) := (hf02.drew).trans HF3.out.2.2.2 (fun k h => .inl h)
  have hfA : Fr (fun j => (Value.slice A (C 64).length c).ownBlock = some j) w w4 := (hf03.mono (fun _ _ h => h.elim)).trans hf4 (fun j h => .inl h)
  refine ⟨rfl, _, _, hr.put 64 (by omega) hfA (fun j _ h => by rw [hvk]; exact h) _ _ ho4 (fun b hb => ?_), ?_, fun j hj => hj.imp id (fun h => h.1)⟩
  · rw [hvk]
    rcases hl4 with e | ⟨b', e, hle⟩
    · exact .inl (by rw [← e]; exact hb)
    · rw [hb] at e; injection e with e; subst e; exact .inr (Nat.le_trans hf03.size hle)
  · exact Fr.setCell (p := ⟨g, 66, none⟩) (hfA.mono (fun j _ h => ⟨hr.fr 64 j (by omega) (by rw [hvk]; exact h), fun e => hbm.2 64 (by omega) (by rw [hvk, ← e]; exact h)⟩)) (.inl ⟨hr.fg, hbm.1⟩) _
end Go.Proofs.Ytodgcfkdnellpaa
