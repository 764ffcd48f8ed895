/- Wheel: slices.BinarySearchFunc at order. -/
import Derived.Test.YtodgcfkdnellpaaA9
set_option linter.unusedSimpArgs false
set_option linter.unusedVariables false
namespace Go.Proofs.Ytodgcfkdnellpaa
open Go.RowKit Go.Proofs.YtodgcfkdnellpaaW.PrintWords
theorem cmpDu_lt (a b : Du) : cmpDu a b < 0 ↔ before a b = true := by
  unfold cmpDu or2 cmpI before
  by_cases h1 : a.at_ < b.at_
  · simp [h1]
  · by_cases h2 : b.at_ < a.at_
    · simp [h1, h2]; omega
    · have : a.at_ = b.at_ := by omega
      by_cases h3 : a.id < b.id
      · simp [h1, h2, h3, this]
      · by_cases h4 : b.id < a.id <;> simp [h1, h2, h3, h4, this]
theorem Gr.trans {a b c : World} (h : Gr a b) (k : Gr b c) : Gr a c := by
  obtain ⟨q, os, rfl⟩ := h
  obtain ⟨r, ps, rfl⟩ := k
  exact ⟨q + r, os ++ ps, by simp [World.drewN, Go.Sort.grow, Array.append_assoc]; omega⟩
theorem Gr.cell {w w1 : World} (h : Gr w w1) {p : Addr} {v : Value} (hp : p.block < w.heap.size) (hc : w.cell? p = some v) : w1.cell? p = some v := (h.fr SNo).cellAt hp (fun h => h) hc
theorem countP_edge (p : Du → Bool) : ∀ (l : List Du) (i : Nat), i ≤ l.length → (∀ t (ht : t < l.length), t < i → p l[t] = true) → (∀ t (ht : t < l.length), i ≤ t → p l[t] = false) → l.countP p = i
  | [], i, hi, _, _ => by simp at hi; simp [hi]
  | a :: r, 0, _, _, h2 => by
    rw [List.countP_eq_zero]
    intro x hx
    obtain ⟨t, ht, rfl⟩ := List.getElem_of_mem hx
    simp [h2 t ht (Nat.zero_le _)]
  | a :: r, i + 1, hi, h1, h2 => by
    have ha : p a = true := h1 0 (by simp) (Nat.succ_pos _)
    rw [List.countP_cons_of_pos ha, countP_edge p r i (by simpa using hi) (fun t ht h => h1 (t + 1) (by simpa using ht) (by omega)) (fun t ht h => h2 (t + 1) (by simpa using ht) (by omega))]
def BsRel (w : World) (t : Du) (l : List Du) (s9 s10 : Value) (wr : World) (kx : Nat) : Prop := ∃ lo hi : Nat, s9 = .int .i64 lo ∧ s10 = .int .i64 hi ∧ lo ≤ hi ∧ hi ≤ l.length ∧ hi - lo ≤ kx ∧ Aside0 (Gr w wr) ∧ Aside0 ((∀ i (h : i < l.length), i < lo → before l[i] t = true) ∧ (∀ i (h : i < l.length), hi ≤ i → before l[i] t = false))
def BsPost (w : World) (n : Nat) (e : Ending) (w' : World) : Prop := ∃ b, e = .returned (.tuple #[.int .i64 n, .bool b]) ∧ Gr w w'
set_option maxHeartbeats 4000000 in
set_option maxRecDepth 100000 in
theorem search_any (w : World) (b off c : Nat) (l : List Du) (t : Du) (h : ORow w (.slice (some ⟨b, off, none⟩) l.length c) l) (hs : l.Pairwise (fun x y => before x y = true)) (hl : l.length ≤ 4096) :
    Calls Try.prog 75 #[.slice (some ⟨b, off, none⟩) l.length c, due t, .func (.func 32) #[] #[]] w (BsPost w (l.countP (fun x => before x t))) := by
  have hbl := h.lt b rfl
  have hcell : ∀ i (hi : i < l.length), w.cell? ⟨b, off + i * 2, none⟩ = some (.int .i64 l[i].id) ∧ w.cell? ⟨b, off + i * 2 + 1, none⟩ = some (.int .i64 l[i].at_) := fun i hi => h.cellsAt i hi
  have hmono : ∀ i j (hi : i < l.length) (hj : j < l.length), i ≤ j → before l[j] t = true → before l[i] t = true := fun i j hi hj hij hb => by
    rcases Nat.lt_or_eq_of_le hij with hlt | rfl
    · exact before_trans (List.pairwise_iff_getElem.1 hs i j hi hj hlt) hb
    · exact hb
  obtain ⟨n0, hn0⟩ : ∃ n, n = w.heap.size := ⟨_, rfl⟩
  obtain ⟨cnt, hcnt⟩ : ∃ n, n = l.countP (fun x => before x t) := ⟨_, rfl⟩
  rw [← hcnt]
  have hnw := heap_alloc_new w (.cells #[.int .i64 t.id, .int .i64 t.at_] 33)
  have hg0 : Gr w (w.alloc (.cells #[.int .i64 t.id, .int .i64 t.at_] 33)) := (Gr.refl w).alloc _
  rw [← hn0] at hnw
  have HL := Aside0.mk (And.intro hbl (And.intro hcell (And.intro hmono hcnt)))
  have HN := Aside0.mk (And.intro hn0 (And.intro hnw hg0))
  clear hbl hcell hmono hcnt hn0 hnw hg0 h hs
  unfold due
  go_enter Try.func75, Try.ntmps75
  go_wp2_with fail
  rw [← HN.out.1]
  generalize w.alloc (.cells #[.int .i64 t.id, .int .i64 t.at_] 33) = w1 at *
  go_loopg [9, 10] l.length (fun kx s9 s10 wr => BsRel w1 t l s9 s10 wr kx)
  case atStart => exact ⟨0, l.length, rfl, rfl, Nat.zero_le _, Nat.le_refl _, by omega, ⟨Gr.refl _⟩, ⟨fun i hi h => by omega, fun i hi h => by omega⟩⟩
  case round =>
    obtain ⟨lo, hi, rfl, rfl, hlh, hin, hgm, HG, HI⟩ := hrel
    by_cases hlt : lo < hi
    · obtain ⟨h, hh⟩ : ∃ h, h = (lo + hi) / 2 := ⟨_, rfl⟩
      have hmid : ((lo : Int) + (hi : Int)) / 2 = (h : Int) := by omega
      have hltz : (lo : Int) < (hi : Int) := by omega
      have hlz : (h : Int) < (l.length : Int) := by omega
      have hhl : h < l.length := by omega
      obtain ⟨y, hy⟩ : ∃ y, y = l[h] := ⟨_, rfl⟩
      have hcy := HL.out.2.1 h hhl
      rw [← hy] at hcy
      have hbw1 : b < w1.heap.size := Nat.lt_of_lt_of_le HL.out.1 (HN.out.2.2.fr SNo).size
      have hK0 : wr.drew.cell? ⟨n0, 0, none⟩ = some (.int .i64 t.id) ∧ wr.drew.cell? ⟨n0, 1, none⟩ = some (.int .i64 t.at_) ∧ wr.drew.cell? ⟨b, off + h * 2, none⟩ = some (.int .i64 y.id) ∧ wr.drew.cell? ⟨b, off + h * 2 + 1, none⟩ = some (.int .i64 y.at_) :=
        ⟨HG.out.drew.cell (p := ⟨n0, 0, none⟩) (blk_lt HN.out.2.1) (blk_cell HN.out.2.1 0), HG.out.drew.cell (p := ⟨n0, 1, none⟩) (blk_lt HN.out.2.1) (blk_cell HN.out.2.1 1), HG.out.drew.cell (p := ⟨b, off + h * 2, none⟩) hbw1 (HN.out.2.2.cell (p := ⟨b, off + h * 2, none⟩) HL.out.1 hcy.1), HG.out.drew.cell (p := ⟨b, off + h * 2 + 1, none⟩) hbw1 (HN.out.2.2.cell (p := ⟨b, off + h * 2 + 1, none⟩) HL.out.1 hcy.2)⟩
      have hcall := order_any y t wr.drew
      unfold due at hcall
      have HC := Aside0.mk hcall
      have HY := Aside0.mk (And.intro hh hy)
      clear hcall hh hy hcy hbw1
      obtain ⟨cr, hcr⟩ : ∃ r, r = cmpDu y t := ⟨_, rfl⟩
      rw [← hcr] at HC
      have HCR := Aside0.mk hcr; clear hcr
      by_cases hneg : cr < 0
      · go_wp2_with fail
        refine Plan2.region 6 (fun w' => w'.cell? ⟨n0, 0, none⟩ = some (.int .i64 t.id) ∧ w'.cell? ⟨n0, 1, none⟩ = some (.int .i64 t.at_) ∧ w'.cell? ⟨b, off + h * 2, none⟩ = some (.int .i64 y.id) ∧ w'.cell? ⟨b, off + h * 2 + 1, none⟩ = some (.int .i64 y.at_)) [(0, 0), (1, 0), (2, 0), (3, 0), (4, 1), (5, 1), (6, 2), (7, 0)] (by kernel_rfl) (by kernel_rfl) (fun _ _ d _ _ h => by cases d <;> exact h) ?_ ?_
        focus (first | exact hK0)
        (refine' Plan2.pure (N := (some 24)) rfl (by rfl) rfl ?_ ?_ ?_; rotate_left 2; (focus (intro w'; go_simp; exact Plan2.isV)); (focus (simp only [Act.put, List.setIfInBounds_toArray, List.set_cons_zero, List.set_cons_succ]; rfl)))
        (refine' Plan2.pure (N := (some 25)) rfl (by rfl) rfl ?_ ?_ ?_; rotate_left 2; (focus (intro w'; go_simp; exact Plan2.isV)); (focus (simp only [Act.put, List.setIfInBounds_toArray, List.set_cons_zero, List.set_cons_succ]; rfl)))
        (refine' Plan2.pure (N := (some 26)) rfl (by rfl) rfl ?_ ?_ ?_; rotate_left 2; (focus (intro w'; go_simp; exact Plan2.isV)); (focus (simp only [Act.put, List.setIfInBounds_toArray, List.set_cons_zero, List.set_cons_succ]; rfl)))
        (refine' Plan2.pure (N := (some 27)) rfl (by rfl) rfl ?_ ?_ ?_; rotate_left 2; (focus (intro w'; go_simp; exact Plan2.isV)); (focus (simp only [Act.put, List.setIfInBounds_toArray, List.set_cons_zero, List.set_cons_succ]; rfl)))
        (refine' Plan2.load (N := (some 28)) rfl (by rfl) rfl ?_ ?_ ?_; rotate_left 2; (focus (intro w' hS; (try dsimp only at hS); go_simp; exact Plan2.isV)); (focus (simp only [Act.put, List.setIfInBounds_toArray, List.set_cons_zero, List.set_cons_succ]; rfl)))
        (refine' Plan2.load (N := (some 29)) rfl (by rfl) rfl ?_ ?_ ?_; rotate_left 2; (focus (intro w' hS; (try dsimp only at hS); go_simp; exact Plan2.isV)); (focus (simp only [Act.put, List.setIfInBounds_toArray, List.set_cons_zero, List.set_cons_succ]; rfl)))
        (refine' Plan2.acts (past' := true) rfl (by rfl) rfl (fun K hK => ?_); go_simp; (refine (HC.out).mono ?_); rintro e w2 ⟨rfl, hg2⟩; have HG2 := Aside0.mk hg2; clear hg2; (refine hK.out _ _ (fun hp => ?_) (fun hS => ?_)); (focus (cases hp)))
        (refine' Plan2.pure (N := (some 31)) rfl (by rfl) rfl ?_ ?_ ?_; rotate_left 2; (focus (intro w'; go_simp; exact Plan2.isV)); (focus (simp only [Act.put, List.setIfInBounds_toArray, List.set_cons_zero, List.set_cons_succ]; rfl)))
        refine Plan2.done ?_
        go_wp2_with fail
        go_roundg (hi - (h + 1))
        case measure => have := HY.out.1; omega
        case rel =>
          have hb : before y t = true := (cmpDu_lt y t).1 (by rw [← HCR.out]; exact hneg)
          have hyo := HY.out.2
          exact ⟨h + 1, hi, by go_num, rfl, by have := HY.out.1; omega, hin, by omega, ⟨HG.out.drew.trans HG2.out⟩, ⟨fun i hi hih => HL.out.2.2.1 i h hi hhl (by omega) (by rw [← hyo]; exact hb), HI.out.2⟩⟩
      · go_wp2_with fail
        refine Plan2.region 6 (fun w' => w'.cell? ⟨n0, 0, none⟩ = some (.int .i64 t.id) ∧ w'.cell? ⟨n0, 1, none⟩ = some (.int .i64 t.at_) ∧ w'.cell? ⟨b, off + h * 2, none⟩ = some (.int .i64 y.id) ∧ w'.cell? ⟨b, off + h * 2 + 1, none⟩ = some (.int .i64 y.at_)) [(0, 0), (1, 0), (2, 0), (3, 0), (4, 1), (5, 1), (6, 2), (7, 0)] (by kernel_rfl) (by kernel_rfl) (fun _ _ d _ _ h => by cases d <;> exact h) ?_ ?_
        focus (first | exact hK0)
        (refine' Plan2.pure (N := (some 24)) rfl (by rfl) rfl ?_ ?_ ?_; rotate_left 2; (focus (intro w'; go_simp; exact Plan2.isV)); (focus (simp only [Act.put, List.setIfInBounds_toArray, List.set_cons_zero, List.set_cons_succ]; rfl)))
        (refine' Plan2.pure (N := (some 25)) rfl (by rfl) rfl ?_ ?_ ?_; rotate_left 2; (focus (intro w'; go_simp; exact Plan2.isV)); (focus (simp only [Act.put, List.setIfInBounds_toArray, List.set_cons_zero, List.set_cons_succ]; rfl)))
        (refine' Plan2.pure (N := (some 26)) rfl (by rfl) rfl ?_ ?_ ?_; rotate_left 2; (focus (intro w'; go_simp; exact Plan2.isV)); (focus (simp only [Act.put, List.setIfInBounds_toArray, List.set_cons_zero, List.set_cons_succ]; rfl)))
        (refine' Plan2.pure (N := (some 27)) rfl (by rfl) rfl ?_ ?_ ?_; rotate_left 2; (focus (intro w'; go_simp; exact Plan2.isV)); (focus (simp only [Act.put, List.setIfInBounds_toArray, List.set_cons_zero, List.set_cons_succ]; rfl)))
        (refine' Plan2.load (N := (some 28)) rfl (by rfl) rfl ?_ ?_ ?_; rotate_left 2; (focus (intro w' hS; (try dsimp only at hS); go_simp; exact Plan2.isV)); (focus (simp only [Act.put, List.setIfInBounds_toArray, List.set_cons_zero, List.set_cons_succ]; rfl)))
        (refine' Plan2.load (N := (some 29)) rfl (by rfl) rfl ?_ ?_ ?_; rotate_left 2; (focus (intro w' hS; (try dsimp only at hS); go_simp; exact Plan2.isV)); (focus (simp only [Act.put, List.setIfInBounds_toArray, List.set_cons_zero, List.set_cons_succ]; rfl)))
        (refine' Plan2.acts (past' := true) rfl (by rfl) rfl (fun K hK => ?_); go_simp; (refine (HC.out).mono ?_); rintro e w2 ⟨rfl, hg2⟩; have HG2 := Aside0.mk hg2; clear hg2; (refine hK.out _ _ (fun hp => ?_) (fun hS => ?_)); (focus (cases hp)))
        (refine' Plan2.pure (N := (some 31)) rfl (by rfl) rfl ?_ ?_ ?_; rotate_left 2; (focus (intro w'; go_simp; exact Plan2.isV)); (focus (simp only [Act.put, List.setIfInBounds_toArray, List.set_cons_zero, List.set_cons_succ]; rfl)))
        refine Plan2.done ?_
        go_wp2_with fail
        go_roundg (h - lo)
        case measure => have := HY.out.1; omega
        case rel =>
          have hb : before y t = false := by
            cases hq : before y t with
            | false => rfl
            | true => have := (cmpDu_lt y t).2 hq; rw [← HCR.out] at this; omega
          have hyo := HY.out.2
          exact ⟨lo, h, rfl, by go_num, by have := HY.out.1; omega, by omega, by omega, ⟨HG.out.drew.trans HG2.out⟩, ⟨HI.out.1, fun i hi hih => by
            cases hq : before l[i] t with
            | false => rfl
            | true => rw [hyo, HL.out.2.2.1 h i hhl hi hih hq] at hb; cases hb⟩⟩
    · obtain rfl : hi = lo := by omega
      have ecnt : cnt = hi := by
        rw [HL.out.2.2.2]
        exact countP_edge _ l hi hin (fun i hi h => HI.out.1 i hi h) (fun i hi h => HI.out.2 i hi h)
      subst ecnt
      by_cases hn : cnt < l.length
      · obtain ⟨h, hh⟩ : ∃ h, h = cnt := ⟨_, rfl⟩
        have hnz : (cnt : Int) < (l.length : Int) := by omega
        obtain ⟨y, hy⟩ : ∃ y, y = l[cnt] := ⟨_, rfl⟩
        have hcy := HL.out.2.1 cnt hn
        rw [← hy] at hcy
        subst hh
        have hbw1 : b < w1.heap.size := Nat.lt_of_lt_of_le HL.out.1 (HN.out.2.2.fr SNo).size
        have hK0 : wr.drew.cell? ⟨n0, 0, none⟩ = some (.int .i64 t.id) ∧ wr.drew.cell? ⟨n0, 1, none⟩ = some (.int .i64 t.at_) ∧ wr.drew.cell? ⟨b, off + h * 2, none⟩ = some (.int .i64 y.id) ∧ wr.drew.cell? ⟨b, off + h * 2 + 1, none⟩ = some (.int .i64 y.at_) :=
          ⟨HG.out.drew.cell (p := ⟨n0, 0, none⟩) (blk_lt HN.out.2.1) (blk_cell HN.out.2.1 0), HG.out.drew.cell (p := ⟨n0, 1, none⟩) (blk_lt HN.out.2.1) (blk_cell HN.out.2.1 1), HG.out.drew.cell (p := ⟨b, off + h * 2, none⟩) hbw1 (HN.out.2.2.cell (p := ⟨b, off + h * 2, none⟩) HL.out.1 hcy.1), HG.out.drew.cell (p := ⟨b, off + h * 2 + 1, none⟩) hbw1 (HN.out.2.2.cell (p := ⟨b, off + h * 2 + 1, none⟩) HL.out.1 hcy.2)⟩
        have hcall := order_any y t wr.drew
        unfold due at hcall
        have HC := Aside0.mk hcall
        clear hcall hy hcy hbw1
        go_wp2_with fail
        refine Plan2.region 11 (fun w' => w'.cell? ⟨n0, 0, none⟩ = some (.int .i64 t.id) ∧ w'.cell? ⟨n0, 1, none⟩ = some (.int .i64 t.at_) ∧ w'.cell? ⟨b, off + h * 2, none⟩ = some (.int .i64 y.id) ∧ w'.cell? ⟨b, off + h * 2 + 1, none⟩ = some (.int .i64 y.at_)) [(0, 0), (1, 0), (2, 0), (3, 0), (4, 0), (5, 0), (6, 0), (7, 0), (8, 0), (9, 1), (10, 1), (11, 2), (12, 0), (13, 0), (14, 0), (15, 0)] (by kernel_rfl) (by kernel_rfl) (fun _ _ d _ _ h => by cases d <;> exact h) ?_ ?_
        focus (first | exact hK0)
        (refine' Plan2.pure (N := (some 35)) rfl (by rfl) rfl ?_ ?_ ?_; rotate_left 2; (focus (intro w'; go_simp; exact Plan2.isV)); (focus (simp only [Act.put, List.setIfInBounds_toArray, List.set_cons_zero, List.set_cons_succ]; rfl)))
        (refine' Plan2.pure (N := (some 36)) rfl (by rfl) rfl ?_ ?_ ?_; rotate_left 2; (focus (intro w'; go_simp; exact Plan2.isV)); (focus (simp only [Act.put, List.setIfInBounds_toArray, List.set_cons_zero, List.set_cons_succ]; rfl)))
        (refine' Plan2.pure (N := (some 37)) rfl (by rfl) rfl ?_ ?_ ?_; rotate_left 2; (focus (intro w'; go_simp; exact Plan2.isV)); (focus (simp only [Act.put, List.setIfInBounds_toArray, List.set_cons_zero, List.set_cons_succ]; rfl)))
        (refine' Plan2.pure (N := (some 38)) rfl (by rfl) rfl ?_ ?_ ?_; rotate_left 2; (focus (intro w'; go_simp; exact Plan2.isV)); (focus (simp only [Act.put, List.setIfInBounds_toArray, List.set_cons_zero, List.set_cons_succ]; rfl)))
        (refine' Plan2.pure (N := (some 39)) rfl (by rfl) rfl ?_ ?_ ?_; rotate_left 2; (focus (intro w'; go_simp; exact Plan2.isV)); (focus (simp only [Act.put, List.setIfInBounds_toArray, List.set_cons_zero, List.set_cons_succ]; rfl)))
        (first | (refine' Plan2.off (N := (some 40)) rfl (by rfl) rfl ?_ ?_; rotate_left 1; (focus (simp only [Act.put, List.setIfInBounds_toArray, List.set_cons_zero, List.set_cons_succ]; rfl))) | (refine' Plan2.pure (N := (some 40)) rfl (by rfl) rfl ?_ ?_ ?_; rotate_left 2; (focus (intro w'; go_simp; exact Plan2.isV)); (focus (simp only [Act.put, List.setIfInBounds_toArray, List.set_cons_zero, List.set_cons_succ]; rfl))))
        (first | (refine' Plan2.off (N := (some 41)) rfl (by rfl) rfl ?_ ?_; rotate_left 1; (focus (simp only [Act.put, List.setIfInBounds_toArray, List.set_cons_zero, List.set_cons_succ]; rfl))) | (refine' Plan2.pure (N := (some 41)) rfl (by rfl) rfl ?_ ?_ ?_; rotate_left 2; (focus (intro w'; go_simp; exact Plan2.isV)); (focus (simp only [Act.put, List.setIfInBounds_toArray, List.set_cons_zero, List.set_cons_succ]; rfl))))
        (first | (refine' Plan2.off (N := (some 42)) rfl (by rfl) rfl ?_ ?_; rotate_left 1; (focus (simp only [Act.put, List.setIfInBounds_toArray, List.set_cons_zero, List.set_cons_succ]; rfl))) | (refine' Plan2.pure (N := (some 42)) rfl (by rfl) rfl ?_ ?_ ?_; rotate_left 2; (focus (intro w'; go_simp; exact Plan2.isV)); (focus (simp only [Act.put, List.setIfInBounds_toArray, List.set_cons_zero, List.set_cons_succ]; rfl))))
        (first | (refine' Plan2.off (N := (some 43)) rfl (by rfl) rfl ?_ ?_; rotate_left 1; (focus (simp only [Act.put, List.setIfInBounds_toArray, List.set_cons_zero, List.set_cons_succ]; rfl))) | (refine' Plan2.pure (N := (some 43)) rfl (by rfl) rfl ?_ ?_ ?_; rotate_left 2; (focus (intro w'; go_simp; exact Plan2.isV)); (focus (simp only [Act.put, List.setIfInBounds_toArray, List.set_cons_zero, List.set_cons_succ]; rfl))))
        (first | (refine' Plan2.off (N := (some 44)) rfl (by rfl) rfl ?_ ?_; rotate_left 1; (focus (simp only [Act.put, List.setIfInBounds_toArray, List.set_cons_zero, List.set_cons_succ]; rfl))) | (refine' Plan2.load (N := (some 44)) rfl (by rfl) rfl ?_ ?_ ?_; rotate_left 2; (focus (intro w' hS; (try dsimp only at hS); go_simp; exact Plan2.isV)); (focus (simp only [Act.put, List.setIfInBounds_toArray, List.set_cons_zero, List.set_cons_succ]; rfl))))
        (first | (refine' Plan2.off (N := (some 45)) rfl (by rfl) rfl ?_ ?_; rotate_left 1; (focus (simp only [Act.put, List.setIfInBounds_toArray, List.set_cons_zero, List.set_cons_succ]; rfl))) | (refine' Plan2.load (N := (some 45)) rfl (by rfl) rfl ?_ ?_ ?_; rotate_left 2; (focus (intro w' hS; (try dsimp only at hS); go_simp; exact Plan2.isV)); (focus (simp only [Act.put, List.setIfInBounds_toArray, List.set_cons_zero, List.set_cons_succ]; rfl))))
        (first | (refine' Plan2.off (N := (some 46)) rfl (by rfl) rfl ?_ ?_; rotate_left 1; (focus (simp only [Act.put, List.setIfInBounds_toArray, List.set_cons_zero, List.set_cons_succ]; rfl))) | (refine' Plan2.acts (past' := true) rfl (by rfl) rfl (fun K hK => ?_); go_simp; (refine (HC.out).mono ?_); rintro e w2 ⟨rfl, hg2⟩; have HG2 := Aside0.mk hg2; clear hg2; (refine hK.out _ _ (fun hp => ?_) (fun hS => ?_)); (focus (cases hp))))
        (first | (refine' Plan2.off (N := (some 47)) rfl (by rfl) rfl ?_ ?_; rotate_left 1; (focus (simp only [Act.put, List.setIfInBounds_toArray, List.set_cons_zero, List.set_cons_succ]; rfl))) | (refine' Plan2.pure (N := (some 47)) rfl (by rfl) rfl ?_ ?_ ?_; rotate_left 2; (focus (intro w'; go_simp; exact Plan2.isV)); (focus (simp only [Act.put, List.setIfInBounds_toArray, List.set_cons_zero, List.set_cons_succ]; rfl))))
        (refine' Plan2.pure (N := (some 48)) rfl (by rfl) rfl ?_ ?_ ?_; rotate_left 2; (focus (intro w'; go_simp; exact Plan2.isV)); (focus (simp only [Act.put, List.setIfInBounds_toArray, List.set_cons_zero, List.set_cons_succ]; rfl)))
        (refine' Plan2.pure (N := (some 6)) rfl (by rfl) rfl ?_ ?_ ?_; rotate_left 2; (focus (intro w'; go_simp; exact Plan2.isV)); (focus (simp only [Act.put, List.setIfInBounds_toArray, List.set_cons_zero, List.set_cons_succ]; rfl)))
        (refine' Plan2.pure (N := (some 7)) rfl (by rfl) rfl ?_ ?_ ?_; rotate_left 2; (focus (intro w'; go_simp; exact Plan2.isV)); (focus (simp only [Act.put, List.setIfInBounds_toArray, List.set_cons_zero, List.set_cons_succ]; rfl)))
        refine Plan2.done ?_
        go_wp2_with fail
        go_ret2
        exact ⟨_, rfl, HN.out.2.2.trans (HG.out.drew.trans HG2.out)⟩
      · have hnz : ¬ (cnt : Int) < (l.length : Int) := by omega
        go_wp2_with fail
        refine Plan2.region 1000 (fun _ => True) [(0, 0), (1, 0), (2, 0), (3, 0), (4, 0), (5, 0), (6, 0), (7, 0), (8, 0), (9, 1), (10, 1), (11, 2), (12, 0), (13, 0), (14, 0), (15, 0)] (by kernel_rfl) (by kernel_rfl) (fun _ _ d _ _ h => by cases d <;> exact h) ?_ ?_
        focus exact trivial
        (refine' Plan2.pure (N := (some 35)) rfl (by rfl) rfl ?_ ?_ ?_; rotate_left 2; (focus (intro w'; go_simp; exact Plan2.isV)); (focus (simp only [Act.put, List.setIfInBounds_toArray, List.set_cons_zero, List.set_cons_succ]; rfl)))
        (refine' Plan2.pure (N := (some 36)) rfl (by rfl) rfl ?_ ?_ ?_; rotate_left 2; (focus (intro w'; go_simp; exact Plan2.isV)); (focus (simp only [Act.put, List.setIfInBounds_toArray, List.set_cons_zero, List.set_cons_succ]; rfl)))
        (refine' Plan2.pure (N := (some 37)) rfl (by rfl) rfl ?_ ?_ ?_; rotate_left 2; (focus (intro w'; go_simp; exact Plan2.isV)); (focus (simp only [Act.put, List.setIfInBounds_toArray, List.set_cons_zero, List.set_cons_succ]; rfl)))
        (refine' Plan2.pure (N := (some 38)) rfl (by rfl) rfl ?_ ?_ ?_; rotate_left 2; (focus (intro w'; go_simp; exact Plan2.isV)); (focus (simp only [Act.put, List.setIfInBounds_toArray, List.set_cons_zero, List.set_cons_succ]; rfl)))
        (refine' Plan2.pure (N := (some 39)) rfl (by rfl) rfl ?_ ?_ ?_; rotate_left 2; (focus (intro w'; go_simp; exact Plan2.isV)); (focus (simp only [Act.put, List.setIfInBounds_toArray, List.set_cons_zero, List.set_cons_succ]; rfl)))
        (first | (refine' Plan2.off (N := (some 40)) rfl (by rfl) rfl ?_ ?_; rotate_left 1; (focus (simp only [Act.put, List.setIfInBounds_toArray, List.set_cons_zero, List.set_cons_succ]; rfl))) | (refine' Plan2.pure (N := (some 40)) rfl (by rfl) rfl ?_ ?_ ?_; rotate_left 2; (focus (intro w'; go_simp; exact Plan2.isV)); (focus (simp only [Act.put, List.setIfInBounds_toArray, List.set_cons_zero, List.set_cons_succ]; rfl))))
        (first | (refine' Plan2.off (N := (some 41)) rfl (by rfl) rfl ?_ ?_; rotate_left 1; (focus (simp only [Act.put, List.setIfInBounds_toArray, List.set_cons_zero, List.set_cons_succ]; rfl))) | (refine' Plan2.pure (N := (some 41)) rfl (by rfl) rfl ?_ ?_ ?_; rotate_left 2; (focus (intro w'; go_simp; exact Plan2.isV)); (focus (simp only [Act.put, List.setIfInBounds_toArray, List.set_cons_zero, List.set_cons_succ]; rfl))))
        (first | (refine' Plan2.off (N := (some 42)) rfl (by rfl) rfl ?_ ?_; rotate_left 1; (focus (simp only [Act.put, List.setIfInBounds_toArray, List.set_cons_zero, List.set_cons_succ]; rfl))) | (refine' Plan2.pure (N := (some 42)) rfl (by rfl) rfl ?_ ?_ ?_; rotate_left 2; (focus (intro w'; go_simp; exact Plan2.isV)); (focus (simp only [Act.put, List.setIfInBounds_toArray, List.set_cons_zero, List.set_cons_succ]; rfl))))
        (first | (refine' Plan2.off (N := (some 43)) rfl (by rfl) rfl ?_ ?_; rotate_left 1; (focus (simp only [Act.put, List.setIfInBounds_toArray, List.set_cons_zero, List.set_cons_succ]; rfl))) | (refine' Plan2.pure (N := (some 43)) rfl (by rfl) rfl ?_ ?_ ?_; rotate_left 2; (focus (intro w'; go_simp; exact Plan2.isV)); (focus (simp only [Act.put, List.setIfInBounds_toArray, List.set_cons_zero, List.set_cons_succ]; rfl))))
        (first | (refine' Plan2.off (N := (some 44)) rfl (by rfl) rfl ?_ ?_; rotate_left 1; (focus (simp only [Act.put, List.setIfInBounds_toArray, List.set_cons_zero, List.set_cons_succ]; rfl))) | (refine' Plan2.load (N := (some 44)) rfl (by rfl) rfl ?_ ?_ ?_; rotate_left 2; (focus (intro w' hS; (try dsimp only at hS); go_simp; exact Plan2.isV)); (focus (simp only [Act.put, List.setIfInBounds_toArray, List.set_cons_zero, List.set_cons_succ]; rfl))))
        (first | (refine' Plan2.off (N := (some 45)) rfl (by rfl) rfl ?_ ?_; rotate_left 1; (focus (simp only [Act.put, List.setIfInBounds_toArray, List.set_cons_zero, List.set_cons_succ]; rfl))) | (refine' Plan2.load (N := (some 45)) rfl (by rfl) rfl ?_ ?_ ?_; rotate_left 2; (focus (intro w' hS; (try dsimp only at hS); go_simp; exact Plan2.isV)); (focus (simp only [Act.put, List.setIfInBounds_toArray, List.set_cons_zero, List.set_cons_succ]; rfl))))
        (first | (refine' Plan2.off (N := (some 46)) rfl (by rfl) rfl ?_ ?_; rotate_left 1; (focus (simp only [Act.put, List.setIfInBounds_toArray, List.set_cons_zero, List.set_cons_succ]; rfl))) | (refine' Plan2.acts (past' := false) rfl (by rfl) rfl (fun K hK => ?_); go_simp; (refine hK.out _ _ (fun hp => ?_) (fun hS => ?_)); (focus (clear hp; exact trivial))))
        (first | (refine' Plan2.off (N := (some 47)) rfl (by rfl) rfl ?_ ?_; rotate_left 1; (focus (simp only [Act.put, List.setIfInBounds_toArray, List.set_cons_zero, List.set_cons_succ]; rfl))) | (refine' Plan2.pure (N := (some 47)) rfl (by rfl) rfl ?_ ?_ ?_; rotate_left 2; (focus (intro w'; go_simp; exact Plan2.isV)); (focus (simp only [Act.put, List.setIfInBounds_toArray, List.set_cons_zero, List.set_cons_succ]; rfl))))
        (refine' Plan2.pure (N := (some 48)) rfl (by rfl) rfl ?_ ?_ ?_; rotate_left 2; (focus (intro w'; go_simp; exact Plan2.isV)); (focus (simp only [Act.put, List.setIfInBounds_toArray, List.set_cons_zero, List.set_cons_succ]; rfl)))
        (refine' Plan2.pure (N := (some 6)) rfl (by rfl) rfl ?_ ?_ ?_; rotate_left 2; (focus (intro w'; go_simp; exact Plan2.isV)); (focus (simp only [Act.put, List.setIfInBounds_toArray, List.set_cons_zero, List.set_cons_succ]; rfl)))
        (refine' Plan2.pure (N := (some 7)) rfl (by rfl) rfl ?_ ?_ ?_; rotate_left 2; (focus (intro w'; go_simp; exact Plan2.isV)); (focus (simp only [Act.put, List.setIfInBounds_toArray, List.set_cons_zero, List.set_cons_succ]; rfl)))
        refine Plan2.done ?_
        go_wp2_with fail
        go_ret2
        exact ⟨_, rfl, HN.out.2.2.trans HG.out.drew⟩
end Go.Proofs.Ytodgcfkdnellpaa
