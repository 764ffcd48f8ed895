/- Wheel: where something stands; it is taken out. -/
import Derived.Test.YtodgcfkdnellpaaA6
set_option linter.unusedSimpArgs false
set_option linter.unusedVariables false
namespace Go.Proofs.Ytodgcfkdnellpaa
open Go.RowKit Go.Proofs.YtodgcfkdnellpaaW.PrintWords
set_option maxHeartbeats 1000000 in
theorem place_near (w : World) (g : Nat) (now at_ : Int) (h0 : w.cell? ⟨g, 0, none⟩ = some (.int .i64 now)) (hn0 : 0 ≤ now) (hn1 : now ≤ 1099511627776) (ha0 : 0 ≤ at_) (ha1 : at_ ≤ 1099511627776) (h : at_ - now < 64) :
    Calls Try.prog 26 #[.pointer (some ⟨g, 0, none⟩), .int .i64 at_] w fun e w' => e = .returned (.iface 82 (.pointer (some ⟨g, 2, none⟩))) ∧ w' = w := by
  have hs : IntKind.i64.wrap (at_ - now) = at_ - now := IntWalk.i64_in _ (by omega)
  go_enter Try.func26, Try.ntmps26
  go_wp2
  go_ret
  exact ⟨rfl, rfl⟩
set_option maxHeartbeats 1000000 in
theorem place_far (w : World) (g : Nat) (now at_ : Int) (h0 : w.cell? ⟨g, 0, none⟩ = some (.int .i64 now)) (hn0 : 0 ≤ now) (hn1 : now ≤ 1099511627776) (ha0 : 0 ≤ at_) (ha1 : at_ ≤ 1099511627776) (h : ¬ at_ - now < 64) :
    Calls Try.prog 26 #[.pointer (some ⟨g, 0, none⟩), .int .i64 at_] w fun e w' => e = .returned (.iface 83 (.pointer (some ⟨g, 66, none⟩))) ∧ w' = w := by
  have hs : IntKind.i64.wrap (at_ - now) = at_ - now := IntWalk.i64_in _ (by omega)
  go_enter Try.func26, Try.ntmps26
  go_wp2
  go_ret
  exact ⟨rfl, rfl⟩
theorem as82 (v : Value) (w : World) : (Instr.typeAssert (.iface 82 v) 69 82 true).run Try.prog w = .ok (.tuple #[v, .bool true]) w := by kernel_rfl
theorem as83n (v : Value) (w : World) : (Instr.typeAssert (.iface 83 v) 69 82 true).run Try.prog w = .ok (.tuple #[.pointer none, .bool false]) w := by kernel_rfl
theorem as83 (v : Value) (w : World) : (Instr.typeAssert (.iface 83 v) 69 83 true).run Try.prog w = .ok (.tuple #[v, .bool true]) w := by kernel_rfl
theorem orow_some {w : World} {v : Value} {l : List Du} (h : ORow w v l) (h0 : 0 < l.length) : ∃ b off c, v = .slice (some ⟨b, off, none⟩) l.length c := by
  rcases h with ⟨rfl, rfl⟩ | ⟨b, off, c, cur, rfl, _⟩
  · simp at h0
  · exact ⟨b, off, c, rfl⟩
set_option maxHeartbeats 4000000 in
set_option maxRecDepth 100000 in
theorem take_near (w : World) (F : Nat → Prop) (g bm : Nat) (now : Int) (R : Nat → Value) (C : Nat → List Du) (d : Du) (k : Nat) (hr : Raw w F g bm now R C) (hbm : g ≠ bm ∧ ∀ i, i < 65 → (R i).ownBlock ≠ some bm) (hk : k < 64) (hdk : d.at_ % 64 = k) (hd0 : 0 ≤ d.at_) (hlen : (C k).length ≤ 4096) (hpos : 0 < (C k).length) :
    Calls Try.prog 33 #[.iface 82 (.pointer (some ⟨g, 2, none⟩)), due d] w (PutPost w F g bm now (upd C k ((C k).filter (keepD d)))) := by
  have hck := hr.cellR k (by omega)
  have hrow := hr.row k (by omega)
  have hfz := hr.free (2 + k)
  obtain ⟨b, off, c, hvk⟩ := orow_some hrow hpos
  rw [hvk] at hck hrow
  have hgl := hr.lt g hr.fg
  have hvg : g ≠ b := fun e => hr.row_ne k (by omega) (by rw [hvk, e]; rfl)
  have HR := Aside0.mk (And.intro hr (And.intro hbm hvk)); clear hr hbm hvk
  have HV := Aside0.mk hrow; clear hrow
  unfold due
  obtain ⟨xi, hxi⟩ : ∃ x, x = d.id := ⟨_, rfl⟩
  obtain ⟨xa, hxa⟩ : ∃ x, x = d.at_ := ⟨_, rfl⟩
  rw [← hxi, ← hxa]
  rw [← hxa] at hdk hd0
  have HX := Aside0.mk (And.intro hxi hxa); clear hxi hxa
  have hdm : xa.tmod 64 = (k : Int) := by rw [Int.tmod_eq_emod_of_nonneg hd0]; exact hdk
  have hk64 : (k : Int) < 64 := by omega
  have hnw := heap_alloc_new w (.cells #[.int .i64 xi, .int .i64 xa] 33)
  have hfw : Fr SNo w (w.alloc (.cells #[.int .i64 xi, .int .i64 xa] 33)) := (Fr.refl _ _).alloc _
  obtain ⟨n0, hn0⟩ : ∃ n, n = w.heap.size := ⟨_, rfl⟩
  have hbl : b < w.heap.size := HV.out.lt b rfl
  have hck1 := hfw.cellAt (p := ⟨g, 2 + k, none⟩) hgl (fun h => h) hck
  have hfz1 := hfw.frozen hfz hgl (fun h => h)
  have hrow1 := HV.out.frame hfw (fun _ _ h => h)
  have hg1 : g < (w.alloc (.cells #[.int .i64 xi, .int .i64 xa] 33)).heap.size := Nat.lt_of_lt_of_le hgl hfw.size
  rw [← hn0] at hnw
  have h82 := as82
  go_enter Try.func33, Try.ntmps33
  go_wp2
  rw [← hn0]
  generalize w.alloc (.cells #[.int .i64 xi, .int .i64 xa] 33) = w1 at *
  have hnb : n0 ≠ b := by omega
  have hc0 : w1.cell? ⟨n0, 0, none⟩ = some (.int .i64 xi) := blk_cell hnw 0
  have hc1 : w1.cell? ⟨n0, 1, none⟩ = some (.int .i64 xa) := blk_cell hnw 1
  have hdel := delete_any w1.drew b off c n0 d (C k) hrow1 hpos hlen (blk_lt hnw) hnb (by rw [← HX.out.1]; exact hc0) (by rw [← HX.out.2]; exact hc1)
  have HD := Aside0.mk hdel
  have hK0 : w1.drew.cell? ⟨n0, 0, none⟩ = some (.int .i64 xi) ∧ w1.drew.cell? ⟨n0, 1, none⟩ = some (.int .i64 xa) ∧ w1.drew.cell? ⟨g, 2 + k, none⟩ = some (.slice (some ⟨b, off, none⟩) (C k).length c) := ⟨hc0, hc1, hck1⟩
  have HF := Aside0.mk (And.intro (blk_lt hnw) (And.intro hg1 (And.intro hfw hn0)))
  have HN := Aside0.mk (And.intro hnb (And.intro hvg hfz1))
  clear hck hfz hgl hvg hnw hfw hn0 hbl hck1 hfz1 hrow1 hg1 hnb hc0 hc1 hdel
  refine Plan2.region 17 (fun w' => w'.cell? ⟨n0, 0, none⟩ = some (.int .i64 xi) ∧ w'.cell? ⟨n0, 1, none⟩ = some (.int .i64 xa) ∧ w'.cell? ⟨g, 2 + k, none⟩ = some (.slice (some ⟨b, off, none⟩) (C k).length c)) [(0, 0), (1, 0), (2, 1), (3, 0), (4, 0), (5, 0), (6, 1), (7, 0), (8, 0), (9, 0), (10, 0), (11, 1), (12, 0), (14, 0), (15, 0), (13, 2), (16, 0), (17, 2)] (by kernel_rfl) (by kernel_rfl) (fun _ _ d _ _ h => by cases d <;> exact h) ?_ ?_
  focus (first | exact hK0 | exact hK2)
  (refine' Plan2.pure (N := (some 12)) rfl (by rfl) rfl ?_ ?_ ?_; rotate_left 2; (focus (intro w'; go_simp; exact Plan2.isV)); (focus (simp only [Act.put, List.setIfInBounds_toArray, List.set_cons_zero, List.set_cons_succ]; rfl)))
  (refine' Plan2.pure (N := (some 13)) rfl (by rfl) rfl ?_ ?_ ?_; rotate_left 2; (focus (intro w'; go_simp; exact Plan2.isV)); (focus (simp only [Act.put, List.setIfInBounds_toArray, List.set_cons_zero, List.set_cons_succ]; rfl)))
  (refine' Plan2.load (N := (some 14)) rfl (by rfl) rfl ?_ ?_ ?_; rotate_left 2; (focus (intro w' hS; (try dsimp only at hS); go_simp; exact Plan2.isV)); (focus (simp only [Act.put, List.setIfInBounds_toArray, List.set_cons_zero, List.set_cons_succ]; rfl)))
  (refine' Plan2.pure (N := (some 15)) rfl (by rfl) rfl ?_ ?_ ?_; rotate_left 2; (focus (intro w'; go_simp; exact Plan2.isV)); (focus (simp only [Act.put, List.setIfInBounds_toArray, List.set_cons_zero, List.set_cons_succ]; rfl)))
  (refine' Plan2.pure (N := (some 16)) rfl (by rfl) rfl ?_ ?_ ?_; rotate_left 2; (focus (intro w'; go_simp; exact Plan2.isV)); (focus (simp only [Act.put, List.setIfInBounds_toArray, List.set_cons_zero, List.set_cons_succ]; rfl)))
  (refine' Plan2.pure (N := (some 17)) rfl (by rfl) rfl ?_ ?_ ?_; rotate_left 2; (focus (intro w'; go_simp; exact Plan2.isV)); (focus (simp only [Act.put, List.setIfInBounds_toArray, List.set_cons_zero, List.set_cons_succ]; rfl)))
  (refine' Plan2.load (N := (some 18)) rfl (by rfl) rfl ?_ ?_ ?_; rotate_left 2; (focus (intro w' hS; (try dsimp only at hS); go_simp; exact Plan2.isV)); (focus (simp only [Act.put, List.setIfInBounds_toArray, List.set_cons_zero, List.set_cons_succ]; rfl)))
  (refine' Plan2.pure (N := (some 19)) rfl (by rfl) rfl ?_ ?_ ?_; rotate_left 2; (focus (intro w'; go_simp; exact Plan2.isV)); (focus (simp only [Act.put, List.setIfInBounds_toArray, List.set_cons_zero, List.set_cons_succ]; rfl)))
  (refine' Plan2.pure (N := (some 20)) rfl (by rfl) rfl ?_ ?_ ?_; rotate_left 2; (focus (intro w'; go_simp; exact Plan2.isV)); (focus (simp only [Act.put, List.setIfInBounds_toArray, List.set_cons_zero, List.set_cons_succ]; rfl)))
  (refine' Plan2.pure (N := (some 21)) rfl (by rfl) rfl ?_ ?_ ?_; rotate_left 2; (focus (intro w'; go_simp; exact Plan2.isV)); (focus (simp only [Act.put, List.setIfInBounds_toArray, List.set_cons_zero, List.set_cons_succ]; rfl)))
  (refine' Plan2.pure (N := (some 22)) rfl (by rfl) rfl ?_ ?_ ?_; rotate_left 2; (focus (intro w'; go_simp; exact Plan2.isV)); (focus (simp only [Act.put, List.setIfInBounds_toArray, List.set_cons_zero, List.set_cons_succ]; rfl)))
  (refine' Plan2.load (N := (some 23)) rfl (by rfl) rfl ?_ ?_ ?_; rotate_left 2; (focus (intro w' hS; (try dsimp only at hS); go_simp; exact Plan2.isV)); (focus (simp only [Act.put, List.setIfInBounds_toArray, List.set_cons_zero, List.set_cons_succ]; rfl)))
  (refine' Plan2.pure (N := (some 24)) rfl (by rfl) rfl ?_ ?_ ?_; rotate_left 2; (focus (intro w'; go_simp; exact Plan2.isV)); (focus (simp only [Act.put, List.setIfInBounds_toArray, List.set_cons_zero, List.set_cons_succ]; rfl)))
  (refine' Plan2.pure (N := (some 26)) rfl (by rfl) rfl ?_ ?_ ?_; rotate_left 2; (focus (intro w'; go_simp; exact Plan2.isV)); (focus (simp only [Act.put, List.setIfInBounds_toArray, List.set_cons_zero, List.set_cons_succ]; rfl)))
  (refine' Plan2.pure (N := (some 27)) rfl (by rfl) rfl ?_ ?_ ?_; rotate_left 2; (focus (intro w'; go_simp; exact Plan2.isV)); (focus (simp only [Act.put, List.setIfInBounds_toArray, List.set_cons_zero, List.set_cons_succ]; rfl)))
  (refine' Plan2.acts (past' := false) rfl (by rfl) rfl (fun K hK => ?_); go_simp; (refine (HD.out).mono ?_); rintro e w2 ⟨rfl, hf2, ho2⟩; have hK2 := put_cells hf2 HN.out.1 HN.out.2.1 HF.out.1 HF.out.2.1 hK0; have z2 := hf2.frozen HN.out.2.2 HF.out.2.1 HN.out.2.1; have H2 := Aside0.mk (And.intro ho2 hf2); clear ho2 hf2; (refine hK.out _ _ (fun hp => ?_) (fun hS => ?_)); (focus (clear hp; (first | exact hK0 | exact hK2))))
  (refine' Plan2.pure (N := (some 28)) rfl (by rfl) rfl ?_ ?_ ?_; rotate_left 2; (focus (intro w'; go_simp; exact Plan2.isV)); (focus (simp only [Act.put, List.setIfInBounds_toArray, List.set_cons_zero, List.set_cons_succ]; rfl)))
  (refine' Plan2.acts (past' := true) rfl (by rfl) rfl (fun K hK => ?_); go_simp; (refine hK.out _ _ (fun hp => ?_) (fun hS => ?_)); (focus (cases hp)))
  refine Plan2.done ?_
  go_end0
  obtain ⟨hr, hbm, hvk⟩ := HR.out
  obtain ⟨ho2, hf2⟩ := H2.out
  have hfA : Fr (fun j => j = b) w w2 := ((HF.out.2.2.1.mono (fun _ _ h => h.elim)).drew).trans hf2 (fun j h => .inl h)
  have hob : (R k).ownBlock = some b := by rw [hvk]; rfl
  refine ⟨rfl, _, _, hr.put k (by omega) hfA (fun j _ h => by rw [h]; exact hob) _ _ ho2 (fun j hj => .inl (by rw [hob]; exact hj)), ?_, fun j hj => hj.imp id (fun h => h.1)⟩
  exact Fr.setCell (p := ⟨g, 2 + k, none⟩) (hfA.mono (fun j _ h => by subst h; exact ⟨hr.fr k j (by omega) hob, fun e => hbm.2 k (by omega) (by rw [← e]; exact hob)⟩)) (.inl ⟨hr.fg, hbm.1⟩) _
set_option maxHeartbeats 4000000 in
set_option maxRecDepth 100000 in
theorem take_far (w : World) (F : Nat → Prop) (g bm : Nat) (now : Int) (R : Nat → Value) (C : Nat → List Du) (d : Du) (hr : Raw w F g bm now R C) (hbm : g ≠ bm ∧ ∀ i, i < 65 → (R i).ownBlock ≠ some bm) (hlen : (C 64).length ≤ 4096) (hpos : 0 < (C 64).length) :
    Calls Try.prog 33 #[.iface 83 (.pointer (some ⟨g, 66, none⟩)), due d] w (PutPost w F g bm now (upd C 64 ((C 64).filter (keepD d)))) := by
  have hck := hr.cellR 64 (by omega)
  have hrow := hr.row 64 (by omega)
  have hfz := hr.free 66
  obtain ⟨b, off, c, hvk⟩ := orow_some hrow hpos
  rw [hvk] at hck hrow
  have hgl := hr.lt g hr.fg
  have hvg : g ≠ b := fun e => hr.row_ne 64 (by omega) (by rw [hvk, e]; rfl)
  have HR := Aside0.mk (And.intro hr (And.intro hbm hvk)); clear hr hbm hvk
  have HV := Aside0.mk hrow; clear hrow
  unfold due
  obtain ⟨xi, hxi⟩ : ∃ x, x = d.id := ⟨_, rfl⟩
  obtain ⟨xa, hxa⟩ : ∃ x, x = d.at_ := ⟨_, rfl⟩
  rw [← hxi, ← hxa]
  have HX := Aside0.mk (And.intro hxi hxa); clear hxi hxa
  have hnw := heap_alloc_new w (.cells #[.int .i64 xi, .int .i64 xa] 33)
  have hfw : Fr SNo w (w.alloc (.cells #[.int .i64 xi, .int .i64 xa] 33)) := (Fr.refl _ _).alloc _
  obtain ⟨n0, hn0⟩ : ∃ n, n = w.heap.size := ⟨_, rfl⟩
  have hbl : b < w.heap.size := HV.out.lt b rfl
  have hck1 : (w.alloc (.cells #[.int .i64 xi, .int .i64 xa] 33)).cell? ⟨g, 66, none⟩ = _ := hfw.cellAt (p := ⟨g, 66, none⟩) hgl (fun h => h) hck
  have hfz1 := hfw.frozen hfz hgl (fun h => h)
  have hrow1 := HV.out.frame hfw (fun _ _ h => h)
  have hg1 : g < (w.alloc (.cells #[.int .i64 xi, .int .i64 xa] 33)).heap.size := Nat.lt_of_lt_of_le hgl hfw.size
  rw [← hn0] at hnw
  have h82 := as83n
  have h83 := as83
  have HF0 := Aside0.mk (And.intro hn0 (And.intro hbl (And.intro hgl hvg))); clear hn0 hbl hgl hvg hck hfz
  have HN1 := Aside0.mk (And.intro hnw (And.intro hfw (And.intro hrow1 hg1))); clear hnw hfw hrow1 hg1
  go_enter Try.func33, Try.ntmps33
  go_wp2_with fail
  rw [← HF0.out.1]
  generalize w.alloc (.cells #[.int .i64 xi, .int .i64 xa] 33) = w1 at *
  obtain ⟨hnw, hfw, hrow1, hg1⟩ := HN1.out
  have hdel := delete_any w1 b off c n0 d (C 64) hrow1 hpos hlen (blk_lt hnw) (by have := HF0.out.1; have := HF0.out.2.1; omega) (by rw [← HX.out.1]; exact blk_cell hnw 0) (by rw [← HX.out.2]; exact blk_cell hnw 1)
  clear hnw hfw hrow1 hg1
  refine hdel.mono ?_
  rintro e w2 ⟨rfl, hf2, ho2⟩
  have hck2 := hf2.cellAt (p := ⟨g, 66, none⟩) HN1.out.2.2.2 HF0.out.2.2.2 hck1
  have hfz2 := hf2.frozen hfz1 HN1.out.2.2.2 HF0.out.2.2.2
  have H2 := Aside0.mk (And.intro ho2 hf2); clear ho2 hf2
  go_wp2_with fail
  go_end0
  obtain ⟨hr, hbm, hvk⟩ := HR.out
  obtain ⟨ho2, hf2⟩ := H2.out
  have hfA : Fr (fun j => j = b) w w2 := (HN1.out.2.1.mono (fun _ _ h => h.elim)).trans hf2 (fun j h => .inl h)
  have hob : (R 64).ownBlock = some b := by rw [hvk]; rfl
  refine ⟨rfl, _, _, hr.put 64 (by omega) hfA (fun j _ h => by rw [h]; exact hob) _ _ ho2 (fun j hj => .inl (by rw [hob]; exact hj)), ?_, fun j hj => hj.imp id (fun h => h.1)⟩
  exact Fr.setCell (p := ⟨g, 66, none⟩) (hfA.mono (fun j _ h => by subst h; exact ⟨hr.fr 64 j (by omega) hob, fun e => hbm.2 64 (by omega) (by rw [← e]; exact hob)⟩)) (.inl ⟨hr.fg, hbm.1⟩) _
end Go.Proofs.Ytodgcfkdnellpaa
