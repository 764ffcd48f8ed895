/- Wheel: what is due soon goes into its spoke. -/
import Derived.Test.YtodgcfkdnellpaaA5
import Derived.Test.YtodgcfkdnellpaaPlan2
set_option linter.unusedSimpArgs false
set_option linter.unusedVariables false
namespace Go.Proofs.Ytodgcfkdnellpaa
open Go.RowKit Go.Proofs.YtodgcfkdnellpaaW.PrintWords
theorem app_step {Q : Exit → Act → World → Prop} {K : Act → World → Prop} {W : World} {o : Oper} {a : Act} {s x : Operand} (v xv : Value) (l ys : List Du) (n : Nat) (h : ORow W v l) (hn : ys.length = n) (hsrc : Src Try.prog 2 29 xv n (cellsL ys) W) (hl : (l.length + ys.length) * 16 ≤ 140737488355328)
    (ho : o.op = .call { callee := .builtin .append, args := #[s, x], argTypes := #[29, 29] }) (hs : a.eval s = v) (hx : a.eval x = xv) 
    (hK : ∀ v1 w1, ORow w1 v1 (l ++ ys) → Fr (fun k => v.ownBlock = some k) W w1 → (v1.ownBlock = v.ownBlock ∨ ∃ b, v1.ownBlock = some b ∧ W.heap.size ≤ b) → K (a.put o.dst v1) w1) : Oper.wp Try.prog o a W K Q := by
  obtain ⟨v1, w1, hrun, h1, h2, h3⟩ := app_orow W v xv l ys n h hn hsrc hl o.type
  unfold Oper.wp
  simp [execOp, ho, resolve, invoke, builtin, hs, hx, hrun, Result.andThen]
  exact hK _ _ h1 h2 h3
theorem wp_app {ops : Array Oper} {rest : List Oper} {Q : Exit → Act → World → Prop} {W : World} {o : Oper} {a : Act} {s x : Operand} (hgd : o.guard = none) (v xv : Value) (l ys : List Du) (n : Nat) (h : ORow W v l) (hn : ys.length = n) (hsrc : Src Try.prog 2 29 xv n (cellsL ys) W) (hl : (l.length + ys.length) * 16 ≤ 140737488355328)
    (ho : o.op = .call { callee := .builtin .append, args := #[s, x], argTypes := #[29, 29] }) (hs : a.eval s = v) (hx : a.eval x = xv) 
    (hK : ∀ v1 w1, ORow w1 v1 (l ++ ys) → Fr (fun k => v.ownBlock = some k) W w1 → (v1.ownBlock = v.ownBlock ∨ ∃ b, v1.ownBlock = some b ∧ W.heap.size ≤ b) → wpList Try.prog ops Q rest (a.put o.dst v1) w1) : wpList Try.prog ops Q (o :: rest) a W :=
  wpList_plain hgd fun K' hK' => app_step v xv l ys n h hn hsrc hl ho hs hx (fun v1 w1 a b c => hK' _ _ (hK v1 w1 a b c))
theorem Fr.frozen {S : Nat → Prop} {w w1 : World} (h : Fr S w w1) {p : Addr} (hf : w.frozen? p = false) (hp : p.block < w.heap.size) (hn : ¬ S p.block) : w1.frozen? p = false :=
  (World.frozen?_of_block (h.block p.block hp hn)).trans hf
theorem put_cells {S : Nat → Prop} {w w1 : World} {n0 g i : Nat} {x y v : Value} (h : Fr S w w1) (h1 : ¬ S n0) (h2 : ¬ S g) (l1 : n0 < w.heap.size) (l2 : g < w.heap.size) (hc : w.cell? ⟨n0, 0, none⟩ = some x ∧ w.cell? ⟨n0, 1, none⟩ = some y ∧ w.cell? ⟨g, i, none⟩ = some v) :
    w1.cell? ⟨n0, 0, none⟩ = some x ∧ w1.cell? ⟨n0, 1, none⟩ = some y ∧ w1.cell? ⟨g, i, none⟩ = some v :=
  ⟨h.cellAt (p := ⟨n0, 0, none⟩) l1 h1 hc.1, h.cellAt (p := ⟨n0, 1, none⟩) l1 h1 hc.2.1, h.cellAt (p := ⟨g, i, none⟩) l2 h2 hc.2.2⟩
theorem src_new (W : World) (d : Du) : Src Try.prog 2 29 (.slice (some ⟨W.heap.size, 0, none⟩) 1 1) 1 (cellsL [d]) (W.alloc (.cells #[.int .i64 d.id, .int .i64 d.at_] 33)) :=
  Src.ofSlice _ Try.underlying29 _ _ _ _ (cellsL_length _) (fun j u hj => by
    rw [Addr.add_lit, blk_cell (heap_alloc_new W _)]
    match j, hj with
    | 0, hj => exact hj
    | 1, hj => exact hj
    | j + 2, hj => simp [cellsL, Du.cells] at hj) (cellsL_one _)
structure Turn (w w' : World) (F F' : Nat → Prop) (bm : Nat) : Prop where
  fr : Fr (fun k => F k ∧ k ≠ bm) w w'
  new : ∀ k, F' k → F k ∨ w.heap.size ≤ k
def PutPost (w : World) (F : Nat → Prop) (g bm : Nat) (now : Int) (C : Nat → List Du) (e : Ending) (w' : World) : Prop := e = .returned (.tuple #[]) ∧ ∃ F' R', Raw w' F' g bm now R' C ∧ Turn w w' F F' bm
set_option maxHeartbeats 4000000 in
set_option maxRecDepth 100000 in
theorem put_big (w : World) (F : Nat → Prop) (g bm : Nat) (now : Int) (R : Nat → Value) (C : Nat → List Du) (d : Du) (k : Nat) (hr : Raw w F g bm now R C) (hbm : g ≠ bm ∧ ∀ i, i < 65 → (R i).ownBlock ≠ some bm) (hk : k < 64) (hdk : d.at_ % 64 = k) (hd0 : 0 ≤ d.at_) (hlen : (C k).length ≤ 100000) :
    Calls Try.prog 30 #[.pointer (some ⟨g, 2, none⟩), due d] w (PutPost w F g bm now (upd C k (C k ++ [d]))) := by
  have hck := hr.cellR k (by omega)
  have hrow := hr.row k (by omega)
  have hfz := hr.free (2 + k)
  obtain ⟨vk, hvk⟩ : ∃ v, v = R k := ⟨_, rfl⟩
  rw [← hvk] at hck hrow
  have HR := Aside0.mk (And.intro hr (And.intro hbm hvk)); clear hr hbm hvk
  have HV := Aside0.mk hrow; clear hrow
  unfold due
  obtain ⟨xi, hxi⟩ : ∃ x, x = d.id := ⟨_, rfl⟩
  obtain ⟨xa, hxa⟩ : ∃ x, x = d.at_ := ⟨_, rfl⟩
  rw [← hxi, ← hxa]
  rw [← hxa] at hdk hd0
  have HX := Aside0.mk (And.intro hxi hxa); clear hxi hxa
  go_enter Try.func30, Try.ntmps30
  go_wp2
  have hdm : xa.tmod 64 = (k : Int) := by rw [Int.tmod_eq_emod_of_nonneg hd0]; exact hdk
  have hk64 : (k : Int) < 64 := by omega
  have hnw := heap_alloc_new w (.cells #[.int .i64 xi, .int .i64 xa] 33)
  have hfw : Fr SNo w (w.alloc (.cells #[.int .i64 xi, .int .i64 xa] 33)) := (Fr.refl _ _).alloc _
  have hfd : Fr SNo w ((w.alloc (.cells #[.int .i64 xi, .int .i64 xa] 33)).drew.alloc (.cells #[.int .i64 xi, .int .i64 xa] 33)) := (hfw.drew).alloc _
  have hfe : Fr SNo (w.alloc (.cells #[.int .i64 xi, .int .i64 xa] 33)).drew ((w.alloc (.cells #[.int .i64 xi, .int .i64 xa] 33)).drew.alloc (.cells #[.int .i64 xi, .int .i64 xa] 33)) := (Fr.refl _ _).alloc _
  have hgl := HR.out.1.lt g HR.out.1.fg
  obtain ⟨n0, hn0⟩ : ∃ n, n = w.heap.size := ⟨_, rfl⟩
  rw [← hn0] at hnw hgl ⊢
  generalize w.alloc (.cells #[.int .i64 xi, .int .i64 xa] 33) = w1 at *
  have hng1 := hfw.cellAt (p := ⟨g, 2 + k, none⟩) (by rw [← hn0]; exact hgl) (fun h => h) hck
  have hK0 : w1.drew.cell? ⟨n0, 0, none⟩ = some (.int .i64 xi) ∧ w1.drew.cell? ⟨n0, 1, none⟩ = some (.int .i64 xa) ∧ w1.drew.cell? ⟨g, 2 + k, none⟩ = some vk := ⟨blk_cell (w := w1) hnw 0, blk_cell (w := w1) hnw 1, hng1⟩
  have hg1 : g < w1.heap.size := Nat.lt_of_lt_of_le (by rw [← hn0]; exact hgl) hfw.size
  have hvn : vk.ownBlock ≠ some n0 := fun e => by have := HV.out.lt n0 e; omega
  have hvg : vk.ownBlock ≠ some g := by rw [HR.out.2.2]; exact HR.out.1.row_ne k (by omega)
  have hfr2 : (w1.drew.alloc (.cells #[.int .i64 xi, .int .i64 xa] 33)).frozen? ⟨g, 2 + k, none⟩ = false := hfd.frozen hfz (by rw [← hn0]; exact hgl) (fun h => h)
  have HF := Aside0.mk (And.intro (blk_lt hnw) (And.intro hg1 (And.intro hfd hfe)))
  have HN := Aside0.mk (And.intro hvn (And.intro hvg hfr2))
  have HW := Aside0.mk (And.intro hn0 hfw)
  clear hnw hfw hfd hfe hgl hng1 hg1 hvn hvg hfr2 hn0 hck hfz
  refine Plan2.region 18 (fun w' => w'.cell? ⟨n0, 0, none⟩ = some (.int .i64 xi) ∧ w'.cell? ⟨n0, 1, none⟩ = some (.int .i64 xa) ∧ w'.cell? ⟨g, 2 + k, none⟩ = some vk) [(0, 0), (1, 0), (2, 1), (3, 0), (4, 0), (5, 0), (6, 1), (7, 0), (8, 0), (9, 0), (10, 0), (11, 1), (12, 1), (15, 0), (16, 0), (13, 2), (14, 2), (17, 0), (18, 2)] (by kernel_rfl) (by kernel_rfl) (fun _ _ d _ _ h => by cases d <;> exact h) ?_ ?_
  focus (first | exact hK0 | exact hK1 | exact hK2)
  (refine' Plan2.pure (N := (some 4)) rfl (by rfl) rfl ?_ ?_ ?_; rotate_left 2; (focus (intro w'; go_simp; exact Plan2.isV)); (focus (simp only [Act.put, List.setIfInBounds_toArray, List.set_cons_zero, List.set_cons_succ]; rfl)))
  (refine' Plan2.pure (N := (some 5)) rfl (by rfl) rfl ?_ ?_ ?_; rotate_left 2; (focus (intro w'; go_simp; exact Plan2.isV)); (focus (simp only [Act.put, List.setIfInBounds_toArray, List.set_cons_zero, List.set_cons_succ]; rfl)))
  (refine' Plan2.load (N := (some 6)) rfl (by rfl) rfl ?_ ?_ ?_; rotate_left 2; (focus (intro w' hS; (try dsimp only at hS); go_simp; exact Plan2.isV)); (focus (simp only [Act.put, List.setIfInBounds_toArray, List.set_cons_zero, List.set_cons_succ]; rfl)))
  (refine' Plan2.pure (N := (some 7)) rfl (by rfl) rfl ?_ ?_ ?_; rotate_left 2; (focus (intro w'; go_simp; exact Plan2.isV)); (focus (simp only [Act.put, List.setIfInBounds_toArray, List.set_cons_zero, List.set_cons_succ]; rfl)))
  (refine' Plan2.pure (N := (some 8)) rfl (by rfl) rfl ?_ ?_ ?_; rotate_left 2; (focus (intro w'; go_simp; exact Plan2.isV)); (focus (simp only [Act.put, List.setIfInBounds_toArray, List.set_cons_zero, List.set_cons_succ]; rfl)))
  (refine' Plan2.pure (N := (some 9)) rfl (by rfl) rfl ?_ ?_ ?_; rotate_left 2; (focus (intro w'; go_simp; exact Plan2.isV)); (focus (simp only [Act.put, List.setIfInBounds_toArray, List.set_cons_zero, List.set_cons_succ]; rfl)))
  (refine' Plan2.load (N := (some 10)) rfl (by rfl) rfl ?_ ?_ ?_; rotate_left 2; (focus (intro w' hS; (try dsimp only at hS); go_simp; exact Plan2.isV)); (focus (simp only [Act.put, List.setIfInBounds_toArray, List.set_cons_zero, List.set_cons_succ]; rfl)))
  (refine' Plan2.pure (N := (some 11)) rfl (by rfl) rfl ?_ ?_ ?_; rotate_left 2; (focus (intro w'; go_simp; exact Plan2.isV)); (focus (simp only [Act.put, List.setIfInBounds_toArray, List.set_cons_zero, List.set_cons_succ]; rfl)))
  (refine' Plan2.pure (N := (some 12)) rfl (by rfl) rfl ?_ ?_ ?_; rotate_left 2; (focus (intro w'; go_simp; exact Plan2.isV)); (focus (simp only [Act.put, List.setIfInBounds_toArray, List.set_cons_zero, List.set_cons_succ]; rfl)))
  (refine' Plan2.pure (N := (some 13)) rfl (by rfl) rfl ?_ ?_ ?_; rotate_left 2; (focus (intro w'; go_simp; exact Plan2.isV)); (focus (simp only [Act.put, List.setIfInBounds_toArray, List.set_cons_zero, List.set_cons_succ]; rfl)))
  (refine' Plan2.pure (N := (some 14)) rfl (by rfl) rfl ?_ ?_ ?_; rotate_left 2; (focus (intro w'; go_simp; exact Plan2.isV)); (focus (simp only [Act.put, List.setIfInBounds_toArray, List.set_cons_zero, List.set_cons_succ]; rfl)))
  (refine' Plan2.load (N := (some 15)) rfl (by rfl) rfl ?_ ?_ ?_; rotate_left 2; (focus (intro w' hS; (try dsimp only at hS); go_simp; exact Plan2.isV)); (focus (simp only [Act.put, List.setIfInBounds_toArray, List.set_cons_zero, List.set_cons_succ]; rfl)))
  (refine' Plan2.load (N := (some 16)) rfl (by rfl) rfl ?_ ?_ ?_; rotate_left 2; (focus (intro w' hS; (try dsimp only at hS); go_simp; exact Plan2.isV)); (focus (simp only [Act.put, List.setIfInBounds_toArray, List.set_cons_zero, List.set_cons_succ]; rfl)))
  (refine' Plan2.pure (N := (some 19)) rfl (by rfl) rfl ?_ ?_ ?_; rotate_left 2; (focus (intro w'; go_simp; exact Plan2.isV)); (focus (simp only [Act.put, List.setIfInBounds_toArray, List.set_cons_zero, List.set_cons_succ]; rfl)))
  (refine' Plan2.pure (N := (some 20)) rfl (by rfl) rfl ?_ ?_ ?_; rotate_left 2; (focus (intro w'; go_simp; exact Plan2.isV)); (focus (simp only [Act.put, List.setIfInBounds_toArray, List.set_cons_zero, List.set_cons_succ]; rfl)))
  (refine' Plan2.acts (past' := false) rfl (by rfl) rfl (fun K hK => ?_); go_simp; have hK1 := put_cells (HF.out.2.2.2) (fun h => h) (fun h => h) HF.out.1 HF.out.2.1 hK0; (refine hK.out _ _ (fun hp => ?_) (fun hS => ?_)); (focus (clear hp; (first | exact hK0 | exact hK1 | exact hK2))))
  (refine' Plan2.acts (past' := false) rfl (by rfl) rfl (fun K hK => ?_); (refine app_step vk (.slice (some ⟨w1.heap.size, 0, none⟩) 1 1) (C k) [⟨xi, xa⟩] 1 (HV.out.frame HF.out.2.2.1 (fun _ _ h => h)) rfl (src_new w1.drew ⟨xi, xa⟩) (by simp; omega) rfl rfl rfl ?_); intro v1 w2 ho2 hf2 hl2; obtain ⟨A1, c1, rfl, _, _⟩ := ho2.len; have hK2 := put_cells hf2 HN.out.1 HN.out.2.1 (Nat.lt_of_lt_of_le HF.out.1 HF.out.2.2.2.size) (Nat.lt_of_lt_of_le HF.out.2.1 HF.out.2.2.2.size) hK1; have z2 := hf2.frozen HN.out.2.2 (Nat.lt_of_lt_of_le HF.out.2.1 HF.out.2.2.2.size) HN.out.2.1; have H2 := Aside0.mk (And.intro ho2 (And.intro hf2 hl2)); clear ho2 hf2 hl2; (refine hK.out _ _ (fun hp => ?_) (fun hS => ?_)); (focus (clear hp; (first | exact hK0 | exact hK1 | exact hK2))))
  (refine' Plan2.pure (N := (some 21)) rfl (by rfl) rfl ?_ ?_ ?_; rotate_left 2; (focus (intro w'; go_simp; exact Plan2.isV)); (focus (simp only [Act.put, List.setIfInBounds_toArray, List.set_cons_zero, List.set_cons_succ]; rfl)))
  (refine' Plan2.acts (past' := true) rfl (by rfl) rfl (fun K hK => ?_); go_simp; (refine hK.out _ _ (fun hp => ?_) (fun hS => ?_)); (focus (cases hp)))
  refine Plan2.done ?_
  go_end0
  obtain ⟨hr, hbm, hvk⟩ := HR.out
  obtain ⟨ho2, hf2, hl2⟩ := H2.out
  have hd : (⟨xi, xa⟩ : Du) = d := by rw [HX.out.1, HX.out.2]
  rw [hd] at ho2 hl2
  have hl : (C k ++ [d]).length = (C k).length + 1 := by simp
  rw [hl] at hl2
  rw [hl] at ho2
  have hfA : Fr (fun j => vk.ownBlock = some j) w w2 := (HF.out.2.2.1.mono (fun _ _ h => h.elim)).trans hf2 (fun j h => .inl h)
  have hszw : w.heap.size ≤ (w1.drew.alloc (.cells #[.int .i64 xi, .int .i64 xa] 33)).heap.size := HF.out.2.2.1.size
  refine ⟨rfl, _, _, hr.put k (by omega) hfA (fun j _ h => by rw [← hvk]; exact h) _ (C k ++ [d]) ho2 (fun b hb => ?_), ?_, fun j hj => hj.imp id (fun h => h.1)⟩
  · rw [← hvk]
    rcases hl2 with e | ⟨b', e, hle⟩
    · exact .inl (by rw [← e]; exact hb)
    · rw [hb] at e; injection e with e; subst e; exact .inr (Nat.le_trans hszw hle)
  · exact Fr.setCell (p := ⟨g, 2 + k, none⟩) (hfA.mono (fun j _ h => ⟨hr.fr k j (by omega) (by rw [← hvk]; exact h), fun e => hbm.2 k (by omega) (by rw [← hvk, ← e]; exact h)⟩)) (.inl ⟨hr.fg, hbm.1⟩) _
theorem put_any (w : World) (F : Nat → Prop) (g bm : Nat) (now : Int) (R : Nat → Value) (C : Nat → List Du) (d : Du) (k : Nat) (hr : Raw w F g bm now R C) (hbm : g ≠ bm ∧ ∀ i, i < 65 → (R i).ownBlock ≠ some bm) (hk : k < 64) (hdk : d.at_ % 64 = k) (hd0 : 0 ≤ d.at_) (hlen : (C k).length ≤ 4096) :
    Calls Try.prog 30 #[.pointer (some ⟨g, 2, none⟩), due d] w (PutPost w F g bm now (upd C k (C k ++ [d]))) := put_big w F g bm now R C d k hr hbm hk hdk hd0 (by omega)
end Go.Proofs.Ytodgcfkdnellpaa
