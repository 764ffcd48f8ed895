/- Wheel: what is taken out: the closure, slices.IndexFunc, slices.DeleteFunc. -/
import Derived.Test.YtodgcfkdnellpaaA3
import Derived.Lib.SliceRun
import Derived.Shelf.SlicesE.DeleteFunc
import Derived.Deep.LoopGhost
set_option linter.unusedSimpArgs false
set_option linter.unusedVariables false
namespace Go.Proofs.Ytodgcfkdnellpaa
open Go.RowKit Go.Proofs.YtodgcfkdnellpaaW.PrintWords
theorem eg39 : ∀ args w, (callFunc 39 args).run Try.prog w = .ok (.enter 39 args) w := enters_of Try.func39 (by kernel_rfl) rfl
def isDu (d x : Du) : Bool := decide (x = d)
theorem isDu_eq (d x : Du) : isDu d x = (decide (x.id = d.id) && decide (x.at_ = d.at_)) := by
  unfold isDu
  rw [← Bool.decide_and, decide_eq_decide]
  cases x; cases d; simp
theorem ret_bool {a b : Bool} (h : a = b) : Ending.returned (.bool a) = .returned (.bool b) := by rw [h]
set_option maxHeartbeats 1000000 in
set_option maxRecDepth 100000 in
theorem take1_any (x d : Du) (k : Nat) (W : World) (hk : k < W.heap.size) (h0 : W.cell? ⟨k, 0, none⟩ = some (.int .i64 d.id)) (h1 : W.cell? ⟨k, 1, none⟩ = some (.int .i64 d.at_)) :
    Calls Try.prog 39 #[due x, .pointer (some ⟨k, 0, none⟩)] W fun e w' => e = .returned (.bool (isDu d x)) ∧ Gr W w' := by
  unfold due
  have hb := isDu_eq d x
  generalize isDu d x = b at *
  generalize x.id = xi at *
  generalize x.at_ = xa at *
  generalize d.id = di at *
  generalize d.at_ = da at *
  have HB := Aside0.mk hb; clear hb
  go_enter Try.func39, Try.ntmps39
  go_wp2
  · go_ret
    exact ⟨ret_bool (by rw [HB.out]; simp [*]), (Gr.refl W).alloc _⟩
  all_goals
    go_ret
    exact ⟨ret_bool (by rw [HB.out]; simp [*]), (Gr.refl W).alloc _⟩
theorem Gr.below {w w' : World} (h : Gr w w') : Below w.heap.size w w' := (h.fr SNo).to_below (fun _ _ h => h)
def keepD (d x : Du) : Bool := !isDu d x
theorem index_del (w : World) (b off c k : Nat) (d : Du) (l : List Du) (h : ORow w (.slice (some ⟨b, off, none⟩) l.length c) l) (hk : k < w.heap.size) (h0 : w.cell? ⟨k, 0, none⟩ = some (.int .i64 d.id)) (h1 : w.cell? ⟨k, 1, none⟩ = some (.int .i64 d.at_)) :
    Calls Try.prog 52 #[.slice (some ⟨b, off, none⟩) l.length c, .func (.func 39) #[] #[.pointer (some ⟨k, 0, none⟩)]] w fun e w' => ∃ r : Int, e = .returned (.int .i64 r) ∧ Below w.heap.size w w' ∧ ((r = -1 ∧ ∀ x ∈ l, keepD d x = true) ∨ ∃ j, ∃ hj : j < l.length, r = j ∧ keepD d l[j] = false ∧ ∀ i (hi : i < j), keepD d (l[i]'(by omega)) = true) := by
  have hlm : l.length ≤ maxLen := by obtain ⟨a, c', e, h2, h3⟩ := h.len; omega
  have hcon := AnyQ.slices_IndexFunc Try.indexL 2 (fun w => by kernel_rfl) (fun w => by kernel_rfl) Du.cells (fun _ => rfl) (isDu d) 39 #[.pointer (some ⟨k, 0, none⟩)] eg39 b off l.length c l w
    (fun W x hB => (take1_any x d k W (Nat.lt_of_lt_of_le hk hB.size) ((hB.cell (p := ⟨k, 0, none⟩) hk).trans h0) ((hB.cell (p := ⟨k, 1, none⟩) hk).trans h1)).mono fun e w' ⟨he, hg⟩ => ⟨he, hB.trans (hg.below.mono hB.size)⟩)
    (Nat.le_refl _) (by unfold maxLen at hlm; omega) (h.lt b rfl) (fun j hj i v hv => by
      rw [getElem!_pos l j hj] at hv
      have := h.cellsAt j hj
      match i, hv with
      | 0, hv => obtain rfl : .int .i64 l[j].id = v := by simpa [Du.cells] using hv
                 exact this.1
      | 1, hv => obtain rfl : .int .i64 l[j].at_ = v := by simpa [Du.cells] using hv
                 exact this.2
      | i + 2, hv => simp [Du.cells] at hv)
  refine hcon.mono fun e w' ⟨he, hw⟩ => ⟨_, he, hw, ?_⟩
  rw [List.take_length]
  rcases idxByFrom_spec (fun _ y : Du => isDu d y) default l 0 with ⟨e1, hall⟩ | ⟨j, hj, e1, ht, hall⟩
  · refine .inl ⟨e1, fun x hx => ?_⟩
    obtain ⟨j, hj, rfl⟩ := List.mem_iff_getElem.1 hx
    have := hall j hj
    rw [getElem!_pos l j hj] at this
    simp [keepD, this]
  · rw [getElem!_pos l j hj] at ht
    refine .inr ⟨j, hj, by rw [show Lib.idxBy (fun _ y : Du => isDu d y) l default = _ from e1]; simp, by simpa [keepD] using ht, fun i hi => ?_⟩
    have := hall i hi
    rw [getElem!_pos l i (by omega)] at this
    simpa [keepD] using this
theorem take_keep {d : Du} {l : List Du} {j : Nat} (hj : j < l.length) : (l.take (j + 1)).filter (keepD d) = (l.take j).filter (keepD d) ++ (if keepD d l[j] = true then [l[j]] else []) := by
  rw [List.take_succ_eq_append_getElem hj, List.filter_append]
  congr 1
  cases h : keepD d l[j] <;> simp [h]
theorem list_put (X M R : List Value) (v0 v1 : Value) : (X ++ (M ++ (v0 :: v1 :: R))).take X.length ++ [v0, v1] ++ (X ++ (M ++ (v0 :: v1 :: R))).drop (X.length + 2) = X ++ ([v0, v1] ++ (List.drop 2 (M ++ [v0, v1]) ++ R)) := by
  have e : M ++ (v0 :: v1 :: R) = (M ++ [v0, v1]) ++ R := by simp
  rw [List.take_left, ← List.drop_drop, List.drop_left, e, List.drop_append_of_le_length (by simp), List.append_assoc]
structure DelInv (w wr : World) (b off c : Nat) (d : Du) (l : List Du) (i j : Nat) : Prop where
  fr : Fr (fun k => k = b) w wr
  row : ∃ P M rest, wr.heap[b]? = some (.cells (P ++ (cellsL ((l.take j).filter (keepD d)) ++ (M ++ (cellsL (l.drop j) ++ rest)))).toArray 33 (0, 0)) ∧ P.length = off ∧ ((l.take j).filter (keepD d)).length * 2 + M.length = j * 2 ∧ 0 < M.length ∧ c * 2 ≤ l.length * 2 + rest.length
  len : i = ((l.take j).filter (keepD d)).length
section
variable {w wr : World} {b off c i j : Nat} {d : Du} {l : List Du}
theorem DelInv.grow {w' : World} (h : DelInv w wr b off c d l i j) (hf : Fr SNo wr w') : DelInv w w' b off c d l i j := by
  obtain ⟨P, M, rest, h1, h2⟩ := h.row
  exact ⟨h.fr.trans hf (fun _ h => h.elim), ⟨P, M, rest, hf.blk h1 (fun h => h), h2⟩, h.len⟩
theorem DelInv.lt (h : DelInv w wr b off c d l i j) : i < j := by
  obtain ⟨_, M, _, _, _, h2, h3, _⟩ := h.row
  have := h.len
  omega
theorem DelInv.cell (h : DelInv w wr b off c d l i j) (hj : j < l.length) : wr.cell? ⟨b, off + j * 2, none⟩ = some (.int .i64 l[j].id) ∧ wr.cell? ⟨b, off + j * 2 + 1, none⟩ = some (.int .i64 l[j].at_) := by
  obtain ⟨P, M, rest, h1, h2, h3, h4, h5⟩ := h.row
  have hd : cellsL (l.drop j) = .int .i64 l[j].id :: .int .i64 l[j].at_ :: cellsL (l.drop (j + 1)) := by rw [List.drop_eq_getElem_cons hj, cellsL_cons]
  have hk := cellsL_length ((l.take j).filter (keepD d))
  have hall : ∀ t, t < 2 → wr.cell? ⟨b, off + j * 2 + t, none⟩ = (cellsL (l.drop j))[t]? := fun t ht => by
    rw [blk_cell h1, List.getElem?_toArray, List.getElem?_append_right (by omega), List.getElem?_append_right (by omega), List.getElem?_append_right (by omega), List.getElem?_append_left (by rw [hd]; simp; omega)]
    congr 1
    omega
  exact ⟨by have := hall 0 (by omega); rw [hd] at this; exact this, by have := hall 1 (by omega); rw [hd] at this; exact this⟩
theorem DelInv.cell_i (h : DelInv w wr b off c d l i j) (t : Nat) (ht : t < 2) : (wr.cell? ⟨b, off + i * 2 + t, none⟩).isSome = true := by
  obtain ⟨P, M, rest, h1, h2, h3, h4, h5⟩ := h.row
  have hk := cellsL_length ((l.take j).filter (keepD d))
  have := h.len
  rw [blk_cell h1, List.getElem?_toArray, List.getElem?_eq_getElem (by simp [hk]; omega)]
  rfl
theorem DelInv.skip (h : DelInv w wr b off c d l i j) (hj : j < l.length) (hk : keepD d l[j] = false) : DelInv w wr b off c d l i (j + 1) := by
  obtain ⟨P, M, rest, h1, h2, h3, h4, h5⟩ := h.row
  have ht : (l.take (j + 1)).filter (keepD d) = (l.take j).filter (keepD d) := by rw [take_keep hj, hk]; simp
  refine ⟨h.fr, ⟨P, M ++ [.int .i64 l[j].id, .int .i64 l[j].at_], rest, ?_, h2, by rw [ht]; simp; omega, by simp, h5⟩, by rw [ht]; exact h.len⟩
  have hd : cellsL (l.drop j) = .int .i64 l[j].id :: .int .i64 l[j].at_ :: cellsL (l.drop (j + 1)) := by rw [List.drop_eq_getElem_cons hj, cellsL_cons]
  rw [h1, ht, hd]
  simp only [List.append_assoc, List.cons_append, List.nil_append]
theorem DelInv.keep (h : DelInv w wr b off c d l i j) (hj : j < l.length) (hk : keepD d l[j] = true) : DelInv w (wr.setCells b (off + i * 2) l[j].cells) b off c d l (i + 1) (j + 1) := by
  obtain ⟨P, M, rest, h1, h2, h3, h4, h5⟩ := h.row
  have ht : (l.take (j + 1)).filter (keepD d) = (l.take j).filter (keepD d) ++ [l[j]] := by rw [take_keep hj, hk]; simp
  have hkl := cellsL_length ((l.take j).filter (keepD d))
  have hlen := h.len
  have hd : cellsL (l.drop j) = .int .i64 l[j].id :: .int .i64 l[j].at_ :: cellsL (l.drop (j + 1)) := by rw [List.drop_eq_getElem_cons hj, cellsL_cons]
  obtain ⟨cur', g1, g2, g3⟩ := setCells_row l[j].cells (off + i * 2) wr _ h1 (by simp [hkl, Du.cells]; omega)
  obtain ⟨s1, s2, s3, s4⟩ := setCells_same b l[j].cells (off + i * 2) wr
  refine ⟨⟨s1.trans h.fr.os, s2.trans h.fr.tape, s3.trans h.fr.output, by rw [s4]; exact h.fr.size, fun k hk hn => ?_⟩, ⟨P, List.drop 2 (M ++ [Value.int .i64 l[j].id, Value.int .i64 l[j].at_]), rest, ?_, h2, by rw [ht]; simp; omega, by simp; omega, h5⟩, by rw [ht]; simp; exact hlen⟩
  · rw [setCells_far _ _ k hn]; exact h.fr.block k hk hn
  · rw [g1]
    congr 2
    apply Array.toList_inj.1
    rw [g3, ht, cellsL_append, hd]
    have e1 : off + i * 2 = (P ++ cellsL ((l.take j).filter (keepD d))).length := by rw [List.length_append, h2, hkl, hlen]
    have e2 : l[j].cells.length = 2 := rfl
    have e3 : cellsL [l[j]] = l[j].cells := by simp [cellsL]
    have e4 : P ++ (cellsL ((l.take j).filter (keepD d)) ++ (M ++ (Value.int .i64 l[j].id :: Value.int .i64 l[j].at_ :: cellsL (l.drop (j + 1)) ++ rest))) = (P ++ cellsL ((l.take j).filter (keepD d))) ++ (M ++ (Value.int .i64 l[j].id :: Value.int .i64 l[j].at_ :: (cellsL (l.drop (j + 1)) ++ rest))) := by simp
    rw [e2, e3]
    show List.take _ (P ++ _) ++ _ ++ List.drop _ (P ++ _) = _
    rw [e4, e1]
    have := list_put (P ++ cellsL ((l.take j).filter (keepD d))) M (cellsL (l.drop (j + 1)) ++ rest) (.int .i64 l[j].id) (.int .i64 l[j].at_)
    refine this.trans ?_
    simp [Du.cells]
end
end Go.Proofs.Ytodgcfkdnellpaa
