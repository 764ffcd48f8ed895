/- Wheel: rows of things that are due, at any offset of their block; append and copy. -/
import Derived.Test.YtodgcfkdnellpaaH
import Derived.Test.YtodgcfkdnellpaaProg
import Derived.Deep.Upon
import Derived.WalkKit
set_option linter.unusedSimpArgs false
set_option linter.unusedVariables false
namespace Go.Proofs.Ytodgcfkdnellpaa
open Go.RowKit Go.Proofs.YtodgcfkdnellpaaW.PrintWords
structure Du where
  id : Int
  at_ : Int
deriving DecidableEq, Inhabited
def Du.cells (d : Du) : List Value := [.int .i64 d.id, .int .i64 d.at_]
def cellsL (l : List Du) : List Value := l.flatMap Du.cells
theorem cellsL_cons (a : Du) (t : List Du) : cellsL (a :: t) = .int .i64 a.id :: .int .i64 a.at_ :: cellsL t := rfl
theorem cellsL_length (l : List Du) : (cellsL l).length = l.length * 2 := by
  induction l with
  | nil => rfl
  | cons a t ih => rw [cellsL_cons, List.length_cons, List.length_cons, ih, List.length_cons]; omega
theorem cellsL_append (a b : List Du) : cellsL (a ++ b) = cellsL a ++ cellsL b := by simp [cellsL]
theorem cellsL_one (l : List Du) : ∀ u ∈ cellsL l, u.oneCell' = true := by
  induction l with
  | nil => simp [cellsL]
  | cons a t ih =>
    intro u hu
    rw [cellsL_cons] at hu
    simp only [List.mem_cons] at hu
    rcases hu with rfl | rfl | hu
    · rfl
    · rfl
    · exact ih u hu
theorem cellsL_at : ∀ (l : List Du) (i : Nat) (h : i < l.length), (cellsL l)[i * 2]? = some (.int .i64 l[i].id) ∧ (cellsL l)[i * 2 + 1]? = some (.int .i64 l[i].at_)
  | a :: t, 0, _ => ⟨rfl, rfl⟩
  | a :: t, i + 1, h => by
    have := cellsL_at t i (by simpa using h)
    rw [cellsL_cons]
    rw [show (i + 1) * 2 = i * 2 + 1 + 1 by omega]
    exact this
theorem cellsL_take (l : List Du) (n : Nat) : (cellsL l).take (n * 2) = cellsL (l.take n) := by
  induction l generalizing n with
  | nil => simp [cellsL]
  | cons a t ih =>
    cases n with
    | zero => simp [cellsL]
    | succ n =>
      rw [List.take_succ_cons, cellsL_cons, cellsL_cons, ← ih n, show (n + 1) * 2 = n * 2 + 1 + 1 by omega, List.take_succ_cons, List.take_succ_cons]
theorem cellsL_drop (l : List Du) (n : Nat) : (cellsL l).drop (n * 2) = cellsL (l.drop n) := by
  induction l generalizing n with
  | nil => simp [cellsL]
  | cons a t ih =>
    cases n with
    | zero => simp [cellsL]
    | succ n =>
      rw [List.drop_succ_cons, cellsL_cons, ← ih n, show (n + 1) * 2 = n * 2 + 1 + 1 by omega, List.drop_succ_cons, List.drop_succ_cons]
/-- v is a row of l, in a block of its own, at any offset -/
def ORow (w : World) (v : Value) (l : List Du) : Prop :=
  (v = .slice none 0 0 ∧ l = []) ∨ ∃ b off c cur, v = .slice (some ⟨b, off, none⟩) l.length c ∧ w.heap[b]? = some (.cells cur 33 (0, 0)) ∧ l.length ≤ c ∧ c ≤ maxLen ∧ off + c * 2 ≤ cur.size ∧ (cur.toList.drop off).take (l.length * 2) = cellsL l
theorem ORow.nil (w : World) : ORow w (.slice none 0 0) [] := .inl ⟨rfl, rfl⟩
theorem ORow.of {w : World} {v : Value} {l : List Du} (h : w.ownsRow 0 33 2 v l.length (cellsL l)) : ORow w v l := by
  rcases h.2 with ⟨h1, h2⟩ | ⟨b, c, cur, h1, _, h2, h3, h4, h5, h6⟩
  · exact .inl ⟨h1, List.eq_nil_of_length_eq_zero h2⟩
  · exact .inr ⟨b, 0, c, cur, h1, h2, h3, h4, by omega, by simpa using h6⟩
theorem ORow.len {w : World} {v : Value} {l : List Du} (h : ORow w v l) : ∃ a c, v = .slice a l.length c ∧ l.length ≤ c ∧ c ≤ maxLen := by
  rcases h with ⟨rfl, rfl⟩ | ⟨b, off, c, cur, rfl, _, h1, h2, _⟩
  · exact ⟨none, 0, rfl, Nat.le_refl _, by decide⟩
  · exact ⟨_, c, rfl, h1, h2⟩
theorem ORow.lt {w : World} {v : Value} {l : List Du} (h : ORow w v l) : ∀ k, v.ownBlock = some k → k < w.heap.size := by
  intro k hk
  rcases h with ⟨rfl, rfl⟩ | ⟨b, off, c, cur, rfl, hb, _⟩
  · simp [Value.ownBlock] at hk
  · simp [Value.ownBlock] at hk; subst hk; exact blk_lt hb
theorem ORow.frame {S : Nat → Prop} {w w1 : World} {v : Value} {l : List Du} (hf : Fr S w w1) (h : ORow w v l) (hn : ∀ k, v.ownBlock = some k → ¬ S k) : ORow w1 v l := by
  rcases h with h | ⟨b, off, c, cur, rfl, hb, h⟩
  · exact .inl h
  · exact .inr ⟨b, off, c, cur, rfl, hf.blk hb (hn b rfl), h⟩
theorem ORow.cell {w : World} {b off c n : Nat} {l : List Du} (h : ORow w (.slice (some ⟨b, off, none⟩) n c) l) : ∀ (j : Nat) (u : Value), (cellsL l)[j]? = some u → w.cell? ⟨b, off + j, none⟩ = some u := by
  intro j u hj
  rcases h with ⟨h, _⟩ | ⟨b', off', c', cur, he, hb, h1, h2, h3, h4⟩
  · cases h
  · injection he with he _ _
    injection he with he
    injection he with e1 e2 _
    subst e1; subst e2
    rw [blk_cell hb, ← Array.getElem?_toList]
    rw [← h4, List.getElem?_take] at hj
    split at hj
    · rwa [List.getElem?_drop] at hj
    · cases hj
theorem ORow.cellsAt {w : World} {b off c n : Nat} {l : List Du} (h : ORow w (.slice (some ⟨b, off, none⟩) n c) l) (i : Nat) (hi : i < l.length) : w.cell? ⟨b, off + i * 2, none⟩ = some (.int .i64 l[i].id) ∧ w.cell? ⟨b, off + i * 2 + 1, none⟩ = some (.int .i64 l[i].at_) := by
  have := cellsL_at l i hi
  exact ⟨h.cell _ _ this.1, by rw [Nat.add_assoc]; exact h.cell _ _ this.2⟩
/-- a slice's head and tail -/
theorem ORow.tail {w : World} {b off c n : Nat} {l : List Du} (h : ORow w (.slice (some ⟨b, off, none⟩) n c) l) (k : Nat) (hk : k ≤ l.length) : ORow w (.slice (some ⟨b, off + k * 2, none⟩) (n - k) (c - k)) (l.drop k) := by
  rcases h with ⟨h, _⟩ | ⟨b', off', c', cur, he, hb, h1, h2, h3, h4⟩
  · cases h
  · injection he with he e3 e4
    injection he with he
    injection he with e1 e2 _
    subst e1; subst e2; subst e3; subst e4
    refine .inr ⟨b, off + k * 2, c - k, cur, by simp, hb, by simp; omega, by omega, by omega, ?_⟩
    rw [← cellsL_drop, ← h4, List.length_drop, List.drop_take, List.drop_drop]
    congr 1
    omega
theorem ORow.head {w : World} {b off c n : Nat} {l : List Du} (h : ORow w (.slice (some ⟨b, off, none⟩) n c) l) (k : Nat) (hk : k ≤ l.length) : ORow w (.slice (some ⟨b, off, none⟩) k c) (l.take k) := by
  rcases h with ⟨h, _⟩ | ⟨b', off', c', cur, he, hb, h1, h2, h3, h4⟩
  · cases h
  · injection he with he e3 e4
    injection he with he
    injection he with e1 e2 _
    subst e1; subst e2; subst e3; subst e4
    refine .inr ⟨b, off, c, cur, by simp; omega, hb, by simp; omega, by omega, h3, ?_⟩
    rw [← cellsL_take, ← h4, List.length_take, List.take_take]
    congr 1
    omega
theorem info33 : (Try.prog.info? 33).map (fun i => (i.zero, i.size, i.bytes)) = some (some (.agg #[(.int .i64 0), (.int .i64 0)]), 2, 16) := by kernel_rfl
theorem src_orow {w : World} {v : Value} {l : List Du} (h : ORow w v l) : Src Try.prog 2 29 v l.length (cellsL l) w := by
  rcases h with ⟨rfl, rfl⟩ | ⟨b, off, c, cur, rfl, hb, h1, h2, h3, h4⟩
  · exact Src.ofNil w Try.underlying29 0
  · refine Src.ofSlice w Try.underlying29 _ _ _ _ (cellsL_length l) (fun j u hj => ?_) (cellsL_one l)
    rw [Addr.add_lit]
    exact ORow.cell (.inr ⟨b, off, c, cur, rfl, hb, h1, h2, h3, h4⟩) j u hj
theorem app_orow (W : World) (v x : Value) (l ys : List Du) (n : Nat) (h : ORow W v l) (hn : ys.length = n) (hs : Src Try.prog 2 29 x n (cellsL ys) W) (hl : (l.length + ys.length) * 16 ≤ 140737488355328) (ty : TypeId) :
    ∃ v1 w1, (Builtin.append_ #[29, 29] ty #[v, x]).run Try.prog W = .ok v1 w1 ∧ ORow w1 v1 (l ++ ys) ∧ Fr (fun k => v.ownBlock = some k) W w1 ∧ (v1.ownBlock = v.ownBlock ∨ ∃ b, v1.ownBlock = some b ∧ W.heap.size ≤ b) := by
  obtain ⟨i0, hi, hzz⟩ := Option.map_eq_some_iff.1 info33
  simp only [Prod.mk.injEq] at hzz
  obtain ⟨hz0, hz1, hz2⟩ := hzz
  have hmx : maxLen = 9223372036854775807 := by decide
  obtain ⟨a, c, hv, hlc, hcm⟩ := h.len
  by_cases h0 : n = 0
  · obtain rfl : ys = [] := List.eq_nil_of_length_eq_zero (by omega)
    subst h0
    rw [← hz1] at hs
    have hr := run_append_nothing W 29 29 ty 33 i0 Try.underlying29 hi a l.length c hlc x hs
    refine ⟨v, W, by rw [hv]; exact hr, by simpa using h, Fr.refl _ _, .inl rfl⟩
  · have grow : c < l.length + n → (∀ W', W'.heap = W.heap → (Builtin.firstCells i0.size l.length v).run Try.prog W' = .ok (cellsL l).toArray W') → ∃ v1 w1, (Builtin.append_ #[29, 29] ty #[v, x]).run Try.prog W = .ok v1 w1 ∧ ORow w1 v1 (l ++ ys) ∧ Fr (fun k => v.ownBlock = some k) W w1 ∧ (v1.ownBlock = v.ownBlock ∨ ∃ b, v1.ownBlock = some b ∧ W.heap.size ≤ b) := by
      intro hg hold
      have hfit : Builtin.nextslicecap (l.length + n) c * i0.bytes ≤ 281474976710656 := by
        rw [hz2]
        have := nextslicecap_le (need := l.length + n) (old := c) hg
        have h3 : Builtin.nextslicecap (l.length + n) c * 16 ≤ 2 * (l.length + n) * 16 := Nat.mul_le_mul_right _ this
        omega
      have hs' : Src Try.prog i0.size 29 x n (cellsL ys) W := by rw [hz1]; exact hs
      have hr := run_append_grow_src W 29 29 ty 33 i0 _ Try.underlying29 hi hz0 a l.length c (cellsL l) (by rw [← hv]; exact hold W.drew rfl) x n (cellsL ys) hs' hg (by omega) hfit
      rw [← hv] at hr
      have hge := grownCap_ge W (l.length + n) c 33
      have hcm' : grownCap W (l.length + n) c 33 ≤ maxLen := grownCap_le_maxLen W (l.length + n) c 33 (by omega)
      refine ⟨_, _, hr, .inr ⟨W.heap.size, 0, grownCap W (l.length + n) c 33, _, by rw [List.length_append, hn], heap_alloc_new W.drew _, by rw [List.length_append, hn]; exact hge, hcm', ?_, ?_⟩, ((Fr.refl _ W).drew).alloc _, .inr ⟨_, rfl, Nat.le_refl _⟩⟩
      · simp only [Array.size_append, List.size_toArray, size_zeroCells, List.length_append, cellsL_length, hn]
        have : (Value.cells (.agg #[(.int .i64 0), (.int .i64 0)])).size = 2 := rfl
        rw [this]
        omega
      · rw [List.drop_zero, Array.toList_append, List.length_append, cellsL_append]
        have e : (l.length + ys.length) * 2 = (cellsL l ++ cellsL ys).length := by simp [cellsL_length]; omega
        rw [e]
        exact List.take_left
    have hh := h
    rcases h with ⟨rfl, rfl⟩ | ⟨b, off, c', cur, rfl, hb, h1, h2, h3, h4⟩
    · injection hv with e1 e2 e3
      refine grow (by rw [← e3]; simp; omega) (fun W' _ => run_firstCells_none W' _ _ _ _)
    · injection hv with e1 e2 e3
      subst e3
      by_cases hroom : l.length + n ≤ c'
      · have hs' : Src Try.prog i0.size 29 x n (cellsL ys) W := by rw [hz1]; exact hs
        have hyl := cellsL_length ys
        have hr := run_append_room_src W 29 29 ty 33 i0 Try.underlying29 hi b off l.length c' x n (cellsL ys) hs' hroom
          (fun j hj => by
            rw [hz1, blk_cell hb, Array.getElem?_eq_getElem (by omega)]; rfl)
          (fun j hj => blk_frozen hb _)
        rw [hz1] at hr
        obtain ⟨cur', g1, g2, g3⟩ := setCells_row (cellsL ys) (off + l.length * 2) W cur hb (by omega)
        obtain ⟨s1, s2, s3, s4⟩ := setCells_same b (cellsL ys) (off + l.length * 2) W
        refine ⟨_, _, hr, .inr ⟨b, off, c', cur', by rw [List.length_append, hn], g1, by rw [List.length_append, hn]; exact hroom, h2, by rw [g2]; exact h3, ?_⟩, ⟨s1, s2, s3, by rw [s4]; exact Nat.le_refl _, fun k hk hne => setCells_far _ _ k (fun e => hne (by rw [e]; rfl))⟩, .inl rfl⟩
        have hcl : (cellsL l).length = l.length * 2 := cellsL_length l
        rw [g3, cellsL_append, ← h4, List.append_assoc, List.drop_append_of_le_length (by simp; omega), List.drop_take, show off + l.length * 2 - off = l.length * 2 by omega]
        rw [h4, List.length_append, ← List.append_assoc]
        have e : (l.length + ys.length) * 2 = (cellsL l ++ cellsL ys).length := by simp [cellsL_length]; omega
        rw [e]
        exact List.take_left
      · refine grow (by omega) (fun W' hW => ?_)
        refine run_firstCells_some W' i0.size l.length ⟨b, off, none⟩ _ _ (cellsL l) (by rw [hz1]; exact cellsL_length l) (fun j u hj => ?_)
        rw [Addr.add_lit]
        have := hh.cell j u hj
        simp only [World.cell?, hW] at this ⊢
        exact this
end Go.Proofs.Ytodgcfkdnellpaa
