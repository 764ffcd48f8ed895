/- Wheel: Advance, first part: the spokes. -/
import Derived.Test.YtodgcfkdnellpaaB8
import Derived.Test.YtodgcfkdnellpaaB5
set_option linter.unusedSimpArgs false
set_option linter.unusedVariables false
namespace Go.Proofs.Ytodgcfkdnellpaa
open Go.RowKit Go.Proofs.YtodgcfkdnellpaaW.PrintWords
section
variable {w w1 : World} {F F' : Nat → Prop} {g bm : Nat} {now : Int} {R : Nat → Value} {C : Nat → List Du}
theorem Raw.shrink (h : Raw w F g bm now R C) (hg : F' g) (hm : F' bm) (hr : ∀ i b, i < 65 → (R i).ownBlock = some b → F' b) (hl : ∀ k, F' k → k < w.heap.size) : Raw w F' g bm now R C :=
  ⟨h.blk, h.row, h.apart, hg, hm, hr, hl⟩
/-- a row is struck out -/
theorem Raw.strike (h : Raw w F g bm now R C) (i : Nat) (hi : i < 65) {S : Nat → Prop} (hf : Fr S w w1) (hS : ∀ k, F k → ¬ S k) : Raw (w1.setCell ⟨g, 2 + i, none⟩ (.slice none 0 0)) F g bm now (upd R i (.slice none 0 0)) (upd C i []) := by
  have hp := h.put i hi hf (fun k hk hs => absurd hs (hS k hk)) (.slice none 0 0) [] (ORow.nil _) (fun b hb => by cases hb)
  refine hp.shrink h.fg h.fm (fun j b hj hb => ?_) (fun k hk => ?_)
  · by_cases hji : j = i
    · subst hji; rw [upd_same] at hb; cases hb
    · rw [upd_ne _ _ hji] at hb; exact h.fr j b hj hb
  · have hsz : (w1.setCell ⟨g, 2 + i, none⟩ (.slice none 0 0)).heap.size = w1.heap.size := by simp [World.setCell]
    rw [hsz]; exact Nat.lt_of_lt_of_le (h.lt k hk) hf.size
/-- the clock goes on -/
theorem Raw.clock (h : Raw w F g bm now R C) (n : Int) : Raw (w.setCell ⟨g, 0, none⟩ (.int .i64 n)) F g bm n R C := by
  obtain ⟨cs, hb, hs, h0, h1, h2⟩ := h.blk
  have hset := blk_set hb 0 (.int .i64 n)
  have hf : Fr (fun k => k = g) w (w.setCell ⟨g, 0, none⟩ (.int .i64 n)) := Fr.setCell (S := fun k => k = g) (p := ⟨g, 0, none⟩) (Fr.refl _ w) (.inl rfl) _
  refine ⟨⟨_, hset, by simpa using hs, ?_, ?_, fun j hj => ?_⟩, fun j hj => (h.row j hj).frame hf (fun k hk e => h.row_ne j hj (by rw [hk, e])), h.apart, h.fg, h.fm, h.fr, fun k hk => Nat.lt_of_lt_of_le (h.lt k hk) hf.size⟩
  · rw [Array.getElem?_setIfInBounds, if_pos rfl, if_pos (by omega)]
  · rw [Array.getElem?_setIfInBounds, if_neg (by omega)]; exact h1
  · rw [Array.getElem?_setIfInBounds, if_neg (by omega)]; exact h2 j hj
end
/-- the first loop: the spokes of the ticks that are over -/
structure AdvI (w wr : World) (F : Nat → Prop) (g bm : Nat) (now : Int) (C : Nat → List Du) (n : Nat) (v : Value) : Prop where
  acc : ORow wr v (spA now C n)
  own : ∀ b, v.ownBlock = some b → w.heap.size ≤ b
  raw : ∃ R', Raw wr F g bm now R' (spC now C n)
  fr : Fr (fun k => F k ∧ k ≠ bm) w wr
def AdvA (w : World) (F : Nat → Prop) (g bm : Nat) (now : Int) (C : Nat → List Du) (N : Nat) (v6 v7 v8 : Value) (wr : World) : Prop := ∃ n : Nat, n ≤ N ∧ v7 = .int .i64 (now + 1 + n) ∧ AdvI w wr F g bm now C n v6
theorem AdvI.start {w : World} {F : Nat → Prop} {g bm : Nat} {now : Int} {R : Nat → Value} {C : Nat → List Du} (h : Raw w F g bm now R C) : AdvI w w F g bm now C 0 (.slice none 0 0) :=
  ⟨ORow.nil _, (fun b hb => by cases hb), ⟨R, h⟩, Fr.refl _ _⟩
theorem AdvI.step {w wr w1 : World} {F : Nat → Prop} {g bm : Nat} {now : Int} {C : Nat → List Du} {n : Nat} {v v1 : Value} {R' : Nat → Value} (h : AdvI w wr F g bm now C n v) (hlt : ∀ k, F k → k < w.heap.size) (hgb : g ≠ bm) (hr : Raw wr F g bm now R' (spC now C n)) (ho : ORow w1 v1 (spA now C n ++ spC now C n (tick now n))) (hf : Fr (fun k => v.ownBlock = some k) wr w1) (hl : v1.ownBlock = v.ownBlock ∨ ∃ b, v1.ownBlock = some b ∧ wr.heap.size ≤ b) :
    AdvI w (w1.setCell ⟨g, 2 + tick now n, none⟩ (.slice none 0 0)) F g bm now C (n + 1) v1 := by
  have hown : ∀ b, v1.ownBlock = some b → w.heap.size ≤ b := fun b hb => by
    rcases hl with e | ⟨b', e, hle⟩
    · exact h.own b (by rw [← e]; exact hb)
    · rw [hb] at e; injection e with e; subst e; exact Nat.le_trans h.fr.size hle
  have hno : ∀ k, F k → ¬ v.ownBlock = some k := fun k hk e => by have := h.own k e; have := hlt k hk; omega
  have hgs : Fr (fun k => k = g) w1 (w1.setCell ⟨g, 2 + tick now n, none⟩ (.slice none 0 0)) := Fr.setCell (S := fun k => k = g) (p := ⟨g, 2 + tick now n, none⟩) (Fr.refl _ w1) (.inl rfl) _
  refine ⟨ho.frame hgs (fun k hk e => ?_), hown, ⟨_, hr.strike (tick now n) (by have := tick_lt now n; omega) hf hno⟩, ?_⟩
  · have := hown k hk; have := hlt g hr.fg; omega
  · refine (h.fr.trans hf (fun k hk => .inr (h.own k hk))).setCell (p := ⟨g, 2 + tick now n, none⟩) (.inl ⟨hr.fg, hgb⟩) _
end Go.Proofs.Ytodgcfkdnellpaa
