/- Wheel: two wheels of a call's own. -/
import Derived.Test.YtodgcfkdnellpaaR1
import Derived.Test.YtodgcfkdnellpaaPlan2
set_option linter.unusedSimpArgs false
set_option linter.unusedVariables false
namespace Go.Proofs.Ytodgcfkdnellpaa
open Go.RowKit Go.Proofs.YtodgcfkdnellpaaW.PrintWords
/-- two wheels, apart -/
structure Two (w wr : World) (g1 g2 : Nat) (F1 F2 : Nat → Prop) (n1 : Int) (L1 : List Du) (n2 : Int) (L2 : List Du) : Prop where
  below : Below w.heap.size w wr
  new1 : ∀ k, F1 k → w.heap.size ≤ k
  new2 : ∀ k, F2 k → w.heap.size ≤ k
  is1 : IsW wr F1 g1 n1 L1
  is2 : IsW wr F2 g2 n2 L2
  apart : ∀ k, F1 k → ¬ F2 k
section
variable {w wr w2 : World} {g1 g2 : Nat} {F1 F2 F3 : Nat → Prop} {n1 n2 n3 : Int} {L1 L2 L3 : List Du}
theorem Two.own1 (h : Two w wr g1 g2 F1 F2 n1 L1 n2 L2) : Own w wr F1 := ⟨h.below, h.new1⟩
theorem Two.own2 (h : Two w wr g1 g2 F1 F2 n1 L1 n2 L2) : Own w wr F2 := ⟨h.below, h.new2⟩
theorem Two.turn1 (h : Two w wr g1 g2 F1 F2 n1 L1 n2 L2) (hq : IsW w2 F3 g1 n3 L3) (t : TurnW wr w2 F1 F3) : Two w w2 g1 g2 F3 F2 n3 L3 n2 L2 := by
  have ho := h.own1.turn t
  refine ⟨ho.below, ho.new, h.new2, hq, h.is2.frame t.fr (fun k h2 h1 => h.apart k h1 h2), fun k h3 h2 => ?_⟩
  rcases t.new k h3 with e | e
  · exact h.apart k e h2
  · have := h.is2.lt k h2; omega
theorem Two.turn2 (h : Two w wr g1 g2 F1 F2 n1 L1 n2 L2) (hq : IsW w2 F3 g2 n3 L3) (t : TurnW wr w2 F2 F3) : Two w w2 g1 g2 F1 F3 n1 L1 n3 L3 := by
  have ho := h.own2.turn t
  refine ⟨ho.below, h.new1, ho.new, h.is1.frame t.fr (fun k h1 h2 => h.apart k h1 h2), hq, fun k h1 h3 => ?_⟩
  rcases t.new k h3 with e | e
  · exact h.apart k h1 e
  · have := h.is1.lt k h1; omega
theorem Two.step (h : Two w wr g1 g2 F1 F2 n1 L1 n2 L2) (hb : Below wr.heap.size wr w2) : Two w w2 g1 g2 F1 F2 n1 L1 n2 L2 :=
  ⟨h.below.trans (hb.mono h.below.size), h.new1, h.new2, h.is1.below hb, h.is2.below hb, h.apart⟩
theorem Two.drew (h : Two w wr g1 g2 F1 F2 n1 L1 n2 L2) : Two w wr.drew g1 g2 F1 F2 n1 L1 n2 L2 := h.step (below_drew (Below.refl _ _))
theorem Two.cell (h : Two w wr g1 g2 F1 F2 n1 L1 n2 L2) {p : Addr} {v : Value} (hc : w.cell? p = some v) : wr.cell? p = some v := (h.below.cell (World.block_lt_of_cell? w p hc)).trans hc
theorem Two.new (h1 : Below w.heap.size w wr) (hF1 : ∀ k, F1 k → w.heap.size ≤ k) (h2 : IsW wr F1 g1 n1 L1) (hb : Below wr.heap.size wr w2) (hF2 : ∀ k, F2 k → wr.heap.size ≤ k) (h3 : IsW w2 F2 g2 n2 L2) : Two w w2 g1 g2 F1 F2 n1 L1 n2 L2 :=
  ⟨h1.trans (hb.mono h1.size), hF1, fun k hk => Nat.le_trans h1.size (hF2 k hk), h2.below hb, h3, fun k a b => by have := h2.lt k a; have := hF2 k b; omega⟩
end
/-- so many things have been set, in both -/
def SetsA (w : World) (g1 g2 n : Nat) (v : Value) (wr : World) : Prop := ∃ (i : Nat) (F1 F2 : Nat → Prop) (L : List Du), v = .int .i64 i ∧ i ≤ n ∧ i ≤ 100 ∧ Two w wr g1 g2 F1 F2 0 L 0 L
theorem filter_split {p q : Du → Bool} : ∀ {L : List Du}, L.Pairwise (fun a b => before a b = true) → (∀ a b, before a b = true → p b = true → p a = true) → (∀ a, p a = true → q a = true) → L.filter p ++ (L.filter (fun d => !p d)).filter q = L.filter q
  | [], _, _, _ => rfl
  | a :: t, hs, hp, hq => by
    rw [List.pairwise_cons] at hs
    have ih := filter_split hs.2 hp hq
    by_cases ha : p a = true
    · rw [List.filter_cons_of_pos ha, List.filter_cons_of_neg (by simp [ha]), List.filter_cons_of_pos (hq a ha), List.cons_append, ih]
    · have h0 : t.filter p = [] := List.filter_eq_nil_iff.2 (fun b hb hpb => ha (hp a b (hs.1 b hb) hpb))
      rw [h0, List.nil_append] at ih
      rw [List.filter_cons_of_neg ha, h0, List.nil_append, List.filter_cons_of_pos (by simp [ha]), List.filter_cons, List.filter_cons, ih]
def AdvP (w : World) (F : Nat → Prop) (g : Nat) (tk : Int) (X M : List Du) (e : Ending) (w' : World) : Prop := ∃ A c F', e = .returned (.tuple #[.slice A X.length c, .int .i64 0]) ∧ ORow w' (.slice A X.length c) X ∧ (∀ b, (Value.slice A X.length c).ownBlock = some b → w.heap.size ≤ b ∧ ¬ F' b) ∧ IsW w' F' g tk M ∧ TurnW w w' F F'
theorem adv_to {w : World} {F : Nat → Prop} {g : Nat} {now : Int} {L : List Du} {tk : Int} {X M : List Du} (h : IsW w F g now L) (h1 : now ≤ tk) (h2 : tk ≤ 1099511627776) (hX : X = L.filter (upTo tk)) (hM : M = L.filter (fun d => !upTo tk d)) : Calls Try.prog 12 #[.pointer (some ⟨g, 0, none⟩), .int .i64 tk] w (AdvP w F g tk X M) := by
  refine (adv_ok w F g now L tk h h1 h2).mono ?_
  rintro e w' ⟨v, F', rfl, ho, hn, hq, ht⟩
  rw [← hX] at ho
  rw [← hM] at hq
  obtain ⟨A, c, rfl, _, _⟩ := ho.len
  exact ⟨A, c, F', rfl, ho, hn, hq, ht⟩
theorem IsW.inv {w : World} {F : Nat → Prop} {g : Nat} {now : Int} {L : List Du} (h : IsW w F g now L) : ∃ C, Inv now C L := by
  obtain ⟨bm, R, C, hr, hm, hi⟩ := h
  exact ⟨C, hi⟩
end Go.Proofs.Ytodgcfkdnellpaa
