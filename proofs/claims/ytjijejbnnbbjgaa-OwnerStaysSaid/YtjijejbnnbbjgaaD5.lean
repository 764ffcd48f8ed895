/- The library's sort, of a row of claims of the call's own: behind it the row holds the claims, sorted. -/
import Derived.Test.YtjijejbnnbbjgaaD2
import Derived.Test.YtjijejbnnbbjgaaD3
import Derived.Test.YtjijejbnnbbjgaaShelfP
set_option linter.unusedSimpArgs false
set_option linter.unusedVariables false
namespace Go.Proofs.Ytjijejbnnbbjgaa
open Go.RowKit Go.Sort Go.Lib
def ltC (x y : Int × Int) : Bool := decide (cfC x y < 0)
theorem ltC_iff (x y : Int × Int) : ltC x y = true ↔ y.1 < x.1 ∨ x.1 = y.1 ∧ x.2 < y.2 := by
  unfold ltC cfC
  rw [decide_eq_true_iff]
  constructor
  · intro h
    split at h
    · omega
    · split at h
      · assumption
      · omega
  · intro h
    have hne : ¬ x = y := by intro e; subst e; omega
    rw [if_neg hne, if_pos h]; omega
theorem swoC : SWO (ltOf cfC) where
  irrefl x := by
    have h := ltC_iff x x
    have e : ltOf cfC x x = ltC x x := rfl
    rw [e]; cases h2 : ltC x x with
    | false => rfl
    | true => have := h.1 h2; omega
  trans x y z h1 h2 := by
    have a := (ltC_iff x y).1 h1; have b := (ltC_iff y z).1 h2
    exact (ltC_iff x z).2 (by omega)
  ntrans x y z h1 h2 := by
    have a : ¬ (y.1 < x.1 ∨ x.1 = y.1 ∧ x.2 < y.2) := fun h => by have := (ltC_iff x y).2 h; rw [show ltC x y = false from h1] at this; cases this
    have b : ¬ (z.1 < y.1 ∨ y.1 = z.1 ∧ y.2 < z.2) := fun h => by have := (ltC_iff y z).2 h; rw [show ltC y z = false from h2] at this; cases this
    have c : ¬ ltC x z = true := fun h => by have := (ltC_iff x z).1 h; omega
    exact (by simpa using c : ltC x z = false)
theorem totC (x y : Int × Int) (h1 : ltOf cfC x y = false) (h2 : ltOf cfC y x = false) : x = y := by
  have a : ¬ (y.1 < x.1 ∨ x.1 = y.1 ∧ x.2 < y.2) := fun h => by have := (ltC_iff x y).2 h; rw [show ltC x y = false from h1] at this; cases this
  have b : ¬ (x.1 < y.1 ∨ y.1 = x.1 ∧ y.2 < x.2) := fun h => by have := (ltC_iff y x).2 h; rw [show ltC y x = false from h2] at this; cases this
  obtain ⟨x1, x2⟩ := x; obtain ⟨y1, y2⟩ := y
  simp at a b
  have e1 : x1 = y1 := by omega
  have e2 : x2 = y2 := by omega
  rw [e1, e2]
theorem isAgg44 (w : World) : (isAgg 44).run Try.prog w = .ok true w := by kernel_rfl
theorem sizeOf44 (w : World) : (Go.sizeOf 44).run Try.prog w = .ok 2 w := by kernel_rfl
theorem grow4 (w : World) (a b c d : Obj) : (((w.alloc a).alloc b).alloc c).alloc d = grow (w.drewN 0) #[a, b, c, d] := by
  rw [alloc_eq_grow, alloc_eq_grow, alloc_eq_grow, alloc_eq_grow, grow_grow, grow_grow, grow_grow]; rfl
theorem cmpLays23 (blk off size : Nat) (w : World) : CmpLays Try.prog 23 #[] encC 2 cfC blk off size w := fun m os dk _ x y =>
  (closure_any x y _).mono fun e w' ⟨he, hw⟩ => ⟨he, 0, #[clmO x, clmO y, clmO x, clmO y], hw.trans (grow4 _ _ _ _ _)⟩
theorem eg23 : ∀ args w, (callFunc 23 args).run Try.prog w = .ok (.enter 23 args) w := enters_of Try.func23 (by kernel_rfl) rfl
theorem sort_nil (w : World) : Calls Try.prog 22 #[.slice none 0 0, .func (.func 23) #[] #[]] w fun e w' => e = .returned (.tuple #[]) ∧ w = w' :=
  (AnyF.slices_SortFunc_none Try.sortL none 0 (.func (.func 23) #[] #[]) w).mono fun e w' ⟨h1, h2⟩ => ⟨h1, h2.symm⟩
theorem sort_own (l : List (Int × Int)) (g cap B : Nat) (w : World) (n : Nat) (hn : n = l.length) (h16 : n ≤ 16) (ho : w.ownsRow B 44 2 (.slice (some ⟨g, 0, none⟩) n cap) n (flatC l)) :
    Calls Try.prog 22 #[.slice (some ⟨g, 0, none⟩) n cap, .func (.func 23) #[] #[]] w fun e w' => e = .returned (.tuple #[]) ∧ w'.ownsRow B 44 2 (.slice (some ⟨g, 0, none⟩) n cap) n (flatC (l.mergeSort fun x y => !(ltC y x))) ∧ w.grownBy w' (some g) := by
  subst hn
  rcases ho.2 with ⟨hx, _⟩ | ⟨g2, cap2, cur, hx, hbase, hb, h1, h2, h3, h4⟩
  · cases hx
  · cases hx
    have hc := AnyQ.slices_SortFunc_total Try.sortL 2 isAgg44 sizeOf44 encC (fun _ => rfl) (fun x v hv => by simp [encC] at hv; rcases hv with rfl | rfl <;> rfl) cfC swoC 23 #[] g 0 cap l.toArray w eg23 (cmpLays23 g 0 _ w) (holds_claims hb h4) (Array.getElem?_eq_some_iff.1 hb).1 (by simp; omega) totC
    refine Calls.mono (R := _) hc (fun e w' h => ?_)
    obtain ⟨he, q, os, hw⟩ := h
    have hl : (l.mergeSort fun x y => !(ltC y x)).length = l.length := by simp
    have h5 := owns_sorted (base := B) (cap := cap) (n := q) (os := os) (m := l.mergeSort fun x y => !(ltC y x)) hl hbase hb h1 h2 h3
    rw [hw]
    exact ⟨he, h5.1, h5.2⟩
#print axioms sort_own
end Go.Proofs.Ytjijejbnnbbjgaa
