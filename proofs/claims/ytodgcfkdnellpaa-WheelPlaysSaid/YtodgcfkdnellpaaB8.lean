/- Wheel: what an advance takes out of the spokes and the far row, as lists. -/
import Derived.Test.YtodgcfkdnellpaaB7
import Derived.Test.YtodgcfkdnellpaaB6
set_option linter.unusedSimpArgs false
set_option linter.unusedVariables false
namespace Go.Proofs.Ytodgcfkdnellpaa
open Go.RowKit Go.Proofs.YtodgcfkdnellpaaW.PrintWords
def tick (now : Int) (n : Nat) : Nat := ((now + 1 + n) % 64).toNat
def spC (now : Int) (C : Nat → List Du) : Nat → (Nat → List Du)
  | 0 => C
  | n + 1 => upd (spC now C n) (tick now n) []
def spA (now : Int) (C : Nat → List Du) : Nat → List Du
  | 0 => []
  | n + 1 => spA now C n ++ spC now C n (tick now n)
theorem tick_lt (now : Int) (n : Nat) : tick now n < 64 := by unfold tick; omega
theorem tick_inj {now : Int} {i j : Nat} (hi : i < 64) (hj : j < 64) (h : tick now i = tick now j) : i = j := by unfold tick at h; omega
theorem spC_of {now : Int} {C : Nat → List Du} : ∀ (n k : Nat), (∀ j, j < n → tick now j ≠ k) → spC now C n k = C k
  | 0, k, _ => rfl
  | n + 1, k, h => by
    unfold spC
    rw [upd_ne _ _ (fun e => h n (Nat.lt_succ_self _) e.symm)]
    exact spC_of n k (fun j hj => h j (by omega))
theorem spC_gone {now : Int} {C : Nat → List Du} : ∀ (n j : Nat), j < n → spC now C n (tick now j) = []
  | 0, j, h => by omega
  | n + 1, j, h => by
    unfold spC
    by_cases e : tick now j = tick now n
    · rw [e, upd_same]
    · rw [upd_ne _ _ e]
      exact spC_gone n j (by
        rcases Nat.lt_or_eq_of_le (Nat.le_of_lt_succ h) with h | h
        · exact h
        · subst h; exact absurd rfl e)
theorem perm_filter_append {p q r : Du → Bool} (L : List Du) (h : ∀ d ∈ L, r d = (p d || q d)) (hx : ∀ d ∈ L, ¬ (p d = true ∧ q d = true)) : (L.filter p ++ L.filter q).Perm (L.filter r) := by
  induction L with
  | nil => exact .refl _
  | cons a t ih =>
    have ih := ih (fun d hd => h d (List.mem_cons_of_mem _ hd)) (fun d hd => hx d (List.mem_cons_of_mem _ hd))
    have ha := h a (List.mem_cons_self ..)
    have hxa := hx a (List.mem_cons_self ..)
    cases hp : p a with
    | true =>
      have hq : q a = false := by cases hq : q a with
        | false => rfl
        | true => exact absurd ⟨hp, hq⟩ hxa
      rw [List.filter_cons_of_pos hp, List.filter_cons_of_neg (by simp [hq]), List.filter_cons_of_pos (by rw [ha, hp]; rfl)]
      exact ih.cons a
    | false =>
      rw [List.filter_cons_of_neg (by simp [hp])]
      cases hq : q a with
      | true =>
        rw [List.filter_cons_of_pos hq, List.filter_cons_of_pos (by rw [ha, hp, hq]; rfl)]
        exact List.perm_middle.trans (ih.cons a)
      | false =>
        rw [List.filter_cons_of_neg (by simp [hq]), List.filter_cons_of_neg (by rw [ha, hp, hq]; simp)]
        exact ih
theorem spA_perm {now : Int} {C : Nat → List Du} {L : List Du} (h : Inv now C L) : ∀ n : Nat, n ≤ 63 → (spA now C n).Perm (L.filter (fun d => decide (d.at_ ≤ now + n)))
  | 0, _ => by
    have : L.filter (fun d => decide (d.at_ ≤ now + (0 : Nat))) = [] := List.filter_eq_nil_iff.2 (fun d hd => by have := (h.late d hd).1; simp; omega)
    rw [this]; exact .refl _
  | n + 1, hn => by
    unfold spA
    rw [spC_of n (tick now n) (fun j hj e => by have := tick_inj (by omega) (by omega) e; omega)]
    have h1 := spA_perm h n (by omega)
    have h2 := h.near (tick now n) (tick_lt now n)
    refine (h1.append h2).trans (perm_filter_append L (fun d hd => ?_) (fun d hd hx => ?_))
    · have := (h.late d hd).1
      have hnow := h.now0
      have : ((d.at_ - now < 64 ∧ d.at_ % 64 = (tick now n : Int)) ↔ d.at_ = now + 1 + n) := by unfold tick; omega
      simp only [this]
      rw [← Bool.decide_or]
      rw [decide_eq_decide]
      push_cast
      omega
    · obtain ⟨x1, x2⟩ := hx
      have := (h.late d hd).1
      have hnow := h.now0
      simp at x1 x2
      unfold tick at x2
      omega
theorem spA_len {now : Int} {C : Nat → List Du} {L : List Du} (h : Inv now C L) (n : Nat) (hn : n ≤ 63) : (spA now C n).length ≤ 4096 := by
  rw [(spA_perm h n hn).length_eq]
  exact Nat.le_trans (List.length_filter_le _ _) h.few
theorem spC_perm {now : Int} {C : Nat → List Du} {L : List Du} (h : Inv now C L) (n : Nat) (hn : n ≤ 63) (k : Nat) (hk : k < 64) : (spC now C n k).Perm (L.filter (fun d => decide ((d.at_ - now < 64 ∧ d.at_ % 64 = k) ∧ now + n < d.at_))) := by
  by_cases he : ∃ j, j < n ∧ tick now j = k
  · obtain ⟨j, hj, rfl⟩ := he
    rw [spC_gone n j hj]
    have : L.filter (fun d => decide ((d.at_ - now < 64 ∧ d.at_ % 64 = (tick now j : Int)) ∧ now + n < d.at_)) = [] := List.filter_eq_nil_iff.2 (fun d hd => by
      have := (h.late d hd).1; have := h.now0
      simp only [decide_eq_true_eq]
      unfold tick; omega)
    rw [this]
  · rw [spC_of n k (fun j hj e => he ⟨j, hj, e⟩)]
    refine (h.near k hk).trans (List.Perm.of_eq (List.filter_congr (fun d hd => ?_)))
    have hl := (h.late d hd).1; have := h.now0
    rw [decide_eq_decide]
    refine ⟨fun hx => ⟨hx, ?_⟩, fun hx => hx.1⟩
    apply Classical.byContradiction
    intro hle
    refine he ⟨(d.at_ - now - 1).toNat, by omega, ?_⟩
    unfold tick
    omega
theorem spC_far {now : Int} {C : Nat → List Du} (n : Nat) : spC now C n 64 = C 64 := spC_of n 64 (fun j _ e => by have := tick_lt now j; omega)
end Go.Proofs.Ytodgcfkdnellpaa
