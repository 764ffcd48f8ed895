/- Wheel: what stands behind an advance, as lists. -/
import Derived.Test.YtodgcfkdnellpaaB9
set_option linter.unusedSimpArgs false
set_option linter.unusedVariables false
namespace Go.Proofs.Ytodgcfkdnellpaa
def mvC (D : List Du) (C : Nat → List Du) : Nat → (Nat → List Du)
  | 0 => C
  | m + 1 => upd (upd (mvC D C m) ((D.getD m default).at_ % 64).toNat (mvC D C m ((D.getD m default).at_ % 64).toNat ++ [D.getD m default])) 64 (D.drop (m + 1))
theorem mvC_far (D : List Du) (C : Nat → List Du) (hC : C 64 = D) : ∀ m, mvC D C m 64 = D.drop m
  | 0 => by rw [List.drop_zero]; exact hC
  | m + 1 => by unfold mvC; rw [upd_same]
theorem mvC_near (D : List Du) (C : Nat → List Du) (k : Nat) (hk : k ≠ 64) : ∀ m, m ≤ D.length → mvC D C m k = C k ++ (D.take m).filter (fun d => decide ((d.at_ % 64).toNat = k))
  | 0, _ => by simp [mvC]
  | m + 1, hm => by
    have ih := mvC_near D C k hk m (by omega)
    have hg : D.getD m default = D[m] := by rw [List.getD_eq_getElem?_getD, List.getElem?_eq_getElem (by omega)]; rfl
    unfold mvC
    rw [upd_ne _ _ hk, List.take_succ_eq_append_getElem (by omega), List.filter_append, ← List.append_assoc, ← ih, hg]
    by_cases e : k = (D[m].at_ % 64).toNat
    · rw [← e, upd_same]
      have : [D[m]].filter (fun d => decide ((d.at_ % 64).toNat = k)) = [D[m]] := by simp [← e]
      rw [this]
    · rw [upd_ne _ _ e]
      have : [D[m]].filter (fun d => decide ((d.at_ % 64).toNat = k)) = [] := by simp; omega
      rw [this]; simp
theorem split_sorted {p : Du → Bool} : ∀ {l : List Du}, l.Pairwise (fun a b => before a b = true) → (∀ a b : Du, before a b = true → p b = true → p a = true) → l.take (l.countP p) = l.filter p ∧ l.drop (l.countP p) = l.filter (fun d => !p d)
  | [], _, _ => ⟨rfl, rfl⟩
  | a :: t, h, hp => by
    rw [List.pairwise_cons] at h
    cases ha : p a with
    | true =>
      have ih := split_sorted h.2 hp
      rw [List.countP_cons_of_pos ha, List.filter_cons_of_pos ha, List.filter_cons_of_neg (by simp [ha]), List.take_succ_cons, List.drop_succ_cons, ih.1, ih.2]
      exact ⟨rfl, rfl⟩
    | false =>
      have hall : ∀ b ∈ t, p b = false := fun b hb => by
        cases hpb : p b with
        | false => rfl
        | true => rw [hp a b (h.1 b hb) hpb] at ha; cases ha
      have h0 : (a :: t).countP p = 0 := by
        rw [List.countP_eq_zero]
        intro x hx
        rcases List.mem_cons.1 hx with rfl | hx
        · simp [ha]
        · simp [hall x hx]
      rw [h0, List.take_zero, List.drop_zero]
      refine ⟨(List.filter_eq_nil_iff.2 (fun x hx => ?_)).symm, (List.filter_eq_self.2 (fun x hx => ?_)).symm⟩
      · rcases List.mem_cons.1 hx with rfl | hx
        · simp [ha]
        · simp [hall x hx]
      · rcases List.mem_cons.1 hx with rfl | hx
        · simp [ha]
        · simp [hall x hx]
theorem upTo_mono (tk : Int) (a b : Du) (h : before a b = true) (hb : upTo tk b = true) : upTo tk a = true := by
  unfold before at h; unfold upTo at *; simp at *; omega
theorem take_filter {q : Du → Bool} (D : List Du) (m : Nat) (h1 : ∀ x ∈ D.take m, q x = true) (h2 : ∀ x ∈ D.drop m, q x = false) : D.take m = D.filter q ∧ D.drop m = D.filter (fun d => !q d) := by
  have e : D.take m ++ D.drop m = D := List.take_append_drop m D
  constructor
  · conv => rhs; rw [← e]
    rw [List.filter_append, List.filter_eq_self.2 h1, List.filter_eq_nil_iff.2 (fun x hx => by simp [h2 x hx]), List.append_nil]
  · conv => rhs; rw [← e]
    rw [List.filter_append, List.filter_eq_nil_iff.2 (fun x hx => by simp [h1 x hx]), List.filter_eq_self.2 (fun x hx => by simp [h2 x hx]), List.nil_append]
theorem adv_inv {now tk : Int} {C : Nat → List Du} {L D : List Du} {n cnt m : Nat} (h : Inv now C L) (h1 : now ≤ tk) (h2 : tk ≤ 1099511627776) (hn : (n : Int) = min (tk - now) 63) (hcnt : cnt = (C 64).countP (upTo tk)) (hD : D = (C 64).drop cnt) (hm : m ≤ D.length) (hnear : ∀ i (h : i < D.length), i < m → D[i].at_ - tk < 64) (hfar : ∀ x ∈ D.drop m, 64 ≤ x.at_ - tk) :
    Inv tk (mvC D (upd (spC now C n) 64 D) m) (L.filter (fun d => !upTo tk d)) ∧ (spA now C n ++ (C 64).take cnt).Perm (L.filter (upTo tk)) := by
  have hn0 := h.now0
  have hso : (C 64).Pairwise (fun a b => before a b = true) := by rw [h.far]; exact h.sorted.filter _
  obtain ⟨s1, s2⟩ := split_sorted (p := upTo tk) hso (upTo_mono tk)
  rw [← hcnt] at s1 s2
  have hDf : D = L.filter (fun d => (!upTo tk d) && decide (64 ≤ d.at_ - now)) := by rw [hD, s2, h.far, List.filter_filter]
  obtain ⟨t1, t2⟩ := take_filter (q := fun d => decide (d.at_ - tk < 64)) D m (fun x hx => by
      obtain ⟨i, hi, rfl⟩ := List.mem_iff_getElem.1 hx
      rw [List.getElem_take]
      simp at hi
      simpa using hnear i (by omega) (by omega)) (fun x hx => by have := hfar x hx; simp; omega)
  refine ⟨⟨by omega, h2, h.sorted.filter _, h.ids.sublist (List.filter_sublist.map _), fun d hd => ?_, fun d hd => h.wf d (List.mem_filter.1 hd).1, Nat.le_trans (List.length_filter_le _ _) h.few, fun k hk => ?_, ?_⟩, ?_⟩
  · obtain ⟨a, b⟩ := List.mem_filter.1 hd
    have := h.late d a
    unfold upTo at b
    simp at b
    omega
  · rw [mvC_near D _ k (by omega) m hm, upd_ne _ _ (show k ≠ 64 by omega), t1, hDf, List.filter_filter, List.filter_filter, List.filter_filter]
    refine ((spC_perm h n (by omega) k hk).append (.refl _)).trans (perm_filter_append L (fun d hd => ?_) (fun d hd hx => ?_))
    · have hl := (h.late d hd).1
      unfold upTo
      rw [Bool.eq_iff_iff]
      simp only [Bool.and_eq_true, Bool.or_eq_true, decide_eq_true_eq, Bool.not_eq_true', decide_eq_false_iff_not]
      omega
    · have hl := (h.late d hd).1
      unfold upTo at hx
      simp only [Bool.and_eq_true, decide_eq_true_eq, Bool.not_eq_true', decide_eq_false_iff_not] at hx
      omega
  · rw [mvC_far D _ (by rw [upd_same]) m, t2, hDf, List.filter_filter, List.filter_filter]
    refine List.filter_congr (fun d hd => ?_)
    have hl := (h.late d hd).1
    unfold upTo
    rw [Bool.eq_iff_iff]
    simp only [Bool.and_eq_true, decide_eq_true_eq, Bool.not_eq_true', decide_eq_false_iff_not]
    omega
  · rw [s1, h.far, List.filter_filter]
    refine ((spA_perm h n (by omega)).append (.refl _)).trans (perm_filter_append L (fun d hd => ?_) (fun d hd hx => ?_))
    · have hl := (h.late d hd).1
      unfold upTo
      rw [Bool.eq_iff_iff]
      simp only [Bool.and_eq_true, Bool.or_eq_true, decide_eq_true_eq]
      omega
    · have hl := (h.late d hd).1
      unfold upTo at hx
      simp only [Bool.and_eq_true, decide_eq_true_eq] at hx
      omega
end Go.Proofs.Ytodgcfkdnellpaa
