/- Wheel: what a drop and a set do, as lists; the map under them. -/
import Derived.Test.YtodgcfkdnellpaaA7
set_option linter.unusedSimpArgs false
set_option linter.unusedVariables false
namespace Go.Proofs.Ytodgcfkdnellpaa
open Go.RowKit Go.Maps Go.Proofs.YtodgcfkdnellpaaW.PrintWords
def dropL (L : List Du) (x : Int) : List Du := L.filter (fun d => !(d.id == x))
def insDu (d : Du) : List Du → List Du
  | [] => [d]
  | a :: t => if before d a = true then d :: a :: t else a :: insDu d t
theorem insDu_cons (d a : Du) (t : List Du) : insDu d (a :: t) = if before d a = true then d :: a :: t else a :: insDu d t := rfl
theorem insDu_perm (d : Du) : ∀ L : List Du, (insDu d L).Perm (d :: L)
  | [] => .refl _
  | a :: t => by
    unfold insDu
    split
    · exact .refl _
    · exact ((insDu_perm d t).cons a).trans (.swap d a t)
theorem before_trans {a b c : Du} (h1 : before a b = true) (h2 : before b c = true) : before a c = true := by
  unfold before at *; simp at *; omega
theorem before_irrefl (a : Du) : before a a = false := by unfold before; simp
theorem before_total {a b : Du} (h : a.id ≠ b.id) : before a b = false → before b a = true := by
  unfold before; simp; omega
theorem insDu_sorted {d : Du} : ∀ {L : List Du}, L.Pairwise (fun a b => before a b = true) → (∀ a ∈ L, a.id ≠ d.id) → (insDu d L).Pairwise (fun a b => before a b = true)
  | [], _, _ => by simp [insDu]
  | a :: t, h, hn => by
    unfold insDu
    rw [List.pairwise_cons] at h
    by_cases hb : before d a = true
    · rw [if_pos hb, List.pairwise_cons]
      refine ⟨fun b hb2 => ?_, List.pairwise_cons.2 h⟩
      rcases List.mem_cons.1 hb2 with rfl | hb2
      · exact hb
      · exact before_trans hb (h.1 b hb2)
    · rw [if_neg hb, List.pairwise_cons]
      refine ⟨fun b hb2 => ?_, insDu_sorted h.2 (fun a ha => hn a (List.mem_cons_of_mem _ ha))⟩
      rcases List.mem_cons.1 ((insDu_perm d t).mem_iff.1 hb2) with rfl | hb2
      · exact before_total (hn a (List.mem_cons_self ..)).symm (by simpa using hb)
      · exact h.1 b hb2
theorem insDu_filter_no {d : Du} {p : Du → Bool} (hd : p d = false) : ∀ L : List Du, (insDu d L).filter p = L.filter p
  | [] => by simp [insDu, hd]
  | a :: t => by
    unfold insDu
    split
    · rw [List.filter_cons_of_neg (by simp [hd])]
    · rw [List.filter_cons, List.filter_cons, insDu_filter_no hd t]
theorem insDu_take {d : Du} : ∀ {L : List Du}, L.Pairwise (fun a b => before a b = true) → (∀ a ∈ L, a.id ≠ d.id) → ∀ k, k = L.countP (fun a => before a d) → insDu d L = L.take k ++ [d] ++ L.drop k
  | [], _, _, k, hk => by subst hk; rfl
  | a :: t, h, hn, k, hk => by
    rw [List.pairwise_cons] at h
    unfold insDu
    by_cases hb : before d a = true
    · have h0 : (a :: t).countP (fun a => before a d) = 0 := by
        rw [List.countP_eq_zero]
        intro x hx hxd
        have : before d x = true := by
          rcases List.mem_cons.1 hx with rfl | hx
          · exact hb
          · exact before_trans hb (h.1 x hx)
        have h2 := before_trans this (by simpa using hxd)
        rw [before_irrefl] at h2
        cases h2
      rw [h0] at hk
      subst hk
      rw [if_pos hb]
      rfl
    · have hb' : before a d = true := before_total (hn a (List.mem_cons_self ..)).symm (by simpa using hb)
      rw [List.countP_cons_of_pos (by simpa using hb')] at hk
      subst hk
      rw [if_neg hb, insDu_take h.2 (fun a ha => hn a (List.mem_cons_of_mem _ ha)) _ rfl]
      rfl
theorem insDu_filter_yes {d : Du} {p : Du → Bool} (hd : p d = true) : ∀ {L : List Du}, L.Pairwise (fun a b => before a b = true) → (∀ a ∈ L, a.id ≠ d.id) → (insDu d L).filter p = insDu d (L.filter p)
  | [], _, _ => by simp [insDu, hd]
  | a :: t, h, hn => by
    rw [List.pairwise_cons] at h
    have ih := insDu_filter_yes hd h.2 (fun a ha => hn a (List.mem_cons_of_mem _ ha))
    rw [insDu_cons]
    by_cases hb : before d a = true
    · rw [if_pos hb, List.filter_cons_of_pos hd]
      by_cases hp : p a = true
      · rw [List.filter_cons_of_pos hp, insDu_cons, if_pos hb]
      · rw [List.filter_cons_of_neg hp]
        cases hft : t.filter p with
        | nil => rfl
        | cons b r =>
          have hbm : b ∈ t := (List.mem_filter (p := p).1 (by rw [hft]; exact List.mem_cons_self ..)).1
          rw [insDu_cons, if_pos (before_trans hb (h.1 b hbm))]
    · rw [if_neg hb]
      by_cases hp : p a = true
      · rw [List.filter_cons_of_pos hp, List.filter_cons_of_pos hp, ih, insDu_cons, if_neg hb]
      · rw [List.filter_cons_of_neg hp, List.filter_cons_of_neg hp, ih]
theorem id_inj {L : List Du} (h : (L.map (·.id)).Nodup) {a b : Du} (ha : a ∈ L) (hb : b ∈ L) (he : a.id = b.id) : a = b := by
  obtain ⟨i, hi, rfl⟩ := List.mem_iff_getElem.1 ha
  obtain ⟨j, hj, rfl⟩ := List.mem_iff_getElem.1 hb
  have := (List.getElem_inj (xs := L.map (·.id)) (i := i) (j := j) (h₀ := by simpa using hi) (h₁ := by simpa using hj) h).1 (by simpa using he)
  subst this
  rfl
theorem keep_drop {L : List Du} (h : (L.map (·.id)).Nodup) {d : Du} (hd : d ∈ L) : ∀ y ∈ L, keepD d y = !(y.id == d.id) := by
  intro y hy
  unfold keepD isDu
  by_cases he : y.id = d.id
  · have := id_inj h hy hd he
    subst this
    simp
  · have : y ≠ d := fun e => he (by rw [e])
    simp [he, this]
theorem drop_len {x : Int} : ∀ {L : List Du}, (L.map (·.id)).Nodup → L.any (fun d => d.id == x) = true → (dropL L x).length + 1 = L.length
  | [], _, h => by simp at h
  | a :: t, hn, h => by
    rw [List.map_cons, List.nodup_cons] at hn
    unfold dropL
    by_cases he : a.id = x
    · rw [List.filter_cons_of_neg (by simp [he])]
      have : t.filter (fun d => !(d.id == x)) = t := List.filter_eq_self.2 (fun y hy => by
        have : y.id ≠ x := fun e => hn.1 (by rw [he, ← e]; exact List.mem_map.2 ⟨y, hy, rfl⟩)
        simp [this])
      rw [this]; rfl
    · rw [List.filter_cons_of_pos (by simp [he])]
      have h2 : t.any (fun d => d.id == x) = true := by
        rw [List.any_cons] at h
        have : (a.id == x) = false := by simp [he]
        rw [this] at h
        simpa using h
      have := drop_len hn.2 h2
      unfold dropL at this
      simp only [List.length_cons]
      omega
theorem drop_none {L : List Du} {x : Int} (h : L.any (fun d => d.id == x) = false) : dropL L x = L :=
  List.filter_eq_self.2 (fun y hy => by
    have := List.any_eq_false.1 h y hy
    simpa using this)
theorem any_drop (L : List Du) (x y : Int) : (dropL L x).any (fun d => d.id == y) = (!(y == x) && L.any (fun d => d.id == y)) := by
  induction L with
  | nil => simp [dropL]
  | cons a t ih =>
    unfold dropL at ih ⊢
    by_cases he : a.id = x
    · rw [List.filter_cons_of_neg (by simp [he]), ih, List.any_cons]
      by_cases hy : y = x
      · simp [hy]
      · have : (a.id == y) = false := by rw [he]; simpa using fun e => hy e.symm
        simp [this]
    · rw [List.filter_cons_of_pos (by simp [he]), List.any_cons, ih, List.any_cons]
      by_cases hy : y = x
      · have : (a.id == y) = false := by rw [hy]; simpa using he
        simp [hy, this, he]
      · have : (y == x) = false := by simpa using hy
        rw [this]; simp
theorem atOf_cons (a : Du) (t : List Du) (y : Int) : atOf (a :: t) y = if a.id = y then a.at_ else atOf t y := by
  unfold atOf
  rw [List.find?_cons]
  by_cases h : a.id = y
  · have : (a.id == y) = true := by simpa using h
    rw [this, if_pos h]; rfl
  · have : (a.id == y) = false := by simpa using h
    rw [this, if_neg h]
theorem atOf_drop (x y : Int) : ∀ L : List Du, atOf (dropL L x) y = if y = x then 0 else atOf L y
  | [] => by simp [dropL, atOf]
  | a :: t => by
    have ih := atOf_drop x y t
    unfold dropL at ih ⊢
    by_cases he : a.id = x
    · rw [List.filter_cons_of_neg (by simp [he]), ih, atOf_cons]
      by_cases hy : y = x
      · rw [if_pos hy, if_pos hy]
      · rw [if_neg hy, if_neg hy, if_neg (fun e => hy (by rw [← e, he]))]
    · rw [List.filter_cons_of_pos (by simp [he]), atOf_cons, ih, atOf_cons]
      by_cases hy : y = x
      · rw [if_pos hy, if_pos hy, if_neg (fun e => he (by rw [e, hy]))]
      · rw [if_neg hy, if_neg hy]
theorem atOf_none {L : List Du} {x : Int} (h : L.any (fun d => d.id == x) = false) : atOf L x = 0 := by
  unfold atOf
  have : L.find? (fun d => d.id == x) = none := by
    rw [List.find?_eq_none]
    intro y hy
    have := List.any_eq_false.1 h y hy
    simpa using this
  rw [this]; rfl
theorem atOf_mem {L : List Du} (hn : (L.map (·.id)).Nodup) {d : Du} (hd : d ∈ L) : atOf L d.id = d.at_ := by
  unfold atOf
  have : L.find? (fun e => e.id == d.id) = some d := by
    cases hf : L.find? (fun e => e.id == d.id) with
    | none => exact absurd (List.find?_eq_none.1 hf d hd) (by simp)
    | some e =>
      have h1 := List.find?_some hf
      have h2 := List.mem_of_find?_eq_some hf
      rw [id_inj hn h2 hd (by simpa using h1)]
  rw [this]; rfl
theorem any_mem {L : List Du} {x : Int} (h : L.any (fun d => d.id == x) = true) : ∃ d ∈ L, d.id = x := by
  obtain ⟨d, hd, he⟩ := List.any_eq_true.1 h
  exact ⟨d, hd, by simpa using he⟩
theorem mem_any {L : List Du} {d : Du} (h : d ∈ L) : L.any (fun e => e.id == d.id) = true := List.any_eq_true.2 ⟨d, h, by simp⟩
end Go.Proofs.Ytodgcfkdnellpaa
