/- Gossip: what Told leans on, in plain lists. -/
import Derived.Test.YtafkglhdpcmdbaaK2
set_option linter.unusedSimpArgs false
set_option linter.unusedVariables false
namespace Go.Proofs.Ytafkglhdpcmdbaa
open Go.RowKit Go.Proofs.YtafkglhdpcmdbaaW.PrintWords
open T (S39)
def sumL : List It → Int
  | [] => 0
  | x :: r => x.data.length + sumL r
theorem sumL_nonneg : ∀ l : List It, 0 ≤ sumL l
  | [] => Int.le_refl 0
  | x :: r => by have := sumL_nonneg r; simp only [sumL]; omega
theorem sumL_append : ∀ (l r : List It), sumL (l ++ r) = sumL l + sumL r
  | [], r => by simp [sumL]
  | x :: l, r => by simp only [List.cons_append, sumL, sumL_append l r]; omega
theorem sumL_perm {l r : List It} (h : l.Perm r) : sumL l = sumL r := by
  induction h with
  | nil => rfl
  | cons x _ ih => simp only [sumL, ih]
  | swap x y l => simp only [sumL]; omega
  | trans _ _ h1 h2 => exact h1.trans h2
theorem sortQ_perm (l : List It) : (sortQ l).Perm l := List.mergeSort_perm _ _
def It.news (x : It) : S39 := ⟨x.key, x.data⟩
/-- where there is room for all, all are told -/
theorem pickI_all : ∀ (l : List It) (room : Int), sumL l ≤ room → pickI room l = (l.map It.news, l.map It.told)
  | [], _, _ => rfl
  | x :: r, room, h => by
    simp only [sumL] at h
    have := sumL_nonneg r
    have ht : tells room x := by unfold tells; omega
    simp only [pickI, if_pos ht, pickI_all r (room - x.data.length) (by omega), List.map_cons]
    rfl
structure TInv (i : Nat) (L : List Int) (rm : Int) (q : List It) : Prop where
  len : L.length = i
  qlen : q.length = i
  at_ : ∀ k (h : k < i), (q[k]'(by omega)).key = k ∧ (q[k]'(by omega)).left = L[k]
  sum : rm = sumL q
  each : ∀ x ∈ q, 0 < x.data.length ∧ x.data.length ≤ 50 ∧ 1 ≤ x.left ∧ x.left ≤ 12
theorem TInv.start : TInv 0 [] 0 [] := ⟨rfl, rfl, fun k h => absurd h (Nat.not_lt_zero _), rfl, fun x hx => by simp at hx⟩
theorem sumL_le : ∀ (l : List It), (∀ x ∈ l, x.data.length ≤ 50) → sumL l ≤ 50 * l.length
  | [], _ => by simp [sumL]
  | x :: r, h => by
    have h1 := h x (by simp)
    have h2 := sumL_le r (fun y hy => h y (by simp [hy]))
    simp only [sumL, List.length_cons]
    omega
theorem TInv.put {i : Nat} {L : List Int} {rm : Int} {q : List It} (h : TInv i L rm q) (hi : i < 30) (n : Nat) (k : Int) (hn : 0 < n) (hn2 : n ≤ 50) (hk : 1 ≤ k) (hk2 : k ≤ 12) :
    putQ 4096 q i (List.replicate n 0) k = (0, q ++ [⟨i, List.replicate n 0, k⟩]) ∧ TInv (i + 1) (L ++ [k]) (rm + n) (q ++ [⟨i, List.replicate n 0, k⟩]) := by
  have hno : ∀ y ∈ q, y.key ≠ (i : Int) := fun y hy he => by
    obtain ⟨j, hj, rfl⟩ := List.mem_iff_getElem.1 hy
    have := (h.at_ j (by rw [← h.qlen]; exact hj)).1
    have := h.qlen
    omega
  refine ⟨?_, by simp [h.len], by simp [h.qlen], fun j hj => ?_, ?_, ?_⟩
  · unfold putQ
    have hl := h.qlen
    rw [if_neg (by simp; omega), if_neg (by unfold hasKey; simp; exact fun y hy => hno y hy), if_neg (by omega), putL_new _ _ hno]
  · by_cases hlt : j < i
    · rw [List.getElem_append_left (by rw [h.qlen]; exact hlt), List.getElem_append_left (by rw [h.len]; exact hlt)]
      exact h.at_ j hlt
    · obtain rfl : j = i := by omega
      rw [List.getElem_append_right (by rw [h.qlen]; omega), List.getElem_append_right (by rw [h.len]; omega)]
      simp
  · rw [sumL_append, h.sum]; simp [sumL]
  · intro x hx
    rcases List.mem_append.1 hx with hx | hx
    · exact h.each x hx
    · obtain rfl : x = _ := by simpa using hx
      simp; omega
structure PInv (n j : Nat) (L : List Int) (rm : Int) (q : List It) : Prop where
  n30 : n ≤ 30
  len : L.length = n
  few : q.length ≤ 30
  keys : (q.map (·.key)).Nodup
  range : ∀ x ∈ q, 0 ≤ x.key ∧ x.key < n ∧ L[x.key.toNat]? = some x.left
  zero : ∀ k, k < n → (∀ x ∈ q, x.key ≠ (k : Int)) → L[k]? = some 0
  sum : sumL q ≤ rm
  room : rm ≤ 1500
  each : ∀ x ∈ q, 0 < x.data.length ∧ x.data.length ≤ 50 ∧ 1 ≤ x.left ∧ x.left + j ≤ 12
theorem nodup_range {q : List It} {i : Nat} (hq : q.length = i) (h : ∀ k (h : k < i), (q[k]'(by omega)).key = k) : (q.map (·.key)).Nodup := by
  have : q.map (·.key) = (List.range i).map (fun k : Nat => (k : Int)) := by
    apply List.ext_getElem (by simp [hq])
    intro k h1 h2
    simp at h2
    simp [h k h2]
  rw [this]
  exact List.Pairwise.map _ (fun a b hab => by omega) (List.nodup_range)
theorem TInv.done {i : Nat} {L : List Int} {rm : Int} {q : List It} (h : TInv i L rm q) (hi : i ≤ 30) : PInv i 0 L rm q := by
  have hs := sumL_le q (fun x hx => (h.each x hx).2.1)
  have hl := h.qlen
  refine ⟨hi, h.len, by omega, nodup_range h.qlen (fun k hk => (h.at_ k hk).1), fun x hx => ?_, fun k hk hno => ?_, by rw [h.sum]; exact Int.le_refl _, by rw [h.sum]; omega, fun x hx => ?_⟩
  · obtain ⟨k, hk, rfl⟩ := List.mem_iff_getElem.1 hx
    obtain ⟨h1, h2⟩ := h.at_ k (by omega)
    rw [h1]
    refine ⟨by omega, by omega, ?_⟩
    rw [Int.toNat_natCast, List.getElem?_eq_getElem (by rw [h.len]; omega), h2]
  · exact absurd (h.at_ k hk).1 (hno _ (List.getElem_mem _))
  · have := h.each x hx; omega
theorem PInv.good {n j : Nat} {L : List Int} {rm : Int} {q : List It} (h : PInv n j L rm q) : Good q := ⟨h.keys, by have := h.few; omega, fun x hx => by have := h.each x hx; omega⟩
theorem PInv.pick {n j : Nat} {L : List Int} {rm : Int} {q : List It} (h : PInv n j L rm q) : pickQ q rm = ((sortQ q).map It.news, ((sortQ q).map It.told).filter keepI) := by
  unfold pickQ
  rw [pickI_all (sortQ q) rm (by rw [sumL_perm (sortQ_perm q)]; exact h.sum)]
theorem keepI_iff (x : It) : keepI x = true ↔ x.left ≠ 0 := by unfold keepI; rw [Bool.not_eq_true', decide_eq_false_iff_not]
structure MInv (n : Nat) (L M : List Int) (s : List It) (m : Nat) : Prop where
  len : M.length = n
  done : ∀ k (h : k < m) (hs : k < s.length), M[s[k].key.toNat]? = some (s[k].left - 1)
  rest : ∀ i, i < n → (∀ k (h : k < m) (hs : k < s.length), s[k].key ≠ (i : Int)) → M[i]? = L[i]?
theorem MInv.start {n : Nat} {L : List Int} {s : List It} (h : L.length = n) : MInv n L L s 0 := ⟨h, fun k h => absurd h (Nat.not_lt_zero _), fun _ _ _ => rfl⟩
theorem MInv.at_ {n j : Nat} {L M : List Int} {rm : Int} {q : List It} {m : Nat} (h : MInv n L M (sortQ q) m) (hp : PInv n j L rm q) (hm : m < (sortQ q).length) :
    0 ≤ (sortQ q)[m].key ∧ (sortQ q)[m].key < n ∧ M[(sortQ q)[m].key.toNat]? = some (sortQ q)[m].left ∧ 1 ≤ (sortQ q)[m].left ∧ (sortQ q)[m].left ≤ 12 := by
  have hx := (sortQ_perm q).mem_iff.1 (List.getElem_mem hm)
  obtain ⟨h1, h2, h3⟩ := hp.range _ hx
  have h4 := hp.each _ hx
  refine ⟨h1, h2, ?_, by omega, by omega⟩
  rw [h.rest _ (by omega) (fun k hk hs he => ?_), h3]
  have hnd : ((sortQ q).map (·.key)).Nodup := ((sortQ_perm q).map _).nodup_iff.2 hp.keys
  have := (List.getElem_inj (xs := (sortQ q).map (·.key)) (i := k) (j := m) (h₀ := by simpa using hs) (h₁ := by simpa using hm) hnd).1 (by simp; omega)
  omega
theorem MInv.step {n j : Nat} {L M : List Int} {rm : Int} {q : List It} {m : Nat} (h : MInv n L M (sortQ q) m) (hp : PInv n j L rm q) (hm : m < (sortQ q).length) :
    MInv n L (M.set (sortQ q)[m].key.toNat ((sortQ q)[m].left - 1)) (sortQ q) (m + 1) := by
  obtain ⟨h1, h2, h3, h4, _⟩ := h.at_ hp hm
  have hnd : ((sortQ q).map (·.key)).Nodup := ((sortQ_perm q).map _).nodup_iff.2 hp.keys
  have hr : ∀ k (hk : k < (sortQ q).length), 0 ≤ (sortQ q)[k].key ∧ (sortQ q)[k].key < n := fun k hk => by
    have := hp.range _ ((sortQ_perm q).mem_iff.1 (List.getElem_mem hk)); exact ⟨this.1, this.2.1⟩
  refine ⟨by rw [List.length_set]; exact h.len, fun k hk hs => ?_, fun i hi hno => ?_⟩
  · by_cases hkm : k = m
    · subst hkm
      rw [List.getElem?_set_self (by rw [h.len]; omega)]
    · have hne : (sortQ q)[k].key ≠ (sortQ q)[m].key := fun he => hkm ((List.getElem_inj (xs := (sortQ q).map (·.key)) (i := k) (j := m) (h₀ := by simpa using hs) (h₁ := by simpa using hm) hnd).1 (by simpa using he))
      have := hr k hs
      rw [List.getElem?_set_ne (by omega)]
      exact h.done k (by omega) hs
  · have hne := hno m (by omega) hm
    rw [List.getElem?_set_ne (by omega)]
    exact h.rest i hi (fun k hk hs => hno k (by omega) hs)
theorem MInv.finish {n j : Nat} {L M : List Int} {rm : Int} {q : List It} (h : MInv n L M (sortQ q) (sortQ q).length) (hp : PInv n j L rm q) : PInv n (j + 1) M rm (((sortQ q).map It.told).filter keepI) := by
  have hperm := sortQ_perm q
  have hsub : (((sortQ q).map It.told).filter keepI).Sublist ((sortQ q).map It.told) := List.filter_sublist
  have hmem : ∀ x ∈ ((sortQ q).map It.told).filter keepI, ∃ y ∈ sortQ q, x = y.told ∧ y.left - 1 ≠ 0 := fun x hx => by
    obtain ⟨h1, h2⟩ := List.mem_filter.1 hx
    obtain ⟨y, hy, rfl⟩ := List.mem_map.1 h1
    exact ⟨y, hy, rfl, (keepI_iff _).1 h2⟩
  have hsumle : ∀ l : List It, sumL (l.filter keepI) ≤ sumL l := fun l => by
    induction l with
    | nil => simp [sumL]
    | cons x r ih =>
      cases hk : keepI x
      · rw [List.filter_cons_of_neg (by simp [hk])]; simp only [sumL]; omega
      · rw [List.filter_cons_of_pos hk]; simp only [sumL]; omega
  have hsumt : ∀ l : List It, sumL (l.map It.told) = sumL l := fun l => by
    induction l with
    | nil => rfl
    | cons x r ih => simp only [List.map_cons, sumL, ih, It.told]
  refine ⟨hp.n30, h.len, ?_, ?_, fun x hx => ?_, fun k hk hno => ?_, ?_, hp.room, fun x hx => ?_⟩
  · have := hsub.length_le; rw [List.length_map, hperm.length_eq] at this; have := hp.few; omega
  · have h1 : ((sortQ q).map It.told).map (·.key) = (sortQ q).map (·.key) := by rw [List.map_map]; rfl
    exact (hsub.map _).nodup (by rw [h1]; exact (hperm.map _).nodup_iff.2 hp.keys)
  · obtain ⟨y, hy, rfl, hne⟩ := hmem x hx
    obtain ⟨k, hk, rfl⟩ := List.mem_iff_getElem.1 hy
    obtain ⟨h1, h2, _⟩ := hp.range _ (hperm.mem_iff.1 hy)
    exact ⟨h1, h2, h.done k hk hk⟩
  · by_cases hex : ∃ i, ∃ hi : i < (sortQ q).length, (sortQ q)[i].key = (k : Int)
    · obtain ⟨i, hi, he⟩ := hex
      have hd := h.done i hi hi
      rw [he, Int.toNat_natCast] at hd
      by_cases hz : (sortQ q)[i].left - 1 = 0
      · rw [hd, hz]
      · exact absurd he (hno (sortQ q)[i].told (List.mem_filter.2 ⟨List.mem_map.2 ⟨_, List.getElem_mem _, rfl⟩, (keepI_iff _).2 hz⟩))
    · rw [h.rest k hk (fun i _ hi he => hex ⟨i, hi, he⟩)]
      refine hp.zero k hk (fun x hx he => ?_)
      obtain ⟨i, hi, rfl⟩ := List.mem_iff_getElem.1 (hperm.mem_iff.2 hx)
      exact hex ⟨i, hi, he⟩
  · have := hsumle ((sortQ q).map It.told)
    rw [hsumt, sumL_perm hperm] at this
    have := hp.sum
    omega
  · obtain ⟨y, hy, rfl, hne⟩ := hmem x hx
    have := hp.each y (hperm.mem_iff.1 hy)
    refine ⟨this.1, this.2.1, ?_, ?_⟩
    · show 1 ≤ y.left - 1; omega
    · show y.left - 1 + ((j + 1 : Nat) : Int) ≤ 12; omega
theorem PInv.over {n j : Nat} {L : List Int} {rm : Int} {q : List It} (h : PInv n j L rm q) (hj : 12 ≤ j) : q = [] ∧ ∀ k, k < n → L[k]? = some 0 := by
  have hq : q = [] := by
    cases q with
    | nil => rfl
    | cons x r => have := h.each x (by simp); omega
  refine ⟨hq, fun k hk => h.zero k hk (fun x hx => by rw [hq] at hx; simp at hx)⟩
end Go.Proofs.Ytafkglhdpcmdbaa
