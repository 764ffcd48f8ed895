/- Plain: the bits of a mask as a rising row of numbers; ranks by a strict order. -/
import Derived.Laws.BitsLemmas
import Derived.Test.YtjijejbnnbbjgaaD6
set_option linter.unusedSimpArgs false
set_option linter.unusedVariables false
namespace Go.Proofs.Ytjijejbnnbbjgaa
open Go
/-- the bits of M from i on, n of them -/
def lf (M : Nat) : Nat → Nat → List Int
  | 0, _ => []
  | n + 1, i => if M.testBit i = true then (i : Int) :: lf M n (i + 1) else lf M n (i + 1)
theorem lf_len (M : Nat) : ∀ n i, (lf M n i).length ≤ n
  | 0, _ => by simp [lf]
  | n + 1, i => by
    have := lf_len M n (i + 1)
    simp only [lf]; split
    · simp; omega
    · omega
theorem lf_mem (M : Nat) : ∀ n i (x : Int), x ∈ lf M n i ↔ ∃ j : Nat, i ≤ j ∧ j < i + n ∧ M.testBit j = true ∧ x = (j : Int)
  | 0, i, x => by
    simp only [lf]
    constructor
    · intro h; cases h
    · rintro ⟨j, h1, h2, _⟩; omega
  | n + 1, i, x => by
    have ih := lf_mem M n (i + 1) x
    simp only [lf]
    split
    · rename_i hb
      rw [List.mem_cons, ih]
      constructor
      · rintro (rfl | ⟨j, h1, h2, h3, h4⟩)
        · exact ⟨i, by omega, by omega, hb, rfl⟩
        · exact ⟨j, by omega, by omega, h3, h4⟩
      · rintro ⟨j, h1, h2, h3, h4⟩
        by_cases e : j = i
        · subst e; exact .inl h4
        · exact .inr ⟨j, by omega, by omega, h3, h4⟩
    · rename_i hb
      rw [ih]
      constructor
      · rintro ⟨j, h1, h2, h3, h4⟩; exact ⟨j, by omega, by omega, h3, h4⟩
      · rintro ⟨j, h1, h2, h3, h4⟩
        have : j ≠ i := fun e => hb (e ▸ h3)
        exact ⟨j, by omega, by omega, h3, h4⟩
theorem lf_sorted (M : Nat) : ∀ n i, (lf M n i).Pairwise (· < ·)
  | 0, _ => by simp [lf]
  | n + 1, i => by
    have ih := lf_sorted M n (i + 1)
    simp only [lf]; split
    · refine List.pairwise_cons.mpr ⟨fun y hy => ?_, ih⟩
      obtain ⟨j, h1, _, _, rfl⟩ := (lf_mem M n (i + 1) y).1 hy
      omega
    · exact ih
def listL (M : Nat) : List Int := lf M 16 0
theorem listL_mem (M : Nat) (x : Int) : x ∈ listL M ↔ ∃ j : Nat, j < 16 ∧ M.testBit j = true ∧ x = (j : Int) := by
  unfold listL; rw [lf_mem]
  constructor
  · rintro ⟨j, _, h2, h3, h4⟩; exact ⟨j, by omega, h3, h4⟩
  · rintro ⟨j, h2, h3, h4⟩; exact ⟨j, by omega, by omega, h3, h4⟩
theorem sorted_ext : ∀ {l1 l2 : List Int}, l1.Pairwise (· < ·) → l2.Pairwise (· < ·) → (∀ x, x ∈ l1 ↔ x ∈ l2) → l1 = l2
  | [], [], _, _, _ => rfl
  | [], b :: t, _, _, h => by have := (h b).2 List.mem_cons_self; cases this
  | a :: s, [], _, _, h => by have := (h a).1 List.mem_cons_self; cases this
  | a :: s, b :: t, h1, h2, h => by
    rw [List.pairwise_cons] at h1 h2
    have e : a = b := by
      rcases List.mem_cons.mp ((h a).1 List.mem_cons_self) with e | ha
      · exact e
      rcases List.mem_cons.mp ((h b).2 List.mem_cons_self) with e | hb
      · exact e.symm
      have := h1.1 b hb; have := h2.1 a ha; omega
    subst e
    rw [sorted_ext h1.2 h2.2 fun x => ?_]
    constructor
    · intro hx
      rcases List.mem_cons.mp ((h x).1 (List.mem_cons_of_mem _ hx)) with e | hx'
      · have := h1.1 x hx; omega
      · exact hx'
    · intro hx
      rcases List.mem_cons.mp ((h x).2 (List.mem_cons_of_mem _ hx)) with e | hx'
      · have := h2.1 x hx; omega
      · exact hx'
/-- the mask of a row -/
def orL : Nat → List Int → Nat
  | acc, [] => acc
  | acc, x :: r => orL (acc ||| 2 ^ x.toNat) r
theorem orL_bit : ∀ (l : List Int) (acc j : Nat), (∀ x ∈ l, 0 ≤ x) → ((orL acc l).testBit j = true ↔ acc.testBit j = true ∨ (j : Int) ∈ l)
  | [], acc, j, _ => by simp [orL]
  | x :: r, acc, j, h => by
    simp only [orL]
    rw [orL_bit r _ j fun y hy => h y (List.mem_cons_of_mem _ hy), Nat.testBit_or, Nat.testBit_two_pow, List.mem_cons]
    have := h x List.mem_cons_self
    simp only [Bool.or_eq_true, decide_eq_true_eq]
    constructor
    · rintro ((h | h) | h)
      · exact .inl h
      · exact .inr (.inl (by omega))
      · exact .inr (.inr h)
    · rintro (h | h | h)
      · exact .inl (.inl h)
      · exact .inl (.inr (by omega))
      · exact .inr h
theorem testBit_big {M : Nat} (h : M < 65536) {j : Nat} (hj : 16 ≤ j) : M.testBit j = false :=
  Nat.testBit_lt_two_pow (Nat.lt_of_lt_of_le h (by have := Nat.pow_le_pow_right (n := 2) (by decide) hj; exact this))
theorem orL_list {M : Nat} (h : M < 65536) : orL 0 (listL M) = M := by
  apply Nat.eq_of_testBit_eq
  intro j
  rw [Bool.eq_iff_iff, orL_bit _ _ _ (fun x hx => by obtain ⟨j, _, _, rfl⟩ := (listL_mem M x).1 hx; omega), listL_mem]
  constructor
  · rintro (h | ⟨i, h1, h2, h3⟩)
    · simp at h
    · have : j = i := by omega
      subst this; exact h2
  · intro hb
    refine .inr ⟨j, ?_, hb, rfl⟩
    by_cases h16 : j < 16
    · exact h16
    · rw [testBit_big h (by omega)] at hb; cases hb
theorem list_orL {l : List Int} (hl : ∀ x ∈ l, 0 ≤ x ∧ x < 16) (hs : l.Pairwise (· < ·)) : listL (orL 0 l) = l := by
  refine sorted_ext (lf_sorted _ _ _) hs fun x => ?_
  have hx : x ∈ listL (orL 0 l) ↔ _ := listL_mem _ x
  show x ∈ listL (orL 0 l) ↔ _
  rw [hx]
  constructor
  · rintro ⟨j, h1, h2, rfl⟩
    rcases (orL_bit l 0 j fun y hy => (hl y hy).1).1 h2 with h | h
    · simp at h
    · exact h
  · intro h
    have := hl x h
    refine ⟨x.toNat, by omega, (orL_bit l 0 _ fun y hy => (hl y hy).1).2 (.inr ?_), by omega⟩
    rw [Int.toNat_of_nonneg this.1]; exact h
theorem orL_lt {l : List Int} (hl : ∀ x ∈ l, 0 ≤ x ∧ x < 16) : ∀ {acc : Nat}, acc < 65536 → orL acc l < 65536 := by
  intro acc ha
  show orL acc l < 2 ^ 16
  refine Nat.lt_pow_two_of_testBit _ fun i hi => ?_
  by_cases h : (orL acc l).testBit i = true
  · rcases (orL_bit l acc i fun y hy => (hl y hy).1).1 h with h | h
    · rw [testBit_big ha hi] at h; cases h
    · have := hl _ h; omega
  · simpa using h
theorem w_i64 (n : Int) (h₀ : 0 ≤ n) (h₁ : n < 2 ^ 63) : IntKind.i64.wrap n = n := by rw [IntKind.wrap_i64]; omega
theorem or_i64 {a b : Nat} (ha : a < 65536) (hb : b < 65536) : bits .or .i64 a b = ((a ||| b : Nat) : Int) :=
  (bits_nat .i64 63 (by decide) w_i64 a b (by omega) (by omega)).2
theorem or_lt {a b : Nat} (ha : a < 65536) (hb : b < 65536) : a ||| b < 65536 := Nat.or_lt_two_pow (n := 16) ha hb
theorem bit_iff (M i : Nat) (h : M < 65536) : bits .and .i64 (((M / 2 ^ i : Nat) : Int)) 1 = if M.testBit i = true then 1 else 0 := by
  have hlt : M / 2 ^ i < 65536 := Nat.lt_of_le_of_lt (Nat.div_le_self _ _) h
  have := (bits_nat .i64 63 (by decide) w_i64 (M / 2 ^ i) 1 (by omega) (by decide)).1
  have e1 : ((1 : Nat) : Int) = 1 := rfl
  rw [e1] at this
  rw [this, Nat.and_one_is_mod, Nat.testBit_eq_decide_div_mod_eq]
  rcases Nat.mod_two_eq_zero_or_one (M / 2 ^ i) with e | e <;> rw [e] <;> simp
theorem andNot_iff (a : Int) (h1 : -9223372036854775808 ≤ a) (h2 : a ≤ 9223372036854775807) : bits .andNot .i64 a 65535 = 0 ↔ 0 ≤ a ∧ a < 65536 := by
  have hb : bits .andNot .i64 a 65535 = IntKind.i64.wrap ((BitVec.ofInt 64 a &&& ~~~ (BitVec.ofInt 64 65535)).toNat : Int) := rfl
  have hl := (BitVec.ofInt 64 a &&& ~~~ (BitVec.ofInt 64 65535)).isLt
  have h0 : bits .andNot .i64 a 65535 = 0 ↔ (BitVec.ofInt 64 a &&& ~~~ (BitVec.ofInt 64 65535)).toNat = 0 := by
    rw [hb, IntKind.wrap_i64]; omega
  have hc : ∀ i, (~~~ (BitVec.ofInt 64 65535)).getLsbD i = decide (16 ≤ i ∧ i < 64) := fun i => by
    by_cases hi : i < 64
    · rw [BitVec.getLsbD_not]
      have e : (BitVec.ofInt 64 65535).getLsbD i = decide (i < 16) := by
        show ((BitVec.ofInt 64 65535).toNat).testBit i = _
        have : (BitVec.ofInt 64 65535).toNat = 2 ^ 16 - 1 := by decide
        rw [this, Nat.testBit_two_pow_sub_one]
      rw [e, decide_eq_true hi]
      by_cases h16 : i < 16
      · simp [h16]; omega
      · simp [h16, hi]; omega
    · rw [BitVec.getLsbD_of_ge _ _ (by omega)]; simp; omega
  rw [h0]
  have hz : (BitVec.ofInt 64 a &&& ~~~ (BitVec.ofInt 64 65535)).toNat = 0 ↔ (BitVec.ofInt 64 a).toNat < 65536 := by
    constructor
    · intro h
      show _ < 2 ^ 16
      refine Nat.lt_pow_two_of_testBit _ fun i hi => ?_
      show (BitVec.ofInt 64 a).getLsbD i = false
      have hx : (BitVec.ofInt 64 a &&& ~~~ (BitVec.ofInt 64 65535)).getLsbD i = false := by
        show Nat.testBit _ i = false
        rw [h]; simp
      rw [BitVec.getLsbD_and, hc] at hx
      by_cases h64 : i < 64
      · rw [decide_eq_true ⟨hi, h64⟩] at hx; simpa using hx
      · exact BitVec.getLsbD_of_ge _ _ (by omega)
    · intro h
      apply Nat.eq_of_testBit_eq
      intro i
      have : (BitVec.ofInt 64 a &&& ~~~ (BitVec.ofInt 64 65535)).getLsbD i = false := by
        rw [BitVec.getLsbD_and, hc]
        by_cases hi : 16 ≤ i
        · have : (BitVec.ofInt 64 a).getLsbD i = false := testBit_big h hi
          rw [this]; rfl
        · rw [decide_eq_false (by omega)]; simp
      rw [Nat.zero_testBit]; exact this
  rw [hz, BitVec.toNat_ofInt]
  have : ((2 ^ 64 : Nat) : Int) = 18446744073709551616 := by decide
  rw [this]; omega

/-- ranks by a claim pv -/
def rk (pv : Int → Int) (l : List Int) : List Int := (sortC (l.map fun i => (pv i, i))).map (·.2)
def ah (pv : Int → Int) (x y : Int) : Prop := ltC (pv x, x) (pv y, y) = true
theorem ah_irrefl {pv : Int → Int} {x : Int} (h : ah pv x x) : False := by
  unfold ah at h; rw [ltC_irrefl] at h; cases h
theorem ah_asymm {pv : Int → Int} {x y : Int} (h : ah pv x y) (h' : ah pv y x) : False := by
  unfold ah at h h'; rw [ltC_asymm h] at h'; cases h'
theorem ah_total {pv : Int → Int} {x y : Int} (h : x ≠ y) : ah pv x y ∨ ah pv y x := by
  unfold ah; rw [ltC_iff, ltC_iff]; simp only; omega
theorem rk_mem {pv : Int → Int} {l : List Int} {x : Int} : x ∈ rk pv l ↔ x ∈ l := by
  unfold rk
  rw [List.mem_map]
  constructor
  · rintro ⟨p, hp, rfl⟩
    obtain ⟨y, hy, rfl⟩ := List.mem_map.mp ((sortC_perm _).mem_iff.mp hp)
    exact hy
  · intro hx
    exact ⟨(pv x, x), (sortC_perm _).mem_iff.mpr (List.mem_map.mpr ⟨x, hx, rfl⟩), rfl⟩
theorem rk_len (pv : Int → Int) (l : List Int) : (rk pv l).length = l.length := by
  unfold rk; rw [List.length_map, (sortC_perm _).length_eq, List.length_map]
theorem rk_sorted {pv : Int → Int} {l : List Int} (h : l.Pairwise (· < ·)) : (rk pv l).Pairwise (ah pv) := by
  have hn : (l.map fun i => (pv i, i)).Nodup := List.Pairwise.map (R := (· < ·)) _ (fun a b hab e => by
    have := congrArg Prod.snd e; simp at this; omega) h
  have hs := sortC_strict hn
  unfold rk
  rw [List.pairwise_map]
  refine List.Pairwise.imp_of_mem (fun {a b} ha hb hab => ?_) hs
  obtain ⟨x, _, rfl⟩ := List.mem_map.mp ((sortC_perm _).mem_iff.mp ha)
  obtain ⟨y, _, rfl⟩ := List.mem_map.mp ((sortC_perm _).mem_iff.mp hb)
  exact hab
/-- first in the rank -/
def hd (pv : Int → Int) (l : List Int) : Int := (rk pv l).getD 0 0
theorem hd_spec {pv : Int → Int} {l : List Int} (h : l.Pairwise (· < ·)) (hne : l.length ≠ 0) : hd pv l ∈ l ∧ ∀ y ∈ l, y ≠ hd pv l → ah pv (hd pv l) y := by
  have hs := rk_sorted (pv := pv) h
  have hl := rk_len pv l
  unfold hd
  cases hr : rk pv l with
  | nil => rw [hr] at hl; simp at hl; omega
  | cons a s =>
    rw [hr, List.pairwise_cons] at hs
    refine ⟨rk_mem.mp (by rw [hr]; simp), fun y hy hne => ?_⟩
    have := rk_mem (pv := pv).mpr hy
    rw [hr] at this
    rcases List.mem_cons.mp this with e | e
    · exact absurd e (by simpa using hne)
    · exact hs.1 y e
theorem hd_unique {pv : Int → Int} {l : List Int} {o : Int} (h : l.Pairwise (· < ·)) (ho : o ∈ l) (ha : ∀ y ∈ l, y ≠ o → ah pv o y) : hd pv l = o := by
  have hne : l.length ≠ 0 := fun e => by rw [List.length_eq_zero_iff.mp e] at ho; cases ho
  obtain ⟨h1, h2⟩ := hd_spec (pv := pv) h hne
  by_cases e : o = hd pv l
  · exact e.symm
  · exact absurd (h2 o ho e) fun h' => ah_asymm h' (ha _ h1 (fun e' => e e'.symm))
theorem snd_spec {pv : Int → Int} {l : List Int} (h : l.Pairwise (· < ·)) (h2 : 2 ≤ l.length) : (rk pv l).getD 1 0 ∈ l ∧ (rk pv l).getD 1 0 ≠ hd pv l ∧ ∀ y ∈ l, y ≠ hd pv l → y ≠ (rk pv l).getD 1 0 → ah pv ((rk pv l).getD 1 0) y := by
  have hs := rk_sorted (pv := pv) h
  have hl := rk_len pv l
  unfold hd
  cases hr : rk pv l with
  | nil => rw [hr] at hl; simp at hl; omega
  | cons a s =>
    cases s with
    | nil => rw [hr] at hl; simp at hl; omega
    | cons b t =>
      rw [hr, List.pairwise_cons, List.pairwise_cons] at hs
      refine ⟨rk_mem.mp (by rw [hr]; simp), fun e => ?_, fun y hy h1 h2 => ?_⟩
      · have := hs.1 b List.mem_cons_self
        simp at e; rw [e] at this; exact ah_irrefl this
      have := rk_mem (pv := pv).mpr hy
      rw [hr] at this
      rcases List.mem_cons.mp this with e | e
      · exact absurd e (by simpa using h1)
      rcases List.mem_cons.mp e with e | e
      · exact absurd e (by simpa using h2)
      · exact hs.2.1 y e
end Go.Proofs.Ytjijejbnnbbjgaa
