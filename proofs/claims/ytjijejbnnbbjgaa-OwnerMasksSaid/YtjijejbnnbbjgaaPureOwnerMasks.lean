/- The plain statement behind OwnerMasks: numbers and lists alone. -/
import Derived.Test.YtjijejbnnbbjgaaPOwnerMasksx
import Derived.Test.YtjijejbnnbbjgaaD7
set_option linter.unusedSimpArgs false
set_option linter.unusedVariables false
namespace Go.Proofs.Ytjijejbnnbbjgaa.Pure
open Go.RowKit Go.Proofs.Ytjijejbnnbbjgaa.POwnerMasks Go.Proofs.YtjijejbnnbbjgaaW.PrintWords Go.Proofs.YtjijejbnnbbjgaaW.PrintLast

theorem w64 {n : Int} (h : -9223372036854775808 ≤ n) (k : n ≤ 9223372036854775807) : wrap64 n = n := by unfold wrap64; omega
theorem rd_drop {l : List Int} {i : Nat} (h : i < l.length) : l.drop i = rd l i :: l.drop (i + 1) := by
  rw [List.drop_eq_getElem_cons h]
  simp [rd, List.getD_eq_getElem?_getD, h]
/-- rising, from above 'last', below 16 -/
def rtB : Int → List Int → Bool
  | _, [] => true
  | last, x :: r => decide (last < x) && (decide (x < 16) && rtB x r)
theorem rtB_all : ∀ (last : Int) (l : List Int), rtB last l = true → (∀ x ∈ l, last < x ∧ x < 16) ∧ l.Pairwise (· < ·)
  | _, [], _ => ⟨(fun x h => by cases h), List.Pairwise.nil⟩
  | last, x :: r, h => by
    simp only [rtB, Bool.and_eq_true, decide_eq_true_eq] at h
    obtain ⟨h1, h2, h3⟩ := h
    have ih := rtB_all x r h3
    refine ⟨fun y hy => ?_, List.pairwise_cons.mpr ⟨fun y hy => (ih.1 y hy).1, ih.2⟩⟩
    rcases List.mem_cons.mp hy with rfl | hy
    · exact ⟨h1, h2⟩
    · have := ih.1 y hy; exact ⟨by omega, this.2⟩
theorem rtB_len : ∀ (last : Int) (l : List Int), rtB last l = true → -1 ≤ last → last ≤ 15 → (l.length : Int) + last ≤ 15
  | _, [], _, _, _ => by simp; omega
  | last, x :: r, h, h0, h5 => by
    simp only [rtB, Bool.and_eq_true, decide_eq_true_eq] at h
    have := rtB_len x r h.2.2 (by omega) (by omega)
    simp only [List.length_cons]; omega
theorem right_ev (l : List Int) (hl : l.length ≤ 4611686018427387904) (d : Nat) : ∀ (i : Nat) (last : Int), i ≤ l.length → l.length - i = d → Ev (fun k => owner_right.l0 k last l (l.length : Int) (i : Int)) (rtB last (l.drop i)) := by
  induction d with
  | zero =>
    intro i last h hd
    have e : i = l.length := by omega
    subst e
    rw [List.drop_length]
    refine ⟨1, fun k hk => ?_⟩
    obtain ⟨k, rfl⟩ : ∃ m, k = m + 1 := ⟨k - 1, by omega⟩
    simp only [owner_right.l0]; rw [if_neg (by omega)]; rfl
  | succ d ih =>
    intro i last h hd
    have hi : i < l.length := by omega
    rw [rd_drop hi]
    by_cases h1 : rd l i ≤ last
    · refine ⟨1, fun k hk => ?_⟩
      obtain ⟨k, rfl⟩ : ∃ m, k = m + 1 := ⟨k - 1, by omega⟩
      simp only [owner_right.l0]; rw [if_pos (by omega), if_pos (by omega), if_pos (by omega), if_pos h1]
      simp [rtB]; omega
    by_cases h2 : rd l i ≥ 16
    · refine ⟨1, fun k hk => ?_⟩
      obtain ⟨k, rfl⟩ : ∃ m, k = m + 1 := ⟨k - 1, by omega⟩
      simp only [owner_right.l0]; rw [if_pos (by omega), if_pos (by omega), if_pos (by omega), if_neg h1, if_pos h2]
      simp [rtB]; omega
    have e : rtB last (rd l i :: l.drop (i + 1)) = rtB (rd l i) (l.drop (i + 1)) := by
      simp only [rtB]; rw [decide_eq_true (by omega), decide_eq_true (by omega)]; rfl
    rw [e]
    refine Ev.step (f := fun k => owner_right.l0 k (rd l i) l (l.length : Int) ((i + 1 : Nat) : Int)) (fun k => ?_) (ih (i + 1) (rd l i) (by omega) (by omega))
    simp only [owner_right.l0]; rw [if_pos (by omega), if_pos (by omega), if_pos (by omega), if_neg h1, if_neg h2, w64 (by omega) (by omega)]
    rfl
theorem Right_ev (l : List Int) (hl : l.length ≤ 4611686018427387904) : Ev (fun k => owner_right.f k l) (rtB (-1) l) := by
  have := right_ev l hl l.length 0 (-1) (by omega) (by omega)
  simpa [owner_right.f] using this
theorem rank_ev (l : List Int) (h : Int) (hl : l.length ≤ 4611686018427387904) : Ev (fun k => owner_Rank.f k l h) (if rtB (-1) l = true then (rankL h l, 0) else ([], 1)) := by
  unfold owner_Rank.f
  refine Ev.bind (f := fun _ t => (if t = true then (some (rankL h l, 0)) else (some (([] : List Int), 1)))) (Right_ev l hl) ⟨0, fun k _ => ?_⟩
  split <;> rfl
def ofL (h : Int) (l : List Int) : Int × Int := if rtB (-1) l = true then (if l.length = 0 then (0, 20) else (rd (rankL h l) 0, 0)) else (0, 1)
theorem rankL_len (h : Int) (l : List Int) : (rankL h l).length = l.length := by simp [rankL, claimsL]
theorem of_ev (l : List Int) (h : Int) (hl : l.length ≤ 4611686018427387904) : Ev (fun k => owner_Of.f k l h) (ofL h l) := by
  obtain ⟨K, hK⟩ := rank_ev l h hl
  refine ⟨K, fun k hk => ?_⟩
  have hk' : owner_Rank.f k l h = some (if rtB (-1) l = true then (rankL h l, 0) else ([], 1)) := hK k hk
  show owner_Of.f k l h = _
  unfold owner_Of.f ofL
  rw [hk']
  by_cases hr : rtB (-1) l = true
  · rw [if_pos hr, if_pos hr]
    simp only [Option.bind_some, if_true, rankL_len]
    by_cases h0 : l.length = 0
    · rw [if_pos (by omega), if_pos h0]
    · rw [if_neg (by omega), if_pos (by omega), if_neg h0]
  · rw [if_neg hr, if_neg hr]; rfl
theorem moved_ev (a : List Int) (ha : a.length ≤ 4611686018427387904) (d : Nat) : ∀ i : Nat, i ≤ a.length → a.length - i = d → Ev (fun k => steelyardref10_Moved.l0 k a a 0 (i : Int)) (0, 0) := by
  induction d with
  | zero =>
    intro i h hd
    refine ⟨1, fun k hk => ?_⟩
    obtain ⟨k, rfl⟩ : ∃ m, k = m + 1 := ⟨k - 1, by omega⟩
    simp only [steelyardref10_Moved.l0]; rw [if_neg (by omega)]
  | succ d ih =>
    intro i h hd
    refine Ev.step (f := fun k => steelyardref10_Moved.l0 k a a 0 ((i + 1 : Nat) : Int)) (fun k => ?_) (ih (i + 1) (by omega) (by omega))
    simp only [steelyardref10_Moved.l0]; rw [if_pos (by omega), if_pos (by omega), if_pos (by omega), if_pos trivial, w64 (by omega) (by omega)]
    rfl
theorem same_ev (a : List Int) (ha : a.length ≤ 4611686018427387904) : Ev (fun k => steelyardref10_Same.f k a a) true := by
  have h := moved_ev a ha a.length 0 (by omega) (by omega)
  obtain ⟨K, hK⟩ := h
  refine ⟨K, fun k hk => ?_⟩
  have h1 : steelyardref10_Moved.l0 k a a 0 0 = some (0, 0) := hK k hk
  show steelyardref10_Same.f k a a = _
  unfold steelyardref10_Same.f steelyardref10_Moved.f
  rw [if_pos rfl, h1]
  rfl
theorem known_ev : Ev (fun k => steelyardlaw11_known.f k) true := by
  have h1 := of_ev [5] 77 (by decide)
  have e1 : ofL 77 [5] = (5, 0) := by
    have : rankL 77 [5] = [5] := by simp [rankL, claimsL]
    unfold ofL; rw [this]; rfl
  have h4 := of_ev [] 1 (by decide)
  have e4 : ofL 1 [] = (0, 20) := rfl
  have h2 : Ev (fun k => owner_Mask.f k [0, 2]) (5, 0) := Ev.of (owner_Mask.mono _) (k := 10) (by decide +kernel)
  have h3 : Ev (fun k => owner_List.f k 5) ([0, 2], 0) := Ev.of (owner_List.mono _) (k := 30) (by decide +kernel)
  have h5 := same_ev [0, 2] (by decide)
  rw [e1] at h1; rw [e4] at h4
  obtain ⟨K1, h1⟩ := h1; obtain ⟨K2, h2⟩ := h2; obtain ⟨K3, h3⟩ := h3; obtain ⟨K4, h4⟩ := h4; obtain ⟨K5, h5⟩ := h5
  refine ⟨K1 + K2 + K3 + K4 + K5, fun k hk => ?_⟩
  have h1' : owner_Of.f k [5] 77 = some (5, 0) := h1 k (by omega)
  have h2' : owner_Mask.f k [0, 2] = some (5, 0) := h2 k (by omega)
  have h3' : owner_List.f k 5 = some ([0, 2], 0) := h3 k (by omega)
  have h4' : owner_Of.f k [] 1 = some (0, 20) := h4 k (by omega)
  have h5' : steelyardref10_Same.f k [0, 2] [0, 2] = some true := h5 k (by omega)
  show steelyardlaw11_known.f k = _
  unfold steelyardlaw11_known.f
  rw [h1', h2', h3', h4']
  simp only [Option.bind_some, if_true, h5']
  rfl

def pv (l : List Int) (i : Nat) : Int := if i = 0 then -1 else rd l ((i - 1 : Nat) : Int)
theorem rright_ev (l : List Int) (hl : l.length ≤ 4611686018427387904) (d : Nat) : ∀ i : Nat, i ≤ l.length → l.length - i = d → -1 ≤ pv l i → Ev (fun k => steelyardref11_Right.l0 k l (i : Int)) (rtB (pv l i) (l.drop i)) := by
  induction d with
  | zero =>
    intro i h hd hp
    have e : i = l.length := by omega
    subst e
    rw [List.drop_length]
    refine ⟨1, fun k hk => ?_⟩
    obtain ⟨k, rfl⟩ : ∃ m, k = m + 1 := ⟨k - 1, by omega⟩
    simp only [steelyardref11_Right.l0]; rw [if_neg (by omega)]; rfl
  | succ d ih =>
    intro i h hd hp
    have hi : i < l.length := by omega
    rw [rd_drop hi]
    have epv : pv l (i + 1) = rd l i := by unfold pv; rw [if_neg (by omega), Nat.add_sub_cancel]
    have fin : ∀ b : Bool, (∀ k, steelyardref11_Right.l0 (k + 1) l (i : Int) = some b) → Ev (fun k => steelyardref11_Right.l0 k l (i : Int)) b := fun b hb => ⟨1, fun k hk => by
      obtain ⟨k, rfl⟩ : ∃ m, k = m + 1 := ⟨k - 1, by omega⟩
      exact hb k⟩
    have hw : wrap64 ((i : Int) + 1) = ((i + 1 : Nat) : Int) := by rw [w64 (by omega) (by omega)]; rfl
    by_cases h1 : rd l i < 0
    · have e : rtB (pv l i) (rd l i :: l.drop (i + 1)) = false := by simp only [rtB]; rw [decide_eq_false (by omega)]; rfl
      rw [e]
      exact fin _ fun k => by simp only [steelyardref11_Right.l0]; rw [if_pos (by omega), if_pos (by omega), if_pos h1]
    by_cases h2 : rd l i ≥ 16
    · have e : rtB (pv l i) (rd l i :: l.drop (i + 1)) = false := by simp only [rtB]; rw [decide_eq_false (p := rd l i < 16) (by omega)]; simp
      rw [e]
      exact fin _ fun k => by simp only [steelyardref11_Right.l0]; rw [if_pos (by omega), if_pos (by omega), if_neg h1, if_pos h2]
    have ih' := ih (i + 1) (by omega) (by omega) (by rw [epv]; omega)
    rw [epv] at ih'
    by_cases h0 : i = 0
    · have e : rtB (pv l i) (rd l i :: l.drop (i + 1)) = rtB (rd l i) (l.drop (i + 1)) := by
        have : pv l i = -1 := by unfold pv; rw [if_pos h0]
        simp only [rtB]; rw [decide_eq_true (by omega), decide_eq_true (by omega)]; rfl
      rw [e]
      refine Ev.step (f := fun k => steelyardref11_Right.l0 k l ((i + 1 : Nat) : Int)) (fun k => ?_) ih'
      simp only [steelyardref11_Right.l0]; rw [if_pos (by omega), if_pos (by omega), if_neg h1, if_neg h2, if_neg (by omega), hw]
    · have ep : pv l i = rd l ((i - 1 : Nat) : Int) := by unfold pv; rw [if_neg h0]
      have hw2 : wrap64 ((i : Int) - 1) = ((i - 1 : Nat) : Int) := by rw [w64 (by omega) (by omega)]; omega
      by_cases h3 : rd l i ≤ rd l ((i - 1 : Nat) : Int)
      · have e : rtB (pv l i) (rd l i :: l.drop (i + 1)) = false := by simp only [rtB]; rw [decide_eq_false (by omega)]; rfl
        rw [e]
        exact fin _ fun k => by simp only [steelyardref11_Right.l0]; rw [if_pos (by omega), if_pos (by omega), if_neg h1, if_neg h2, if_pos (by omega), hw2, if_pos (by omega), if_pos (by omega), if_pos h3]
      · have e : rtB (pv l i) (rd l i :: l.drop (i + 1)) = rtB (rd l i) (l.drop (i + 1)) := by
          simp only [rtB]; rw [decide_eq_true (by omega), decide_eq_true (by omega)]; rfl
        rw [e]
        refine Ev.step (f := fun k => steelyardref11_Right.l0 k l ((i + 1 : Nat) : Int)) (fun k => ?_) ih'
        simp only [steelyardref11_Right.l0]; rw [if_pos (by omega), if_pos (by omega), if_neg h1, if_neg h2, if_pos (by omega), hw2, if_pos (by omega), if_pos (by omega), if_neg h3, hw]
theorem RRight_ev (l : List Int) (hl : l.length ≤ 4611686018427387904) : Ev (fun k => steelyardref11_Right.f k l) (rtB (-1) l) := by
  have := rright_ev l hl l.length 0 (by omega) (by omega) (by simp [pv])
  simpa [steelyardref11_Right.f, pv] using this

theorem shr_bit {M i : Nat} (h : M < 65536) (hi : i < 16) : Go.bits .and .i64 (shr .i64 (M : Int) (i : Int)) 1 = if M.testBit i = true then 1 else 0 := by
  have e : shr .i64 (M : Int) (i : Int) = ((M / 2 ^ i : Nat) : Int) := by
    unfold shr
    rw [Int.toNat_natCast, Nat.min_eq_left (by show i ≤ 64; omega)]
    push_cast; rfl
  rw [e]; exact bit_iff M i h
theorem list_l (M : Nat) (hM : M < 65536) : ∀ (n i : Nat) (acc : List Int), i + n = 16 → acc.length + n ≤ 16 → Ev (fun k => owner_List.l0 k (M : Int) acc (i : Int)) (acc ++ lf M n i, 0)
  | 0, i, acc, hi, ha => by
    refine ⟨1, fun k hk => ?_⟩
    obtain ⟨k, rfl⟩ : ∃ m, k = m + 1 := ⟨k - 1, by omega⟩
    simp only [owner_List.l0]; rw [if_neg (by omega)]; simp [lf]
  | n + 1, i, acc, hi, ha => by
    have hw : wrap64 ((i : Int) + 1) = ((i + 1 : Nat) : Int) := by rw [w64 (by omega) (by omega)]; rfl
    by_cases hb : M.testBit i = true
    · have e : acc ++ lf M (n + 1) i = (acc ++ [(i : Int)]) ++ lf M n (i + 1) := by simp [lf, hb]
      rw [e]
      refine Ev.step (f := fun k => owner_List.l0 k (M : Int) (acc ++ [(i : Int)]) ((i + 1 : Nat) : Int)) (fun k => ?_) (list_l M hM n (i + 1) (acc ++ [(i : Int)]) (by omega) (by simp; omega))
      simp only [owner_List.l0]; rw [if_pos (by omega), if_pos (by omega), shr_bit hM (by omega), if_pos hb, if_pos rfl, if_pos (by omega), hw]
    · have e : acc ++ lf M (n + 1) i = acc ++ lf M n (i + 1) := by simp [lf, hb]
      rw [e]
      refine Ev.step (f := fun k => owner_List.l0 k (M : Int) acc ((i + 1 : Nat) : Int)) (fun k => ?_) (list_l M hM n (i + 1) acc (by omega) (by omega))
      simp only [owner_List.l0]; rw [if_pos (by omega), if_pos (by omega), shr_bit hM (by omega), if_neg hb, if_neg (by decide), hw]
theorem List_ev (a : Int) (h1 : -9223372036854775808 ≤ a) (h2 : a ≤ 9223372036854775807) : Ev (fun k => owner_List.f k a) (if 0 ≤ a ∧ a < 65536 then (listL a.toNat, 0) else ([], 1)) := by
  by_cases h : 0 ≤ a ∧ a < 65536
  · rw [if_pos h]
    obtain ⟨K, hK⟩ := list_l a.toNat (by omega) 16 0 [] (by omega) (by simp)
    refine ⟨K, fun k hk => ?_⟩
    have hk' : owner_List.l0 k ((a.toNat : Nat) : Int) [] ((0 : Nat) : Int) = _ := hK k hk
    rw [Int.toNat_of_nonneg h.1] at hk'
    show owner_List.f k a = _
    unfold owner_List.f
    rw [if_pos ((andNot_iff a h1 h2).2 h)]
    exact hk'
  · rw [if_neg h]
    refine ⟨0, fun k _ => ?_⟩
    show owner_List.f k a = _
    unfold owner_List.f
    rw [if_neg fun e => h ((andNot_iff a h1 h2).1 e)]
theorem List_nat (M : Nat) (h : M < 65536) : Ev (fun k => owner_List.f k (M : Int)) (listL M, 0) := by
  have := List_ev (M : Int) (by omega) (by omega)
  rwa [if_pos (by omega), Int.toNat_natCast] at this
theorem rtB_of : ∀ (last : Int) (l : List Int), (∀ x ∈ l, last < x ∧ x < 16) → l.Pairwise (· < ·) → rtB last l = true
  | _, [], _, _ => rfl
  | last, x :: r, h, hp => by
    rw [List.pairwise_cons] at hp
    have := h x List.mem_cons_self
    simp only [rtB, Bool.and_eq_true, decide_eq_true_eq]
    exact ⟨this.1, this.2, rtB_of x r (fun y hy => ⟨hp.1 y hy, (h y (List.mem_cons_of_mem _ hy)).2⟩) hp.2⟩
theorem listL_rt (M : Nat) : rtB (-1) (listL M) = true := by
  refine rtB_of _ _ (fun x hx => ?_) (lf_sorted M 16 0)
  obtain ⟨j, h1, _, rfl⟩ := (listL_mem M x).1 hx; omega
theorem listL_len (M : Nat) : (listL M).length ≤ 16 := lf_len M 16 0
def pvH (h : Int) : Int → Int := fun i => pairV i h
theorem rankL_rk (h : Int) (l : List Int) : rankL h l = rk (pvH h) l := rfl
theorem Of_list (h : Int) (l : List Int) (hl : l.length ≤ 16) (hr : rtB (-1) l = true) : Ev (fun k => owner_Of.f k l h) (if l.length = 0 then (0, 20) else (hd (pvH h) l, 0)) := by
  have := of_ev l h (by omega)
  unfold ofL at this
  rwa [if_pos hr] at this
theorem Rank_list (h : Int) (l : List Int) (hl : l.length ≤ 16) (hr : rtB (-1) l = true) : Ev (fun k => owner_Rank.f k l h) (rk (pvH h) l, 0) := by
  have := rank_ev l h (by omega)
  rwa [if_pos hr, rankL_rk] at this
theorem shl_pow {x : Int} (h0 : 0 ≤ x) (h1 : x < 16) : shl .i64 1 x = ((2 ^ x.toNat : Nat) : Int) := by
  unfold shl
  rw [Nat.min_eq_left (by show x.toNat ≤ 64; omega), Int.one_mul]
  have hp : (2 : Nat) ^ x.toNat ≤ 2 ^ 15 := Nat.pow_le_pow_right (by decide) (by omega)
  have e : (2 : Int) ^ x.toNat = ((2 ^ x.toNat : Nat) : Int) := by push_cast; rfl
  rw [e]
  exact w_i64 _ (Int.natCast_nonneg _) (by have h := Nat.lt_of_le_of_lt hp (by decide : 2 ^ 15 < 2 ^ 63)
                                           exact_mod_cast h)
theorem pow_lt {x : Int} (h0 : 0 ≤ x) (h1 : x < 16) : 2 ^ x.toNat < 65536 := 
  Nat.lt_of_le_of_lt (Nat.pow_le_pow_right (by decide) (by omega : x.toNat ≤ 15)) (by decide)
theorem rd_mem {l : List Int} {i : Nat} (h : i < l.length) : rd l i ∈ l := by
  have e := rd_drop h
  exact List.mem_of_mem_drop (i := i) (by rw [e]; exact List.mem_cons_self)

theorem mask_l (l : List Int) (hl : l.length ≤ 4611686018427387904) (hb : ∀ x ∈ l, 0 ≤ x ∧ x < 16) (d : Nat) : ∀ (i acc : Nat), i ≤ l.length → l.length - i = d → acc < 65536 → Ev (fun k => owner_Mask.l0 k (acc : Int) l (l.length : Int) (i : Int)) (((orL acc (l.drop i) : Nat) : Int), 0) := by
  induction d with
  | zero =>
    intro i acc h hd ha
    have e : i = l.length := by omega
    subst e
    rw [List.drop_length]
    refine ⟨1, fun k hk => ?_⟩
    obtain ⟨k, rfl⟩ : ∃ m, k = m + 1 := ⟨k - 1, by omega⟩
    simp only [owner_Mask.l0]; rw [if_neg (by omega)]; rfl
  | succ d ih =>
    intro i acc h hd ha
    have hi : i < l.length := by omega
    have hx := hb _ (rd_mem hi)
    rw [rd_drop hi]
    simp only [orL]
    have hp := pow_lt hx.1 hx.2
    refine Ev.step (f := fun k => owner_Mask.l0 k ((acc ||| 2 ^ (rd l i).toNat : Nat) : Int) l (l.length : Int) ((i + 1 : Nat) : Int)) (fun k => ?_) (ih (i + 1) _ (by omega) (by omega) (or_lt ha hp))
    simp only [owner_Mask.l0]
    rw [if_pos (by omega), if_pos (by omega), if_pos (by omega), if_pos (by omega), shl_pow hx.1 hx.2, or_i64 ha hp, w64 (by omega) (by omega)]
    rfl
theorem rt_range {l : List Int} (h : rtB (-1) l = true) : ∀ x ∈ l, 0 ≤ x ∧ x < 16 := fun x hx => by
  have := (rtB_all _ _ h).1 x hx; omega
theorem Mask_ev (l : List Int) (hl : l.length ≤ 4611686018427387904) : Ev (fun k => owner_Mask.f k l) (if rtB (-1) l = true then (((orL 0 l : Nat) : Int), 0) else (0, 1)) := by
  obtain ⟨K1, h1⟩ := Right_ev l hl
  have h1 : ∀ k, K1 ≤ k → owner_right.f k l = some (rtB (-1) l) := h1
  by_cases hr : rtB (-1) l = true
  · rw [if_pos hr]
    obtain ⟨K2, h2⟩ := mask_l l hl (rt_range hr) l.length 0 0 (by omega) (by omega) (by decide)
    refine ⟨K1 + K2, fun k hk => ?_⟩
    show owner_Mask.f k l = _
    unfold owner_Mask.f
    rw [h1 k (by omega), hr]
    have := h2 k (by omega)
    rw [List.drop_zero] at this
    simp only [Option.bind_some, if_true]
    exact this
  · rw [if_neg hr]
    refine ⟨K1, fun k hk => ?_⟩
    show owner_Mask.f k l = _
    unfold owner_Mask.f
    rw [h1 k (by omega)]
    have : rtB (-1) l = false := by simpa using hr
    rw [this]; rfl
theorem rmask_l (l : List Int) (hl : l.length ≤ 4611686018427387904) (hb : ∀ x ∈ l, 0 ≤ x ∧ x < 16) (d : Nat) : ∀ (i acc : Nat), i ≤ l.length → l.length - i = d → (l.drop i).Pairwise (· < ·) → (∀ x ∈ l.drop i, acc < 2 ^ x.toNat) → acc < 65536 → Ev (fun k => steelyardref11_Mask.l0 k l (acc : Int) (i : Int)) (((orL acc (l.drop i) : Nat) : Int), 0) := by
  induction d with
  | zero =>
    intro i acc h hd _ _ ha
    have e : i = l.length := by omega
    subst e
    rw [List.drop_length]
    refine ⟨1, fun k hk => ?_⟩
    obtain ⟨k, rfl⟩ : ∃ m, k = m + 1 := ⟨k - 1, by omega⟩
    simp only [steelyardref11_Mask.l0]; rw [if_neg (by omega)]; rfl
  | succ d ih =>
    intro i acc h hd hp hs ha
    have hi : i < l.length := by omega
    have hx := hb _ (rd_mem hi)
    rw [rd_drop hi] at hp hs ⊢
    rw [List.pairwise_cons] at hp
    simp only [orL]
    have hpw := pow_lt hx.1 hx.2
    have hlt := hs _ List.mem_cons_self
    have hor : acc ||| 2 ^ (rd l i).toNat = acc + 2 ^ (rd l i).toNat := by
      have := Nat.two_pow_add_eq_or_of_lt hlt 1
      rw [Nat.mul_one] at this
      rw [Nat.or_comm, ← this, Nat.add_comm]
    have hu : IntKind.u64.wrap (rd l i) = rd l i := by simp [IntKind.wrap, IntKind.bits, IntKind.signed]; omega
    refine Ev.step (f := fun k => steelyardref11_Mask.l0 k l ((acc ||| 2 ^ (rd l i).toNat : Nat) : Int) ((i + 1 : Nat) : Int)) (fun k => ?_) (ih (i + 1) _ (by omega) (by omega) hp.2 (fun y hy => ?_) (or_lt ha hpw))
    · simp only [steelyardref11_Mask.l0]
      rw [if_pos (by omega), if_pos (by omega), hu, if_pos (by omega), shl_pow hx.1 hx.2, hor, w64 (by omega) (by omega), w64 (by omega) (by omega)]
      rfl
    · have hlt2 := hp.1 y hy
      have : acc ||| 2 ^ (rd l i).toNat < 2 ^ ((rd l i).toNat + 1) := by rw [hor, Nat.pow_succ]; omega
      exact Nat.lt_of_lt_of_le this (Nat.pow_le_pow_right (by decide) (by omega))
theorem RMask_ev (l : List Int) (hl : l.length ≤ 4611686018427387904) : Ev (fun k => steelyardref11_Mask.f k l) (if rtB (-1) l = true then (((orL 0 l : Nat) : Int), 0) else (0, 1)) := by
  obtain ⟨K1, h1⟩ := RRight_ev l hl
  have h1 : ∀ k, K1 ≤ k → steelyardref11_Right.f k l = some (rtB (-1) l) := h1
  by_cases hr : rtB (-1) l = true
  · rw [if_pos hr]
    obtain ⟨K2, h2⟩ := rmask_l l hl (rt_range hr) l.length 0 0 (by omega) (by omega) (by rw [List.drop_zero]; exact (rtB_all _ _ hr).2) (fun x _ => Nat.two_pow_pos _) (by decide)
    refine ⟨K1 + K2, fun k hk => ?_⟩
    show steelyardref11_Mask.f k l = _
    unfold steelyardref11_Mask.f
    rw [h1 k (by omega), hr]
    have := h2 k (by omega)
    rw [List.drop_zero] at this
    simp only [Option.bind_some, if_true]
    exact this
  · rw [if_neg hr]
    refine ⟨K1, fun k hk => ?_⟩
    show steelyardref11_Mask.f k l = _
    unfold steelyardref11_Mask.f
    rw [h1 k (by omega)]
    have : rtB (-1) l = false := by simpa using hr
    rw [this]; rfl
theorem rlist_l (M : Nat) (hM : M < 65536) : ∀ (n i : Nat) (acc : List Int), i + n = 16 → acc.length + n ≤ 16 → Ev (fun k => steelyardref11_List.l0 k (M : Int) acc (i : Int)) (acc ++ lf M n i, 0)
  | 0, i, acc, hi, ha => by
    refine ⟨1, fun k hk => ?_⟩
    obtain ⟨k, rfl⟩ : ∃ m, k = m + 1 := ⟨k - 1, by omega⟩
    simp only [steelyardref11_List.l0]; rw [if_neg (by omega)]; simp [lf]
  | n + 1, i, acc, hi, ha => by
    have hw : wrap64 ((i : Int) + 1) = ((i + 1 : Nat) : Int) := by rw [w64 (by omega) (by omega)]; rfl
    have hu : IntKind.u64.wrap (i : Int) = (i : Int) := by simp [IntKind.wrap, IntKind.bits, IntKind.signed]; omega
    by_cases hb : M.testBit i = true
    · have e : acc ++ lf M (n + 1) i = (acc ++ [(i : Int)]) ++ lf M n (i + 1) := by simp [lf, hb]
      rw [e]
      refine Ev.step (f := fun k => steelyardref11_List.l0 k (M : Int) (acc ++ [(i : Int)]) ((i + 1 : Nat) : Int)) (fun k => ?_) (rlist_l M hM n (i + 1) (acc ++ [(i : Int)]) (by omega) (by simp; omega))
      simp only [steelyardref11_List.l0]; rw [hu, if_pos (by omega), if_pos (by omega), shr_bit hM (by omega), if_pos hb, if_pos rfl, if_pos (by omega), hw]
    · have e : acc ++ lf M (n + 1) i = acc ++ lf M n (i + 1) := by simp [lf, hb]
      rw [e]
      refine Ev.step (f := fun k => steelyardref11_List.l0 k (M : Int) acc ((i + 1 : Nat) : Int)) (fun k => ?_) (rlist_l M hM n (i + 1) acc (by omega) (by omega))
      simp only [steelyardref11_List.l0]; rw [hu, if_pos (by omega), if_pos (by omega), shr_bit hM (by omega), if_neg hb, if_neg (by decide), hw]
theorem RList_ev (a : Int) : Ev (fun k => steelyardref11_List.f k a) (if 0 ≤ a ∧ a < 65536 then (listL a.toNat, 0) else ([], 1)) := by
  by_cases h : 0 ≤ a ∧ a < 65536
  · rw [if_pos h]
    obtain ⟨K, hK⟩ := rlist_l a.toNat (by omega) 16 0 [] (by omega) (by simp)
    refine ⟨K + 1, fun k hk => ?_⟩
    obtain ⟨k, rfl⟩ : ∃ m, k = m + 1 := ⟨k - 1, by omega⟩
    have hk' : steelyardref11_List.l0 k ((a.toNat : Nat) : Int) [] ((0 : Nat) : Int) = _ := hK k (by omega)
    rw [Int.toNat_of_nonneg h.1] at hk'
    show steelyardref11_List.f (k + 1) a = _
    unfold steelyardref11_List.f
    rw [if_neg (by omega), decide_eq_false (by omega)]
    simp only [steelyardref11_List.j0]
    rw [if_neg (by decide)]
    exact hk'
  · rw [if_neg h]
    refine ⟨1, fun k hk => ?_⟩
    obtain ⟨k, rfl⟩ : ∃ m, k = m + 1 := ⟨k - 1, by omega⟩
    show steelyardref11_List.f (k + 1) a = _
    unfold steelyardref11_List.f
    by_cases h0 : a < 0
    · rw [if_pos h0]; rfl
    · rw [if_neg h0, decide_eq_true (by omega)]; rfl
theorem OwnerMasks : steelyardlaw11_OwnerMasks.Pure := by
  intro l a _ hl _ ha
  have ha : -9223372036854775808 ≤ a ∧ a ≤ 9223372036854775807 := by
    simp [Lit.wf, IntKind.min, IntKind.max, IntKind.bits, IntKind.signed] at ha; omega
  obtain ⟨K1, h1⟩ := Mask_ev l (by omega)
  obtain ⟨K2, h2⟩ := RMask_ev l (by omega)
  obtain ⟨K3, h3⟩ := List_ev a ha.1 ha.2
  obtain ⟨K4, h4⟩ := RList_ev a
  obtain ⟨K5, h5⟩ := same_ev l (by omega)
  have hlen : (if 0 ≤ a ∧ a < 65536 then (listL a.toNat, (0 : Int)) else ([], 1)).1.length ≤ 4611686018427387904 := by
    split
    · have := listL_len a.toNat; simp only; omega
    · simp
  obtain ⟨K6, h6⟩ := same_ev _ hlen
  obtain ⟨K7, h7⟩ := known_ev
  obtain ⟨K8, h8⟩ := Mask_ev (listL a.toNat) (by have := listL_len a.toNat; omega)
  have h1 : ∀ k, K1 ≤ k → owner_Mask.f k l = _ := h1
  have h2 : ∀ k, K2 ≤ k → steelyardref11_Mask.f k l = _ := h2
  have h3 : ∀ k, K3 ≤ k → owner_List.f k a = _ := h3
  have h4 : ∀ k, K4 ≤ k → steelyardref11_List.f k a = _ := h4
  have h5 : ∀ k, K5 ≤ k → steelyardref10_Same.f k l l = _ := h5
  have h6 : ∀ k, K6 ≤ k → steelyardref10_Same.f k _ _ = _ := h6
  have h7 : ∀ k, K7 ≤ k → steelyardlaw11_known.f k = _ := h7
  have h8 : ∀ k, K8 ≤ k → owner_Mask.f k (listL a.toNat) = _ := h8
  have hj1 : ∃ K, ∀ k, K ≤ k → steelyardlaw11_OwnerMasks.j1 k l (if rtB (-1) l = true then (((orL 0 l : Nat) : Int), (0 : Int)) else (0, 1)).1 (if rtB (-1) l = true then (((orL 0 l : Nat) : Int), (0 : Int)) else (0, 1)).2 = some true := by
    by_cases hr : rtB (-1) l = true
    · rw [if_pos hr]
      have hlt := orL_lt (rt_range hr) (acc := 0) (by decide)
      obtain ⟨K9, h9⟩ := List_nat _ hlt
      have h9 : ∀ k, K9 ≤ k → owner_List.f k ((orL 0 l : Nat) : Int) = _ := h9
      refine ⟨K5 + K7 + K9 + 1, fun k hk => ?_⟩
      obtain ⟨k, rfl⟩ : ∃ m, k = m + 1 := ⟨k - 1, by omega⟩
      simp only [steelyardlaw11_OwnerMasks.j1]
      rw [if_pos trivial, h9 k (by omega), list_orL (rt_range hr) (rtB_all _ _ hr).2]
      simp only [Option.bind_some, h5 k (by omega), h7 k (by omega), if_true]
    · rw [if_neg hr]
      refine ⟨K7 + 1, fun k hk => ?_⟩
      obtain ⟨k, rfl⟩ : ∃ m, k = m + 1 := ⟨k - 1, by omega⟩
      simp only [steelyardlaw11_OwnerMasks.j1]
      rw [if_neg (by decide), h7 k (by omega)]
      rfl
  obtain ⟨K9, h9⟩ := hj1
  have hj0 : ∃ K, ∀ k, K ≤ k → steelyardlaw11_OwnerMasks.j0 k l a (if rtB (-1) l = true then (((orL 0 l : Nat) : Int), (0 : Int)) else (0, 1)).1 (if rtB (-1) l = true then (((orL 0 l : Nat) : Int), (0 : Int)) else (0, 1)).2 (if 0 ≤ a ∧ a < 65536 then (listL a.toNat, (0 : Int)) else ([], 1)).1 (if 0 ≤ a ∧ a < 65536 then (listL a.toNat, (0 : Int)) else ([], 1)).2 false = some true := by
    by_cases hm : 0 ≤ a ∧ a < 65536
    · rw [if_pos hm]
      refine ⟨K8 + K9 + 1, fun k hk => ?_⟩
      obtain ⟨k, rfl⟩ : ∃ m, k = m + 1 := ⟨k - 1, by omega⟩
      simp only [steelyardlaw11_OwnerMasks.j0]
      rw [if_neg (by decide), if_pos trivial, h8 k (by omega), if_pos (listL_rt _), orL_list (by omega)]
      simp only [Option.bind_some]
      rw [if_pos (by omega), if_pos trivial]
      exact h9 k (by omega)
    · rw [if_neg hm]
      refine ⟨K9 + 1, fun k hk => ?_⟩
      obtain ⟨k, rfl⟩ : ∃ m, k = m + 1 := ⟨k - 1, by omega⟩
      simp only [steelyardlaw11_OwnerMasks.j0]
      rw [if_neg (by decide), if_neg (by decide)]
      exact h9 k (by omega)
  obtain ⟨K10, h10⟩ := hj0
  refine ⟨K1 + K2 + K3 + K4 + K6 + K10, ?_⟩
  generalize hk : K1 + K2 + K3 + K4 + K6 + K10 = k
  unfold steelyardlaw11_OwnerMasks.f
  rw [h1 k (by omega), h2 k (by omega), h3 k (by omega), h4 k (by omega)]
  simp only [Option.bind_some, if_true, h6 k (by omega)]
  have e : ((if 0 ≤ a ∧ a < 65536 then (listL a.toNat, (0 : Int)) else ([], 1)).2 != (if 0 ≤ a ∧ a < 65536 then (listL a.toNat, (0 : Int)) else ([], 1)).2) = false := by simp
  rw [e]
  exact h10 k (by omega)

end Go.Proofs.Ytjijejbnnbbjgaa.Pure
