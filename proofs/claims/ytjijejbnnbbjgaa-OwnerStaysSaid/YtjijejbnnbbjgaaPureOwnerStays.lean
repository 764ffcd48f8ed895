/- The plain statement behind OwnerStays: numbers and lists alone. -/
import Derived.Test.YtjijejbnnbbjgaaPOwnerStaysx
import Derived.Test.YtjijejbnnbbjgaaD7
set_option linter.unusedSimpArgs false
set_option linter.unusedVariables false
namespace Go.Proofs.Ytjijejbnnbbjgaa.Pure
open Go.RowKit Go.Proofs.Ytjijejbnnbbjgaa.POwnerStays Go.Proofs.YtjijejbnnbbjgaaW.PrintWords Go.Proofs.YtjijejbnnbbjgaaW.PrintLast

theorem w64 {n : Int} (h : -9223372036854775808 ≤ n) (k : n ≤ 9223372036854775807) : wrap64 n = n := by unfold wrap64; omega
theorem rd_drop {l : List Int} {i : Nat} (h : i < l.length) : l.drop i = rd l i :: l.drop (i + 1) := by
  rw [List.drop_eq_getElem_cons h]
  simp [rd, List.getD_eq_getElem?_getD, h]
/-- rising, from above 'last', below 16 -/
def rtB : Int → List Int → Bool
  | _, [] => true
  | last, x :: r => decide (last < x) && (decide (x < 16) && rtB x r)
theorem rtB_all : ∀ (last : Int) (l : List Int), rtB last l = true → (∀ x ∈ l, last < x ∧ x < 16) ∧ l.Pairwise (· < ·)
  | _, [], _ => ⟨(fun x h => by cases h), List.Pairwise.nil⟩
  | last, x :: r, h => by
    simp only [rtB, Bool.and_eq_true, decide_eq_true_eq] at h
    obtain ⟨h1, h2, h3⟩ := h
    have ih := rtB_all x r h3
    refine ⟨fun y hy => ?_, List.pairwise_cons.mpr ⟨fun y hy => (ih.1 y hy).1, ih.2⟩⟩
    rcases List.mem_cons.mp hy with rfl | hy
    · exact ⟨h1, h2⟩
    · have := ih.1 y hy; exact ⟨by omega, this.2⟩
theorem rtB_len : ∀ (last : Int) (l : List Int), rtB last l = true → -1 ≤ last → last ≤ 15 → (l.length : Int) + last ≤ 15
  | _, [], _, _, _ => by simp; omega
  | last, x :: r, h, h0, h5 => by
    simp only [rtB, Bool.and_eq_true, decide_eq_true_eq] at h
    have := rtB_len x r h.2.2 (by omega) (by omega)
    simp only [List.length_cons]; omega
theorem right_ev (l : List Int) (hl : l.length ≤ 4611686018427387904) (d : Nat) : ∀ (i : Nat) (last : Int), i ≤ l.length → l.length - i = d → Ev (fun k => owner_right.l0 k last l (l.length : Int) (i : Int)) (rtB last (l.drop i)) := by
  induction d with
  | zero =>
    intro i last h hd
    have e : i = l.length := by omega
    subst e
    rw [List.drop_length]
    refine ⟨1, fun k hk => ?_⟩
    obtain ⟨k, rfl⟩ : ∃ m, k = m + 1 := ⟨k - 1, by omega⟩
    simp only [owner_right.l0]; rw [if_neg (by omega)]; rfl
  | succ d ih =>
    intro i last h hd
    have hi : i < l.length := by omega
    rw [rd_drop hi]
    by_cases h1 : rd l i ≤ last
    · refine ⟨1, fun k hk => ?_⟩
      obtain ⟨k, rfl⟩ : ∃ m, k = m + 1 := ⟨k - 1, by omega⟩
      simp only [owner_right.l0]; rw [if_pos (by omega), if_pos (by omega), if_pos (by omega), if_pos h1]
      simp [rtB]; omega
    by_cases h2 : rd l i ≥ 16
    · refine ⟨1, fun k hk => ?_⟩
      obtain ⟨k, rfl⟩ : ∃ m, k = m + 1 := ⟨k - 1, by omega⟩
      simp only [owner_right.l0]; rw [if_pos (by omega), if_pos (by omega), if_pos (by omega), if_neg h1, if_pos h2]
      simp [rtB]; omega
    have e : rtB last (rd l i :: l.drop (i + 1)) = rtB (rd l i) (l.drop (i + 1)) := by
      simp only [rtB]; rw [decide_eq_true (by omega), decide_eq_true (by omega)]; rfl
    rw [e]
    refine Ev.step (f := fun k => owner_right.l0 k (rd l i) l (l.length : Int) ((i + 1 : Nat) : Int)) (fun k => ?_) (ih (i + 1) (rd l i) (by omega) (by omega))
    simp only [owner_right.l0]; rw [if_pos (by omega), if_pos (by omega), if_pos (by omega), if_neg h1, if_neg h2, w64 (by omega) (by omega)]
    rfl
theorem Right_ev (l : List Int) (hl : l.length ≤ 4611686018427387904) : Ev (fun k => owner_right.f k l) (rtB (-1) l) := by
  have := right_ev l hl l.length 0 (-1) (by omega) (by omega)
  simpa [owner_right.f] using this
theorem rank_ev (l : List Int) (h : Int) (hl : l.length ≤ 4611686018427387904) : Ev (fun k => owner_Rank.f k l h) (if rtB (-1) l = true then (rankL h l, 0) else ([], 1)) := by
  unfold owner_Rank.f
  refine Ev.bind (f := fun _ t => (if t = true then (some (rankL h l, 0)) else (some (([] : List Int), 1)))) (Right_ev l hl) ⟨0, fun k _ => ?_⟩
  split <;> rfl
def ofL (h : Int) (l : List Int) : Int × Int := if rtB (-1) l = true then (if l.length = 0 then (0, 20) else (rd (rankL h l) 0, 0)) else (0, 1)
theorem rankL_len (h : Int) (l : List Int) : (rankL h l).length = l.length := by simp [rankL, claimsL]
theorem of_ev (l : List Int) (h : Int) (hl : l.length ≤ 4611686018427387904) : Ev (fun k => owner_Of.f k l h) (ofL h l) := by
  obtain ⟨K, hK⟩ := rank_ev l h hl
  refine ⟨K, fun k hk => ?_⟩
  have hk' : owner_Rank.f k l h = some (if rtB (-1) l = true then (rankL h l, 0) else ([], 1)) := hK k hk
  show owner_Of.f k l h = _
  unfold owner_Of.f ofL
  rw [hk']
  by_cases hr : rtB (-1) l = true
  · rw [if_pos hr, if_pos hr]
    simp only [Option.bind_some, if_true, rankL_len]
    by_cases h0 : l.length = 0
    · rw [if_pos (by omega), if_pos h0]
    · rw [if_neg (by omega), if_pos (by omega), if_neg h0]
  · rw [if_neg hr, if_neg hr]; rfl
theorem moved_ev (a : List Int) (ha : a.length ≤ 4611686018427387904) (d : Nat) : ∀ i : Nat, i ≤ a.length → a.length - i = d → Ev (fun k => steelyardref10_Moved.l0 k a a 0 (i : Int)) (0, 0) := by
  induction d with
  | zero =>
    intro i h hd
    refine ⟨1, fun k hk => ?_⟩
    obtain ⟨k, rfl⟩ : ∃ m, k = m + 1 := ⟨k - 1, by omega⟩
    simp only [steelyardref10_Moved.l0]; rw [if_neg (by omega)]
  | succ d ih =>
    intro i h hd
    refine Ev.step (f := fun k => steelyardref10_Moved.l0 k a a 0 ((i + 1 : Nat) : Int)) (fun k => ?_) (ih (i + 1) (by omega) (by omega))
    simp only [steelyardref10_Moved.l0]; rw [if_pos (by omega), if_pos (by omega), if_pos (by omega), if_pos trivial, w64 (by omega) (by omega)]
    rfl
theorem same_ev (a : List Int) (ha : a.length ≤ 4611686018427387904) : Ev (fun k => steelyardref10_Same.f k a a) true := by
  have h := moved_ev a ha a.length 0 (by omega) (by omega)
  obtain ⟨K, hK⟩ := h
  refine ⟨K, fun k hk => ?_⟩
  have h1 : steelyardref10_Moved.l0 k a a 0 0 = some (0, 0) := hK k hk
  show steelyardref10_Same.f k a a = _
  unfold steelyardref10_Same.f steelyardref10_Moved.f
  rw [if_pos rfl, h1]
  rfl
theorem known_ev : Ev (fun k => steelyardlaw11_known.f k) true := by
  have h1 := of_ev [5] 77 (by decide)
  have e1 : ofL 77 [5] = (5, 0) := by
    have : rankL 77 [5] = [5] := by simp [rankL, claimsL]
    unfold ofL; rw [this]; rfl
  have h4 := of_ev [] 1 (by decide)
  have e4 : ofL 1 [] = (0, 20) := rfl
  have h2 : Ev (fun k => owner_Mask.f k [0, 2]) (5, 0) := Ev.of (owner_Mask.mono _) (k := 10) (by decide +kernel)
  have h3 : Ev (fun k => owner_List.f k 5) ([0, 2], 0) := Ev.of (owner_List.mono _) (k := 30) (by decide +kernel)
  have h5 := same_ev [0, 2] (by decide)
  rw [e1] at h1; rw [e4] at h4
  obtain ⟨K1, h1⟩ := h1; obtain ⟨K2, h2⟩ := h2; obtain ⟨K3, h3⟩ := h3; obtain ⟨K4, h4⟩ := h4; obtain ⟨K5, h5⟩ := h5
  refine ⟨K1 + K2 + K3 + K4 + K5, fun k hk => ?_⟩
  have h1' : owner_Of.f k [5] 77 = some (5, 0) := h1 k (by omega)
  have h2' : owner_Mask.f k [0, 2] = some (5, 0) := h2 k (by omega)
  have h3' : owner_List.f k 5 = some ([0, 2], 0) := h3 k (by omega)
  have h4' : owner_Of.f k [] 1 = some (0, 20) := h4 k (by omega)
  have h5' : steelyardref10_Same.f k [0, 2] [0, 2] = some true := h5 k (by omega)
  show steelyardlaw11_known.f k = _
  unfold steelyardlaw11_known.f
  rw [h1', h2', h3', h4']
  simp only [Option.bind_some, if_true, h5']
  rfl

theorem shr_bit {M i : Nat} (h : M < 65536) (hi : i < 16) : Go.bits .and .i64 (shr .i64 (M : Int) (i : Int)) 1 = if M.testBit i = true then 1 else 0 := by
  have e : shr .i64 (M : Int) (i : Int) = ((M / 2 ^ i : Nat) : Int) := by
    unfold shr
    rw [Int.toNat_natCast, Nat.min_eq_left (by show i ≤ 64; omega)]
    push_cast; rfl
  rw [e]; exact bit_iff M i h
theorem list_l (M : Nat) (hM : M < 65536) : ∀ (n i : Nat) (acc : List Int), i + n = 16 → acc.length + n ≤ 16 → Ev (fun k => owner_List.l0 k (M : Int) acc (i : Int)) (acc ++ lf M n i, 0)
  | 0, i, acc, hi, ha => by
    refine ⟨1, fun k hk => ?_⟩
    obtain ⟨k, rfl⟩ : ∃ m, k = m + 1 := ⟨k - 1, by omega⟩
    simp only [owner_List.l0]; rw [if_neg (by omega)]; simp [lf]
  | n + 1, i, acc, hi, ha => by
    have hw : wrap64 ((i : Int) + 1) = ((i + 1 : Nat) : Int) := by rw [w64 (by omega) (by omega)]; rfl
    by_cases hb : M.testBit i = true
    · have e : acc ++ lf M (n + 1) i = (acc ++ [(i : Int)]) ++ lf M n (i + 1) := by simp [lf, hb]
      rw [e]
      refine Ev.step (f := fun k => owner_List.l0 k (M : Int) (acc ++ [(i : Int)]) ((i + 1 : Nat) : Int)) (fun k => ?_) (list_l M hM n (i + 1) (acc ++ [(i : Int)]) (by omega) (by simp; omega))
      simp only [owner_List.l0]; rw [if_pos (by omega), if_pos (by omega), shr_bit hM (by omega), if_pos hb, if_pos rfl, if_pos (by omega), hw]
    · have e : acc ++ lf M (n + 1) i = acc ++ lf M n (i + 1) := by simp [lf, hb]
      rw [e]
      refine Ev.step (f := fun k => owner_List.l0 k (M : Int) acc ((i + 1 : Nat) : Int)) (fun k => ?_) (list_l M hM n (i + 1) acc (by omega) (by omega))
      simp only [owner_List.l0]; rw [if_pos (by omega), if_pos (by omega), shr_bit hM (by omega), if_neg hb, if_neg (by decide), hw]
theorem List_ev (a : Int) (h1 : -9223372036854775808 ≤ a) (h2 : a ≤ 9223372036854775807) : Ev (fun k => owner_List.f k a) (if 0 ≤ a ∧ a < 65536 then (listL a.toNat, 0) else ([], 1)) := by
  by_cases h : 0 ≤ a ∧ a < 65536
  · rw [if_pos h]
    obtain ⟨K, hK⟩ := list_l a.toNat (by omega) 16 0 [] (by omega) (by simp)
    refine ⟨K, fun k hk => ?_⟩
    have hk' : owner_List.l0 k ((a.toNat : Nat) : Int) [] ((0 : Nat) : Int) = _ := hK k hk
    rw [Int.toNat_of_nonneg h.1] at hk'
    show owner_List.f k a = _
    unfold owner_List.f
    rw [if_pos ((andNot_iff a h1 h2).2 h)]
    exact hk'
  · rw [if_neg h]
    refine ⟨0, fun k _ => ?_⟩
    show owner_List.f k a = _
    unfold owner_List.f
    rw [if_neg fun e => h ((andNot_iff a h1 h2).1 e)]
theorem List_nat (M : Nat) (h : M < 65536) : Ev (fun k => owner_List.f k (M : Int)) (listL M, 0) := by
  have := List_ev (M : Int) (by omega) (by omega)
  rwa [if_pos (by omega), Int.toNat_natCast] at this
theorem rtB_of : ∀ (last : Int) (l : List Int), (∀ x ∈ l, last < x ∧ x < 16) → l.Pairwise (· < ·) → rtB last l = true
  | _, [], _, _ => rfl
  | last, x :: r, h, hp => by
    rw [List.pairwise_cons] at hp
    have := h x List.mem_cons_self
    simp only [rtB, Bool.and_eq_true, decide_eq_true_eq]
    exact ⟨this.1, this.2, rtB_of x r (fun y hy => ⟨hp.1 y hy, (h y (List.mem_cons_of_mem _ hy)).2⟩) hp.2⟩
theorem listL_rt (M : Nat) : rtB (-1) (listL M) = true := by
  refine rtB_of _ _ (fun x hx => ?_) (lf_sorted M 16 0)
  obtain ⟨j, h1, _, rfl⟩ := (listL_mem M x).1 hx; omega
theorem listL_len (M : Nat) : (listL M).length ≤ 16 := lf_len M 16 0
def pvH (h : Int) : Int → Int := fun i => pairV i h
theorem rankL_rk (h : Int) (l : List Int) : rankL h l = rk (pvH h) l := rfl
theorem Of_list (h : Int) (l : List Int) (hl : l.length ≤ 16) (hr : rtB (-1) l = true) : Ev (fun k => owner_Of.f k l h) (if l.length = 0 then (0, 20) else (hd (pvH h) l, 0)) := by
  have := of_ev l h (by omega)
  unfold ofL at this
  rwa [if_pos hr] at this
theorem Rank_list (h : Int) (l : List Int) (hl : l.length ≤ 16) (hr : rtB (-1) l = true) : Ev (fun k => owner_Rank.f k l h) (rk (pvH h) l, 0) := by
  have := rank_ev l h (by omega)
  rwa [if_pos hr, rankL_rk] at this
theorem shl_pow {x : Int} (h0 : 0 ≤ x) (h1 : x < 16) : shl .i64 1 x = ((2 ^ x.toNat : Nat) : Int) := by
  unfold shl
  rw [Nat.min_eq_left (by show x.toNat ≤ 64; omega), Int.one_mul]
  have hp : (2 : Nat) ^ x.toNat ≤ 2 ^ 15 := Nat.pow_le_pow_right (by decide) (by omega)
  have e : (2 : Int) ^ x.toNat = ((2 ^ x.toNat : Nat) : Int) := by push_cast; rfl
  rw [e]
  exact w_i64 _ (Int.natCast_nonneg _) (by have h := Nat.lt_of_le_of_lt hp (by decide : 2 ^ 15 < 2 ^ 63)
                                           exact_mod_cast h)
theorem pow_lt {x : Int} (h0 : 0 ≤ x) (h1 : x < 16) : 2 ^ x.toNat < 65536 := 
  Nat.lt_of_le_of_lt (Nat.pow_le_pow_right (by decide) (by omega : x.toNat ≤ 15)) (by decide)
theorem rd_mem {l : List Int} {i : Nat} (h : i < l.length) : rd l i ∈ l := by
  have e := rd_drop h
  exact List.mem_of_mem_drop (i := i) (by rw [e]; exact List.mem_cons_self)

theorem count_eq (a b : Int) (hb : 1 ≤ b) (hb2 : b ≤ 1000000) (h1 : -9223372036854775808 ≤ a) (h2 : a ≤ 9223372036854775807) : ∃ r, steelyardref01_Count.f a b = some r ∧ 0 ≤ r ∧ r < b := by
  unfold steelyardref01_Count.f
  rw [if_neg (by omega), if_neg (by omega)]
  have hm : Int.tmod a b < b := Int.tmod_lt_of_pos a (by omega)
  have hm2 : -b < Int.tmod a b := by
    by_cases h : 0 ≤ a
    · have := Int.tmod_nonneg b h; omega
    · have : Int.tmod a b = -Int.tmod (-a) b := by rw [Int.neg_tmod]; omega
      have h3 : Int.tmod (-a) b < b := Int.tmod_lt_of_pos _ (by omega)
      omega
  by_cases h : Int.tmod a b < 0
  · rw [if_pos h]
    refine ⟨_, rfl, ?_⟩
    rw [w64 (by omega) (by omega)]; omega
  · rw [if_neg h]; exact ⟨_, rfl, by omega, hm⟩
theorem u64_small {x : Int} (h0 : 0 ≤ x) (h1 : x < 65536) : IntKind.u64.wrap x = x := by
  simp [IntKind.wrap, IntKind.bits, IntKind.signed]; omega

theorem i64_wf {a : Int} (h : (Lit.int .i64 a).wf = true) : -9223372036854775808 ≤ a ∧ a ≤ 9223372036854775807 := by
  simp [Lit.wf, IntKind.min, IntKind.max, IntKind.bits, IntKind.signed] at h; omega
def wo (l : List Int) (i : Nat) : List Int := l.take i ++ l.drop (i + 1)
theorem without_eq (l : List Int) (hl : l.length ≤ 16) (i : Nat) (hi : i < l.length) : steelyardlaw11_without.f l (i : Int) = some (wo l i) := by
  unfold steelyardlaw11_without.f wo
  have hw : wrap64 ((i : Int) + 1) = ((i + 1 : Nat) : Int) := by rw [w64 (by omega) (by omega)]; rfl
  rw [if_pos (by omega), if_pos (by omega), if_pos (by simp; omega)]
  simp only [Option.bind_some, hw, Int.toNat_natCast, List.nil_append]
  rw [if_pos (by omega), if_pos (by omega), if_pos (by simp; omega)]
theorem wo_sub (l : List Int) (i : Nat) : (wo l i).Sublist l := by
  unfold wo
  have h := List.Sublist.append (List.Sublist.refl (l.take i)) (List.drop_sublist_drop_left l (Nat.le_succ i))
  rwa [List.take_append_drop] at h
theorem wo_mem {l : List Int} {i : Nat} (hi : i < l.length) {z : Int} (hz : z ∈ l) (hne : z ≠ rd l i) : z ∈ wo l i := by
  have e : l = l.take i ++ rd l i :: l.drop (i + 1) := by rw [← rd_drop hi, List.take_append_drop]
  rw [e] at hz
  unfold wo
  rcases List.mem_append.mp hz with h | h
  · exact List.mem_append_left _ h
  · rcases List.mem_cons.mp h with h | h
    · exact absurd h hne
    · exact List.mem_append_right _ h
theorem wo_not {l : List Int} (hs : l.Pairwise (· < ·)) {i : Nat} (hi : i < l.length) {z : Int} (hz : z ∈ wo l i) : z ≠ rd l i := by
  have e : l = l.take i ++ rd l i :: l.drop (i + 1) := by rw [← rd_drop hi, List.take_append_drop]
  rw [e, List.pairwise_append, List.pairwise_cons] at hs
  rcases List.mem_append.mp hz with h | h
  · have := hs.2.2 z h (rd l i) List.mem_cons_self; omega
  · have := hs.2.1.1 z h; omega
theorem wo_len {l : List Int} {i : Nat} (hi : i < l.length) : (wo l i).length = l.length - 1 := by
  unfold wo; simp; omega
theorem OwnerStays : steelyardlaw11_OwnerStays.Pure := by
  intro a0 a1 a2 ha0 ha1 ha2
  have ha0 := i64_wf ha0
  have ha2 := i64_wf ha2
  obtain ⟨K1, h1⟩ := List_ev a0 ha0.1 ha0.2
  have h1 : ∀ k, K1 ≤ k → owner_List.f k a0 = _ := h1
  obtain ⟨K5, h5⟩ := known_ev
  have h5 : ∀ k, K5 ≤ k → steelyardlaw11_known.f k = _ := h5
  have stop : ∀ l k, K5 ≤ k → steelyardlaw11_OwnerStays.j0 (k + 1) a1 a2 l true = some true := fun l k hk => by
    simp only [steelyardlaw11_OwnerStays.j0]
    rw [if_pos trivial, h5 k hk]; rfl
  by_cases hm : 0 ≤ a0 ∧ a0 < 65536
  case neg =>
    rw [if_neg hm] at h1
    refine ⟨K1 + K5 + 1, ?_⟩
    unfold steelyardlaw11_OwnerStays.f
    rw [h1 _ (by omega)]
    simp only [Option.bind_some]
    rw [if_neg (by decide)]
    exact stop _ _ (by omega)
  case pos =>
    rw [if_pos hm] at h1
    have hl16 := listL_len a0.toNat
    have hrt := listL_rt a0.toNat
    have hs : (listL a0.toNat).Pairwise (· < ·) := lf_sorted a0.toNat 16 0
    generalize listL a0.toNat = l at h1 hl16 hrt hs
    by_cases h2 : l.length < 2
    · refine ⟨K1 + K5 + 1, ?_⟩
      unfold steelyardlaw11_OwnerStays.f
      rw [h1 _ (by omega)]
      simp only [Option.bind_some]
      rw [if_pos trivial, decide_eq_true (by omega)]
      exact stop _ _ (by omega)
    · obtain ⟨r, er, hr0, hr1⟩ := count_eq a2 (l.length : Int) (by omega) (by omega) ha2.1 ha2.2
      obtain ⟨i, rfl⟩ : ∃ i : Nat, r = i := ⟨r.toNat, by omega⟩
      have hi : i < l.length := by omega
      obtain ⟨K2, h3⟩ := Rank_list a1 l hl16 hrt
      have hwl := wo_len hi
      have hsub := wo_sub l i
      have hws : (wo l i).Pairwise (· < ·) := hs.sublist hsub
      have hwr : rtB (-1) (wo l i) = true := rtB_of _ _ (fun x hx => (rtB_all _ _ hrt).1 x (hsub.subset hx)) hws
      obtain ⟨K3, h4⟩ := Of_list a1 (wo l i) (by omega) hwr
      rw [if_neg (by omega)] at h4
      have h3 : ∀ k, K2 ≤ k → owner_Rank.f k l a1 = _ := h3
      have h4 : ∀ k, K3 ≤ k → owner_Of.f k (wo l i) a1 = _ := h4
      have hrl := rk_len (pvH a1) l
      obtain ⟨ho1, ho2⟩ := hd_spec (pv := pvH a1) hs (by omega)
      obtain ⟨hp1, hp2, hp3⟩ := snd_spec (pv := pvH a1) hs (by omega)
      have e0 : rd (rk (pvH a1) l) 0 = hd (pvH a1) l := rfl
      have e1 : rd (rk (pvH a1) l) 1 = (rk (pvH a1) l).getD 1 0 := rfl
      refine ⟨K1 + K2 + K3 + K5 + 2, ?_⟩
      unfold steelyardlaw11_OwnerStays.f
      rw [h1 _ (by omega)]
      simp only [Option.bind_some]
      rw [if_pos trivial, decide_eq_false (by omega)]
      simp only [steelyardlaw11_OwnerStays.j0]
      rw [if_neg (by decide), h3 _ (by omega)]
      simp only [Option.bind_some]
      rw [if_pos trivial]
      have eb : (((rk (pvH a1) l).length : Int) != (l.length : Int)) = false := by rw [hrl]; simp
      rw [eb]
      simp only [steelyardlaw11_OwnerStays.j1]
      rw [if_neg (by decide), er]
      simp only [Option.bind_some, without_eq l hl16 i hi]
      rw [h4 _ (by omega)]
      simp only [Option.bind_some]
      rw [if_pos trivial, if_pos (by omega), if_pos (by omega), if_pos (by omega), h5 _ (by omega), e0, e1]
      by_cases hc : rd l i = hd (pvH a1) l
      · rw [if_pos hc, if_pos (by omega), if_pos]
        · rfl
        · refine hd_unique hws (wo_mem hi hp1 (by rw [hc]; exact hp2)) fun y hy hne => hp3 y (hsub.subset hy) (by rw [← hc]; exact wo_not hs hi hy) hne
      · rw [if_neg hc, if_pos]
        · rfl
        · exact hd_unique hws (wo_mem hi ho1 (fun e => hc e.symm)) fun y hy hne => ho2 y (hsub.subset hy) hne

end Go.Proofs.Ytjijejbnnbbjgaa.Pure
