/- The plain statement behind OwnerRanks: numbers and lists alone. -/
import Derived.Test.YtjijejbnnbbjgaaPOwnerRanksx
import Derived.Test.YtjijejbnnbbjgaaD6
set_option linter.unusedSimpArgs false
set_option linter.unusedVariables false
namespace Go.Proofs.Ytjijejbnnbbjgaa.Pure
open Go.RowKit Go.Proofs.Ytjijejbnnbbjgaa.POwnerRanks Go.Proofs.YtjijejbnnbbjgaaW.PrintWords Go.Proofs.YtjijejbnnbbjgaaW.PrintLast

theorem w64 {n : Int} (h : -9223372036854775808 ≤ n) (k : n ≤ 9223372036854775807) : wrap64 n = n := by unfold wrap64; omega
theorem rd_drop {l : List Int} {i : Nat} (h : i < l.length) : l.drop i = rd l i :: l.drop (i + 1) := by
  rw [List.drop_eq_getElem_cons h]
  simp [rd, List.getD_eq_getElem?_getD, h]
/-- rising, from above 'last', below 16 -/
def rtB : Int → List Int → Bool
  | _, [] => true
  | last, x :: r => decide (last < x) && (decide (x < 16) && rtB x r)
theorem rtB_all : ∀ (last : Int) (l : List Int), rtB last l = true → (∀ x ∈ l, last < x ∧ x < 16) ∧ l.Pairwise (· < ·)
  | _, [], _ => ⟨(fun x h => by cases h), List.Pairwise.nil⟩
  | last, x :: r, h => by
    simp only [rtB, Bool.and_eq_true, decide_eq_true_eq] at h
    obtain ⟨h1, h2, h3⟩ := h
    have ih := rtB_all x r h3
    refine ⟨fun y hy => ?_, List.pairwise_cons.mpr ⟨fun y hy => (ih.1 y hy).1, ih.2⟩⟩
    rcases List.mem_cons.mp hy with rfl | hy
    · exact ⟨h1, h2⟩
    · have := ih.1 y hy; exact ⟨by omega, this.2⟩
theorem rtB_len : ∀ (last : Int) (l : List Int), rtB last l = true → -1 ≤ last → last ≤ 15 → (l.length : Int) + last ≤ 15
  | _, [], _, _, _ => by simp; omega
  | last, x :: r, h, h0, h5 => by
    simp only [rtB, Bool.and_eq_true, decide_eq_true_eq] at h
    have := rtB_len x r h.2.2 (by omega) (by omega)
    simp only [List.length_cons]; omega
theorem right_ev (l : List Int) (hl : l.length ≤ 4611686018427387904) (d : Nat) : ∀ (i : Nat) (last : Int), i ≤ l.length → l.length - i = d → Ev (fun k => owner_right.l0 k last l (l.length : Int) (i : Int)) (rtB last (l.drop i)) := by
  induction d with
  | zero =>
    intro i last h hd
    have e : i = l.length := by omega
    subst e
    rw [List.drop_length]
    refine ⟨1, fun k hk => ?_⟩
    obtain ⟨k, rfl⟩ : ∃ m, k = m + 1 := ⟨k - 1, by omega⟩
    simp only [owner_right.l0]; rw [if_neg (by omega)]; rfl
  | succ d ih =>
    intro i last h hd
    have hi : i < l.length := by omega
    rw [rd_drop hi]
    by_cases h1 : rd l i ≤ last
    · refine ⟨1, fun k hk => ?_⟩
      obtain ⟨k, rfl⟩ : ∃ m, k = m + 1 := ⟨k - 1, by omega⟩
      simp only [owner_right.l0]; rw [if_pos (by omega), if_pos (by omega), if_pos (by omega), if_pos h1]
      simp [rtB]; omega
    by_cases h2 : rd l i ≥ 16
    · refine ⟨1, fun k hk => ?_⟩
      obtain ⟨k, rfl⟩ : ∃ m, k = m + 1 := ⟨k - 1, by omega⟩
      simp only [owner_right.l0]; rw [if_pos (by omega), if_pos (by omega), if_pos (by omega), if_neg h1, if_pos h2]
      simp [rtB]; omega
    have e : rtB last (rd l i :: l.drop (i + 1)) = rtB (rd l i) (l.drop (i + 1)) := by
      simp only [rtB]; rw [decide_eq_true (by omega), decide_eq_true (by omega)]; rfl
    rw [e]
    refine Ev.step (f := fun k => owner_right.l0 k (rd l i) l (l.length : Int) ((i + 1 : Nat) : Int)) (fun k => ?_) (ih (i + 1) (rd l i) (by omega) (by omega))
    simp only [owner_right.l0]; rw [if_pos (by omega), if_pos (by omega), if_pos (by omega), if_neg h1, if_neg h2, w64 (by omega) (by omega)]
    rfl
theorem Right_ev (l : List Int) (hl : l.length ≤ 4611686018427387904) : Ev (fun k => owner_right.f k l) (rtB (-1) l) := by
  have := right_ev l hl l.length 0 (-1) (by omega) (by omega)
  simpa [owner_right.f] using this
theorem rank_ev (l : List Int) (h : Int) (hl : l.length ≤ 4611686018427387904) : Ev (fun k => owner_Rank.f k l h) (if rtB (-1) l = true then (rankL h l, 0) else ([], 1)) := by
  unfold owner_Rank.f
  refine Ev.bind (f := fun _ t => (if t = true then (some (rankL h l, 0)) else (some (([] : List Int), 1)))) (Right_ev l hl) ⟨0, fun k _ => ?_⟩
  split <;> rfl
def ofL (h : Int) (l : List Int) : Int × Int := if rtB (-1) l = true then (if l.length = 0 then (0, 20) else (rd (rankL h l) 0, 0)) else (0, 1)
theorem rankL_len (h : Int) (l : List Int) : (rankL h l).length = l.length := by simp [rankL, claimsL]
theorem of_ev (l : List Int) (h : Int) (hl : l.length ≤ 4611686018427387904) : Ev (fun k => owner_Of.f k l h) (ofL h l) := by
  obtain ⟨K, hK⟩ := rank_ev l h hl
  refine ⟨K, fun k hk => ?_⟩
  have hk' : owner_Rank.f k l h = some (if rtB (-1) l = true then (rankL h l, 0) else ([], 1)) := hK k hk
  show owner_Of.f k l h = _
  unfold owner_Of.f ofL
  rw [hk']
  by_cases hr : rtB (-1) l = true
  · rw [if_pos hr, if_pos hr]
    simp only [Option.bind_some, if_true, rankL_len]
    by_cases h0 : l.length = 0
    · rw [if_pos (by omega), if_pos h0]
    · rw [if_neg (by omega), if_pos (by omega), if_neg h0]
  · rw [if_neg hr, if_neg hr]; rfl
theorem moved_ev (a : List Int) (ha : a.length ≤ 4611686018427387904) (d : Nat) : ∀ i : Nat, i ≤ a.length → a.length - i = d → Ev (fun k => steelyardref10_Moved.l0 k a a 0 (i : Int)) (0, 0) := by
  induction d with
  | zero =>
    intro i h hd
    refine ⟨1, fun k hk => ?_⟩
    obtain ⟨k, rfl⟩ : ∃ m, k = m + 1 := ⟨k - 1, by omega⟩
    simp only [steelyardref10_Moved.l0]; rw [if_neg (by omega)]
  | succ d ih =>
    intro i h hd
    refine Ev.step (f := fun k => steelyardref10_Moved.l0 k a a 0 ((i + 1 : Nat) : Int)) (fun k => ?_) (ih (i + 1) (by omega) (by omega))
    simp only [steelyardref10_Moved.l0]; rw [if_pos (by omega), if_pos (by omega), if_pos (by omega), if_pos trivial, w64 (by omega) (by omega)]
    rfl
theorem same_ev (a : List Int) (ha : a.length ≤ 4611686018427387904) : Ev (fun k => steelyardref10_Same.f k a a) true := by
  have h := moved_ev a ha a.length 0 (by omega) (by omega)
  obtain ⟨K, hK⟩ := h
  refine ⟨K, fun k hk => ?_⟩
  have h1 : steelyardref10_Moved.l0 k a a 0 0 = some (0, 0) := hK k hk
  show steelyardref10_Same.f k a a = _
  unfold steelyardref10_Same.f steelyardref10_Moved.f
  rw [if_pos rfl, h1]
  rfl
theorem known_ev : Ev (fun k => steelyardlaw11_known.f k) true := by
  have h1 := of_ev [5] 77 (by decide)
  have e1 : ofL 77 [5] = (5, 0) := by
    have : rankL 77 [5] = [5] := by simp [rankL, claimsL]
    unfold ofL; rw [this]; rfl
  have h4 := of_ev [] 1 (by decide)
  have e4 : ofL 1 [] = (0, 20) := rfl
  have h2 : Ev (fun k => owner_Mask.f k [0, 2]) (5, 0) := Ev.of (owner_Mask.mono _) (k := 10) (by decide +kernel)
  have h3 : Ev (fun k => owner_List.f k 5) ([0, 2], 0) := Ev.of (owner_List.mono _) (k := 30) (by decide +kernel)
  have h5 := same_ev [0, 2] (by decide)
  rw [e1] at h1; rw [e4] at h4
  obtain ⟨K1, h1⟩ := h1; obtain ⟨K2, h2⟩ := h2; obtain ⟨K3, h3⟩ := h3; obtain ⟨K4, h4⟩ := h4; obtain ⟨K5, h5⟩ := h5
  refine ⟨K1 + K2 + K3 + K4 + K5, fun k hk => ?_⟩
  have h1' : owner_Of.f k [5] 77 = some (5, 0) := h1 k (by omega)
  have h2' : owner_Mask.f k [0, 2] = some (5, 0) := h2 k (by omega)
  have h3' : owner_List.f k 5 = some ([0, 2], 0) := h3 k (by omega)
  have h4' : owner_Of.f k [] 1 = some (0, 20) := h4 k (by omega)
  have h5' : steelyardref10_Same.f k [0, 2] [0, 2] = some true := h5 k (by omega)
  show steelyardlaw11_known.f k = _
  unfold steelyardlaw11_known.f
  rw [h1', h2', h3', h4']
  simp only [Option.bind_some, if_true, h5']
  rfl

def pv (l : List Int) (i : Nat) : Int := if i = 0 then -1 else rd l ((i - 1 : Nat) : Int)
theorem rright_ev (l : List Int) (hl : l.length ≤ 4611686018427387904) (d : Nat) : ∀ i : Nat, i ≤ l.length → l.length - i = d → -1 ≤ pv l i → Ev (fun k => steelyardref11_Right.l0 k l (i : Int)) (rtB (pv l i) (l.drop i)) := by
  induction d with
  | zero =>
    intro i h hd hp
    have e : i = l.length := by omega
    subst e
    rw [List.drop_length]
    refine ⟨1, fun k hk => ?_⟩
    obtain ⟨k, rfl⟩ : ∃ m, k = m + 1 := ⟨k - 1, by omega⟩
    simp only [steelyardref11_Right.l0]; rw [if_neg (by omega)]; rfl
  | succ d ih =>
    intro i h hd hp
    have hi : i < l.length := by omega
    rw [rd_drop hi]
    have epv : pv l (i + 1) = rd l i := by unfold pv; rw [if_neg (by omega), Nat.add_sub_cancel]
    have fin : ∀ b : Bool, (∀ k, steelyardref11_Right.l0 (k + 1) l (i : Int) = some b) → Ev (fun k => steelyardref11_Right.l0 k l (i : Int)) b := fun b hb => ⟨1, fun k hk => by
      obtain ⟨k, rfl⟩ : ∃ m, k = m + 1 := ⟨k - 1, by omega⟩
      exact hb k⟩
    have hw : wrap64 ((i : Int) + 1) = ((i + 1 : Nat) : Int) := by rw [w64 (by omega) (by omega)]; rfl
    by_cases h1 : rd l i < 0
    · have e : rtB (pv l i) (rd l i :: l.drop (i + 1)) = false := by simp only [rtB]; rw [decide_eq_false (by omega)]; rfl
      rw [e]
      exact fin _ fun k => by simp only [steelyardref11_Right.l0]; rw [if_pos (by omega), if_pos (by omega), if_pos h1]
    by_cases h2 : rd l i ≥ 16
    · have e : rtB (pv l i) (rd l i :: l.drop (i + 1)) = false := by simp only [rtB]; rw [decide_eq_false (p := rd l i < 16) (by omega)]; simp
      rw [e]
      exact fin _ fun k => by simp only [steelyardref11_Right.l0]; rw [if_pos (by omega), if_pos (by omega), if_neg h1, if_pos h2]
    have ih' := ih (i + 1) (by omega) (by omega) (by rw [epv]; omega)
    rw [epv] at ih'
    by_cases h0 : i = 0
    · have e : rtB (pv l i) (rd l i :: l.drop (i + 1)) = rtB (rd l i) (l.drop (i + 1)) := by
        have : pv l i = -1 := by unfold pv; rw [if_pos h0]
        simp only [rtB]; rw [decide_eq_true (by omega), decide_eq_true (by omega)]; rfl
      rw [e]
      refine Ev.step (f := fun k => steelyardref11_Right.l0 k l ((i + 1 : Nat) : Int)) (fun k => ?_) ih'
      simp only [steelyardref11_Right.l0]; rw [if_pos (by omega), if_pos (by omega), if_neg h1, if_neg h2, if_neg (by omega), hw]
    · have ep : pv l i = rd l ((i - 1 : Nat) : Int) := by unfold pv; rw [if_neg h0]
      have hw2 : wrap64 ((i : Int) - 1) = ((i - 1 : Nat) : Int) := by rw [w64 (by omega) (by omega)]; omega
      by_cases h3 : rd l i ≤ rd l ((i - 1 : Nat) : Int)
      · have e : rtB (pv l i) (rd l i :: l.drop (i + 1)) = false := by simp only [rtB]; rw [decide_eq_false (by omega)]; rfl
        rw [e]
        exact fin _ fun k => by simp only [steelyardref11_Right.l0]; rw [if_pos (by omega), if_pos (by omega), if_neg h1, if_neg h2, if_pos (by omega), hw2, if_pos (by omega), if_pos (by omega), if_pos h3]
      · have e : rtB (pv l i) (rd l i :: l.drop (i + 1)) = rtB (rd l i) (l.drop (i + 1)) := by
          simp only [rtB]; rw [decide_eq_true (by omega), decide_eq_true (by omega)]; rfl
        rw [e]
        refine Ev.step (f := fun k => steelyardref11_Right.l0 k l ((i + 1 : Nat) : Int)) (fun k => ?_) ih'
        simp only [steelyardref11_Right.l0]; rw [if_pos (by omega), if_pos (by omega), if_neg h1, if_neg h2, if_pos (by omega), hw2, if_pos (by omega), if_pos (by omega), if_neg h3, hw]
theorem RRight_ev (l : List Int) (hl : l.length ≤ 4611686018427387904) : Ev (fun k => steelyardref11_Right.f k l) (rtB (-1) l) := by
  have := rright_ev l hl l.length 0 (by omega) (by omega) (by simp [pv])
  simpa [steelyardref11_Right.f, pv] using this

theorem bind3 {α : Type} (x : Option α) : (x.bind fun t => some t) = x := by cases x <;> rfl
theorem mix_eq : @steelyardref09_Mix.f = @hash_Mix.f := by
  delta steelyardref09_Mix.f hash_Mix.f
  exact Eq.refl _
def P3 (M : Int → Option Int) (a b c : Int) : Option Int := (M a).bind fun t106 => ((M (Go.bits .xor .u64 t106 b)).bind fun t107 => ((M (Go.bits .xor .u64 t107 c)).bind fun t108 => (some t108)))
def Q3 (M : Int → Option Int) (a b c : Int) : Option Int := (M a).bind fun t => (M (Go.bits .xor .u64 t b)).bind fun t2 => M (Go.bits .xor .u64 t2 c)
theorem PQ (M : Int → Option Int) (a b c : Int) : P3 M a b c = Q3 M a b c := by
  unfold P3 Q3
  simp only [bind3]
theorem r1 (a b c : Int) : steelyardref09_Pair.f a b c = P3 steelyardref09_Mix.f a b c := by
  delta steelyardref09_Pair.f P3; exact Eq.refl _
theorem r2 (a b c : Int) : hash_Pair.f a b c = Q3 hash_Mix.f a b c := by
  delta hash_Pair.f Q3; exact Eq.refl _
theorem rpair_eq (a b c : Int) : steelyardref09_Pair.f a b c = hash_Pair.f a b c :=
  ((r1 a b c).trans (congrFun (congrFun (congrFun (congrArg P3 mix_eq) a) b) c)).trans ((PQ hash_Mix.f a b c).trans (r2 a b c).symm)
theorem pair_eq (a h : Int) : steelyardref09_Pair.f 3 (IntKind.u64.wrap a) h = some (pairV a h) := 
  (rpair_eq 3 (IntKind.u64.wrap a) h).trans (pair_some a h)
def clv (h x : Int) : Int × Int := (pairV x h, x)
def Bf (x y : Option Int) (a0 a1 : Int) : Option Bool := x.bind fun t109 => (y.bind fun t110 => (if t109 > t110 then (some true) else (if t109 = t110 then (some (decide (a0 < a1))) else (some false))))
theorem bf_eq (u v a b : Int) : Bf (some u) (some v) a b = some (ltC (u, a) (v, b)) := by
  unfold Bf
  simp only [Option.bind_some]
  have hi := ltC_iff (u, a) (v, b)
  simp only at hi
  by_cases h1 : u > v
  · rw [if_pos h1, hi.2 (by omega)]
  · rw [if_neg h1]
    by_cases h2 : u = v
    · rw [if_pos h2]
      by_cases h3 : a < b
      · rw [hi.2 (by omega)]; simp [h3]
      · have : ¬ ltC (u, a) (v, b) = true := by rw [hi]; omega
        simp at this; rw [this]; simp; omega
    · have : ¬ ltC (u, a) (v, b) = true := by rw [hi]; omega
      simp at this; rw [if_neg h2, this]
theorem r3 (a b h : Int) : steelyardref11_before.f a b h = Bf (steelyardref09_Pair.f 3 (IntKind.u64.wrap a) h) (steelyardref09_Pair.f 3 (IntKind.u64.wrap b) h) a b := by
  delta steelyardref11_before.f Bf; exact Eq.refl _
theorem before_eq (a b h : Int) : steelyardref11_before.f a b h = some (ltC (clv h a) (clv h b)) :=
  (r3 a b h).trans ((congrFun (congrFun (congr (congrArg Bf (pair_eq a h)) (pair_eq b h)) a) b).trans (bf_eq _ _ a b))
theorem claims_drop {h : Int} {l : List Int} {i : Nat} (hi : i < l.length) : (claimsL h l).drop i = clv h (rd l i) :: (claimsL h l).drop (i + 1) := by
  have e : ∀ j, (claimsL h l).drop j = (l.drop j).map (clv h) := fun j => by rw [List.map_drop]; rfl
  rw [e, e, rd_drop hi]; rfl
theorem inner_ev {l : List Int} {h : Int} {out : List Int} {i : Nat} {r : List Int × Int} (hl : l.length ≤ 4611686018427387904) (ho : out.length = l.length) (hi : i < l.length) (d : Nat) : ∀ (j c : Nat), j ≤ l.length → l.length - j = d → c ≤ j →
    c + ((claimsL h l).drop j).countP (fun z => ltC z (clv h (rd l i))) < l.length →
    Ev (fun k => steelyardref11_Rank.l0 k l h (out.set (c + ((claimsL h l).drop j).countP (fun z => ltC z (clv h (rd l i)))) (rd l i)) ((i + 1 : Nat) : Int)) r →
    Ev (fun k => steelyardref11_Rank.l1 k l h out (i : Int) (c : Int) (j : Int)) r := by
  induction d with
  | zero =>
    intro j c hj hd hc hlt hr
    have e : j = l.length := by omega
    subst e
    have e0 : (claimsL h l).drop l.length = [] := List.drop_of_length_le (by simp [claimsL])
    rw [e0] at hlt hr
    simp only [List.countP_nil, Nat.add_zero] at hlt hr
    refine Ev.step (fun k => ?_) hr
    simp only [steelyardref11_Rank.l1]
    rw [if_neg (by omega), if_pos (by omega), if_pos (by omega), if_pos (by omega), if_pos (by omega), w64 (by omega) (by omega)]
    rfl
  | succ d ih =>
    intro j c hj hd hc hlt hr
    have hjl : j < l.length := by omega
    rw [claims_drop hjl] at hlt hr
    have hw : wrap64 ((j : Int) + 1) = ((j + 1 : Nat) : Int) := by rw [w64 (by omega) (by omega)]; rfl
    have hwc : wrap64 ((c : Int) + 1) = ((c + 1 : Nat) : Int) := by rw [w64 (by omega) (by omega)]; rfl
    cases hb : ltC (clv h (rd l j)) (clv h (rd l i)) with
    | true =>
      rw [List.countP_cons_of_pos (by simpa using hb)] at hlt hr
      refine Ev.step (f := fun k => steelyardref11_Rank.l1 k l h out (i : Int) ((c + 1 : Nat) : Int) ((j + 1 : Nat) : Int)) (fun k => ?_) (ih (j + 1) (c + 1) (by omega) (by omega) (by omega) (by omega) ?_)
      · simp only [steelyardref11_Rank.l1]
        rw [if_pos (by omega), if_pos (by omega), if_pos (by omega), if_pos (by omega), before_eq, hb, hw, hwc]
        rfl
      · have e : c + 1 + ((claimsL h l).drop (j + 1)).countP (fun z => ltC z (clv h (rd l i))) = c + (((claimsL h l).drop (j + 1)).countP (fun z => ltC z (clv h (rd l i))) + 1) := by omega
        rw [e]; exact hr
    | false =>
      rw [List.countP_cons_of_neg (by simp [hb])] at hlt hr
      refine Ev.step (f := fun k => steelyardref11_Rank.l1 k l h out (i : Int) (c : Int) ((j + 1 : Nat) : Int)) (fun k => ?_) (ih (j + 1) c (by omega) (by omega) (by omega) (by omega) hr)
      simp only [steelyardref11_Rank.l1]
      rw [if_pos (by omega), if_pos (by omega), if_pos (by omega), if_pos (by omega), before_eq, hb, hw]
      rfl
theorem outer_ev {l : List Int} {h : Int} (hl : l.length ≤ 4611686018427387904) (d : Nat) : ∀ (i : Nat) (out : List Int), i ≤ l.length → l.length - i = d → out.length = l.length →
    Ev (fun k => steelyardref11_Rank.l0 k l h out (i : Int)) (((claimsL h l).drop i).foldl (fun o y => o.set ((claimsL h l).countP fun z => ltC z y) y.2) out, 0) := by
  induction d with
  | zero =>
    intro i out hi hd ho
    have e : i = l.length := by omega
    subst e
    have e0 : (claimsL h l).drop l.length = [] := List.drop_of_length_le (by simp [claimsL])
    rw [e0]
    refine ⟨1, fun k hk => ?_⟩
    obtain ⟨k, rfl⟩ : ∃ m, k = m + 1 := ⟨k - 1, by omega⟩
    simp only [steelyardref11_Rank.l0]; rw [if_neg (by omega)]; rfl
  | succ d ih =>
    intro i out hi hd ho
    have hil : i < l.length := by omega
    have hmem : clv h (rd l i) ∈ claimsL h l := by
      have := claims_drop (h := h) hil
      exact List.mem_of_mem_drop (i := i) (by rw [this]; exact List.mem_cons_self)
    have hcl : (claimsL h l).length = l.length := by simp [claimsL]
    have hcount := count_lt hmem
    rw [claims_drop hil, List.foldl_cons]
    refine Ev.step (f := fun k => steelyardref11_Rank.l1 k l h out (i : Int) ((0 : Nat) : Int) ((0 : Nat) : Int)) (fun k => ?_) ?_
    · simp only [steelyardref11_Rank.l0]; rw [if_pos (by omega)]; rfl
    · refine inner_ev hl ho hil l.length 0 0 (by omega) (by omega) (by omega) (by rw [List.drop_zero]; omega) ?_
      rw [List.drop_zero, Nat.zero_add]
      exact ih (i + 1) _ (by omega) (by omega) (by simpa using ho)
theorem claims_nodup {h : Int} {l : List Int} (hr : rtB (-1) l = true) : (claimsL h l).Nodup := by
  have hp := (rtB_all _ _ hr).2
  have hn : l.Nodup := hp.imp (fun h => by omega)
  refine List.Pairwise.map (R := fun a b => a ≠ b) _ (fun a b hab e => hab (congrArg Prod.snd e)) hn
theorem rrank_ev (l : List Int) (h : Int) (hl : l.length ≤ 17592186044416) : Ev (fun k => steelyardref11_Rank.f k l h) (if rtB (-1) l = true then (rankL h l, 0) else ([], 1)) := by
  obtain ⟨K1, h1⟩ := RRight_ev l (by omega)
  by_cases hr : rtB (-1) l = true
  · rw [if_pos hr]
    obtain ⟨K2, h2⟩ := outer_ev (h := h) (l := l) (by omega) l.length 0 (List.replicate l.length 0) (by omega) (by omega) (by simp)
    refine ⟨K1 + K2, fun k hk => ?_⟩
    have h1' : steelyardref11_Right.f k l = some (rtB (-1) l) := h1 k (by omega)
    have h2' := h2 k (by omega)
    rw [List.drop_zero, counting (claims_nodup hr) _ (by simp [claimsL])] at h2'
    show steelyardref11_Rank.f k l h = _
    unfold steelyardref11_Rank.f
    rw [h1', hr]
    simp only [Option.bind_some, if_true]
    rw [if_pos (by omega), Int.toNat_natCast, if_pos (by omega)]
    exact h2'
  · refine ⟨K1, fun k hk => ?_⟩
    have h1' : steelyardref11_Right.f k l = some (rtB (-1) l) := h1 k (by omega)
    show steelyardref11_Rank.f k l h = _
    unfold steelyardref11_Rank.f
    rw [h1', if_neg hr]
    have : rtB (-1) l = false := by simpa using hr
    rw [this]; rfl
theorem rof_ev (l : List Int) (h : Int) (hl : l.length ≤ 17592186044416) : Ev (fun k => steelyardref11_Of.f k l h) (ofL h l) := by
  obtain ⟨K, hK⟩ := rrank_ev l h hl
  refine ⟨K, fun k hk => ?_⟩
  have hk' : steelyardref11_Rank.f k l h = some (if rtB (-1) l = true then (rankL h l, 0) else ([], 1)) := hK k hk
  show steelyardref11_Of.f k l h = _
  unfold steelyardref11_Of.f ofL
  rw [hk']
  by_cases hr : rtB (-1) l = true
  · rw [if_pos hr, if_pos hr]
    simp only [Option.bind_some, if_true, rankL_len]
    by_cases h0 : l.length = 0
    · rw [if_pos (by omega), if_pos h0]
    · rw [if_neg (by omega), if_pos (by omega), if_neg h0]
  · rw [if_neg hr, if_neg hr]; rfl
theorem OwnerRanks : steelyardlaw11_OwnerRanks.Pure := by
  intro l h _ hl _ _
  obtain ⟨K1, h1⟩ := rank_ev l h (by omega)
  obtain ⟨K2, h2⟩ := rrank_ev l h (by omega)
  obtain ⟨K3, h3⟩ := of_ev l h (by omega)
  obtain ⟨K4, h4⟩ := rof_ev l h (by omega)
  obtain ⟨K5, h5⟩ := same_ev l (by omega)
  obtain ⟨K6, h6⟩ := same_ev (if rtB (-1) l = true then (rankL h l, (0 : Int)) else ([], 1)).1 (by split <;> simp [rankL_len] <;> omega)
  obtain ⟨K7, h7⟩ := known_ev
  refine ⟨K1 + K2 + K3 + K4 + K5 + K6 + K7, ?_⟩
  generalize hk : K1 + K2 + K3 + K4 + K5 + K6 + K7 = k
  have h1 : owner_Rank.f k l h = _ := h1 k (by omega)
  have h2 : steelyardref11_Rank.f k l h = _ := h2 k (by omega)
  have h3 : owner_Of.f k l h = _ := h3 k (by omega)
  have h4 : steelyardref11_Of.f k l h = _ := h4 k (by omega)
  have h5 : steelyardref10_Same.f k l l = _ := h5 k (by omega)
  have h6 : steelyardref10_Same.f k _ _ = _ := h6 k (by omega)
  have h7 : steelyardlaw11_known.f k = _ := h7 k (by omega)
  unfold steelyardlaw11_OwnerRanks.f
  rw [if_pos (by simp; omega)]
  simp only [Option.bind_some, List.nil_append, h1, h2, h3, h4, h5, h6, h7, if_true]

end Go.Proofs.Ytjijejbnnbbjgaa.Pure
