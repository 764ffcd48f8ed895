/- Wheel: what is taken, as the reference has it; two lists held against each other. -/
import Derived.Test.YtodgcfkdnellpaaT1
import Derived.Test.YtodgcfkdnellpaaA2
set_option linter.unusedSimpArgs false
set_option linter.unusedVariables false
namespace Go.Proofs.Ytodgcfkdnellpaa
open Go.RowKit Go.Proofs.YtodgcfkdnellpaaW.PrintWords
open T (S33 S55 k33 k55 rd_T33 rd_T55 z33 z55)
def asLaw (d : Du) : S33 := ⟨d.id, d.at_⟩
def asRef (d : Du) : S55 := ⟨d.id, d.at_⟩
theorem rd33 (l : List Du) (i : Nat) (h : i < l.length) : rd_T33 (l.map asLaw) (i : Int) = asLaw l[i] := by
  unfold rd_T33
  rw [Int.toNat_natCast, List.getD_eq_getElem?_getD, List.getElem?_eq_getElem (by simpa using h)]; simp
theorem rd55 (l : List Du) (i : Nat) (h : i < l.length) : rd_T55 (l.map asRef) (i : Int) = asRef l[i] := by
  unfold rd_T55
  rw [Int.toNat_natCast, List.getD_eq_getElem?_getD, List.getElem?_eq_getElem (by simpa using h)]; simp
theorem C_of_orow {w : World} {A : Option Addr} {n c : Nat} {l : List Du} (h : ORow w (.slice A n c) l) : Kd.C k33 w A l.length (l.map asLaw) := by
  refine ⟨by simp, ?_, fun hp => ?_⟩
  · obtain ⟨A', c', he, h1, h2⟩ := h.len
    have : maxLen = 9223372036854775807 := by decide
    omega
  · rcases h with ⟨_, rfl⟩ | ⟨b, off, c', cur, he, r⟩
    · simp at hp
    · have he0 := he
      injection he with e1 e2 e3
      subst e1; subst e2; subst e3
      have hh : ORow w (.slice (some ⟨b, off, none⟩) l.length c) l := .inr ⟨b, off, c, cur, rfl, r⟩
      refine ⟨_, rfl, fun j p hj => ?_⟩
      rw [List.getElem?_map] at hj
      obtain ⟨d, hd, rfl⟩ := Option.map_eq_some_iff.1 hj
      obtain ⟨hlt, rfl⟩ := List.getElem?_eq_some_iff.1 hd
      obtain ⟨c0, c1⟩ := hh.cellsAt j hlt
      refine ⟨_, rfl, T.k33_mk w _, fun i u hu => ?_⟩
      match i, hu with
      | 0, hu => obtain rfl : _ = u := by simpa using hu
                 show w.cell? ((⟨b, off, none⟩ : Addr).add (j * 2 + 0)) = _
                 rw [Addr.add_lit]; exact c0
      | 1, hu => obtain rfl : _ = u := by simpa using hu
                 show w.cell? ((⟨b, off, none⟩ : Addr).add (j * 2 + 1)) = _
                 rw [Addr.add_lit, ← Nat.add_assoc]; exact c1
      | i + 2, hu => simp at hu
theorem taken_l0 (l : List Du) (h64 : l.length ≤ 65536) : ∀ (d i k : Nat) (out : List S55), i + d = l.length → out.length = i → d < k → T.steelyardlaw18_taken.l0 k (l.map asLaw) out (i : Int) = some (out ++ (l.drop i).map asRef)
  | 0, i, k + 1, out, h, ho, _ => by
    simp only [T.steelyardlaw18_taken.l0]
    rw [if_neg (by simp; omega), List.drop_of_length_le (by omega)]
    simp
  | d + 1, i, k + 1, out, h, ho, hk => by
    have hi : i < l.length := by omega
    simp only [T.steelyardlaw18_taken.l0]
    rw [if_pos (by simp; omega), if_pos (by omega), if_pos (by omega), rd33 l i hi, show wrap64 ((i : Int) + 1) = ((i + 1 : Nat) : Int) from by unfold wrap64; omega]
    rw [taken_l0 l h64 d (i + 1) k _ (by omega) (by simp; omega) (by omega), List.drop_eq_getElem_cons hi, List.map_cons, List.append_assoc]
    rfl
theorem taken_f (l : List Du) (h64 : l.length ≤ 65536) : T.steelyardlaw18_taken.f (l.length + 1) (l.map asLaw) = some (l.map asRef) := by
  have := taken_l0 l h64 l.length 0 (l.length + 1) [] (by omega) rfl (by omega)
  simpa [T.steelyardlaw18_taken.f] using this
def TakenPost (w : World) (l : List Du) (e : Ending) (w' : World) : Prop := ∃ A c, e = .returned (.slice A l.length c) ∧ l.length ≤ c ∧ (∀ S W, Fr S w' W → (∀ k, w.heap.size ≤ k → k < w'.heap.size → ¬ S k) → k55.C W A l.length (l.map asRef)) ∧ Below w.heap.size w w'
theorem taken_any (w : World) (A : Option Addr) (n c : Nat) (l : List Du) (h : ORow w (.slice A n c) l) (h64 : l.length ≤ 65536) : Calls Try.prog 16 #[.slice A n c] w (TakenPost w l) := by
  obtain ⟨A', c', he, h1, h2⟩ := h.len
  injection he with e1 e2 e3
  subst e1; subst e2; subst e3
  have hC := C_of_orow h
  have hcon := T.steelyardlaw18_taken.calls (l.length + 1) A c (l.map asLaw) (l.map asRef) w (by simpa using hC) (by simpa using h1) (taken_f l h64)
  simp only [List.length_map] at hcon
  refine hcon.mono ?_
  rintro e w' ⟨v0, rfl, hR, hb⟩
  obtain ⟨A0, c0, rfl, hl0, _⟩ := Kd.R_reads hR
  rw [List.length_map] at hR hl0
  refine ⟨A0, c0, by rw [List.length_map], hl0, fun S W hf hs => ?_, hb⟩
  have h5 := Kd.R_step (Kd.R_mono (Kd.R_bound hR) (fun k hk => hk.2.1)) (fun k hk hlt => hf.block k hlt (hs k hk hlt))
  obtain ⟨A1, c1, he, _, h6⟩ := Kd.R_reads h5
  injection he with e1
  subst e1
  simpa using h6
theorem same_l0 (l m : List Du) (hl : l.length = m.length) (h64 : l.length ≤ 65536) : ∀ (d i k : Nat), i + d = l.length → d < k → T.steelyardref18_Same.l0 k (l.map asRef) (m.map asRef) (i : Int) = some (decide (l.drop i = m.drop i))
  | 0, i, k + 1, h, _ => by
    simp only [T.steelyardref18_Same.l0]
    rw [if_neg (by simp; omega), List.drop_of_length_le (by omega), List.drop_of_length_le (by omega)]
    simp
  | d + 1, i, k + 1, h, hk => by
    have hi : i < l.length := by omega
    have hi2 : i < m.length := by omega
    have ih := same_l0 l m hl h64 d (i + 1) k (by omega) (by omega)
    simp only [T.steelyardref18_Same.l0]
    rw [if_pos (by simp; omega), if_pos (by omega), if_pos (by simp; omega), rd55 l i hi, rd55 m i hi2, show wrap64 ((i : Int) + 1) = ((i + 1 : Nat) : Int) from by unfold wrap64; omega, ih, List.drop_eq_getElem_cons hi, List.drop_eq_getElem_cons hi2]
    generalize l.drop (i + 1) = r1
    generalize m.drop (i + 1) = r2
    generalize l[i] = x
    generalize m[i] = y
    obtain ⟨x0, x1⟩ := x
    obtain ⟨y0, y1⟩ := y
    by_cases h0 : x0 = y0
    · by_cases h1 : x1 = y1
      · simp [asRef, h0, h1]
      · simp [asRef, h0, h1]
    · simp [asRef, h0]
theorem same_f (l m : List Du) (h64 : l.length ≤ 65536) : T.steelyardref18_Same.f (l.length + 1) (l.map asRef) (m.map asRef) = some (decide (l = m)) := by
  unfold T.steelyardref18_Same.f
  by_cases hl : l.length = m.length
  · rw [if_pos (by simp; omega)]
    simpa using same_l0 l m hl h64 l.length 0 (l.length + 1) (by omega) (by omega)
  · rw [if_neg (by simp; omega)]
    have : ¬ l = m := fun h => hl (by rw [h])
    simp [this]
theorem same_any (w : World) (A : Option Addr) (c : Nat) (l : List Du) (B : Option Addr) (d : Nat) (m : List Du) (h1 : k55.C w A l.length (l.map asRef)) (hc : l.length ≤ c) (h2 : k55.C w B m.length (m.map asRef)) (hd : m.length ≤ d) (h64 : l.length ≤ 65536) :
    Calls Try.prog 15 #[.slice A l.length c, .slice B m.length d] w fun e w' => e = .returned (.bool (decide (l = m))) ∧ Drawn0 w w' := by
  have hcon := T.steelyardref18_Same.calls (l.length + 1) A c (l.map asRef) B d (m.map asRef) (decide (l = m)) w (by simpa using h1) (by simpa using hc) (by simpa using h2) (by simpa using hd) (same_f l m h64)
  simpa only [List.length_map] using hcon
end Go.Proofs.Ytodgcfkdnellpaa
