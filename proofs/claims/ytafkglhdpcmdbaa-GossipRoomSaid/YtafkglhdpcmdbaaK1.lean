/- Gossip: what the fixed calls come to (parts). -/
import Derived.Test.YtafkglhdpcmdbaaG12
import Derived.Test.YtafkglhdpcmdbaaT1
set_option linter.unusedSimpArgs false
set_option linter.unusedVariables false
namespace Go.Proofs.Ytafkglhdpcmdbaa
open Go.RowKit Go.Proofs.YtafkglhdpcmdbaaW.PrintWords
open T (S39 k39 k39_mkM S58 k58 steelyardlaw15_taken.f steelyardlaw15_taken.l0 rd_T39 rd_T58)
theorem New_any (w : World) (m : Int) (h1 : 1 ≤ m) (h2 : m ≤ 4096) : Calls Try.prog 11 #[.int .i64 m] w fun e w' => ∃ g F, e = .returned (.tuple #[.pointer (some ⟨g, 0, none⟩), .int .i64 0]) ∧ IsQ w' F g m [] ∧ (∀ k, F k → w.heap.size ≤ k ∧ k < w'.heap.size) ∧ Below w.heap.size w w' := by
  refine (new_ok m w h1 h2).mono fun e w' ⟨b, he, hb, hB, hw⟩ => ?_
  have hq : RawQ w' b m (.slice none 0 0) [] := ⟨hB, own_nil _ _ _ _, fun x hx => by simp at hx, by simp⟩
  refine ⟨b, QF b (.slice none 0 0) [], he, ⟨_, [], hq, rfl, fun _ h => h⟩, fun k hk => ⟨?_, hq.bound k hk⟩, hw⟩
  rcases hk with (rfl | hk | ⟨x, hx, _⟩) | ⟨x, hx, _⟩
  · exact hb
  · simp [Value.ownBlock] at hk
  · simp at hx
  · simp at hx
def asRef (x : S39) : S58 := ⟨x.f0, x.f1⟩
theorem rd_nat (l : List S39) (i : Nat) (h : i < l.length) : rd_T39 l (i : Int) = l[i] := by
  unfold rd_T39
  rw [Int.toNat_natCast, List.getD_eq_getElem?_getD, List.getElem?_eq_getElem h]; rfl
theorem taken_l0 (l : List S39) (h64 : l.length ≤ 4096) : ∀ (d i k : Nat) (out : List S58), i + d = l.length → out.length = i → d < k → steelyardlaw15_taken.l0 k l out (i : Int) = some (out ++ (l.drop i).map asRef)
  | 0, i, k + 1, out, h, ho, _ => by
    simp only [steelyardlaw15_taken.l0]
    rw [if_neg (by omega), List.drop_of_length_le (by omega)]
    simp
  | d + 1, i, k + 1, out, h, ho, hk => by
    have hi : i < l.length := by omega
    simp only [steelyardlaw15_taken.l0]
    rw [if_pos (by omega), if_pos (by omega), if_pos (by omega), rd_nat l i hi, show wrap64 ((i : Int) + 1) = ((i + 1 : Nat) : Int) from by unfold wrap64; omega]
    rw [taken_l0 l h64 d (i + 1) k _ (by omega) (by simp; omega) (by omega), List.drop_eq_getElem_cons hi, List.map_cons, List.append_assoc]
    rfl
theorem taken_f (l : List S39) (h64 : l.length ≤ 4096) : steelyardlaw15_taken.f (l.length + 1) l = some (l.map asRef) := by
  have := taken_l0 l h64 l.length 0 (l.length + 1) [] (by omega) rfl (by omega)
  simpa [steelyardlaw15_taken.f] using this
/-- the told news, as the reference has them: read as long as their own blocks are kept -/
theorem taken_any (w : World) (base : Nat) (v : Value) (news : List S39) (h64 : news.length ≤ 4096) (hr : k39.R 39 w base (fun k => base ≤ k) v news) (hbw : base ≤ w.heap.size) :
    Calls Try.prog 22 #[v] w fun e w' => ∃ A c, e = .returned (.slice A news.length c) ∧ (0 < news.length → ∃ g, A = some ⟨g, 0, none⟩) ∧ (∀ S W, Fr S w' W → (∀ k, base ≤ k → k < w'.heap.size → ¬ S k) → k58.C W A news.length (news.map asRef)) ∧ Below w.heap.size w w' := by
  obtain ⟨inner, ho⟩ := Kd.R_own hr
  obtain ⟨A, c, rfl⟩ := own_slice ho
  refine (T.steelyardlaw15_taken.calls (news.length + 1) (fun k => base ≤ k) A c news (news.map asRef) w (Kd.R_V hr) (taken_f news h64)).mono ?_
  rintro e w' ⟨v0, rfl, hN, hb⟩
  obtain ⟨A0, c0, rfl⟩ := Kd.N_slice hN
  rw [List.length_map] at hN ⊢
  refine ⟨A0, c0, rfl, fun hp => ?_, fun S W hf hs => ?_, hb⟩
  · obtain ⟨g, cap, hv, _⟩ := Kd.N_form hN (by rw [List.length_map]; exact hp)
    injection hv with hv
    exact ⟨g, hv⟩
  refine Kd.N_F hN W (fun k hk hlt => hf.block k hlt (hs k ?_ hlt))
  rcases hk with hk | hk
  · exact hk
  · omega
theorem news_cells {W : World} {g n : Nat} {l : List S58} (h : k58.C W (some ⟨g, 0, none⟩) n l) (j : Nat) (hj : j < n) (x : S58) (hx : l[j]? = some x) : W.cell? ⟨g, j * 2, none⟩ = some (.int .i64 x.f0) ∧ ∃ A c, W.cell? ⟨g, j * 2 + 1, none⟩ = some (.slice A x.f1.length c) ∧ (Kd.int .u8).C W A x.f1.length x.f1 := by
  obtain ⟨ad, c, e, hcl, hK, hc⟩ := Kd.C_get h T.z58 (j : Int) (by omega) (by omega)
  injection e with e
  subst e
  rw [Int.toNat_natCast, List.getD_eq_getElem?_getD, hx] at hK
  obtain ⟨A1, c1, rfl, _, hC⟩ := T.k58_open hK
  have h0 := hc 0 _ rfl
  have h1 := hc 1 _ rfl
  simp only [Int.toNat_natCast, add_plain, show k58.sz = 2 from rfl, Nat.add_zero] at h0 h1
  exact ⟨h0, A1, c1, h1, hC⟩
theorem sortQ_2 (a b : It) (h : before b a = true) (h2 : before a b = false) : sortQ [a, b] = [b, a] := by
  unfold sortQ
  simp [List.mergeSort, List.merge, List.MergeSort.Internal.splitInTwo, h]
theorem sortQ_1 (a : It) : sortQ [a] = [a] := by unfold sortQ; simp
theorem times3 : T.gossip_Times.f 4 3 = some 6 := by kernel_rfl
theorem times4 : T.gossip_Times.f 5 4 = some 9 := by kernel_rfl
def K1it : It := ⟨1, [97, 98], 2⟩
def K2it : It := ⟨2, [99], 3⟩
theorem known_put1 : putQ 9 [] 1 [97, 98] 2 = (0, [K1it]) := by kernel_rfl
theorem known_put2 : putQ 9 [K1it] 2 [99] 3 = (0, [K1it, K2it]) := by kernel_rfl
theorem known_pick1 : pickQ [K1it, K2it] 3 = ([⟨2, [99]⟩, ⟨1, [97, 98]⟩], [⟨2, [99], 2⟩, ⟨1, [97, 98], 1⟩]) := by
  unfold pickQ
  rw [sortQ_2 K1it K2it (by kernel_rfl) (by kernel_rfl)]
  kernel_rfl
theorem known_pick2 : (pickQ [⟨2, [99], 2⟩, ⟨1, [97, 98], 1⟩] 1).1 = [⟨2, [99]⟩] := by
  unfold pickQ sortQ
  have : [(⟨2, [99], 2⟩ : It), ⟨1, [97, 98], 1⟩].mergeSort (fun x y => !before y x) = [⟨2, [99], 2⟩, ⟨1, [97, 98], 1⟩] := by
    simp [List.mergeSort, List.merge, List.MergeSort.Internal.splitInTwo, before]
  show (pickI 1 ([(⟨2, [99], 2⟩ : It), ⟨1, [97, 98], 1⟩].mergeSort (fun x y => !before y x))).1 = _
  rw [this]
  rfl
theorem good2 : Good [K1it, K2it] := ⟨by decide, by decide, fun x hx => by
  rcases List.mem_cons.1 hx with rfl | hx
  · decide
  · obtain rfl : x = K2it := by simpa using hx
    decide⟩
theorem good3 : Good [⟨2, [99], 2⟩, ⟨1, [97, 98], 1⟩] := ⟨by decide, by decide, fun x hx => by
  rcases List.mem_cons.1 hx with rfl | hx
  · decide
  · obtain rfl : x = ⟨1, [97, 98], 1⟩ := by simpa using hx
    decide⟩
end Go.Proofs.Ytafkglhdpcmdbaa
