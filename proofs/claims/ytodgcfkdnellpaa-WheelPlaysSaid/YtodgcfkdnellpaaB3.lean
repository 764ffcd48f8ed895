/- Wheel: slices.Insert. -/
import Derived.Test.YtodgcfkdnellpaaB2
import Derived.Shelf.Spec.SlicesInsertGrow
set_option linter.unusedSimpArgs false
set_option linter.unusedVariables false
namespace Go.Proofs.Ytodgcfkdnellpaa
open Go.RowKit Go.Lib Go.Proofs.YtodgcfkdnellpaaW.PrintWords
def InsPost (w : World) (v : Value) (l : List Du) (e : Ending) (w' : World) : Prop := ∃ v', e = .returned v' ∧ ORow w' v' l ∧ Fr (fun k => v.ownBlock = some k) w w' ∧ (v'.ownBlock = v.ownBlock ∨ ∃ b, v'.ownBlock = some b ∧ w.heap.size ≤ b)
theorem src_blk {w : World} {nb : Nat} {d : Du} (h : w.heap[nb]? = some (.cells #[.int .i64 d.id, .int .i64 d.at_] 33 (0, 0))) : Src Try.prog 2 29 (.slice (some ⟨nb, 0, none⟩) 1 1) 1 (cellsL [d]) w :=
  Src.ofSlice _ Try.underlying29 _ _ _ _ (cellsL_length _) (fun j u hj => by
    rw [Addr.add_lit, blk_cell h]
    match j, hj with
    | 0, hj => exact hj
    | 1, hj => exact hj
    | j + 2, hj => simp [cellsL, Du.cells] at hj) (cellsL_one _)
set_option maxHeartbeats 4000000 in
set_option maxRecDepth 100000 in
theorem insert_end (w : World) (v : Value) (l : List Du) (d : Du) (nb : Nat) (h : ORow w v l) (hl : l.length ≤ 4096) (hnb : w.heap[nb]? = some (.cells #[.int .i64 d.id, .int .i64 d.at_] 33 (0, 0))) :
    Calls Try.prog 76 #[v, .int .i64 l.length, .slice (some ⟨nb, 0, none⟩) 1 1] w (InsPost w v (l ++ [d])) := by
  have hsrc := src_blk hnb
  have hh := h
  rcases h with ⟨rfl, rfl⟩ | ⟨b, off, c, cur, rfl, hb, h1, h2, h3, h4⟩
  · have HS := Aside0.mk (And.intro hsrc hh); clear hsrc hh hnb
    go_enter Try.func76, Try.ntmps76
    go_wp2_with (first | (at_builtin; refine wp_app rfl (.slice none 0 0) _ [] [d] 1 HS.out.2 rfl HS.out.1 (by simp) rfl rfl rfl ?_; intro v1 w1 ho hf hloc))
    go_ret
    exact ⟨v1, rfl, ho, hf, hloc⟩
  · have HS := Aside0.mk (And.intro hsrc hh); clear hsrc hh hnb hb h3 h4
    unfold maxLen at h2
    go_enter Try.func76, Try.ntmps76
    go_wp2_with (first | (at_builtin; refine wp_app rfl (.slice (some ⟨b, off, none⟩) l.length c) _ l [d] 1 HS.out.2 rfl HS.out.1 (by simp; omega) rfl rfl rfl ?_; intro v1 w1 ho hf hloc))
    all_goals
      go_ret
      exact ⟨v1, rfl, ho, hf, hloc⟩
theorem run_copy2 (w : World) (ty : TypeId) (b o dLen dCap : Nat) (a : Addr) (sLen sCap n : Nat) (hn : Nat.min sLen dLen = n) (cs : List Value) (hl : cs.length = n * 2) (hsrc : ∀ j v, cs[j]? = some v → w.cell? (a.add j) = some v) (hc : ∀ j, j < cs.length → (w.cell? ⟨b, o + j, none⟩).isSome = true) (hf : ∀ j, j < cs.length → w.frozen? ⟨b, o + j, none⟩ = false) (h1 : ∀ v ∈ cs, v.oneCell' = true) :
    (Builtin.copy_ #[29, 29] ty #[.slice (some ⟨b, o, none⟩) dLen dCap, .slice (some a) sLen sCap]).run Try.prog w = .ok (goInt n) (w.setCells b o cs) := by
  obtain ⟨i0, hi, hzz⟩ := Option.map_eq_some_iff.1 info33
  simp only [Prod.mk.injEq] at hzz
  obtain ⟨hz0, hz1, hz2⟩ := hzz
  have hfc := run_firstCells_some (P := Try.prog) w 2 n a sLen sCap cs hl hsrc
  have hst := run_storeCells_cells (P := Try.prog) b o cs 0 w (by simpa using hc) (by simpa using hf) h1
  simp only [Nat.add_zero] at hst
  simp [Builtin.copy_, run_underlying Try.underlying29, Builtin.lenOf, sizeOf, typeInfo, hi, hz1, hn, hfc, hst]
theorem shift_list {cur cur1 cur2 : List Value} {off i n : Nat} {l : List Du} {d : Du} (hn : l.length = n) (hi : i ≤ n) (hx : (cur.drop off).take (n * 2) = cellsL l) (hlen : off + (n + 1) * 2 ≤ cur.length)
    (h1 : cur1 = cur.take (off + (i + 1) * 2) ++ cellsL (l.drop i) ++ cur.drop (off + (i + 1) * 2 + (cellsL (l.drop i)).length)) (h2 : cur2 = cur1.take (off + i * 2) ++ d.cells ++ cur1.drop (off + i * 2 + d.cells.length)) :
    (cur2.drop off).take ((n + 1) * 2) = cellsL (l.take i ++ [d] ++ l.drop i) := by
  have hdl : (cellsL (l.drop i)).length = (n - i) * 2 := by rw [cellsL_length, List.length_drop, hn]
  have hc : d.cells.length = 2 := rfl
  have e1 : cur1.take (off + i * 2) = cur.take (off + i * 2) := by
    rw [h1, List.append_assoc, List.take_append_of_le_length (by rw [List.length_take]; omega), List.take_take, Nat.min_eq_left (by omega)]
  have e2 : cur1.drop (off + i * 2 + 2) = cellsL (l.drop i) ++ cur.drop (off + (i + 1) * 2 + (cellsL (l.drop i)).length) := by
    rw [h1, List.append_assoc, show off + i * 2 + 2 = (cur.take (off + (i + 1) * 2)).length by rw [List.length_take]; omega, List.drop_left]
  have e3 : (cur.take (off + i * 2)).drop off = cellsL (l.take i) := by
    rw [List.drop_take, ← cellsL_take, ← hx, List.take_take, show off + i * 2 - off = i * 2 by omega, Nat.min_eq_left (by omega)]
  rw [h2, hc, e1, e2, List.append_assoc, List.drop_append_of_le_length (by rw [List.length_take]; omega), e3, cellsL_append, cellsL_append, List.append_assoc]
  have e4 : cellsL [d] = d.cells := by simp [cellsL]
  rw [e4]
  have e5 : (n + 1) * 2 = (cellsL (l.take i) ++ (d.cells ++ cellsL (l.drop i))).length := by simp [cellsL_length, hc, hdl]; omega
  rw [e5, ← List.append_assoc, ← List.append_assoc, ← List.append_assoc]
  exact List.take_left
set_option maxHeartbeats 4000000 in
set_option maxRecDepth 100000 in
theorem insert_shift (w : World) (b off c i : Nat) (l : List Du) (d : Du) (nb : Nat) (h : ORow w (.slice (some ⟨b, off, none⟩) l.length c) l) (hi : i < l.length) (hroom : l.length + 1 ≤ c) (hl : l.length ≤ 4096) (hnb : w.heap[nb]? = some (.cells #[.int .i64 d.id, .int .i64 d.at_] 33 (0, 0))) (hvb : nb ≠ b) :
    Calls Try.prog 76 #[.slice (some ⟨b, off, none⟩) l.length c, .int .i64 i, .slice (some ⟨nb, 0, none⟩) 1 1] w (InsPost w (.slice (some ⟨b, off, none⟩) l.length c) (l.take i ++ [d] ++ l.drop i)) := by
  obtain ⟨cur, hb, h1, h2, h3, hx⟩ : ∃ cur, w.heap[b]? = some (.cells cur 33 (0, 0)) ∧ l.length ≤ c ∧ c ≤ maxLen ∧ off + c * 2 ≤ cur.size ∧ (cur.toList.drop off).take (l.length * 2) = cellsL l := by
    rcases h with ⟨h, _⟩ | ⟨b', off', c', cur, he, hb, h1, h2, h3, h4⟩
    · cases h
    · injection he with he _ e3
      injection he with he
      injection he with e1 e2 _
      subst e1; subst e2; subst e3
      exact ⟨cur, hb, h1, h2, h3, h4⟩
  have hcell := h.cell
  have hdl : (cellsL (l.drop i)).length = (l.length - i) * 2 := by rw [cellsL_length, List.length_drop]
  have hov : ∀ lb cb, (callFunc 77 #[.slice (some ⟨nb, 0, none⟩) 1 1, .slice (some ⟨b, off + (i + 1) * 2, none⟩) lb cb]).run Try.prog w = .ok (.value (.bool false)) w := fun lb cb => by
    rw [run_callFunc_extern Try.func77 (by kernel_rfl) (by kernel_rfl) (by kernel_rfl) (e := Extern.SlicesOverlaps.overlaps #[29, 29] #[4]) (by kernel_rfl),
      Lib.run_overlaps_apart w 29 4 33 Try.underlying29 2 (fun w => by kernel_rfl) ⟨nb, 0, none⟩ ⟨b, off + (i + 1) * 2, none⟩ 1 1 lb cb hvb 33 33 2 cur.size (by simp [World.shape?, hnb]) (by simp [World.shape?, hb]) (by omega) (blk_frozen hnb _) (blk_frozen hnb _)]
    rfl
  have hcp1 : ∀ ty dc sc, (Builtin.copy_ #[29, 29] ty #[.slice (some ⟨b, off + (i + 1) * 2, none⟩) (l.length - i) dc, .slice (some ⟨b, off + i * 2, none⟩) (l.length + 1 - i) sc]).run Try.prog w.drew = .ok (goInt (l.length - i : Nat)) (w.drew.setCells b (off + (i + 1) * 2) (cellsL (l.drop i))) := fun ty dc sc =>
    run_copy2 w.drew ty b (off + (i + 1) * 2) (l.length - i) dc ⟨b, off + i * 2, none⟩ (l.length + 1 - i) sc (l.length - i) (by simp only [Nat.min_def]; split <;> omega) (cellsL (l.drop i)) hdl
      (fun j v hj => by rw [Addr.add_lit, Nat.add_assoc]; rw [← cellsL_drop, List.getElem?_drop] at hj; exact hcell (i * 2 + j) v hj)
      (fun j hj => by rw [show w.drew.cell? _ = w.cell? _ from rfl, blk_cell hb, Array.getElem?_eq_getElem (by omega)]; rfl) (fun j hj => blk_frozen (w := w) hb _) (cellsL_one _)
  obtain ⟨cur1, g1, g2, g3⟩ := setCells_row (cellsL (l.drop i)) (off + (i + 1) * 2) w.drew cur hb (by omega)
  obtain ⟨s1, s2, s3, s4⟩ := setCells_same b (cellsL (l.drop i)) (off + (i + 1) * 2) w.drew
  have hf1 : Fr (fun k => k = b) w (w.drew.setCells b (off + (i + 1) * 2) (cellsL (l.drop i))) := ⟨s1, s2, s3, by rw [s4]; exact Nat.le_refl _, fun k hk hn => setCells_far _ _ k hn⟩
  obtain ⟨W1, hW1⟩ : ∃ W1, W1 = w.drew.setCells b (off + (i + 1) * 2) (cellsL (l.drop i)) := ⟨_, rfl⟩
  rw [← hW1] at hcp1 g1 hf1
  clear s1 s2 s3 s4 hW1
  have hnb1 := hf1.blk hnb (fun e => hvb e)
  have hcp2 : ∀ ty dc, (Builtin.copy_ #[29, 29] ty #[.slice (some ⟨b, off + i * 2, none⟩) (l.length + 1 - i) dc, .slice (some ⟨nb, 0, none⟩) 1 1]).run Try.prog W1 = .ok (goInt (1 : Nat)) (W1.setCells b (off + i * 2) d.cells) := fun ty dc =>
    run_copy2 W1 ty b (off + i * 2) (l.length + 1 - i) dc ⟨nb, 0, none⟩ 1 1 1 (by simp only [Nat.min_def]; split <;> omega) d.cells rfl
      (fun j v hj => by
        rw [Addr.add_lit, blk_cell hnb1]
        match j, hj with
        | 0, hj => exact hj
        | 1, hj => exact hj
        | j + 2, hj => simp [Du.cells] at hj)
      (fun j hj => by
        have hj : j < 2 := hj
        rw [blk_cell g1, Array.getElem?_eq_getElem (by omega)]; rfl) (fun j hj => blk_frozen g1 _) (fun v hv => by
        simp [Du.cells] at hv
        rcases hv with rfl | rfl <;> rfl)
  obtain ⟨cur2, k1, k2, k3⟩ := setCells_row d.cells (off + i * 2) W1 cur1 g1 (by rw [g2]; show _ + 2 ≤ _; omega)
  obtain ⟨s1, s2, s3, s4⟩ := setCells_same b d.cells (off + i * 2) W1
  have hf2 : Fr (fun k => k = b) w (W1.setCells b (off + i * 2) d.cells) := hf1.trans (S1 := fun k => k = b) ⟨s1, s2, s3, by rw [s4]; exact Nat.le_refl _, fun k hk hn => setCells_far _ _ k hn⟩ (fun k h => .inl h)
  have hlist := shift_list (n := l.length) rfl (Nat.le_of_lt hi) hx (by show off + (l.length + 1) * 2 ≤ cur.size; omega) g3 k3
  obtain ⟨W2, hW2⟩ : ∃ W2, W2 = W1.setCells b (off + i * 2) d.cells := ⟨_, rfl⟩
  rw [← hW2] at hcp2 k1 hf2
  have hfin : ORow W2 (.slice (some ⟨b, off, none⟩) (l.length + 1) c) (l.take i ++ [d] ++ l.drop i) := by
    have hll : (l.take i ++ [d] ++ l.drop i).length = l.length + 1 := by simp; omega
    exact .inr ⟨b, off, c, cur2, by rw [hll], k1, by rw [hll]; exact hroom, h2, by rw [k2, g2]; exact h3, by rw [hll]; exact hlist⟩
  obtain ⟨L', hL'⟩ : ∃ L', L' = l.take i ++ [d] ++ l.drop i := ⟨_, rfl⟩
  rw [← hL'] at hfin ⊢
  have HF := Aside0.mk (And.intro hf2 hfin); clear hL'
  have mixed : Try.prog.follows .mixedOrders = true := by kernel_rfl
  have hw1 : IntKind.i64.wrap ((i : Int) + 1) = (i : Int) + 1 := IntWalk.i64_in _ (by omega)
  have hw2 : IntKind.i64.wrap ((l.length : Int) + 1) = (l.length : Int) + 1 := IntWalk.i64_in _ (by omega)
  have hz2 : ¬ ((i : Int) = (l.length : Int)) := by omega
  have hb1 : (0 : Int) ≤ (i : Int) + 1 := by omega
  have hin : i ≤ l.length := by omega
  have htn : ((i : Int) + 1).toNat = i + 1 := by omega
  have hb2 : ¬ (c = i + 1) := by omega
  have hb3 : (i : Int) ≤ (l.length : Int) + 1 := by omega
  have hb4 : ¬ (c = i) := by omega
  have hm3 : ¬ (c : Int) < (l.length : Int) + 1 := by omega
  unfold maxLen at h2
  have HO := Aside0.mk hov; have HC1 := Aside0.mk hcp1; have HC2 := Aside0.mk hcp2
  clear hf2 hfin hlist k1 k2 k3 s1 s2 s3 s4 g1 g2 g3 hf1 hx h3 hb hcell hdl hnb1 hnb h hW2 hov hcp1 hcp2
  go_enter Try.func76, Try.ntmps76
  go_wp2_with (simp only [HO.out])
  go_region_law_o (refine step_copy_runI rfl _ _ 29 29 rfl (.slice (some ⟨b, off + (i + 1) * 2, none⟩) (l.length - i) (c - (i + 1))) (.slice (some ⟨b, off + i * 2, none⟩) (l.length + 1 - i) (c - i)) (by simp [Act.eval, Act.put]) (by simp [Act.eval, Act.put]) (HC1.out 3 (c - (i + 1)) (c - i)) ?_)
  have hC2 := HC2.out
  go_wp2
  go_ret
  exact ⟨_, rfl, HF.out.2, HF.out.1.mono (fun k _ h => by rw [h]; rfl), .inl rfl⟩
theorem grow_list {row row1 row2 : List Value} {i n : Nat} {l : List Du} {d : Du} (hn : l.length = n) (hi : i ≤ n) (hx : row.take (i * 2) = cellsL (l.take i)) (hlen : (n + 1) * 2 ≤ row.length)
    (h1 : row1 = row.take (i * 2) ++ d.cells ++ row.drop (i * 2 + d.cells.length)) (h2 : row2 = row1.take ((i + 1) * 2) ++ cellsL (l.drop i) ++ row1.drop ((i + 1) * 2 + (cellsL (l.drop i)).length)) :
    row2.take ((n + 1) * 2) = cellsL (l.take i ++ [d] ++ l.drop i) := by
  have hdl : (cellsL (l.drop i)).length = (n - i) * 2 := by rw [cellsL_length, List.length_drop, hn]
  have htl : (cellsL (l.take i)).length = i * 2 := by rw [cellsL_length, List.length_take, hn, Nat.min_eq_left hi]
  have hc : d.cells.length = 2 := rfl
  have e1 : row1.take ((i + 1) * 2) = cellsL (l.take i) ++ d.cells := by
    rw [h1, hx, show (i + 1) * 2 = (cellsL (l.take i) ++ d.cells).length by rw [List.length_append, htl, hc]; omega]
    exact List.take_left
  have e4 : cellsL [d] = d.cells := by simp [cellsL]
  rw [h2, e1, cellsL_append, cellsL_append, e4]
  have e5 : (n + 1) * 2 = (cellsL (l.take i) ++ d.cells ++ cellsL (l.drop i)).length := by rw [List.length_append, List.length_append, htl, hc, hdl]; omega
  rw [e5]
  exact List.take_left
set_option maxHeartbeats 4000000 in
set_option maxRecDepth 100000 in
theorem insert_grow (w : World) (b off c i : Nat) (l : List Du) (d : Du) (nb : Nat) (h : ORow w (.slice (some ⟨b, off, none⟩) l.length c) l) (hi : i < l.length) (hroom : c < l.length + 1) (hl : l.length ≤ 4096) (hnb : w.heap[nb]? = some (.cells #[.int .i64 d.id, .int .i64 d.at_] 33 (0, 0))) (hvb : nb ≠ b) :
    Calls Try.prog 76 #[.slice (some ⟨b, off, none⟩) l.length c, .int .i64 i, .slice (some ⟨nb, 0, none⟩) 1 1] w (InsPost w (.slice (some ⟨b, off, none⟩) l.length c) (l.take i ++ [d] ++ l.drop i)) := by
  have hbl := h.lt b rfl
  have hcell := h.cell
  have hlc : l.length ≤ c := by
    obtain ⟨a, c', e, h1, h2⟩ := h.len
    injection e with _ _ e
    subst e
    exact h1
  have hce : c = l.length := by omega
  subst hce
  clear hlc hroom
  have hmx : maxLen = 9223372036854775807 := by decide
  obtain ⟨i0, hi0, hzz⟩ := Option.map_eq_some_iff.1 info33
  simp only [Prod.mk.injEq] at hzz
  obtain ⟨hz0, hz1, hz2⟩ := hzz
  have hdl : (cellsL (l.drop i)).length = (l.length - i) * 2 := by rw [cellsL_length, List.length_drop]
  have htl : (cellsL (l.take i)).length = i * 2 := by rw [cellsL_length, List.length_take, Nat.min_eq_left (by omega)]
  have hold : (Builtin.firstCells i0.size i (.slice (some ⟨b, off, none⟩) i l.length)).run Try.prog w.drew = .ok (cellsL (l.take i)).toArray w.drew := by
    rw [hz1]
    exact run_firstCells_some w.drew 2 i ⟨b, off, none⟩ i l.length (cellsL (l.take i)) htl (fun j v hj => by
      rw [Addr.add_lit]
      rw [← cellsL_take, List.getElem?_take] at hj
      split at hj
      · exact hcell j v hj
      · cases hj)
  have hkk : (l.length : Int) + 1 - (i : Int) = ((l.length + 1 - i : Nat) : Int) := by omega
  have hik : i + (l.length + 1 - i) = l.length + 1 := by omega
  have hrz : ∃ v W1, (∀ ty, (Builtin.append_ #[29, 3] ty #[.slice (some ⟨b, off, none⟩) i l.length, .int .i64 ((l.length : Int) + 1 - (i : Int))]).run Try.prog w = .ok v W1) ∧ ∃ G ROW, v = .slice (some ⟨w.heap.size, 0, none⟩) (l.length + 1) G ∧ W1.heap[w.heap.size]? = some (.cells ROW 33 (0, 0)) ∧ l.length + 1 ≤ G ∧ G ≤ maxLen ∧ ROW.size = G * 2 ∧ ROW.toList.take (i * 2) = cellsL (l.take i) ∧ Fr SNo w W1 := by
    have hfit : Builtin.nextslicecap (i + (l.length + 1 - i)) l.length * i0.bytes ≤ 281474976710656 := by
      rw [hz2, hik]
      have := nextslicecap_le (need := l.length + 1) (old := l.length) (by omega)
      have h3 : Builtin.nextslicecap (l.length + 1) l.length * 16 ≤ 2 * (l.length + 1) * 16 := Nat.mul_le_mul_right _ this
      omega
    have hrun := fun ty => Lib.run_append_grow_zeros w 29 3 ty 33 i0 _ .i64 .i64 Try.underlying29 Try.underlying3 hi0 hz0 (some ⟨b, off, none⟩) i l.length (cellsL (l.take i)) hold (l.length + 1 - i) (by omega) (by omega) (by omega) (by omega) (by rw [hz2]; omega) hfit
    have hge := grownCap_ge w (i + (l.length + 1 - i)) l.length 33
    have hcm' : grownCap w (i + (l.length + 1 - i)) l.length 33 ≤ maxLen := grownCap_le_maxLen w (i + (l.length + 1 - i)) l.length 33 (by omega)
    rw [← hkk] at hrun
    refine ⟨_, _, hrun, _, _, by rw [hik], heap_alloc_new w.drew _, by omega, hcm', ?_, ?_, ((Fr.refl SNo w).drew).alloc _⟩
    · simp only [Array.size_append, List.size_toArray, size_zeroCells, htl]
      have : (Value.cells (.agg #[(.int .i64 0), (.int .i64 0)])).size = 2 := rfl
      rw [this]
      omega
    · rw [Array.toList_append, Array.toList_append, List.append_assoc, ← htl]
      exact List.take_left
  obtain ⟨v0, W1, hrun, G, ROW, rfl, hR, hG, hGm, hRs, hRt, hf1⟩ := hrz
  have hb1 := fun (j : Nat) (v : Value) (hj : (cellsL l)[j]? = some v) => hf1.cellAt (p := ⟨b, off + j, none⟩) hbl (fun h => h) (hcell j v hj)
  have hnb1 := hf1.blk hnb (fun h => h)
  have hnl := blk_lt hnb
  obtain ⟨n0, hn0⟩ : ∃ n, n = w.heap.size := ⟨_, rfl⟩
  rw [← hn0] at hrun hR hnl hbl
  have hcp1 : ∀ ty dc, (Builtin.copy_ #[29, 29] ty #[.slice (some ⟨n0, i * 2, none⟩) (l.length + 1 - i) dc, .slice (some ⟨nb, 0, none⟩) 1 1]).run Try.prog W1 = .ok (goInt (1 : Nat)) (W1.setCells n0 (i * 2) d.cells) := fun ty dc =>
    run_copy2 W1 ty n0 (i * 2) (l.length + 1 - i) dc ⟨nb, 0, none⟩ 1 1 1 (by simp only [Nat.min_def]; split <;> omega) d.cells rfl
      (fun j v hj => by
        rw [Addr.add_lit, blk_cell hnb1]
        match j, hj with
        | 0, hj => exact hj
        | 1, hj => exact hj
        | j + 2, hj => simp [Du.cells] at hj)
      (fun j hj => by
        have hj : j < 2 := hj
        rw [blk_cell hR, Array.getElem?_eq_getElem (by omega)]; rfl) (fun j hj => blk_frozen hR _) (fun v hv => by
        simp [Du.cells] at hv
        rcases hv with rfl | rfl <;> rfl)
  obtain ⟨row1, g1, g2, g3⟩ := setCells_row d.cells (i * 2) W1 ROW hR (by rw [hRs]; show _ + 2 ≤ _; omega)
  obtain ⟨s1, s2, s3, s4⟩ := setCells_same n0 d.cells (i * 2) W1
  have hf2 : Fr (fun k => k = n0) W1 (W1.setCells n0 (i * 2) d.cells) := ⟨s1, s2, s3, by rw [s4]; exact Nat.le_refl _, fun k hk hn => setCells_far _ _ k hn⟩
  obtain ⟨W2, hW2⟩ : ∃ W2, W2 = W1.setCells n0 (i * 2) d.cells := ⟨_, rfl⟩
  rw [← hW2] at hcp1 g1 hf2
  clear s1 s2 s3 s4 hW2
  have hb2 := fun (j : Nat) (v : Value) (hj : (cellsL l)[j]? = some v) => hf2.cellAt (p := ⟨b, off + j, none⟩) (Nat.lt_of_lt_of_le (by rw [← hn0]; exact hbl) hf1.size) (by show ¬ b = n0; omega) (hb1 j v hj)
  have hcp2 : ∀ ty dc sc, (Builtin.copy_ #[29, 29] ty #[.slice (some ⟨n0, (i + 1) * 2, none⟩) (l.length - i) dc, .slice (some ⟨b, off + i * 2, none⟩) (l.length - i) sc]).run Try.prog W2.drew = .ok (goInt (l.length - i : Nat)) (W2.drew.setCells n0 ((i + 1) * 2) (cellsL (l.drop i))) := fun ty dc sc =>
    run_copy2 W2.drew ty n0 ((i + 1) * 2) (l.length - i) dc ⟨b, off + i * 2, none⟩ (l.length - i) sc (l.length - i) (Nat.min_self _) (cellsL (l.drop i)) hdl
      (fun j v hj => by rw [Addr.add_lit, Nat.add_assoc]; rw [← cellsL_drop, List.getElem?_drop] at hj; exact hb2 (i * 2 + j) v hj)
      (fun j hj => by rw [show W2.drew.cell? _ = W2.cell? _ from rfl, blk_cell g1, Array.getElem?_eq_getElem (by omega)]; rfl) (fun j hj => blk_frozen (w := W2) g1 _) (cellsL_one _)
  obtain ⟨row2, k1, k2, k3⟩ := setCells_row (cellsL (l.drop i)) ((i + 1) * 2) W2.drew row1 g1 (by omega)
  obtain ⟨s1, s2, s3, s4⟩ := setCells_same n0 (cellsL (l.drop i)) ((i + 1) * 2) W2.drew
  have hf3 : Fr SNo w (W2.drew.setCells n0 ((i + 1) * 2) (cellsL (l.drop i))) := by
    refine (hf1.trans (hf2.drew) (fun k h => .inr (by rw [h, hn0]; exact Nat.le_refl _))).trans (S1 := fun k => k = n0) ⟨s1, s2, s3, by rw [s4]; exact Nat.le_refl _, fun k hk hn => setCells_far _ _ k hn⟩ (fun k h => .inr (by rw [h, hn0]; exact Nat.le_refl _))
  have hlist := grow_list (n := l.length) rfl (Nat.le_of_lt hi) hRt (by show (l.length + 1) * 2 ≤ ROW.size; omega) g3 k3
  obtain ⟨W3, hW3⟩ : ∃ W3, W3 = W2.drew.setCells n0 ((i + 1) * 2) (cellsL (l.drop i)) := ⟨_, rfl⟩
  rw [← hW3] at hcp2 k1 hf3
  have hfin : ORow W3 (.slice (some ⟨n0, 0, none⟩) (l.length + 1) G) (l.take i ++ [d] ++ l.drop i) := by
    have hll : (l.take i ++ [d] ++ l.drop i).length = l.length + 1 := by simp; omega
    exact .inr ⟨n0, 0, G, row2, by rw [hll], k1, by rw [hll]; exact hG, hGm, by rw [k2, g2, hRs]; omega, by rw [hll]; exact hlist⟩
  obtain ⟨L', hL'⟩ : ∃ L', L' = l.take i ++ [d] ++ l.drop i := ⟨_, rfl⟩
  rw [← hL'] at hfin ⊢
  have HF := Aside0.mk (And.intro hf3 (And.intro hfin hn0)); clear hL'
  have mixed : Try.prog.follows .mixedOrders = true := by kernel_rfl
  have hw1 : IntKind.i64.wrap ((i : Int) + 1) = (i : Int) + 1 := IntWalk.i64_in _ (by omega)
  have hw2 : IntKind.i64.wrap ((l.length : Int) + 1) = (l.length : Int) + 1 := IntWalk.i64_in _ (by omega)
  have hw3 : IntKind.i64.wrap ((l.length : Int) + 1 - (i : Int)) = (l.length : Int) + 1 - (i : Int) := IntWalk.i64_in _ (by omega)
  have hz2 : ¬ ((i : Int) = (l.length : Int)) := by omega
  have hb1 : (0 : Int) ≤ (i : Int) + 1 := by omega
  have hin : i ≤ l.length := by omega
  have htn : ((i : Int) + 1).toNat = i + 1 := by omega
  have hb3 : (i : Int) ≤ (l.length : Int) + 1 := by omega
  have hb4 : ¬ (l.length = i) := by omega
  have hb5 : ¬ (G = i) := by omega
  have hb6 : ¬ (G = i + 1) := by omega
  have hG63 : G ≤ 9223372036854775807 := by omega
  have HC1 := Aside0.mk hcp1; have HC2 := Aside0.mk hcp2; have HC0 := Aside0.mk hrun
  clear hf3 hfin hlist k1 k2 k3 s1 s2 s3 s4 g1 g2 g3 hf1 hf2 hcell hdl htl hnb1 hnb h hW3 hcp1 hcp2 hrun hRt hRs hR hGm hmx hold hkk hik hn0 hb2 hnl hbl hz0 hz1 hi0
  go_enter Try.func76, Try.ntmps76
  have hC1 := HC1.out
  go_wp2_with (at_builtin; refine Lib.wpList_append_run _ rfl _ _ 29 3 rfl _ _ rfl rfl _ _ (HC0.out _) ?_)
  go_region_law_o (refine step_copy_runI rfl _ _ 29 29 rfl (.slice (some ⟨n0, (i + 1) * 2, none⟩) (l.length - i) (G - (i + 1))) (.slice (some ⟨b, off + i * 2, none⟩) (l.length - i) (l.length - i)) (by simp [Act.eval, Act.put]) (by simp [Act.eval, Act.put]) (HC2.out 3 (G - (i + 1)) (l.length - i)) ?_)
  go_wp2
  go_ret
  exact ⟨_, rfl, HF.out.2.1, HF.out.1.mono (fun _ _ h => h.elim), .inr ⟨n0, rfl, by rw [HF.out.2.2]; exact Nat.le_refl _⟩⟩
theorem insert_any (w : World) (v : Value) (l : List Du) (i : Nat) (d : Du) (nb : Nat) (h : ORow w v l) (hi : i ≤ l.length) (hl : l.length ≤ 4096) (hnb : w.heap[nb]? = some (.cells #[.int .i64 d.id, .int .i64 d.at_] 33 (0, 0))) (hvb : v.ownBlock ≠ some nb) :
    Calls Try.prog 76 #[v, .int .i64 i, .slice (some ⟨nb, 0, none⟩) 1 1] w (InsPost w v (l.take i ++ [d] ++ l.drop i)) := by
  by_cases hil : i = l.length
  · subst hil
    rw [List.take_length, List.drop_length, List.append_nil]
    exact insert_end w v l d nb h hl hnb
  · obtain ⟨b, off, c, rfl⟩ := orow_some h (by omega)
    have hvb' : nb ≠ b := fun e => hvb (by rw [e]; rfl)
    by_cases hc : l.length + 1 ≤ c
    · exact insert_shift w b off c i l d nb h (by omega) hc hl hnb hvb'
    · exact insert_grow w b off c i l d nb h (by omega) (by omega) hl hnb hvb'
end Go.Proofs.Ytodgcfkdnellpaa
