/- Wheel: the map and the invariant behind a drop and a set. -/
import Derived.Test.YtodgcfkdnellpaaA8
set_option linter.unusedSimpArgs false
set_option linter.unusedVariables false
namespace Go.Proofs.Ytodgcfkdnellpaa
open Go.RowKit Go.Maps Go.Proofs.YtodgcfkdnellpaaW.PrintWords
theorem lit_ne {x y : Int} (h : y ≠ x) : Lit.int .i64 y ≠ Lit.int .i64 x := fun e => h (by injection e)
theorem mapis_drop {w1 : World} {bm n : Nat} {L : List Du} {D : DataW Nat} {x : Int} (ht : Tidy D) (hsz : Maps.size D = L.length) (hh : ∀ x : Int, Maps.has D (.int .i64 x) = L.any (fun d => d.id == x)) (ha : ∀ x : Int, D.atKey (.int .i64 x) z0 = .lit (.int .i64 (atOf L x)))
    (hn : (L.map (·.id)).Nodup) (hany : L.any (fun d => d.id == x) = true) (ho : w1.ownsMap Try.prog 2 (plainElem Try.prog 2) bm n (D.del (.int .i64 x))) : MapIs w1 bm (dropL L x) := by
  have h1 := tighten ho
  have h2 := Maps.size_del (k := .int .i64 x) ht
  rw [hh x, hany] at h2
  simp only [if_pos] at h2
  have h3 := drop_len hn hany
  have h4 : Maps.size (D.del (.int .i64 x)) = (dropL L x).length := by omega
  rw [h4] at h1
  refine ⟨_, h1, h4, fun y => ?_, fun y => ?_⟩
  · rw [any_drop]
    by_cases hy : y = x
    · subst hy; rw [Maps.has_del_same]; simp
    · rw [Maps.has_del_other (lit_ne hy), hh y]
      have : (y == x) = false := by simpa using hy
      rw [this]; simp
  · rw [atOf_drop]
    by_cases hy : y = x
    · subst hy; rw [if_pos rfl, Maps.atKey_del_same]; rfl
    · rw [if_neg hy, Maps.atKey_del_other (lit_ne hy), ha y]
theorem any_perm {L L' : List Du} (h : L.Perm L') (p : Du → Bool) : L.any p = L'.any p := by
  rw [Bool.eq_iff_iff, List.any_eq_true, List.any_eq_true]
  exact ⟨fun ⟨d, h1, h2⟩ => ⟨d, h.mem_iff.1 h1, h2⟩, fun ⟨d, h1, h2⟩ => ⟨d, h.mem_iff.2 h1, h2⟩⟩
theorem atOf_perm {L L' : List Du} (h : L.Perm L') (hn : (L.map (·.id)).Nodup) (y : Int) : atOf L y = atOf L' y := by
  have hn' : (L'.map (·.id)).Nodup := ((h.map (·.id)).nodup_iff).1 hn
  cases ha : L.any (fun d => d.id == y) with
  | false => rw [atOf_none ha, atOf_none (by rw [← any_perm h]; exact ha)]
  | true =>
    obtain ⟨d, hd, rfl⟩ := any_mem ha
    rw [atOf_mem hn hd, atOf_mem hn' (h.mem_iff.1 hd)]
theorem ins_nodup {L : List Du} {d : Du} (hn : (L.map (·.id)).Nodup) (hd : L.any (fun e => e.id == d.id) = false) : ((insDu d L).map (·.id)).Nodup := by
  rw [((insDu_perm d L).map (·.id)).nodup_iff, List.map_cons, List.nodup_cons]
  refine ⟨fun hm => ?_, hn⟩
  obtain ⟨e, he, heq⟩ := List.mem_map.1 hm
  have := List.any_eq_false.1 hd e he
  simp [heq] at this
theorem mapis_set {w1 : World} {bm n : Nat} {L : List Du} {D : DataW Nat} {d : Du} (ht : Tidy D) (hsz : Maps.size D = L.length) (hh : ∀ x : Int, Maps.has D (.int .i64 x) = L.any (fun d => d.id == x)) (ha : ∀ x : Int, D.atKey (.int .i64 x) z0 = .lit (.int .i64 (atOf L x)))
    (hn : (L.map (·.id)).Nodup) (hany : L.any (fun e => e.id == d.id) = false) (hk : WideAt.IsKeyLit (.int .i64 d.id)) (ho : w1.ownsMap Try.prog 2 (plainElem Try.prog 2) bm n (D.put (.int .i64 d.id) (.lit (.int .i64 d.at_)))) : MapIs w1 bm (insDu d L) := by
  have h1 := tighten ho
  have h2 := Maps.size_put (k := .int .i64 d.id) ht (.lit (.int .i64 d.at_))
  rw [hh d.id, hany] at h2
  have h3 := (insDu_perm d L).length_eq
  have h4 : Maps.size (D.put (.int .i64 d.id) (.lit (.int .i64 d.at_))) = (insDu d L).length := by rw [h2, h3, hsz]; rfl
  rw [h4] at h1
  refine ⟨_, h1, h4, fun y => ?_, fun y => ?_⟩
  · rw [any_perm (insDu_perm d L), List.any_cons]
    by_cases hy : y = d.id
    · subst hy; rw [Maps.has_put_same ht.isMap hk]; simp
    · rw [Maps.has_put_other (lit_ne hy), hh y]
      have : (d.id == y) = false := by simpa using fun e => hy e.symm
      rw [this]; simp
  · rw [← atOf_perm (insDu_perm d L).symm (by rw [← ((insDu_perm d L).map (·.id)).nodup_iff]; exact ins_nodup hn hany), atOf_cons]
    by_cases hy : y = d.id
    · subst hy; rw [if_pos rfl, Maps.atKey_put_same ht.isMap hk]
    · rw [if_neg (fun e => hy e.symm), Maps.atKey_put_other (lit_ne hy), ha y]
def isNear (now : Int) (k : Nat) (d : Du) : Bool := decide (d.at_ - now < 64 ∧ d.at_ % 64 = k)
def isFar (now : Int) (d : Du) : Bool := decide (64 ≤ d.at_ - now)
theorem drop_eq {L : List Du} (hn : (L.map (·.id)).Nodup) {d : Du} (hd : d ∈ L) : dropL L d.id = L.filter (keepD d) := by
  unfold dropL
  exact List.filter_congr (fun y hy => (keep_drop hn hd y hy).symm)
theorem mem_drop {L : List Du} {x : Int} {y : Du} (h : y ∈ dropL L x) : y ∈ L ∧ y.id ≠ x := by
  obtain ⟨h1, h2⟩ := List.mem_filter.1 h
  exact ⟨h1, by simpa using h2⟩
theorem Inv.drop {now : Int} {C : Nat → List Du} {L : List Du} (h : Inv now C L) {d : Du} (hd : d ∈ L) (i : Nat) (hi : (d.at_ - now < 64 ∧ i = (d.at_ % 64).toNat) ∨ (64 ≤ d.at_ - now ∧ i = 64)) : Inv now (upd C i ((C i).filter (keepD d))) (dropL L d.id) := by
  have e := drop_eq h.ids hd
  have hlt := h.late d hd
  refine ⟨h.now0, h.now1, h.sorted.filter _, ?_, fun y hy => h.late y (mem_drop hy).1, fun y hy => h.wf y (mem_drop hy).1, Nat.le_trans (List.length_filter_le _ _) h.few, fun k hk => ?_, ?_⟩
  · exact h.ids.sublist ((List.filter_sublist).map _)
  · have hp := h.near k hk
    rw [e, List.filter_filter]
    by_cases hki : k = i
    · subst hki
      rw [upd_same]
      have := hp.filter (keepD d)
      rw [List.filter_filter] at this
      refine this.trans (List.Perm.of_eq (List.filter_congr (fun y _ => Bool.and_comm _ _)))
    · rw [upd_ne _ _ hki]
      refine hp.trans (List.Perm.of_eq (List.filter_congr (fun y hy => ?_)))
      by_cases hyd : y = d
      · subst hyd
        have : decide (y.at_ - now < 64 ∧ y.at_ % 64 = (k : Int)) = false := by
          have := h.now0
          simp; intro h1 h2; rcases hi with ⟨_, hi⟩ | ⟨h3, _⟩ <;> omega
        rw [this]; simp
      · have : keepD d y = true := by unfold keepD isDu; simp [hyd]
        rw [this]; simp
  · rw [e, List.filter_filter]
    by_cases hki : 64 = i
    · subst hki
      rw [upd_same, h.far, List.filter_filter]
      exact List.filter_congr (fun y _ => Bool.and_comm _ _)
    · rw [upd_ne _ _ hki, h.far]
      refine List.filter_congr (fun y hy => ?_)
      by_cases hyd : y = d
      · subst hyd
        have : decide (64 ≤ y.at_ - now) = false := by
          simp; rcases hi with ⟨h1, _⟩ | ⟨_, h3⟩ <;> omega
        rw [this]; simp
      · have : keepD d y = true := by unfold keepD isDu; simp [hyd]
        rw [this]; simp
theorem Inv.ins {now : Int} {C : Nat → List Du} {L : List Du} (h : Inv now C L) {d : Du} (hd : L.any (fun e => e.id == d.id) = false) (h1 : now < d.at_) (h2 : d.at_ ≤ 1099511627776) (hw : (Lit.int .i64 d.id).wf = true) (hl : L.length < 4096) (i : Nat) (l : List Du) (hi : (d.at_ - now < 64 ∧ i = (d.at_ % 64).toNat ∧ l = C i ++ [d]) ∨ (64 ≤ d.at_ - now ∧ i = 64 ∧ l = insDu d (C 64))) : Inv now (upd C i l) (insDu d L) := by
  have hne : ∀ a ∈ L, a.id ≠ d.id := fun a ha e => by have := List.any_eq_false.1 hd a ha; simp [e] at this
  have hp := insDu_perm d L
  have hmem : ∀ y, y ∈ insDu d L → y = d ∨ y ∈ L := fun y hy => List.mem_cons.1 (hp.mem_iff.1 hy)
  refine ⟨h.now0, h.now1, insDu_sorted h.sorted hne, ins_nodup h.ids hd, fun y hy => ?_, fun y hy => ?_, by rw [hp.length_eq]; simp; omega, fun k hk => ?_, ?_⟩
  · rcases hmem y hy with rfl | hy
    · exact ⟨h1, h2⟩
    · exact h.late y hy
  · rcases hmem y hy with rfl | hy
    · exact hw
    · exact h.wf y hy
  · have hpf := hp.filter (fun d => decide (d.at_ - now < 64 ∧ d.at_ % 64 = (k : Int)))
    refine List.Perm.trans ?_ hpf.symm
    have hn := h.near k hk
    by_cases hki : k = i
    · subst hki
      rw [upd_same]
      rcases hi with ⟨q1, q2, rfl⟩ | ⟨_, q2, _⟩
      · rw [List.filter_cons_of_pos (by have := h.now0; simp; omega)]
        exact (List.perm_append_singleton d (C k)).trans (hn.cons d)
      · omega
    · rw [upd_ne _ _ hki, List.filter_cons_of_neg (by have := h.now0; simp; intro g1 g2; rcases hi with ⟨q1, q2, _⟩ | ⟨q1, _⟩ <;> omega)]
      exact hn
  · by_cases hki : 64 = i
    · subst hki
      rw [upd_same]
      rcases hi with ⟨_, q2, _⟩ | ⟨q1, _, rfl⟩
      · have := h.now0; omega
      · rw [insDu_filter_yes (by simpa using q1) h.sorted hne, h.far]
    · rw [upd_ne _ _ hki, h.far]
      refine (insDu_filter_no ?_ L).symm
      simp; rcases hi with ⟨q1, _⟩ | ⟨_, q2, _⟩ <;> omega
end Go.Proofs.Ytodgcfkdnellpaa
