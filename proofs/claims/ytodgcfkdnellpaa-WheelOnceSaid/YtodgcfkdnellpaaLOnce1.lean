/- Wheel: the law WheelOnce, walked. -/
import Derived.Test.YtodgcfkdnellpaaR2
import Derived.WalkArith
set_option linter.unusedSimpArgs false
set_option linter.unusedVariables false
namespace Go.Proofs.Ytodgcfkdnellpaa
open Go.RowKit Go.Proofs.YtodgcfkdnellpaaW.PrintWords
theorem info2 : (Try.prog.info? 2).map (fun i => (i.zero, i.size, i.bytes)) = some (some (.int .i64 0), 1, 8) := by kernel_rfl
theorem ints_form {w : World} {k : IntKind} {A : Option Addr} {n : Nat} {xs : List Int} (h : ReadsInt w k A n xs) (h0 : 0 < n) : ∃ b off, A = some ⟨b, off, none⟩ ∧ b < w.heap.size ∧ ∀ j, j < n → w.cell? ⟨b, off + j, none⟩ = some (.int k (xs.getD j 0)) := by
  obtain ⟨⟨b, off, sp⟩, rfl, hc⟩ := h.2.2 h0
  have h1 := hc 0 h0
  obtain rfl : sp = none := by
    cases sp with
    | none => rfl
    | some s =>
      simp only [Addr.add, if_true, World.cell?] at h1
      split at h1 <;> simp at h1
  refine ⟨b, off, rfl, World.block_lt_of_cell? w _ h1, fun j hj => ?_⟩
  have := hc j hj
  have e : (⟨b, off, none⟩ : Addr).add j = ⟨b, off + j, none⟩ := by unfold Addr.add; split <;> simp_all
  rwa [e] at this
/-- what is due is what stands in the list of times -/
structure Mt (ts : List Int) (L : List Du) : Prop where
  iff : ∀ (i : Nat) (a : Int), (⟨(i : Int), a⟩ : Du) ∈ L ↔ (ts[i]? = some a ∧ a ≠ 0)
  nat : ∀ d ∈ L, 0 ≤ d.id
theorem Mt.nil : Mt [] [] := ⟨fun i a => by simp, fun d hd => by cases hd⟩
theorem Mt.lt {ts : List Int} {L : List Du} (h : Mt ts L) {d : Du} (hd : d ∈ L) : ∃ i : Nat, d.id = i ∧ i < ts.length ∧ ts[i]? = some d.at_ ∧ d.at_ ≠ 0 := by
  have h0 := h.nat d hd
  have e : (⟨((d.id.toNat : Nat) : Int), d.at_⟩ : Du) = d := by rw [Int.toNat_of_nonneg h0]
  have h1 := (h.iff d.id.toNat d.at_).1 (by rw [e]; exact hd)
  exact ⟨d.id.toNat, by omega, (List.getElem?_eq_some_iff.1 h1.1).1, h1.1, h1.2⟩
theorem Mt.perm {ts : List Int} {L L' : List Du} (h : Mt ts L) (hp : ∀ d, d ∈ L ↔ d ∈ L') : Mt ts L' := ⟨fun i a => by rw [← hp]; exact h.iff i a, fun d hd => h.nat d ((hp d).2 hd)⟩
theorem Mt.no {ts : List Int} {L : List Du} (h : Mt ts L) : L.any (fun d => d.id == (ts.length : Int)) = false := by
  rw [List.any_eq_false]
  intro d hd
  obtain ⟨i, h1, h2, _⟩ := h.lt hd
  simp; omega
theorem Mt.skip {ts : List Int} {L : List Du} (h : Mt ts L) : Mt (ts ++ [0]) L := ⟨fun i a => by
    rw [h.iff]
    rcases Nat.lt_trichotomy i ts.length with hi | hi | hi
    · rw [List.getElem?_append_left hi]
    · subst hi; simp; exact fun e => e.symm
    · rw [List.getElem?_eq_none (by omega), List.getElem?_eq_none (by simp; omega)], h.nat⟩
theorem Mt.add {ts : List Int} {L : List Du} (h : Mt ts L) {t : Int} (ht : t ≠ 0) : Mt (ts ++ [t]) (insDu ⟨(ts.length : Int), t⟩ (dropL L (ts.length : Int))) := by
  rw [drop_none h.no]
  refine ⟨fun i a => ?_, fun d hd => ?_⟩
  · rw [(insDu_perm _ _).mem_iff, List.mem_cons, h.iff]
    rcases Nat.lt_trichotomy i ts.length with hi | hi | hi
    · rw [List.getElem?_append_left hi]
      constructor
      · rintro (e | e)
        · injection e with e _; omega
        · exact e
      · exact .inr
    · subst hi
      simp
      constructor
      · rintro rfl; exact ⟨rfl, ht⟩
      · rintro ⟨rfl, _⟩; rfl
    · rw [List.getElem?_eq_none (l := ts) (by omega), List.getElem?_eq_none (by simp; omega)]
      simp
      intro e; omega
  · rw [(insDu_perm _ _).mem_iff, List.mem_cons] at hd
    rcases hd with rfl | hd
    · exact Int.natCast_nonneg _
    · exact h.nat d hd
/-- something has been told: its time is struck -/
theorem Mt.tell {ts : List Int} {M T : List Du} {d : Du} (h : Mt ts (M ++ d :: T)) (hn : ((M ++ d :: T).map (·.id)).Nodup) {j : Nat} (hj : d.id = j) : Mt (ts.set j 0) (M ++ T) := by
  have hd : d ∈ M ++ d :: T := List.mem_append_right _ (List.mem_cons_self ..)
  have hjl : j < ts.length := by obtain ⟨i, h1, h2, _⟩ := h.lt hd; omega
  have hsub : ∀ e ∈ M ++ T, e ∈ M ++ d :: T ∧ e.id ≠ d.id := fun e he => by
    have hs : (d :: (M ++ T)).Perm (M ++ d :: T) := List.perm_middle.symm
    have hn2 := (hs.map (fun x => x.id)).symm.nodup hn
    rw [List.map_cons, List.nodup_cons] at hn2
    refine ⟨hs.mem_iff.1 (List.mem_cons_of_mem _ he), fun e2 => hn2.1 (by rw [← e2]; exact List.mem_map_of_mem he)⟩
  refine ⟨fun i a => ?_, fun e he => h.nat e (hsub e he).1⟩
  constructor
  · intro he
    obtain ⟨h1, h2⟩ := hsub _ he
    rw [List.getElem?_set_ne (by intro e; apply h2; rw [hj, ← e])]
    exact (h.iff i a).1 h1
  · rintro ⟨h1, h2⟩
    by_cases e : j = i
    · subst e
      rw [List.getElem?_set_self hjl] at h1
      injection h1 with h1
      exact absurd h1.symm h2
    · rw [List.getElem?_set_ne e] at h1
      have h3 := (h.iff i a).2 ⟨h1, h2⟩
      have hs : (d :: (M ++ T)).Perm (M ++ d :: T) := List.perm_middle.symm
      rcases List.mem_cons.1 (hs.mem_iff.2 h3) with h4 | h4
      · exfalso
        rw [← h4] at hj
        have hj' : (i : Int) = j := hj
        omega
      · exact h4
structure OnceI (w wr : World) (g : Nat) (F : Nat → Prop) (now : Int) (L : List Du) (ts : List Int) (v : Value) : Prop where
  own : Own w wr F
  isw : IsW wr F g now L
  row : wr.ownsRow w.heap.size 2 1 v ts.length (nums .i64 ts)
  apart : ∀ k, F k → v.ownBlock ≠ some k
section
variable {w wr w2 : World} {g : Nat} {F F2 : Nat → Prop} {now n2 : Int} {L L2 : List Du} {ts ts2 : List Int} {v v2 : Value}
theorem OnceI.turn (h : OnceI w wr g F now L ts v) (hq : IsW w2 F2 g n2 L2) (t : TurnW wr w2 F F2) : OnceI w w2 g F2 n2 L2 ts v :=
  ⟨h.own.turn t, hq, t.fr.own h.row (fun k hk hF => h.apart k hF hk), fun k hF hk => by
    rcases t.new k hF with e | e
    · exact h.apart k e hk
    · have := own_lt h.row k hk; omega⟩
theorem OnceI.step (h : OnceI w wr g F now L ts v) (hb : Below wr.heap.size wr w2) : OnceI w w2 g F now L ts v :=
  ⟨h.own.step hb, h.isw.below hb, pw_own_below h.row hb, h.apart⟩
theorem OnceI.app (h : OnceI w wr g F now L ts v) (hr : w2.ownsRow w.heap.size 2 1 v2 ts2.length (nums .i64 ts2)) (hb : Below w.heap.size w w2) (hf : Fr (fun k => v.ownBlock = some k) wr w2) (hl : v2.ownBlock = v.ownBlock ∨ ∃ b, v2.ownBlock = some b ∧ wr.heap.size ≤ b) : OnceI w w2 g F now L ts2 v2 :=
  ⟨⟨hb, h.own.new⟩, h.isw.frame hf (fun k hF => h.apart k hF), hr, fun k hF hk => by
    rcases hl with e | ⟨b, e, hle⟩
    · exact h.apart k hF (by rw [← e]; exact hk)
    · rw [hk] at e; injection e with e; subst e; have := h.isw.lt k hF; omega⟩
end
def OnceA (w : World) (g N : Nat) (v7 v8 v9 : Value) (wr : World) : Prop := ∃ (F : Nat → Prop) (L : List Du) (ts : List Int), v8 = .int .i64 ts.length ∧ ts.length ≤ N ∧ Mt ts L ∧ OnceI w wr g F 0 L ts v7
def OnceB (w : World) (g K n : Nat) (v7 v10 : Value) (wr : World) : Prop := ∃ (i : Nat) (F : Nat → Prop) (now : Int) (L : List Du) (ts : List Int), v10 = .int .i64 i ∧ i ≤ K + 1 ∧ (i = K + 1 → L = []) ∧ ts.length = n ∧ Mt ts L ∧ OnceI w wr g F now L ts v7
theorem OnceI.store {w wr : World} {g : Nat} {F : Nat → Prop} {now : Int} {L : List Du} {ts : List Int} {ga n c : Nat} (h : OnceI w wr g F now L ts (.slice (some ⟨ga, 0, none⟩) n c)) (j : Nat) : OnceI w (wr.drew.setCell ⟨ga, j, none⟩ (.int .i64 0)) g F now L (ts.set j 0) (.slice (some ⟨ga, 0, none⟩) n c) ∧ Fr (fun k => k = ga) wr (wr.drew.setCell ⟨ga, j, none⟩ (.int .i64 0)) := by
  have hn : n = ts.length := by
    rcases h.row.2 with ⟨e, _⟩ | ⟨g', cap, cur, e, _⟩
    · cases e
    · injection e
  subst hn
  have h2 := h.step (w2 := wr.drew) (below_drew (Below.refl _ _))
  have hs := (own_store (W := wr.drew) h2.row (j : Int) 0).1
  rw [Int.toNat_natCast] at hs
  have hf : Fr (fun k => k = ga) wr (wr.drew.setCell ⟨ga, j, none⟩ (.int .i64 0)) := Fr.setCell (S := fun k => k = ga) (p := ⟨ga, j, none⟩) ((Fr.refl _ wr).drew) (.inl rfl) _
  have hga := own_base h.row ga rfl
  refine ⟨⟨⟨h.own.below.trans (hf.below (B := w.heap.size) (fun k hk e => by subst e; omega) h.own.below.size), h.own.new⟩, h.isw.frame hf (fun k hF e => h.apart k hF (by rw [e]; rfl)), by rw [List.length_set]; exact hs, h.apart⟩, hf⟩
def OnceC (w w4 : World) (g : Nat) (F : Nat → Prop) (now : Int) (M l : List Du) (A : Option Addr) (c n : Nat) (v7 v15 : Value) (wr : World) : Prop := ∃ (k : Nat) (ts : List Int), v15 = .int .i64 k ∧ k ≤ l.length ∧ ts.length = n ∧ Mt ts (M ++ l.drop k) ∧ OnceI w wr g F now M ts v7 ∧ ORow wr (.slice A l.length c) l ∧ (∀ b, v7.ownBlock = some b → b < w4.heap.size)
theorem once_facts {w : World} {F : Nat → Prop} {g : Nat} {now tk : Int} {L X M : List Du} {ts : List Int} (hm : Mt ts L) (h : IsW w F g now L) (hX : X = L.filter (upTo tk)) (hM : M = L.filter (fun d => !upTo tk d)) : Mt ts (M ++ X.drop 0) ∧ X.length ≤ 4096 ∧ (∀ d ∈ X, now < d.at_ ∧ d.at_ ≤ tk) ∧ ∀ k, ((M ++ X.drop k).map (·.id)).Nodup := by
  obtain ⟨C, hi⟩ := h.inv
  have hp : (M ++ X).Perm L := by
    rw [hX, hM]
    exact List.perm_append_comm.trans (List.filter_append_perm _ _)
  refine ⟨hm.perm (fun d => by rw [List.drop_zero]; exact hp.mem_iff.symm), by rw [hX]; exact Nat.le_trans (List.length_filter_le _ _) hi.few, fun d hd => ?_, fun k => ?_⟩
  · rw [hX] at hd
    obtain ⟨h1, h2⟩ := List.mem_filter.1 hd
    exact ⟨(hi.late d h1).1, by unfold upTo at h2; simpa using h2⟩
  · have h1 : ((M ++ X).map (·.id)).Nodup := (hp.map (fun x => x.id)).symm.nodup hi.ids
    exact h1.sublist (((List.Sublist.refl M).append (List.drop_sublist k X)).map _)
theorem now_bounds {w : World} {F : Nat → Prop} {g : Nat} {now : Int} {L : List Du} (h : IsW w F g now L) : 0 ≤ now ∧ now ≤ 1099511627776 := by
  obtain ⟨C, hi⟩ := h.inv
  exact ⟨hi.now0, hi.now1⟩
theorem late_none {w : World} {F : Nat → Prop} {g : Nat} {now : Int} {L : List Du} (h : IsW w F g now L) : L.filter (fun d => !upTo 1099511627776 d) = [] := by
  obtain ⟨C, hi⟩ := h.inv
  exact List.filter_eq_nil_iff.2 (fun d hd => by have := hi.late d hd; unfold upTo; simp; exact this.2)
theorem rd_zero {ts : List Int} {k : Nat} (h : Mt ts []) (hk : k < ts.length) : rd ts (k : Int) = 0 := by
  unfold rd
  rw [Int.toNat_natCast, List.getD_eq_getElem?_getD, List.getElem?_eq_getElem hk]
  apply Classical.byContradiction
  intro hne
  exact absurd ((h.iff k ts[k]).2 ⟨List.getElem?_eq_getElem hk, hne⟩) (by simp)
def OnceD (ts : List Int) (w5 : World) (v17 : Value) (wr : World) : Prop := ∃ i : Nat, v17 = .int .i64 i ∧ i ≤ ts.length ∧ wr = w5
set_option maxHeartbeats 40000000 in
set_option maxRecDepth 100000 in
theorem once_law_aa (A0 : Option Addr) (c0 : Nat) (times : List Int) (A1 : Option Addr) (c1 : Nat) (steps : List Int) (w : World) (hr0 : ReadsInt w .i64 A0 times.length times) (hm0 : times.length ≤ maxLen) (hr1 : ReadsInt w .i64 A1 steps.length steps) (hm1 : steps.length ≤ maxLen) (hA : times.length ≤ 100) (hB : steps.length ≤ 60) (hw1 : ∀ x ∈ steps, (Lit.int .i64 x).wf = true) : Calls Try.prog 3 #[.slice A0 times.length c0, .slice A1 steps.length c1] w fun e w' => e = .returned (.bool true) ∧ Below w.heap.size w w' := by
  unfold maxLen at hm0 hm1
  have HD := Aside0.mk (And.intro hr0 (And.intro hr1 hw1)); clear hr0 hr1 hw1
  obtain ⟨N, hN⟩ : ∃ N, N = min times.length 100 := ⟨_, rfl⟩
  have hN1 : N ≤ times.length := by omega
  have hN2 : N ≤ 100 := by omega
  have hN3 : N = times.length ∨ N = 100 := by omega
  obtain ⟨K, hK⟩ : ∃ K, K = min steps.length 60 := ⟨_, rfl⟩
  have hK1 : K ≤ steps.length := by omega
  have hK2 : K ≤ 60 := by omega
  have hK3 : K = steps.length ∨ K = 60 := by omega
  clear hK hN
  have HK := Aside0.mk (And.intro hN3 hK3); clear hN3 hK3
  go_enter Try.func3, Try.ntmps3
  go_wp2_with fail
  refine (new_ok 0 w (by decide) (by decide)).mono ?_
  rintro e w1 ⟨g, F1, rfl, hq1, hF1, hb1⟩
  have HQ1 : Aside0 (OnceI w w1 g F1 0 [] [] (.slice none 0 0)) := Aside0.mk ⟨⟨hb1, hF1⟩, hq1, own_nil _ _ _ _, fun k _ h => by cases h⟩
  clear hq1 hF1 hb1
  go_wp2_with fail
  go_loopw [7, 8, 9] (fun v7 v8 v9 wr => OnceA w g N v7 v8 v9 wr) (fun _ v8 _ _ => 100 - (intOf v8).toNat)
  case atStart => exact ⟨F1, [], [], rfl, Nat.zero_le _, Mt.nil, HQ1.out⟩
  case round =>
    obtain ⟨F, L, ts, rfl, hi, hM, hI⟩ := hrel
    have HI := Aside0.mk (And.intro hM hI); clear hM hI
    obtain ⟨A7, c7, hv7⟩ := own_slice HI.out.2.row
    subst hv7
    obtain ⟨i, hti⟩ : ∃ i, i = ts.length := ⟨_, rfl⟩
    rw [← hti] at hi ⊢
    have HT := Aside0.mk hti; clear hti
    by_cases hlt : i < N
    · have hz1 : (i : Int) < (times.length : Int) := by omega
      have hz2 : (i : Int) < 100 := by omega
      obtain ⟨bd, od, rfl, _, hcell⟩ := ints_form HD.out.1 (by omega)
      have hk := (HI.out.2.own.below.cell (World.block_lt_of_cell? w _ (hcell i (by omega)))).trans (hcell i (by omega))
      generalize times.getD i 0 = t at *
      clear hcell
      have HS := Aside0.mk (set_any wr F g 0 L (i : Int) t (WalkArith.wf_i64 (by omega)) HI.out.2.isw)
      go_wp2_with fail
      refine HS.out.mono ?_
      rintro e w3 ⟨rfl, F3, hq3, ht3⟩
      have h3 := HI.out.2.turn hq3 ht3
      by_cases hr : setRes 0 L (i : Int) t = 0
      · have hL3 : setL 0 L (i : Int) t = insDu ⟨(i : Int), t⟩ (dropL L (i : Int)) := by unfold setL; rw [if_pos hr]
        have ht0 : t ≠ 0 := fun e => by unfold setRes at hr; rw [e, if_pos (by omega)] at hr; cases hr
        have hM3 : Mt (ts ++ [t]) (setL 0 L (i : Int) t) := by rw [hL3, HT.out]; exact HI.out.1.add ht0
        generalize setL 0 L (i : Int) t = L3 at *
        have H3 := Aside0.mk (And.intro h3 hM3)
        rw [hr]
        clear hk h3 hL3 ht0 hM3 hr hq3 ht3
        go_wp2_with (first | (at_builtin; go_loud (refine print_append_num (w0 := w) w.heap.size rfl (.tmp 47) (.tmp 49) 22 2 .i64 8 rfl Try.underlying22 info2 (by decide) (.slice A7 i c7) ts t rfl rfl (by rw [HT.out]; exact H3.out.1.row) H3.out.1.own.below H3.out.1.own.below.size (by rw [← HT.out]; omega) ?_); intro v4 w4 hr4 hb4 hg4 hl4; go_loud (have H4 := Aside0.mk (H3.out.1.app hr4 hb4 (Fr.of_grown (by rw [← HT.out]; exact hg4)) (by rw [← HT.out]; exact hl4))); clear hr4 hb4 hg4 hl4) | fail)
        go_roundw
        case measure => simp [intOf] <;> omega
        case rel => exact ⟨F3, L3, ts ++ [t], by rw [List.length_append, ← HT.out]; go_num, by rw [List.length_append, ← HT.out]; exact hlt, H3.out.2, H4.out⟩
      · have hL3 : setL 0 L (i : Int) t = L := by unfold setL; rw [if_neg hr]
        rw [hL3] at h3
        obtain ⟨L3, hLL⟩ : ∃ L3, L3 = L := ⟨_, rfl⟩
        rw [← hLL] at h3
        have H3 := Aside0.mk (And.intro h3 (show Mt (ts ++ [0]) L3 by rw [hLL]; exact HI.out.1.skip))
        clear hk h3 hL3 hq3 ht3 hLL
        go_wp2_with (first | (at_builtin; go_loud (refine print_append_num (w0 := w) w.heap.size rfl (.tmp 47) (.tmp 49) 22 2 .i64 8 rfl Try.underlying22 info2 (by decide) (.slice A7 i c7) ts 0 rfl rfl (by rw [HT.out]; exact H3.out.1.row) H3.out.1.own.below H3.out.1.own.below.size (by rw [← HT.out]; omega) ?_); intro v4 w4 hr4 hb4 hg4 hl4; go_loud (have H4 := Aside0.mk (H3.out.1.app hr4 hb4 (Fr.of_grown (by rw [← HT.out]; exact hg4)) (by rw [← HT.out]; exact hl4))); clear hr4 hb4 hg4 hl4) | fail)
        go_roundw
        case measure => simp [intOf] <;> omega
        case rel => exact ⟨F3, L3, ts ++ [0], by rw [List.length_append, ← HT.out]; go_num, by rw [List.length_append, ← HT.out]; exact hlt, H3.out.2, H4.out⟩
    · obtain rfl : i = N := by omega
      have hs1 : ¬ (i : Int) < times.length := by have := HK.out.1; omega
      go_wp2_with fail
      go_loopw [10, 11, 12, 13, 14, 15, 16] (fun v10 _ _ _ _ _ _ wr => OnceB w g K i (.slice A7 i c7) v10 wr) (fun v10 _ _ _ _ _ _ _ => K + 1 - (intOf v10).toNat)
      case atStart => exact ⟨0, F, 0, L, ts, rfl, Nat.zero_le _, (fun h => by omega), by rw [← HT.out], HI.out.1, by have h := HI.out.2; rw [← HT.out] at h; exact h⟩
      case round =>
        obtain ⟨s, F2, now, L2, t2, rfl, hs, hend, hlen, hM2, hI2⟩ := hrel
        have HI2 := Aside0.mk (And.intro hM2 hI2)
        have HLEN := Aside0.mk hlen
        clear hM2 hI2 hlen
        have hnow := now_bounds HI2.out.2.isw
        by_cases hlt2 : s ≤ K
        · clear hend
          have hz3 : (s : Int) ≤ (steps.length : Int) := by omega
          have hz4 : (s : Int) ≤ 60 := by omega
          by_cases hsk : s < K
          · have hz5 : (s : Int) < (steps.length : Int) := by omega
            have hz6 : (s : Int) < 60 := by omega
            obtain ⟨bs, os, rfl, _, hcell⟩ := ints_form HD.out.2.1 (by omega)
            have hk9 := (HI2.out.2.own.below.cell (World.block_lt_of_cell? w _ (hcell s (by omega)))).trans (hcell s (by omega))
            generalize steps.getD s 0 = tt at *
            clear hcell
            rcases (show tt < now ∨ (now ≤ tt ∧ 1099511627776 < tt) ∨ (now ≤ tt ∧ tt ≤ 1099511627776) by omega) with h1 | ⟨h1, h2⟩ | ⟨h1, h2⟩
            · go_wp2_with fail
              refine (now_any wr F2 g now L2 HI2.out.2.isw).mono ?_
              rintro e w' ⟨rfl, rfl⟩
              go_wp2_with fail
              refine (adv_old wr F2 g now L2 tt HI2.out.2.isw h1).mono ?_
              rintro e w' ⟨rfl, rfl⟩
              go_wp2_with fail
              refine (now_any wr F2 g now L2 HI2.out.2.isw).mono ?_
              rintro e w' ⟨rfl, rfl⟩
              go_wp2_with fail
              go_loopw [15] (fun v15 w' => v15 = .int .i64 0 ∧ w' = wr) (fun _ _ => 0)
              case atStart => exact ⟨rfl, rfl⟩
              case round =>
                obtain ⟨rfl, rfl⟩ := hrel
                go_wp2_with fail
                go_roundw
                case measure => simp [intOf] <;> omega
                case rel => exact ⟨s + 1, F2, now, L2, t2, by go_num, by omega, (fun h => by omega), HLEN.out, HI2.out.1, HI2.out.2⟩
            · go_wp2_with fail
              refine (now_any wr F2 g now L2 HI2.out.2.isw).mono ?_
              rintro e w' ⟨rfl, rfl⟩
              go_wp2_with fail
              refine (adv_arg wr F2 g now L2 tt HI2.out.2.isw h1 h2).mono ?_
              rintro e w' ⟨rfl, rfl⟩
              go_wp2_with fail
              refine (now_any wr F2 g now L2 HI2.out.2.isw).mono ?_
              rintro e w' ⟨rfl, rfl⟩
              go_wp2_with fail
              go_loopw [15] (fun v15 w' => v15 = .int .i64 0 ∧ w' = wr) (fun _ _ => 0)
              case atStart => exact ⟨rfl, rfl⟩
              case round =>
                obtain ⟨rfl, rfl⟩ := hrel
                go_wp2_with fail
                go_roundw
                case measure => simp [intOf] <;> omega
                case rel => exact ⟨s + 1, F2, now, L2, t2, by go_num, by omega, (fun h => by omega), HLEN.out, HI2.out.1, HI2.out.2⟩
            · have H12 := Aside0.mk (And.intro h1 h2); clear h1 h2
              obtain ⟨X, hX⟩ : ∃ X, X = L2.filter (upTo (tt)) := ⟨_, rfl⟩
              obtain ⟨M, hM⟩ : ∃ M, M = L2.filter (fun d => !upTo (tt) d) := ⟨_, rfl⟩
              have HE := Aside0.mk (once_facts HI2.out.1 HI2.out.2.isw hX hM)
              have HC := Aside0.mk (adv_to (g := g) HI2.out.2.isw H12.out.1 H12.out.2 hX hM)
              have HEND := Aside0.mk (trivial : True)
              clear hX hM
              go_wp2_with fail
              refine (now_any wr F2 g now L2 HI2.out.2.isw).mono ?_
              rintro e w' ⟨rfl, rfl⟩
              go_wp2_with fail
              refine HC.out.mono ?_
              rintro e w4 ⟨A4, c4, F4, rfl, ho4, hn4, hq4, ht4⟩
              have h4 := HI2.out.2.turn hq4 ht4
              have H4 := Aside0.mk (And.intro h4 (And.intro ho4 (fun b hb => by have := own_lt HI2.out.2.row b hb; have := ht4.fr.size; omega : ∀ b, (Value.slice A7 i c7).ownBlock = some b → b < w4.heap.size)))
              have HN4 := Aside0.mk (fun b hb => by have := own_lt HI2.out.2.row b hb; have := (hn4 b · |>.1); intro h; have := this h; omega : ∀ b, (Value.slice A7 i c7).ownBlock = some b → ¬ (Value.slice A4 X.length c4).ownBlock = some b)
              clear h4 ho4 hn4 hq4 ht4
              go_wp2_with fail
              go_loopw [15, 16] (fun v15 _ wr => OnceC w w4 g F4 (tt) M X A4 c4 i (.slice A7 i c7) v15 wr) (fun v15 _ _ => X.length - (intOf v15).toNat)
              case atStart => exact ⟨0, t2, rfl, Nat.zero_le _, HLEN.out, HE.out.1, H4.out.1, H4.out.2.1, H4.out.2.2⟩
              case round =>
                obtain ⟨k, t3, rfl, hk, hl3, hM3, hI3, ho3, hb3⟩ := hrel
                have HX3 := Aside0.mk (And.intro hM3 (And.intro hI3 (And.intro ho3 (And.intro hb3 hl3)))); clear hM3 hI3 ho3 hb3 hl3
                by_cases hk2 : k < X.length
                · have hz7 : (k : Int) < (X.length : Int) := by omega
                  have hz8 : (k : Int) < 5000 := by have := HE.out.2.1; omega
                  obtain ⟨bl, ol, c', he⟩ := orow_some HX3.out.2.2.1 (by omega)
                  injection he with he e2 e3
                  subst he
                  subst e3
                  clear e2
                  obtain ⟨cy0, cy1⟩ := HX3.out.2.2.1.cellsAt k hk2
                  have hdr := List.drop_eq_getElem_cons hk2
                  have hdX : X[k] ∈ X := List.getElem_mem hk2
                  obtain ⟨d, hdd⟩ : ∃ d, d = X[k] := ⟨_, rfl⟩
                  rw [← hdd] at cy0 cy1 hdr hdX
                  have hM3 := HX3.out.1
                  rw [hdr] at hM3
                  obtain ⟨j, hj, hjl, hja, hj0⟩ := hM3.lt (List.mem_append_right _ (List.mem_cons_self ..))
                  obtain ⟨a, ha⟩ : ∃ a, a = d.at_ := ⟨_, rfl⟩
                  rw [hj] at cy0
                  rw [← ha] at cy1 hja hj0
                  have hla := HE.out.2.2.1 d hdX
                  rw [← ha] at hla
                  obtain ⟨hla1, hla2⟩ := hla
                  have hI3 := HX3.out.2.1
                  obtain ⟨ga, cap, he, _, _⟩ := hI3.row.form (by omega)
                  injection he with he e2 e3
                  subst he
                  clear e2 e3
                  have hrow := hI3.row
                  have hjl2 : j < i := by have := HX3.out.2.2.2.2; omega
                  rw [HX3.out.2.2.2.2] at hrow
                  have hcell := own_at hrow (j : Int) (by omega) (by omega)
                  rw [show rd t3 (j : Int) = a from by unfold rd; rw [Int.toNat_natCast, List.getD_eq_getElem?_getD, hja]; rfl, Int.toNat_natCast] at hcell
                  obtain ⟨hca, hfa⟩ := hcell
                  have hji : (j : Int) < (i : Int) := by have := HX3.out.2.2.2.2; omega
                  have hk : wr.drew.cell? ⟨ga, j, none⟩ = some (.int .i64 a) ∧ wr.drew.cell? ⟨bl, ol + k * 2 + 1, none⟩ = some (.int .i64 a) := ⟨hca, cy1⟩
                  have hb1 : decide (i ≤ j) = false := by simp; omega
                  have hb2 : (a == 0) = false := by simpa using hj0
                  have hb3 : decide (a ≤ now) = false := by simp; omega
                  have hb4 : decide (tt < a) = false := by simp; omega
                  have hn3 : ((M ++ d :: X.drop (k + 1)).map (·.id)).Nodup := by rw [← hdr]; exact HE.out.2.2.2 k
                  have hT := hM3.tell hn3 hj
                  have hst := hI3.store j
                  have hor := HX3.out.2.2.1.frame hst.2 (fun b hb e => HN4.out b (by rw [e]; rfl) hb)
                  have HR := Aside0.mk (And.intro hT (And.intro hst.1 (And.intro hor hk2)))
                  clear hrow hjl2 hdr hdX hdd hM3 hj hjl hja ha hI3 hn3 hT hst hor
                  go_wp2_with fail
                  refine Plan2.region 1000 (fun w' => w'.cell? ⟨ga, j, none⟩ = some (.int .i64 a) ∧ w'.cell? ⟨bl, ol + k * 2 + 1, none⟩ = some (.int .i64 a)) [(0, 0), (1, 0), (2, 0), (3, 0), (4, 0), (5, 0), (6, 0), (7, 0), (8, 0), (9, 0), (10, 0), (11, 0), (12, 1), (13, 0), (14, 0), (15, 0), (16, 0), (17, 0), (18, 0), (19, 1), (20, 0), (21, 0), (22, 0), (23, 0), (24, 1), (25, 0), (26, 0), (27, 0), (28, 0), (29, 0), (30, 0), (31, 1), (32, 0), (33, 0), (34, 0), (35, 0), (36, 0), (37, 0), (38, 0), (39, 1), (40, 0), (41, 0), (42, 0)] (by kernel_rfl) (by kernel_rfl) (fun _ _ d _ _ h => by cases d <;> exact h) ?_ ?_
                  focus exact hk
                  (refine' Plan2.pure (N := (some 105)) rfl (by rfl) rfl ?_ ?_ ?_; rotate_left 2; (focus (intro w'; go_simp; exact Plan2.isV)); (focus (simp only [Act.put, List.setIfInBounds_toArray, List.set_cons_zero, List.set_cons_succ]; rfl)))
                  (refine' Plan2.pure (N := (some 106)) rfl (by rfl) rfl ?_ ?_ ?_; rotate_left 2; (focus (intro w'; go_simp; exact Plan2.isV)); (focus (simp only [Act.put, List.setIfInBounds_toArray, List.set_cons_zero, List.set_cons_succ]; rfl)))
                  (refine' Plan2.pure (N := (some 107)) rfl (by rfl) rfl ?_ ?_ ?_; rotate_left 2; (focus (intro w'; go_simp; exact Plan2.isV)); (focus (simp only [Act.put, List.setIfInBounds_toArray, List.set_cons_zero, List.set_cons_succ]; rfl)))
                  (first | (refine' Plan2.off (N := (some 108)) rfl (by rfl) rfl ?_ ?_; rotate_left 1; (focus (simp only [Act.put, List.setIfInBounds_toArray, List.set_cons_zero, List.set_cons_succ]; rfl))) | (refine' Plan2.pure (N := (some 108)) rfl (by rfl) rfl ?_ ?_ ?_; rotate_left 2; (focus (intro w'; go_simp; exact Plan2.isV)); (focus (simp only [Act.put, List.setIfInBounds_toArray, List.set_cons_zero, List.set_cons_succ]; rfl))))
                  (first | (refine' Plan2.off (N := (some 109)) rfl (by rfl) rfl ?_ ?_; rotate_left 1; (focus (simp only [Act.put, List.setIfInBounds_toArray, List.set_cons_zero, List.set_cons_succ]; rfl))) | (refine' Plan2.pure (N := (some 109)) rfl (by rfl) rfl ?_ ?_ ?_; rotate_left 2; (focus (intro w'; go_simp; exact Plan2.isV)); (focus (simp only [Act.put, List.setIfInBounds_toArray, List.set_cons_zero, List.set_cons_succ]; rfl))))
                  (first | (refine' Plan2.off (N := (some 110)) rfl (by rfl) rfl ?_ ?_; rotate_left 1; (focus (simp only [Act.put, List.setIfInBounds_toArray, List.set_cons_zero, List.set_cons_succ]; rfl))) | (refine' Plan2.pure (N := (some 110)) rfl (by rfl) rfl ?_ ?_ ?_; rotate_left 2; (focus (intro w'; go_simp; exact Plan2.isV)); (focus (simp only [Act.put, List.setIfInBounds_toArray, List.set_cons_zero, List.set_cons_succ]; rfl))))
                  (first | (refine' Plan2.off (N := (some 111)) rfl (by rfl) rfl ?_ ?_; rotate_left 1; (focus (simp only [Act.put, List.setIfInBounds_toArray, List.set_cons_zero, List.set_cons_succ]; rfl))) | (refine' Plan2.pure (N := (some 111)) rfl (by rfl) rfl ?_ ?_ ?_; rotate_left 2; (focus (intro w'; go_simp; exact Plan2.isV)); (focus (simp only [Act.put, List.setIfInBounds_toArray, List.set_cons_zero, List.set_cons_succ]; rfl))))
                  (refine' Plan2.pure (N := (some 112)) rfl (by rfl) rfl ?_ ?_ ?_; rotate_left 2; (focus (intro w'; go_simp; exact Plan2.isV)); (focus (simp only [Act.put, List.setIfInBounds_toArray, List.set_cons_zero, List.set_cons_succ]; rfl)))
                  (refine' Plan2.pure (N := (some 113)) rfl (by rfl) rfl ?_ ?_ ?_; rotate_left 2; (focus (intro w'; go_simp; exact Plan2.isV)); (focus (simp only [Act.put, List.setIfInBounds_toArray, List.set_cons_zero, List.set_cons_succ]; rfl)))
                  (first | (refine' Plan2.off (N := (some 114)) rfl (by rfl) rfl ?_ ?_; rotate_left 1; (focus (simp only [Act.put, List.setIfInBounds_toArray, List.set_cons_zero, List.set_cons_succ]; rfl))) | (refine' Plan2.pure (N := (some 114)) rfl (by rfl) rfl ?_ ?_ ?_; rotate_left 2; (focus (intro w'; go_simp; exact Plan2.isV)); (focus (simp only [Act.put, List.setIfInBounds_toArray, List.set_cons_zero, List.set_cons_succ]; rfl))))
                  (first | (refine' Plan2.off (N := (some 115)) rfl (by rfl) rfl ?_ ?_; rotate_left 1; (focus (simp only [Act.put, List.setIfInBounds_toArray, List.set_cons_zero, List.set_cons_succ]; rfl))) | (refine' Plan2.pure (N := (some 115)) rfl (by rfl) rfl ?_ ?_ ?_; rotate_left 2; (focus (intro w'; go_simp; exact Plan2.isV)); (focus (simp only [Act.put, List.setIfInBounds_toArray, List.set_cons_zero, List.set_cons_succ]; rfl))))
                  (first | (refine' Plan2.off (N := (some 116)) rfl (by rfl) rfl ?_ ?_; rotate_left 1; (focus (simp only [Act.put, List.setIfInBounds_toArray, List.set_cons_zero, List.set_cons_succ]; rfl))) | (refine' Plan2.pure (N := (some 116)) rfl (by rfl) rfl ?_ ?_ ?_; rotate_left 2; (focus (intro w'; go_simp; exact Plan2.isV)); (focus (simp only [Act.put, List.setIfInBounds_toArray, List.set_cons_zero, List.set_cons_succ]; rfl))))
                  (first | (refine' Plan2.off (N := (some 117)) rfl (by rfl) rfl ?_ ?_; rotate_left 1; (focus (simp only [Act.put, List.setIfInBounds_toArray, List.set_cons_zero, List.set_cons_succ]; rfl))) | (refine' Plan2.load (N := (some 117)) rfl (by rfl) rfl ?_ ?_ ?_; rotate_left 2; (focus (intro w' hS; (try dsimp only at hS); go_simp; exact Plan2.isV)); (focus (simp only [Act.put, List.setIfInBounds_toArray, List.set_cons_zero, List.set_cons_succ]; rfl))))
                  (first | (refine' Plan2.off (N := (some 118)) rfl (by rfl) rfl ?_ ?_; rotate_left 1; (focus (simp only [Act.put, List.setIfInBounds_toArray, List.set_cons_zero, List.set_cons_succ]; rfl))) | (refine' Plan2.pure (N := (some 118)) rfl (by rfl) rfl ?_ ?_ ?_; rotate_left 2; (focus (intro w'; go_simp; exact Plan2.isV)); (focus (simp only [Act.put, List.setIfInBounds_toArray, List.set_cons_zero, List.set_cons_succ]; rfl))))
                  (refine' Plan2.pure (N := (some 119)) rfl (by rfl) rfl ?_ ?_ ?_; rotate_left 2; (focus (intro w'; go_simp; exact Plan2.isV)); (focus (simp only [Act.put, List.setIfInBounds_toArray, List.set_cons_zero, List.set_cons_succ]; rfl)))
                  (refine' Plan2.pure (N := (some 120)) rfl (by rfl) rfl ?_ ?_ ?_; rotate_left 2; (focus (intro w'; go_simp; exact Plan2.isV)); (focus (simp only [Act.put, List.setIfInBounds_toArray, List.set_cons_zero, List.set_cons_succ]; rfl)))
                  (first | (refine' Plan2.off (N := (some 121)) rfl (by rfl) rfl ?_ ?_; rotate_left 1; (focus (simp only [Act.put, List.setIfInBounds_toArray, List.set_cons_zero, List.set_cons_succ]; rfl))) | (refine' Plan2.pure (N := (some 121)) rfl (by rfl) rfl ?_ ?_ ?_; rotate_left 2; (focus (intro w'; go_simp; exact Plan2.isV)); (focus (simp only [Act.put, List.setIfInBounds_toArray, List.set_cons_zero, List.set_cons_succ]; rfl))))
                  (first | (refine' Plan2.off (N := (some 122)) rfl (by rfl) rfl ?_ ?_; rotate_left 1; (focus (simp only [Act.put, List.setIfInBounds_toArray, List.set_cons_zero, List.set_cons_succ]; rfl))) | (refine' Plan2.pure (N := (some 122)) rfl (by rfl) rfl ?_ ?_ ?_; rotate_left 2; (focus (intro w'; go_simp; exact Plan2.isV)); (focus (simp only [Act.put, List.setIfInBounds_toArray, List.set_cons_zero, List.set_cons_succ]; rfl))))
                  (first | (refine' Plan2.off (N := (some 123)) rfl (by rfl) rfl ?_ ?_; rotate_left 1; (focus (simp only [Act.put, List.setIfInBounds_toArray, List.set_cons_zero, List.set_cons_succ]; rfl))) | (refine' Plan2.pure (N := (some 123)) rfl (by rfl) rfl ?_ ?_ ?_; rotate_left 2; (focus (intro w'; go_simp; exact Plan2.isV)); (focus (simp only [Act.put, List.setIfInBounds_toArray, List.set_cons_zero, List.set_cons_succ]; rfl))))
                  (first | (refine' Plan2.off (N := (some 124)) rfl (by rfl) rfl ?_ ?_; rotate_left 1; (focus (simp only [Act.put, List.setIfInBounds_toArray, List.set_cons_zero, List.set_cons_succ]; rfl))) | (refine' Plan2.load (N := (some 124)) rfl (by rfl) rfl ?_ ?_ ?_; rotate_left 2; (focus (intro w' hS; (try dsimp only at hS); go_simp; exact Plan2.isV)); (focus (simp only [Act.put, List.setIfInBounds_toArray, List.set_cons_zero, List.set_cons_succ]; rfl))))
                  (first | (refine' Plan2.off (N := (some 125)) rfl (by rfl) rfl ?_ ?_; rotate_left 1; (focus (simp only [Act.put, List.setIfInBounds_toArray, List.set_cons_zero, List.set_cons_succ]; rfl))) | (refine' Plan2.pure (N := (some 125)) rfl (by rfl) rfl ?_ ?_ ?_; rotate_left 2; (focus (intro w'; go_simp; exact Plan2.isV)); (focus (simp only [Act.put, List.setIfInBounds_toArray, List.set_cons_zero, List.set_cons_succ]; rfl))))
                  (first | (refine' Plan2.off (N := (some 126)) rfl (by rfl) rfl ?_ ?_; rotate_left 1; (focus (simp only [Act.put, List.setIfInBounds_toArray, List.set_cons_zero, List.set_cons_succ]; rfl))) | (refine' Plan2.pure (N := (some 126)) rfl (by rfl) rfl ?_ ?_ ?_; rotate_left 2; (focus (intro w'; go_simp; exact Plan2.isV)); (focus (simp only [Act.put, List.setIfInBounds_toArray, List.set_cons_zero, List.set_cons_succ]; rfl))))
                  (first | (refine' Plan2.off (N := (some 127)) rfl (by rfl) rfl ?_ ?_; rotate_left 1; (focus (simp only [Act.put, List.setIfInBounds_toArray, List.set_cons_zero, List.set_cons_succ]; rfl))) | (refine' Plan2.pure (N := (some 127)) rfl (by rfl) rfl ?_ ?_ ?_; rotate_left 2; (focus (intro w'; go_simp; exact Plan2.isV)); (focus (simp only [Act.put, List.setIfInBounds_toArray, List.set_cons_zero, List.set_cons_succ]; rfl))))
                  (first | (refine' Plan2.off (N := (some 128)) rfl (by rfl) rfl ?_ ?_; rotate_left 1; (focus (simp only [Act.put, List.setIfInBounds_toArray, List.set_cons_zero, List.set_cons_succ]; rfl))) | (refine' Plan2.pure (N := (some 128)) rfl (by rfl) rfl ?_ ?_ ?_; rotate_left 2; (focus (intro w'; go_simp; exact Plan2.isV)); (focus (simp only [Act.put, List.setIfInBounds_toArray, List.set_cons_zero, List.set_cons_succ]; rfl))))
                  (first | (refine' Plan2.off (N := (some 129)) rfl (by rfl) rfl ?_ ?_; rotate_left 1; (focus (simp only [Act.put, List.setIfInBounds_toArray, List.set_cons_zero, List.set_cons_succ]; rfl))) | (refine' Plan2.load (N := (some 129)) rfl (by rfl) rfl ?_ ?_ ?_; rotate_left 2; (focus (intro w' hS; (try dsimp only at hS); go_simp; exact Plan2.isV)); (focus (simp only [Act.put, List.setIfInBounds_toArray, List.set_cons_zero, List.set_cons_succ]; rfl))))
                  (first | (refine' Plan2.off (N := (some 130)) rfl (by rfl) rfl ?_ ?_; rotate_left 1; (focus (simp only [Act.put, List.setIfInBounds_toArray, List.set_cons_zero, List.set_cons_succ]; rfl))) | (refine' Plan2.pure (N := (some 130)) rfl (by rfl) rfl ?_ ?_ ?_; rotate_left 2; (focus (intro w'; go_simp; exact Plan2.isV)); (focus (simp only [Act.put, List.setIfInBounds_toArray, List.set_cons_zero, List.set_cons_succ]; rfl))))
                  (refine' Plan2.pure (N := (some 131)) rfl (by rfl) rfl ?_ ?_ ?_; rotate_left 2; (focus (intro w'; go_simp; exact Plan2.isV)); (focus (simp only [Act.put, List.setIfInBounds_toArray, List.set_cons_zero, List.set_cons_succ]; rfl)))
                  (refine' Plan2.pure (N := (some 132)) rfl (by rfl) rfl ?_ ?_ ?_; rotate_left 2; (focus (intro w'; go_simp; exact Plan2.isV)); (focus (simp only [Act.put, List.setIfInBounds_toArray, List.set_cons_zero, List.set_cons_succ]; rfl)))
                  (first | (refine' Plan2.off (N := (some 133)) rfl (by rfl) rfl ?_ ?_; rotate_left 1; (focus (simp only [Act.put, List.setIfInBounds_toArray, List.set_cons_zero, List.set_cons_succ]; rfl))) | (refine' Plan2.pure (N := (some 133)) rfl (by rfl) rfl ?_ ?_ ?_; rotate_left 2; (focus (intro w'; go_simp; exact Plan2.isV)); (focus (simp only [Act.put, List.setIfInBounds_toArray, List.set_cons_zero, List.set_cons_succ]; rfl))))
                  (first | (refine' Plan2.off (N := (some 134)) rfl (by rfl) rfl ?_ ?_; rotate_left 1; (focus (simp only [Act.put, List.setIfInBounds_toArray, List.set_cons_zero, List.set_cons_succ]; rfl))) | (refine' Plan2.pure (N := (some 134)) rfl (by rfl) rfl ?_ ?_ ?_; rotate_left 2; (focus (intro w'; go_simp; exact Plan2.isV)); (focus (simp only [Act.put, List.setIfInBounds_toArray, List.set_cons_zero, List.set_cons_succ]; rfl))))
                  (first | (refine' Plan2.off (N := (some 135)) rfl (by rfl) rfl ?_ ?_; rotate_left 1; (focus (simp only [Act.put, List.setIfInBounds_toArray, List.set_cons_zero, List.set_cons_succ]; rfl))) | (refine' Plan2.pure (N := (some 135)) rfl (by rfl) rfl ?_ ?_ ?_; rotate_left 2; (focus (intro w'; go_simp; exact Plan2.isV)); (focus (simp only [Act.put, List.setIfInBounds_toArray, List.set_cons_zero, List.set_cons_succ]; rfl))))
                  (first | (refine' Plan2.off (N := (some 136)) rfl (by rfl) rfl ?_ ?_; rotate_left 1; (focus (simp only [Act.put, List.setIfInBounds_toArray, List.set_cons_zero, List.set_cons_succ]; rfl))) | (refine' Plan2.load (N := (some 136)) rfl (by rfl) rfl ?_ ?_ ?_; rotate_left 2; (focus (intro w' hS; (try dsimp only at hS); go_simp; exact Plan2.isV)); (focus (simp only [Act.put, List.setIfInBounds_toArray, List.set_cons_zero, List.set_cons_succ]; rfl))))
                  (first | (refine' Plan2.off (N := (some 137)) rfl (by rfl) rfl ?_ ?_; rotate_left 1; (focus (simp only [Act.put, List.setIfInBounds_toArray, List.set_cons_zero, List.set_cons_succ]; rfl))) | (refine' Plan2.pure (N := (some 137)) rfl (by rfl) rfl ?_ ?_ ?_; rotate_left 2; (focus (intro w'; go_simp; exact Plan2.isV)); (focus (simp only [Act.put, List.setIfInBounds_toArray, List.set_cons_zero, List.set_cons_succ]; rfl))))
                  (first | (refine' Plan2.off (N := (some 138)) rfl (by rfl) rfl ?_ ?_; rotate_left 1; (focus (simp only [Act.put, List.setIfInBounds_toArray, List.set_cons_zero, List.set_cons_succ]; rfl))) | (refine' Plan2.pure (N := (some 138)) rfl (by rfl) rfl ?_ ?_ ?_; rotate_left 2; (focus (intro w'; go_simp; exact Plan2.isV)); (focus (simp only [Act.put, List.setIfInBounds_toArray, List.set_cons_zero, List.set_cons_succ]; rfl))))
                  (refine' Plan2.pure (N := (some 139)) rfl (by rfl) rfl ?_ ?_ ?_; rotate_left 2; (focus (intro w'; go_simp; exact Plan2.isV)); (focus (simp only [Act.put, List.setIfInBounds_toArray, List.set_cons_zero, List.set_cons_succ]; rfl)))
                  (refine' Plan2.pure (N := (some 140)) rfl (by rfl) rfl ?_ ?_ ?_; rotate_left 2; (focus (intro w'; go_simp; exact Plan2.isV)); (focus (simp only [Act.put, List.setIfInBounds_toArray, List.set_cons_zero, List.set_cons_succ]; rfl)))
                  (first | (refine' Plan2.off (N := (some 141)) rfl (by rfl) rfl ?_ ?_; rotate_left 1; (focus (simp only [Act.put, List.setIfInBounds_toArray, List.set_cons_zero, List.set_cons_succ]; rfl))) | (refine' Plan2.pure (N := (some 141)) rfl (by rfl) rfl ?_ ?_ ?_; rotate_left 2; (focus (intro w'; go_simp; exact Plan2.isV)); (focus (simp only [Act.put, List.setIfInBounds_toArray, List.set_cons_zero, List.set_cons_succ]; rfl))))
                  (first | (refine' Plan2.off (N := (some 142)) rfl (by rfl) rfl ?_ ?_; rotate_left 1; (focus (simp only [Act.put, List.setIfInBounds_toArray, List.set_cons_zero, List.set_cons_succ]; rfl))) | (refine' Plan2.pure (N := (some 142)) rfl (by rfl) rfl ?_ ?_ ?_; rotate_left 2; (focus (intro w'; go_simp; exact Plan2.isV)); (focus (simp only [Act.put, List.setIfInBounds_toArray, List.set_cons_zero, List.set_cons_succ]; rfl))))
                  (first | (refine' Plan2.off (N := (some 143)) rfl (by rfl) rfl ?_ ?_; rotate_left 1; (focus (simp only [Act.put, List.setIfInBounds_toArray, List.set_cons_zero, List.set_cons_succ]; rfl))) | (refine' Plan2.pure (N := (some 143)) rfl (by rfl) rfl ?_ ?_ ?_; rotate_left 2; (focus (intro w'; go_simp; exact Plan2.isV)); (focus (simp only [Act.put, List.setIfInBounds_toArray, List.set_cons_zero, List.set_cons_succ]; rfl))))
                  (first | (refine' Plan2.off (N := (some 144)) rfl (by rfl) rfl ?_ ?_; rotate_left 1; (focus (simp only [Act.put, List.setIfInBounds_toArray, List.set_cons_zero, List.set_cons_succ]; rfl))) | (refine' Plan2.load (N := (some 144)) rfl (by rfl) rfl ?_ ?_ ?_; rotate_left 2; (focus (intro w' hS; (try dsimp only at hS); go_simp; exact Plan2.isV)); (focus (simp only [Act.put, List.setIfInBounds_toArray, List.set_cons_zero, List.set_cons_succ]; rfl))))
                  (first | (refine' Plan2.off (N := (some 145)) rfl (by rfl) rfl ?_ ?_; rotate_left 1; (focus (simp only [Act.put, List.setIfInBounds_toArray, List.set_cons_zero, List.set_cons_succ]; rfl))) | (refine' Plan2.pure (N := (some 145)) rfl (by rfl) rfl ?_ ?_ ?_; rotate_left 2; (focus (intro w'; go_simp; exact Plan2.isV)); (focus (simp only [Act.put, List.setIfInBounds_toArray, List.set_cons_zero, List.set_cons_succ]; rfl))))
                  (first | (refine' Plan2.off (N := (some 146)) rfl (by rfl) rfl ?_ ?_; rotate_left 1; (focus (simp only [Act.put, List.setIfInBounds_toArray, List.set_cons_zero, List.set_cons_succ]; rfl))) | (refine' Plan2.pure (N := (some 146)) rfl (by rfl) rfl ?_ ?_ ?_; rotate_left 2; (focus (intro w'; go_simp; exact Plan2.isV)); (focus (simp only [Act.put, List.setIfInBounds_toArray, List.set_cons_zero, List.set_cons_succ]; rfl))))
                  (refine' Plan2.pure (N := (some 147)) rfl (by rfl) rfl ?_ ?_ ?_; rotate_left 2; (focus (intro w'; go_simp; exact Plan2.isV)); (focus (simp only [Act.put, List.setIfInBounds_toArray, List.set_cons_zero, List.set_cons_succ]; rfl)))
                  refine Plan2.done ?_
                  go_wp2_with fail
                  go_roundw
                  case measure => have := HR.out.2.2.2; simp [intOf] <;> omega
                  case rel => exact ⟨k + 1, t3.set j 0, by go_num, HR.out.2.2.2, by rw [List.length_set]; exact HX3.out.2.2.2.2, HR.out.1, HR.out.2.1, HR.out.2.2.1, HX3.out.2.2.2.1⟩
                · obtain rfl : k = X.length := by omega
                  have hM3 := HX3.out.1
                  rw [List.drop_length, List.append_nil] at hM3
                  have HM3 := Aside0.mk hM3; clear hM3
                  go_wp2_with fail
                  go_roundw
                  case measure => simp [intOf] <;> omega
                  case rel => exact ⟨s + 1, F4, tt, M, t3, by go_num, by omega, (by first | exact fun _ => HEND.out | exact fun h => by omega), HX3.out.2.2.2.2, HM3.out, HX3.out.2.1⟩
          · obtain rfl : s = K := by omega
            have H12 := Aside0.mk (And.intro hnow.2 (Int.le_refl 1099511627776))
            have hs21 : ¬ (s : Int) < steps.length := by have := HK.out.2; omega
            obtain ⟨X, hX⟩ : ∃ X, X = L2.filter (upTo (1099511627776)) := ⟨_, rfl⟩
            obtain ⟨M, hM⟩ : ∃ M, M = L2.filter (fun d => !upTo (1099511627776) d) := ⟨_, rfl⟩
            have HE := Aside0.mk (once_facts HI2.out.1 HI2.out.2.isw hX hM)
            have HC := Aside0.mk (adv_to (g := g) HI2.out.2.isw H12.out.1 H12.out.2 hX hM)
            have HEND := Aside0.mk (by rw [hM]; exact late_none HI2.out.2.isw : M = [])
            clear hX hM
            go_wp2_with fail
            refine (now_any wr F2 g now L2 HI2.out.2.isw).mono ?_
            rintro e w' ⟨rfl, rfl⟩
            go_wp2_with fail
            refine HC.out.mono ?_
            rintro e w4 ⟨A4, c4, F4, rfl, ho4, hn4, hq4, ht4⟩
            have h4 := HI2.out.2.turn hq4 ht4
            have H4 := Aside0.mk (And.intro h4 (And.intro ho4 (fun b hb => by have := own_lt HI2.out.2.row b hb; have := ht4.fr.size; omega : ∀ b, (Value.slice A7 i c7).ownBlock = some b → b < w4.heap.size)))
            have HN4 := Aside0.mk (fun b hb => by have := own_lt HI2.out.2.row b hb; have := (hn4 b · |>.1); intro h; have := this h; omega : ∀ b, (Value.slice A7 i c7).ownBlock = some b → ¬ (Value.slice A4 X.length c4).ownBlock = some b)
            clear h4 ho4 hn4 hq4 ht4
            go_wp2_with fail
            go_loopw [15, 16] (fun v15 _ wr => OnceC w w4 g F4 (1099511627776) M X A4 c4 i (.slice A7 i c7) v15 wr) (fun v15 _ _ => X.length - (intOf v15).toNat)
            case atStart => exact ⟨0, t2, rfl, Nat.zero_le _, HLEN.out, HE.out.1, H4.out.1, H4.out.2.1, H4.out.2.2⟩
            case round =>
              obtain ⟨k, t3, rfl, hk, hl3, hM3, hI3, ho3, hb3⟩ := hrel
              have HX3 := Aside0.mk (And.intro hM3 (And.intro hI3 (And.intro ho3 (And.intro hb3 hl3)))); clear hM3 hI3 ho3 hb3 hl3
              by_cases hk2 : k < X.length
              · have hz7 : (k : Int) < (X.length : Int) := by omega
                have hz8 : (k : Int) < 5000 := by have := HE.out.2.1; omega
                obtain ⟨bl, ol, c', he⟩ := orow_some HX3.out.2.2.1 (by omega)
                injection he with he e2 e3
                subst he
                subst e3
                clear e2
                obtain ⟨cy0, cy1⟩ := HX3.out.2.2.1.cellsAt k hk2
                have hdr := List.drop_eq_getElem_cons hk2
                have hdX : X[k] ∈ X := List.getElem_mem hk2
                obtain ⟨d, hdd⟩ : ∃ d, d = X[k] := ⟨_, rfl⟩
                rw [← hdd] at cy0 cy1 hdr hdX
                have hM3 := HX3.out.1
                rw [hdr] at hM3
                obtain ⟨j, hj, hjl, hja, hj0⟩ := hM3.lt (List.mem_append_right _ (List.mem_cons_self ..))
                obtain ⟨a, ha⟩ : ∃ a, a = d.at_ := ⟨_, rfl⟩
                rw [hj] at cy0
                rw [← ha] at cy1 hja hj0
                have hla := HE.out.2.2.1 d hdX
                rw [← ha] at hla
                obtain ⟨hla1, hla2⟩ := hla
                have hI3 := HX3.out.2.1
                obtain ⟨ga, cap, he, _, _⟩ := hI3.row.form (by omega)
                injection he with he e2 e3
                subst he
                clear e2 e3
                have hrow := hI3.row
                have hjl2 : j < i := by have := HX3.out.2.2.2.2; omega
                rw [HX3.out.2.2.2.2] at hrow
                have hcell := own_at hrow (j : Int) (by omega) (by omega)
                rw [show rd t3 (j : Int) = a from by unfold rd; rw [Int.toNat_natCast, List.getD_eq_getElem?_getD, hja]; rfl, Int.toNat_natCast] at hcell
                obtain ⟨hca, hfa⟩ := hcell
                have hji : (j : Int) < (i : Int) := by have := HX3.out.2.2.2.2; omega
                have hk : wr.drew.cell? ⟨ga, j, none⟩ = some (.int .i64 a) ∧ wr.drew.cell? ⟨bl, ol + k * 2 + 1, none⟩ = some (.int .i64 a) := ⟨hca, cy1⟩
                have hb1 : decide (i ≤ j) = false := by simp; omega
                have hb2 : (a == 0) = false := by simpa using hj0
                have hb3 : decide (a ≤ now) = false := by simp; omega
                have hb4 : decide (1099511627776 < a) = false := by simp; omega
                have hn3 : ((M ++ d :: X.drop (k + 1)).map (·.id)).Nodup := by rw [← hdr]; exact HE.out.2.2.2 k
                have hT := hM3.tell hn3 hj
                have hst := hI3.store j
                have hor := HX3.out.2.2.1.frame hst.2 (fun b hb e => HN4.out b (by rw [e]; rfl) hb)
                have HR := Aside0.mk (And.intro hT (And.intro hst.1 (And.intro hor hk2)))
                clear hrow hjl2 hdr hdX hdd hM3 hj hjl hja ha hI3 hn3 hT hst hor
                go_wp2_with fail
                refine Plan2.region 1000 (fun w' => w'.cell? ⟨ga, j, none⟩ = some (.int .i64 a) ∧ w'.cell? ⟨bl, ol + k * 2 + 1, none⟩ = some (.int .i64 a)) [(0, 0), (1, 0), (2, 0), (3, 0), (4, 0), (5, 0), (6, 0), (7, 0), (8, 0), (9, 0), (10, 0), (11, 0), (12, 1), (13, 0), (14, 0), (15, 0), (16, 0), (17, 0), (18, 0), (19, 1), (20, 0), (21, 0), (22, 0), (23, 0), (24, 1), (25, 0), (26, 0), (27, 0), (28, 0), (29, 0), (30, 0), (31, 1), (32, 0), (33, 0), (34, 0), (35, 0), (36, 0), (37, 0), (38, 0), (39, 1), (40, 0), (41, 0), (42, 0)] (by kernel_rfl) (by kernel_rfl) (fun _ _ d _ _ h => by cases d <;> exact h) ?_ ?_
                focus exact hk
                (refine' Plan2.pure (N := (some 105)) rfl (by rfl) rfl ?_ ?_ ?_; rotate_left 2; (focus (intro w'; go_simp; exact Plan2.isV)); (focus (simp only [Act.put, List.setIfInBounds_toArray, List.set_cons_zero, List.set_cons_succ]; rfl)))
                (refine' Plan2.pure (N := (some 106)) rfl (by rfl) rfl ?_ ?_ ?_; rotate_left 2; (focus (intro w'; go_simp; exact Plan2.isV)); (focus (simp only [Act.put, List.setIfInBounds_toArray, List.set_cons_zero, List.set_cons_succ]; rfl)))
                (refine' Plan2.pure (N := (some 107)) rfl (by rfl) rfl ?_ ?_ ?_; rotate_left 2; (focus (intro w'; go_simp; exact Plan2.isV)); (focus (simp only [Act.put, List.setIfInBounds_toArray, List.set_cons_zero, List.set_cons_succ]; rfl)))
                (first | (refine' Plan2.off (N := (some 108)) rfl (by rfl) rfl ?_ ?_; rotate_left 1; (focus (simp only [Act.put, List.setIfInBounds_toArray, List.set_cons_zero, List.set_cons_succ]; rfl))) | (refine' Plan2.pure (N := (some 108)) rfl (by rfl) rfl ?_ ?_ ?_; rotate_left 2; (focus (intro w'; go_simp; exact Plan2.isV)); (focus (simp only [Act.put, List.setIfInBounds_toArray, List.set_cons_zero, List.set_cons_succ]; rfl))))
                (first | (refine' Plan2.off (N := (some 109)) rfl (by rfl) rfl ?_ ?_; rotate_left 1; (focus (simp only [Act.put, List.setIfInBounds_toArray, List.set_cons_zero, List.set_cons_succ]; rfl))) | (refine' Plan2.pure (N := (some 109)) rfl (by rfl) rfl ?_ ?_ ?_; rotate_left 2; (focus (intro w'; go_simp; exact Plan2.isV)); (focus (simp only [Act.put, List.setIfInBounds_toArray, List.set_cons_zero, List.set_cons_succ]; rfl))))
                (first | (refine' Plan2.off (N := (some 110)) rfl (by rfl) rfl ?_ ?_; rotate_left 1; (focus (simp only [Act.put, List.setIfInBounds_toArray, List.set_cons_zero, List.set_cons_succ]; rfl))) | (refine' Plan2.pure (N := (some 110)) rfl (by rfl) rfl ?_ ?_ ?_; rotate_left 2; (focus (intro w'; go_simp; exact Plan2.isV)); (focus (simp only [Act.put, List.setIfInBounds_toArray, List.set_cons_zero, List.set_cons_succ]; rfl))))
                (first | (refine' Plan2.off (N := (some 111)) rfl (by rfl) rfl ?_ ?_; rotate_left 1; (focus (simp only [Act.put, List.setIfInBounds_toArray, List.set_cons_zero, List.set_cons_succ]; rfl))) | (refine' Plan2.pure (N := (some 111)) rfl (by rfl) rfl ?_ ?_ ?_; rotate_left 2; (focus (intro w'; go_simp; exact Plan2.isV)); (focus (simp only [Act.put, List.setIfInBounds_toArray, List.set_cons_zero, List.set_cons_succ]; rfl))))
                (refine' Plan2.pure (N := (some 112)) rfl (by rfl) rfl ?_ ?_ ?_; rotate_left 2; (focus (intro w'; go_simp; exact Plan2.isV)); (focus (simp only [Act.put, List.setIfInBounds_toArray, List.set_cons_zero, List.set_cons_succ]; rfl)))
                (refine' Plan2.pure (N := (some 113)) rfl (by rfl) rfl ?_ ?_ ?_; rotate_left 2; (focus (intro w'; go_simp; exact Plan2.isV)); (focus (simp only [Act.put, List.setIfInBounds_toArray, List.set_cons_zero, List.set_cons_succ]; rfl)))
                (first | (refine' Plan2.off (N := (some 114)) rfl (by rfl) rfl ?_ ?_; rotate_left 1; (focus (simp only [Act.put, List.setIfInBounds_toArray, List.set_cons_zero, List.set_cons_succ]; rfl))) | (refine' Plan2.pure (N := (some 114)) rfl (by rfl) rfl ?_ ?_ ?_; rotate_left 2; (focus (intro w'; go_simp; exact Plan2.isV)); (focus (simp only [Act.put, List.setIfInBounds_toArray, List.set_cons_zero, List.set_cons_succ]; rfl))))
                (first | (refine' Plan2.off (N := (some 115)) rfl (by rfl) rfl ?_ ?_; rotate_left 1; (focus (simp only [Act.put, List.setIfInBounds_toArray, List.set_cons_zero, List.set_cons_succ]; rfl))) | (refine' Plan2.pure (N := (some 115)) rfl (by rfl) rfl ?_ ?_ ?_; rotate_left 2; (focus (intro w'; go_simp; exact Plan2.isV)); (focus (simp only [Act.put, List.setIfInBounds_toArray, List.set_cons_zero, List.set_cons_succ]; rfl))))
                (first | (refine' Plan2.off (N := (some 116)) rfl (by rfl) rfl ?_ ?_; rotate_left 1; (focus (simp only [Act.put, List.setIfInBounds_toArray, List.set_cons_zero, List.set_cons_succ]; rfl))) | (refine' Plan2.pure (N := (some 116)) rfl (by rfl) rfl ?_ ?_ ?_; rotate_left 2; (focus (intro w'; go_simp; exact Plan2.isV)); (focus (simp only [Act.put, List.setIfInBounds_toArray, List.set_cons_zero, List.set_cons_succ]; rfl))))
                (first | (refine' Plan2.off (N := (some 117)) rfl (by rfl) rfl ?_ ?_; rotate_left 1; (focus (simp only [Act.put, List.setIfInBounds_toArray, List.set_cons_zero, List.set_cons_succ]; rfl))) | (refine' Plan2.load (N := (some 117)) rfl (by rfl) rfl ?_ ?_ ?_; rotate_left 2; (focus (intro w' hS; (try dsimp only at hS); go_simp; exact Plan2.isV)); (focus (simp only [Act.put, List.setIfInBounds_toArray, List.set_cons_zero, List.set_cons_succ]; rfl))))
                (first | (refine' Plan2.off (N := (some 118)) rfl (by rfl) rfl ?_ ?_; rotate_left 1; (focus (simp only [Act.put, List.setIfInBounds_toArray, List.set_cons_zero, List.set_cons_succ]; rfl))) | (refine' Plan2.pure (N := (some 118)) rfl (by rfl) rfl ?_ ?_ ?_; rotate_left 2; (focus (intro w'; go_simp; exact Plan2.isV)); (focus (simp only [Act.put, List.setIfInBounds_toArray, List.set_cons_zero, List.set_cons_succ]; rfl))))
                (refine' Plan2.pure (N := (some 119)) rfl (by rfl) rfl ?_ ?_ ?_; rotate_left 2; (focus (intro w'; go_simp; exact Plan2.isV)); (focus (simp only [Act.put, List.setIfInBounds_toArray, List.set_cons_zero, List.set_cons_succ]; rfl)))
                (refine' Plan2.pure (N := (some 120)) rfl (by rfl) rfl ?_ ?_ ?_; rotate_left 2; (focus (intro w'; go_simp; exact Plan2.isV)); (focus (simp only [Act.put, List.setIfInBounds_toArray, List.set_cons_zero, List.set_cons_succ]; rfl)))
                (first | (refine' Plan2.off (N := (some 121)) rfl (by rfl) rfl ?_ ?_; rotate_left 1; (focus (simp only [Act.put, List.setIfInBounds_toArray, List.set_cons_zero, List.set_cons_succ]; rfl))) | (refine' Plan2.pure (N := (some 121)) rfl (by rfl) rfl ?_ ?_ ?_; rotate_left 2; (focus (intro w'; go_simp; exact Plan2.isV)); (focus (simp only [Act.put, List.setIfInBounds_toArray, List.set_cons_zero, List.set_cons_succ]; rfl))))
                (first | (refine' Plan2.off (N := (some 122)) rfl (by rfl) rfl ?_ ?_; rotate_left 1; (focus (simp only [Act.put, List.setIfInBounds_toArray, List.set_cons_zero, List.set_cons_succ]; rfl))) | (refine' Plan2.pure (N := (some 122)) rfl (by rfl) rfl ?_ ?_ ?_; rotate_left 2; (focus (intro w'; go_simp; exact Plan2.isV)); (focus (simp only [Act.put, List.setIfInBounds_toArray, List.set_cons_zero, List.set_cons_succ]; rfl))))
                (first | (refine' Plan2.off (N := (some 123)) rfl (by rfl) rfl ?_ ?_; rotate_left 1; (focus (simp only [Act.put, List.setIfInBounds_toArray, List.set_cons_zero, List.set_cons_succ]; rfl))) | (refine' Plan2.pure (N := (some 123)) rfl (by rfl) rfl ?_ ?_ ?_; rotate_left 2; (focus (intro w'; go_simp; exact Plan2.isV)); (focus (simp only [Act.put, List.setIfInBounds_toArray, List.set_cons_zero, List.set_cons_succ]; rfl))))
                (first | (refine' Plan2.off (N := (some 124)) rfl (by rfl) rfl ?_ ?_; rotate_left 1; (focus (simp only [Act.put, List.setIfInBounds_toArray, List.set_cons_zero, List.set_cons_succ]; rfl))) | (refine' Plan2.load (N := (some 124)) rfl (by rfl) rfl ?_ ?_ ?_; rotate_left 2; (focus (intro w' hS; (try dsimp only at hS); go_simp; exact Plan2.isV)); (focus (simp only [Act.put, List.setIfInBounds_toArray, List.set_cons_zero, List.set_cons_succ]; rfl))))
                (first | (refine' Plan2.off (N := (some 125)) rfl (by rfl) rfl ?_ ?_; rotate_left 1; (focus (simp only [Act.put, List.setIfInBounds_toArray, List.set_cons_zero, List.set_cons_succ]; rfl))) | (refine' Plan2.pure (N := (some 125)) rfl (by rfl) rfl ?_ ?_ ?_; rotate_left 2; (focus (intro w'; go_simp; exact Plan2.isV)); (focus (simp only [Act.put, List.setIfInBounds_toArray, List.set_cons_zero, List.set_cons_succ]; rfl))))
                (first | (refine' Plan2.off (N := (some 126)) rfl (by rfl) rfl ?_ ?_; rotate_left 1; (focus (simp only [Act.put, List.setIfInBounds_toArray, List.set_cons_zero, List.set_cons_succ]; rfl))) | (refine' Plan2.pure (N := (some 126)) rfl (by rfl) rfl ?_ ?_ ?_; rotate_left 2; (focus (intro w'; go_simp; exact Plan2.isV)); (focus (simp only [Act.put, List.setIfInBounds_toArray, List.set_cons_zero, List.set_cons_succ]; rfl))))
                (first | (refine' Plan2.off (N := (some 127)) rfl (by rfl) rfl ?_ ?_; rotate_left 1; (focus (simp only [Act.put, List.setIfInBounds_toArray, List.set_cons_zero, List.set_cons_succ]; rfl))) | (refine' Plan2.pure (N := (some 127)) rfl (by rfl) rfl ?_ ?_ ?_; rotate_left 2; (focus (intro w'; go_simp; exact Plan2.isV)); (focus (simp only [Act.put, List.setIfInBounds_toArray, List.set_cons_zero, List.set_cons_succ]; rfl))))
                (first | (refine' Plan2.off (N := (some 128)) rfl (by rfl) rfl ?_ ?_; rotate_left 1; (focus (simp only [Act.put, List.setIfInBounds_toArray, List.set_cons_zero, List.set_cons_succ]; rfl))) | (refine' Plan2.pure (N := (some 128)) rfl (by rfl) rfl ?_ ?_ ?_; rotate_left 2; (focus (intro w'; go_simp; exact Plan2.isV)); (focus (simp only [Act.put, List.setIfInBounds_toArray, List.set_cons_zero, List.set_cons_succ]; rfl))))
                (first | (refine' Plan2.off (N := (some 129)) rfl (by rfl) rfl ?_ ?_; rotate_left 1; (focus (simp only [Act.put, List.setIfInBounds_toArray, List.set_cons_zero, List.set_cons_succ]; rfl))) | (refine' Plan2.load (N := (some 129)) rfl (by rfl) rfl ?_ ?_ ?_; rotate_left 2; (focus (intro w' hS; (try dsimp only at hS); go_simp; exact Plan2.isV)); (focus (simp only [Act.put, List.setIfInBounds_toArray, List.set_cons_zero, List.set_cons_succ]; rfl))))
                (first | (refine' Plan2.off (N := (some 130)) rfl (by rfl) rfl ?_ ?_; rotate_left 1; (focus (simp only [Act.put, List.setIfInBounds_toArray, List.set_cons_zero, List.set_cons_succ]; rfl))) | (refine' Plan2.pure (N := (some 130)) rfl (by rfl) rfl ?_ ?_ ?_; rotate_left 2; (focus (intro w'; go_simp; exact Plan2.isV)); (focus (simp only [Act.put, List.setIfInBounds_toArray, List.set_cons_zero, List.set_cons_succ]; rfl))))
                (refine' Plan2.pure (N := (some 131)) rfl (by rfl) rfl ?_ ?_ ?_; rotate_left 2; (focus (intro w'; go_simp; exact Plan2.isV)); (focus (simp only [Act.put, List.setIfInBounds_toArray, List.set_cons_zero, List.set_cons_succ]; rfl)))
                (refine' Plan2.pure (N := (some 132)) rfl (by rfl) rfl ?_ ?_ ?_; rotate_left 2; (focus (intro w'; go_simp; exact Plan2.isV)); (focus (simp only [Act.put, List.setIfInBounds_toArray, List.set_cons_zero, List.set_cons_succ]; rfl)))
                (first | (refine' Plan2.off (N := (some 133)) rfl (by rfl) rfl ?_ ?_; rotate_left 1; (focus (simp only [Act.put, List.setIfInBounds_toArray, List.set_cons_zero, List.set_cons_succ]; rfl))) | (refine' Plan2.pure (N := (some 133)) rfl (by rfl) rfl ?_ ?_ ?_; rotate_left 2; (focus (intro w'; go_simp; exact Plan2.isV)); (focus (simp only [Act.put, List.setIfInBounds_toArray, List.set_cons_zero, List.set_cons_succ]; rfl))))
                (first | (refine' Plan2.off (N := (some 134)) rfl (by rfl) rfl ?_ ?_; rotate_left 1; (focus (simp only [Act.put, List.setIfInBounds_toArray, List.set_cons_zero, List.set_cons_succ]; rfl))) | (refine' Plan2.pure (N := (some 134)) rfl (by rfl) rfl ?_ ?_ ?_; rotate_left 2; (focus (intro w'; go_simp; exact Plan2.isV)); (focus (simp only [Act.put, List.setIfInBounds_toArray, List.set_cons_zero, List.set_cons_succ]; rfl))))
                (first | (refine' Plan2.off (N := (some 135)) rfl (by rfl) rfl ?_ ?_; rotate_left 1; (focus (simp only [Act.put, List.setIfInBounds_toArray, List.set_cons_zero, List.set_cons_succ]; rfl))) | (refine' Plan2.pure (N := (some 135)) rfl (by rfl) rfl ?_ ?_ ?_; rotate_left 2; (focus (intro w'; go_simp; exact Plan2.isV)); (focus (simp only [Act.put, List.setIfInBounds_toArray, List.set_cons_zero, List.set_cons_succ]; rfl))))
                (first | (refine' Plan2.off (N := (some 136)) rfl (by rfl) rfl ?_ ?_; rotate_left 1; (focus (simp only [Act.put, List.setIfInBounds_toArray, List.set_cons_zero, List.set_cons_succ]; rfl))) | (refine' Plan2.load (N := (some 136)) rfl (by rfl) rfl ?_ ?_ ?_; rotate_left 2; (focus (intro w' hS; (try dsimp only at hS); go_simp; exact Plan2.isV)); (focus (simp only [Act.put, List.setIfInBounds_toArray, List.set_cons_zero, List.set_cons_succ]; rfl))))
                (first | (refine' Plan2.off (N := (some 137)) rfl (by rfl) rfl ?_ ?_; rotate_left 1; (focus (simp only [Act.put, List.setIfInBounds_toArray, List.set_cons_zero, List.set_cons_succ]; rfl))) | (refine' Plan2.pure (N := (some 137)) rfl (by rfl) rfl ?_ ?_ ?_; rotate_left 2; (focus (intro w'; go_simp; exact Plan2.isV)); (focus (simp only [Act.put, List.setIfInBounds_toArray, List.set_cons_zero, List.set_cons_succ]; rfl))))
                (first | (refine' Plan2.off (N := (some 138)) rfl (by rfl) rfl ?_ ?_; rotate_left 1; (focus (simp only [Act.put, List.setIfInBounds_toArray, List.set_cons_zero, List.set_cons_succ]; rfl))) | (refine' Plan2.pure (N := (some 138)) rfl (by rfl) rfl ?_ ?_ ?_; rotate_left 2; (focus (intro w'; go_simp; exact Plan2.isV)); (focus (simp only [Act.put, List.setIfInBounds_toArray, List.set_cons_zero, List.set_cons_succ]; rfl))))
                (refine' Plan2.pure (N := (some 139)) rfl (by rfl) rfl ?_ ?_ ?_; rotate_left 2; (focus (intro w'; go_simp; exact Plan2.isV)); (focus (simp only [Act.put, List.setIfInBounds_toArray, List.set_cons_zero, List.set_cons_succ]; rfl)))
                (refine' Plan2.pure (N := (some 140)) rfl (by rfl) rfl ?_ ?_ ?_; rotate_left 2; (focus (intro w'; go_simp; exact Plan2.isV)); (focus (simp only [Act.put, List.setIfInBounds_toArray, List.set_cons_zero, List.set_cons_succ]; rfl)))
                (first | (refine' Plan2.off (N := (some 141)) rfl (by rfl) rfl ?_ ?_; rotate_left 1; (focus (simp only [Act.put, List.setIfInBounds_toArray, List.set_cons_zero, List.set_cons_succ]; rfl))) | (refine' Plan2.pure (N := (some 141)) rfl (by rfl) rfl ?_ ?_ ?_; rotate_left 2; (focus (intro w'; go_simp; exact Plan2.isV)); (focus (simp only [Act.put, List.setIfInBounds_toArray, List.set_cons_zero, List.set_cons_succ]; rfl))))
                (first | (refine' Plan2.off (N := (some 142)) rfl (by rfl) rfl ?_ ?_; rotate_left 1; (focus (simp only [Act.put, List.setIfInBounds_toArray, List.set_cons_zero, List.set_cons_succ]; rfl))) | (refine' Plan2.pure (N := (some 142)) rfl (by rfl) rfl ?_ ?_ ?_; rotate_left 2; (focus (intro w'; go_simp; exact Plan2.isV)); (focus (simp only [Act.put, List.setIfInBounds_toArray, List.set_cons_zero, List.set_cons_succ]; rfl))))
                (first | (refine' Plan2.off (N := (some 143)) rfl (by rfl) rfl ?_ ?_; rotate_left 1; (focus (simp only [Act.put, List.setIfInBounds_toArray, List.set_cons_zero, List.set_cons_succ]; rfl))) | (refine' Plan2.pure (N := (some 143)) rfl (by rfl) rfl ?_ ?_ ?_; rotate_left 2; (focus (intro w'; go_simp; exact Plan2.isV)); (focus (simp only [Act.put, List.setIfInBounds_toArray, List.set_cons_zero, List.set_cons_succ]; rfl))))
                (first | (refine' Plan2.off (N := (some 144)) rfl (by rfl) rfl ?_ ?_; rotate_left 1; (focus (simp only [Act.put, List.setIfInBounds_toArray, List.set_cons_zero, List.set_cons_succ]; rfl))) | (refine' Plan2.load (N := (some 144)) rfl (by rfl) rfl ?_ ?_ ?_; rotate_left 2; (focus (intro w' hS; (try dsimp only at hS); go_simp; exact Plan2.isV)); (focus (simp only [Act.put, List.setIfInBounds_toArray, List.set_cons_zero, List.set_cons_succ]; rfl))))
                (first | (refine' Plan2.off (N := (some 145)) rfl (by rfl) rfl ?_ ?_; rotate_left 1; (focus (simp only [Act.put, List.setIfInBounds_toArray, List.set_cons_zero, List.set_cons_succ]; rfl))) | (refine' Plan2.pure (N := (some 145)) rfl (by rfl) rfl ?_ ?_ ?_; rotate_left 2; (focus (intro w'; go_simp; exact Plan2.isV)); (focus (simp only [Act.put, List.setIfInBounds_toArray, List.set_cons_zero, List.set_cons_succ]; rfl))))
                (first | (refine' Plan2.off (N := (some 146)) rfl (by rfl) rfl ?_ ?_; rotate_left 1; (focus (simp only [Act.put, List.setIfInBounds_toArray, List.set_cons_zero, List.set_cons_succ]; rfl))) | (refine' Plan2.pure (N := (some 146)) rfl (by rfl) rfl ?_ ?_ ?_; rotate_left 2; (focus (intro w'; go_simp; exact Plan2.isV)); (focus (simp only [Act.put, List.setIfInBounds_toArray, List.set_cons_zero, List.set_cons_succ]; rfl))))
                (refine' Plan2.pure (N := (some 147)) rfl (by rfl) rfl ?_ ?_ ?_; rotate_left 2; (focus (intro w'; go_simp; exact Plan2.isV)); (focus (simp only [Act.put, List.setIfInBounds_toArray, List.set_cons_zero, List.set_cons_succ]; rfl)))
                refine Plan2.done ?_
                go_wp2_with fail
                go_roundw
                case measure => have := HR.out.2.2.2; simp [intOf] <;> omega
                case rel => exact ⟨k + 1, t3.set j 0, by go_num, HR.out.2.2.2, by rw [List.length_set]; exact HX3.out.2.2.2.2, HR.out.1, HR.out.2.1, HR.out.2.2.1, HX3.out.2.2.2.1⟩
              · obtain rfl : k = X.length := by omega
                have hM3 := HX3.out.1
                rw [List.drop_length, List.append_nil] at hM3
                have HM3 := Aside0.mk hM3; clear hM3
                go_wp2_with fail
                go_roundw
                case measure => simp [intOf] <;> omega
                case rel => exact ⟨s + 1, F4, 1099511627776, M, t3, by go_num, by omega, (by first | exact fun _ => HEND.out | exact fun h => by omega), HX3.out.2.2.2.2, HM3.out, HX3.out.2.1⟩
        · obtain rfl : s = K + 1 := by omega
          obtain rfl := hend rfl
          have hs31 : ¬ ((K + 1 : Nat) : Int) ≤ steps.length := by have := HK.out.2; omega
          go_wp2_with fail
          go_loopw [17] (fun v17 w' => OnceD t2 wr v17 w') (fun v17 _ => i - (intOf v17).toNat)
          case atStart => exact ⟨0, rfl, Nat.zero_le _, rfl⟩
          case round =>
            obtain ⟨k, rfl, hk, rfl⟩ := hrel
            by_cases hk2 : k < i
            · have hz7 : (k : Int) < (i : Int) := by omega
              have hI3 := HI2.out.2
              have hlen := HLEN.out
              obtain ⟨ga, cap, he, _, _⟩ := hI3.row.form (by omega)
              injection he with he e2 e3
              subst he
              clear e2 e3
              have hrow := hI3.row
              rw [hlen] at hrow
              have hcell := own_at hrow (k : Int) (by omega) (by omega)
              rw [rd_zero HI2.out.1 (by omega), Int.toNat_natCast] at hcell
              obtain ⟨hca, hfa⟩ := hcell
              clear hI3 hlen hrow
              go_wp2_with fail
              go_roundw
              case measure => simp [intOf] <;> omega
              case rel => exact ⟨k + 1, by go_num, by have := HLEN.out; omega, rfl⟩
            · have hz7 : ¬ (k : Int) < (i : Int) := by omega
              go_wp2_with fail
              refine (len_any wr F2 g now [] HI2.out.2.isw).mono ?_
              rintro e w' ⟨rfl, rfl⟩
              go_wp2_with fail
              refine (known_any _).mono ?_
              rintro e w11 ⟨rfl, hb⟩
              go_wp2_with fail
              go_ret
              exact ⟨rfl, (HI2.out.2.own.step hb).below⟩
set_option maxHeartbeats 40000000 in
set_option maxRecDepth 100000 in
theorem once_law_ab (A0 : Option Addr) (c0 : Nat) (times : List Int) (A1 : Option Addr) (c1 : Nat) (steps : List Int) (w : World) (hr0 : ReadsInt w .i64 A0 times.length times) (hm0 : times.length ≤ maxLen) (hr1 : ReadsInt w .i64 A1 steps.length steps) (hm1 : steps.length ≤ maxLen) (hA : times.length ≤ 100) (hB : 60 < steps.length) (hw1 : ∀ x ∈ steps, (Lit.int .i64 x).wf = true) : Calls Try.prog 3 #[.slice A0 times.length c0, .slice A1 steps.length c1] w fun e w' => e = .returned (.bool true) ∧ Below w.heap.size w w' := by
  unfold maxLen at hm0 hm1
  have HD := Aside0.mk (And.intro hr0 (And.intro hr1 hw1)); clear hr0 hr1 hw1
  obtain ⟨N, hN⟩ : ∃ N, N = min times.length 100 := ⟨_, rfl⟩
  have hN1 : N ≤ times.length := by omega
  have hN2 : N ≤ 100 := by omega
  have hN3 : N = times.length ∨ N = 100 := by omega
  obtain ⟨K, hK⟩ : ∃ K, K = min steps.length 60 := ⟨_, rfl⟩
  have hK1 : K ≤ steps.length := by omega
  have hK2 : K ≤ 60 := by omega
  have hK3 : K = steps.length ∨ K = 60 := by omega
  clear hK hN
  have HK := Aside0.mk (And.intro hN3 hK3); clear hN3 hK3
  go_enter Try.func3, Try.ntmps3
  go_wp2_with fail
  refine (new_ok 0 w (by decide) (by decide)).mono ?_
  rintro e w1 ⟨g, F1, rfl, hq1, hF1, hb1⟩
  have HQ1 : Aside0 (OnceI w w1 g F1 0 [] [] (.slice none 0 0)) := Aside0.mk ⟨⟨hb1, hF1⟩, hq1, own_nil _ _ _ _, fun k _ h => by cases h⟩
  clear hq1 hF1 hb1
  go_wp2_with fail
  go_loopw [7, 8, 9] (fun v7 v8 v9 wr => OnceA w g N v7 v8 v9 wr) (fun _ v8 _ _ => 100 - (intOf v8).toNat)
  case atStart => exact ⟨F1, [], [], rfl, Nat.zero_le _, Mt.nil, HQ1.out⟩
  case round =>
    obtain ⟨F, L, ts, rfl, hi, hM, hI⟩ := hrel
    have HI := Aside0.mk (And.intro hM hI); clear hM hI
    obtain ⟨A7, c7, hv7⟩ := own_slice HI.out.2.row
    subst hv7
    obtain ⟨i, hti⟩ : ∃ i, i = ts.length := ⟨_, rfl⟩
    rw [← hti] at hi ⊢
    have HT := Aside0.mk hti; clear hti
    by_cases hlt : i < N
    · have hz1 : (i : Int) < (times.length : Int) := by omega
      have hz2 : (i : Int) < 100 := by omega
      obtain ⟨bd, od, rfl, _, hcell⟩ := ints_form HD.out.1 (by omega)
      have hk := (HI.out.2.own.below.cell (World.block_lt_of_cell? w _ (hcell i (by omega)))).trans (hcell i (by omega))
      generalize times.getD i 0 = t at *
      clear hcell
      have HS := Aside0.mk (set_any wr F g 0 L (i : Int) t (WalkArith.wf_i64 (by omega)) HI.out.2.isw)
      go_wp2_with fail
      refine HS.out.mono ?_
      rintro e w3 ⟨rfl, F3, hq3, ht3⟩
      have h3 := HI.out.2.turn hq3 ht3
      by_cases hr : setRes 0 L (i : Int) t = 0
      · have hL3 : setL 0 L (i : Int) t = insDu ⟨(i : Int), t⟩ (dropL L (i : Int)) := by unfold setL; rw [if_pos hr]
        have ht0 : t ≠ 0 := fun e => by unfold setRes at hr; rw [e, if_pos (by omega)] at hr; cases hr
        have hM3 : Mt (ts ++ [t]) (setL 0 L (i : Int) t) := by rw [hL3, HT.out]; exact HI.out.1.add ht0
        generalize setL 0 L (i : Int) t = L3 at *
        have H3 := Aside0.mk (And.intro h3 hM3)
        rw [hr]
        clear hk h3 hL3 ht0 hM3 hr hq3 ht3
        go_wp2_with (first | (at_builtin; go_loud (refine print_append_num (w0 := w) w.heap.size rfl (.tmp 47) (.tmp 49) 22 2 .i64 8 rfl Try.underlying22 info2 (by decide) (.slice A7 i c7) ts t rfl rfl (by rw [HT.out]; exact H3.out.1.row) H3.out.1.own.below H3.out.1.own.below.size (by rw [← HT.out]; omega) ?_); intro v4 w4 hr4 hb4 hg4 hl4; go_loud (have H4 := Aside0.mk (H3.out.1.app hr4 hb4 (Fr.of_grown (by rw [← HT.out]; exact hg4)) (by rw [← HT.out]; exact hl4))); clear hr4 hb4 hg4 hl4) | fail)
        go_roundw
        case measure => simp [intOf] <;> omega
        case rel => exact ⟨F3, L3, ts ++ [t], by rw [List.length_append, ← HT.out]; go_num, by rw [List.length_append, ← HT.out]; exact hlt, H3.out.2, H4.out⟩
      · have hL3 : setL 0 L (i : Int) t = L := by unfold setL; rw [if_neg hr]
        rw [hL3] at h3
        obtain ⟨L3, hLL⟩ : ∃ L3, L3 = L := ⟨_, rfl⟩
        rw [← hLL] at h3
        have H3 := Aside0.mk (And.intro h3 (show Mt (ts ++ [0]) L3 by rw [hLL]; exact HI.out.1.skip))
        clear hk h3 hL3 hq3 ht3 hLL
        go_wp2_with (first | (at_builtin; go_loud (refine print_append_num (w0 := w) w.heap.size rfl (.tmp 47) (.tmp 49) 22 2 .i64 8 rfl Try.underlying22 info2 (by decide) (.slice A7 i c7) ts 0 rfl rfl (by rw [HT.out]; exact H3.out.1.row) H3.out.1.own.below H3.out.1.own.below.size (by rw [← HT.out]; omega) ?_); intro v4 w4 hr4 hb4 hg4 hl4; go_loud (have H4 := Aside0.mk (H3.out.1.app hr4 hb4 (Fr.of_grown (by rw [← HT.out]; exact hg4)) (by rw [← HT.out]; exact hl4))); clear hr4 hb4 hg4 hl4) | fail)
        go_roundw
        case measure => simp [intOf] <;> omega
        case rel => exact ⟨F3, L3, ts ++ [0], by rw [List.length_append, ← HT.out]; go_num, by rw [List.length_append, ← HT.out]; exact hlt, H3.out.2, H4.out⟩
    · obtain rfl : i = N := by omega
      have hs1 : ¬ (i : Int) < times.length := by have := HK.out.1; omega
      go_wp2_with fail
      go_loopw [10, 11, 12, 13, 14, 15, 16] (fun v10 _ _ _ _ _ _ wr => OnceB w g K i (.slice A7 i c7) v10 wr) (fun v10 _ _ _ _ _ _ _ => K + 1 - (intOf v10).toNat)
      case atStart => exact ⟨0, F, 0, L, ts, rfl, Nat.zero_le _, (fun h => by omega), by rw [← HT.out], HI.out.1, by have h := HI.out.2; rw [← HT.out] at h; exact h⟩
      case round =>
        obtain ⟨s, F2, now, L2, t2, rfl, hs, hend, hlen, hM2, hI2⟩ := hrel
        have HI2 := Aside0.mk (And.intro hM2 hI2)
        have HLEN := Aside0.mk hlen
        clear hM2 hI2 hlen
        have hnow := now_bounds HI2.out.2.isw
        by_cases hlt2 : s ≤ K
        · clear hend
          have hz3 : (s : Int) ≤ (steps.length : Int) := by omega
          have hz4 : (s : Int) ≤ 60 := by omega
          by_cases hsk : s < K
          · have hz5 : (s : Int) < (steps.length : Int) := by omega
            have hz6 : (s : Int) < 60 := by omega
            obtain ⟨bs, os, rfl, _, hcell⟩ := ints_form HD.out.2.1 (by omega)
            have hk9 := (HI2.out.2.own.below.cell (World.block_lt_of_cell? w _ (hcell s (by omega)))).trans (hcell s (by omega))
            generalize steps.getD s 0 = tt at *
            clear hcell
            rcases (show tt < now ∨ (now ≤ tt ∧ 1099511627776 < tt) ∨ (now ≤ tt ∧ tt ≤ 1099511627776) by omega) with h1 | ⟨h1, h2⟩ | ⟨h1, h2⟩
            · go_wp2_with fail
              refine (now_any wr F2 g now L2 HI2.out.2.isw).mono ?_
              rintro e w' ⟨rfl, rfl⟩
              go_wp2_with fail
              refine (adv_old wr F2 g now L2 tt HI2.out.2.isw h1).mono ?_
              rintro e w' ⟨rfl, rfl⟩
              go_wp2_with fail
              refine (now_any wr F2 g now L2 HI2.out.2.isw).mono ?_
              rintro e w' ⟨rfl, rfl⟩
              go_wp2_with fail
              go_loopw [15] (fun v15 w' => v15 = .int .i64 0 ∧ w' = wr) (fun _ _ => 0)
              case atStart => exact ⟨rfl, rfl⟩
              case round =>
                obtain ⟨rfl, rfl⟩ := hrel
                go_wp2_with fail
                go_roundw
                case measure => simp [intOf] <;> omega
                case rel => exact ⟨s + 1, F2, now, L2, t2, by go_num, by omega, (fun h => by omega), HLEN.out, HI2.out.1, HI2.out.2⟩
            · go_wp2_with fail
              refine (now_any wr F2 g now L2 HI2.out.2.isw).mono ?_
              rintro e w' ⟨rfl, rfl⟩
              go_wp2_with fail
              refine (adv_arg wr F2 g now L2 tt HI2.out.2.isw h1 h2).mono ?_
              rintro e w' ⟨rfl, rfl⟩
              go_wp2_with fail
              refine (now_any wr F2 g now L2 HI2.out.2.isw).mono ?_
              rintro e w' ⟨rfl, rfl⟩
              go_wp2_with fail
              go_loopw [15] (fun v15 w' => v15 = .int .i64 0 ∧ w' = wr) (fun _ _ => 0)
              case atStart => exact ⟨rfl, rfl⟩
              case round =>
                obtain ⟨rfl, rfl⟩ := hrel
                go_wp2_with fail
                go_roundw
                case measure => simp [intOf] <;> omega
                case rel => exact ⟨s + 1, F2, now, L2, t2, by go_num, by omega, (fun h => by omega), HLEN.out, HI2.out.1, HI2.out.2⟩
            · have H12 := Aside0.mk (And.intro h1 h2); clear h1 h2
              obtain ⟨X, hX⟩ : ∃ X, X = L2.filter (upTo (tt)) := ⟨_, rfl⟩
              obtain ⟨M, hM⟩ : ∃ M, M = L2.filter (fun d => !upTo (tt) d) := ⟨_, rfl⟩
              have HE := Aside0.mk (once_facts HI2.out.1 HI2.out.2.isw hX hM)
              have HC := Aside0.mk (adv_to (g := g) HI2.out.2.isw H12.out.1 H12.out.2 hX hM)
              have HEND := Aside0.mk (trivial : True)
              clear hX hM
              go_wp2_with fail
              refine (now_any wr F2 g now L2 HI2.out.2.isw).mono ?_
              rintro e w' ⟨rfl, rfl⟩
              go_wp2_with fail
              refine HC.out.mono ?_
              rintro e w4 ⟨A4, c4, F4, rfl, ho4, hn4, hq4, ht4⟩
              have h4 := HI2.out.2.turn hq4 ht4
              have H4 := Aside0.mk (And.intro h4 (And.intro ho4 (fun b hb => by have := own_lt HI2.out.2.row b hb; have := ht4.fr.size; omega : ∀ b, (Value.slice A7 i c7).ownBlock = some b → b < w4.heap.size)))
              have HN4 := Aside0.mk (fun b hb => by have := own_lt HI2.out.2.row b hb; have := (hn4 b · |>.1); intro h; have := this h; omega : ∀ b, (Value.slice A7 i c7).ownBlock = some b → ¬ (Value.slice A4 X.length c4).ownBlock = some b)
              clear h4 ho4 hn4 hq4 ht4
              go_wp2_with fail
              go_loopw [15, 16] (fun v15 _ wr => OnceC w w4 g F4 (tt) M X A4 c4 i (.slice A7 i c7) v15 wr) (fun v15 _ _ => X.length - (intOf v15).toNat)
              case atStart => exact ⟨0, t2, rfl, Nat.zero_le _, HLEN.out, HE.out.1, H4.out.1, H4.out.2.1, H4.out.2.2⟩
              case round =>
                obtain ⟨k, t3, rfl, hk, hl3, hM3, hI3, ho3, hb3⟩ := hrel
                have HX3 := Aside0.mk (And.intro hM3 (And.intro hI3 (And.intro ho3 (And.intro hb3 hl3)))); clear hM3 hI3 ho3 hb3 hl3
                by_cases hk2 : k < X.length
                · have hz7 : (k : Int) < (X.length : Int) := by omega
                  have hz8 : (k : Int) < 5000 := by have := HE.out.2.1; omega
                  obtain ⟨bl, ol, c', he⟩ := orow_some HX3.out.2.2.1 (by omega)
                  injection he with he e2 e3
                  subst he
                  subst e3
                  clear e2
                  obtain ⟨cy0, cy1⟩ := HX3.out.2.2.1.cellsAt k hk2
                  have hdr := List.drop_eq_getElem_cons hk2
                  have hdX : X[k] ∈ X := List.getElem_mem hk2
                  obtain ⟨d, hdd⟩ : ∃ d, d = X[k] := ⟨_, rfl⟩
                  rw [← hdd] at cy0 cy1 hdr hdX
                  have hM3 := HX3.out.1
                  rw [hdr] at hM3
                  obtain ⟨j, hj, hjl, hja, hj0⟩ := hM3.lt (List.mem_append_right _ (List.mem_cons_self ..))
                  obtain ⟨a, ha⟩ : ∃ a, a = d.at_ := ⟨_, rfl⟩
                  rw [hj] at cy0
                  rw [← ha] at cy1 hja hj0
                  have hla := HE.out.2.2.1 d hdX
                  rw [← ha] at hla
                  obtain ⟨hla1, hla2⟩ := hla
                  have hI3 := HX3.out.2.1
                  obtain ⟨ga, cap, he, _, _⟩ := hI3.row.form (by omega)
                  injection he with he e2 e3
                  subst he
                  clear e2 e3
                  have hrow := hI3.row
                  have hjl2 : j < i := by have := HX3.out.2.2.2.2; omega
                  rw [HX3.out.2.2.2.2] at hrow
                  have hcell := own_at hrow (j : Int) (by omega) (by omega)
                  rw [show rd t3 (j : Int) = a from by unfold rd; rw [Int.toNat_natCast, List.getD_eq_getElem?_getD, hja]; rfl, Int.toNat_natCast] at hcell
                  obtain ⟨hca, hfa⟩ := hcell
                  have hji : (j : Int) < (i : Int) := by have := HX3.out.2.2.2.2; omega
                  have hk : wr.drew.cell? ⟨ga, j, none⟩ = some (.int .i64 a) ∧ wr.drew.cell? ⟨bl, ol + k * 2 + 1, none⟩ = some (.int .i64 a) := ⟨hca, cy1⟩
                  have hb1 : decide (i ≤ j) = false := by simp; omega
                  have hb2 : (a == 0) = false := by simpa using hj0
                  have hb3 : decide (a ≤ now) = false := by simp; omega
                  have hb4 : decide (tt < a) = false := by simp; omega
                  have hn3 : ((M ++ d :: X.drop (k + 1)).map (·.id)).Nodup := by rw [← hdr]; exact HE.out.2.2.2 k
                  have hT := hM3.tell hn3 hj
                  have hst := hI3.store j
                  have hor := HX3.out.2.2.1.frame hst.2 (fun b hb e => HN4.out b (by rw [e]; rfl) hb)
                  have HR := Aside0.mk (And.intro hT (And.intro hst.1 (And.intro hor hk2)))
                  clear hrow hjl2 hdr hdX hdd hM3 hj hjl hja ha hI3 hn3 hT hst hor
                  go_wp2_with fail
                  refine Plan2.region 1000 (fun w' => w'.cell? ⟨ga, j, none⟩ = some (.int .i64 a) ∧ w'.cell? ⟨bl, ol + k * 2 + 1, none⟩ = some (.int .i64 a)) [(0, 0), (1, 0), (2, 0), (3, 0), (4, 0), (5, 0), (6, 0), (7, 0), (8, 0), (9, 0), (10, 0), (11, 0), (12, 1), (13, 0), (14, 0), (15, 0), (16, 0), (17, 0), (18, 0), (19, 1), (20, 0), (21, 0), (22, 0), (23, 0), (24, 1), (25, 0), (26, 0), (27, 0), (28, 0), (29, 0), (30, 0), (31, 1), (32, 0), (33, 0), (34, 0), (35, 0), (36, 0), (37, 0), (38, 0), (39, 1), (40, 0), (41, 0), (42, 0)] (by kernel_rfl) (by kernel_rfl) (fun _ _ d _ _ h => by cases d <;> exact h) ?_ ?_
                  focus exact hk
                  (refine' Plan2.pure (N := (some 105)) rfl (by rfl) rfl ?_ ?_ ?_; rotate_left 2; (focus (intro w'; go_simp; exact Plan2.isV)); (focus (simp only [Act.put, List.setIfInBounds_toArray, List.set_cons_zero, List.set_cons_succ]; rfl)))
                  (refine' Plan2.pure (N := (some 106)) rfl (by rfl) rfl ?_ ?_ ?_; rotate_left 2; (focus (intro w'; go_simp; exact Plan2.isV)); (focus (simp only [Act.put, List.setIfInBounds_toArray, List.set_cons_zero, List.set_cons_succ]; rfl)))
                  (refine' Plan2.pure (N := (some 107)) rfl (by rfl) rfl ?_ ?_ ?_; rotate_left 2; (focus (intro w'; go_simp; exact Plan2.isV)); (focus (simp only [Act.put, List.setIfInBounds_toArray, List.set_cons_zero, List.set_cons_succ]; rfl)))
                  (first | (refine' Plan2.off (N := (some 108)) rfl (by rfl) rfl ?_ ?_; rotate_left 1; (focus (simp only [Act.put, List.setIfInBounds_toArray, List.set_cons_zero, List.set_cons_succ]; rfl))) | (refine' Plan2.pure (N := (some 108)) rfl (by rfl) rfl ?_ ?_ ?_; rotate_left 2; (focus (intro w'; go_simp; exact Plan2.isV)); (focus (simp only [Act.put, List.setIfInBounds_toArray, List.set_cons_zero, List.set_cons_succ]; rfl))))
                  (first | (refine' Plan2.off (N := (some 109)) rfl (by rfl) rfl ?_ ?_; rotate_left 1; (focus (simp only [Act.put, List.setIfInBounds_toArray, List.set_cons_zero, List.set_cons_succ]; rfl))) | (refine' Plan2.pure (N := (some 109)) rfl (by rfl) rfl ?_ ?_ ?_; rotate_left 2; (focus (intro w'; go_simp; exact Plan2.isV)); (focus (simp only [Act.put, List.setIfInBounds_toArray, List.set_cons_zero, List.set_cons_succ]; rfl))))
                  (first | (refine' Plan2.off (N := (some 110)) rfl (by rfl) rfl ?_ ?_; rotate_left 1; (focus (simp only [Act.put, List.setIfInBounds_toArray, List.set_cons_zero, List.set_cons_succ]; rfl))) | (refine' Plan2.pure (N := (some 110)) rfl (by rfl) rfl ?_ ?_ ?_; rotate_left 2; (focus (intro w'; go_simp; exact Plan2.isV)); (focus (simp only [Act.put, List.setIfInBounds_toArray, List.set_cons_zero, List.set_cons_succ]; rfl))))
                  (first | (refine' Plan2.off (N := (some 111)) rfl (by rfl) rfl ?_ ?_; rotate_left 1; (focus (simp only [Act.put, List.setIfInBounds_toArray, List.set_cons_zero, List.set_cons_succ]; rfl))) | (refine' Plan2.pure (N := (some 111)) rfl (by rfl) rfl ?_ ?_ ?_; rotate_left 2; (focus (intro w'; go_simp; exact Plan2.isV)); (focus (simp only [Act.put, List.setIfInBounds_toArray, List.set_cons_zero, List.set_cons_succ]; rfl))))
                  (refine' Plan2.pure (N := (some 112)) rfl (by rfl) rfl ?_ ?_ ?_; rotate_left 2; (focus (intro w'; go_simp; exact Plan2.isV)); (focus (simp only [Act.put, List.setIfInBounds_toArray, List.set_cons_zero, List.set_cons_succ]; rfl)))
                  (refine' Plan2.pure (N := (some 113)) rfl (by rfl) rfl ?_ ?_ ?_; rotate_left 2; (focus (intro w'; go_simp; exact Plan2.isV)); (focus (simp only [Act.put, List.setIfInBounds_toArray, List.set_cons_zero, List.set_cons_succ]; rfl)))
                  (first | (refine' Plan2.off (N := (some 114)) rfl (by rfl) rfl ?_ ?_; rotate_left 1; (focus (simp only [Act.put, List.setIfInBounds_toArray, List.set_cons_zero, List.set_cons_succ]; rfl))) | (refine' Plan2.pure (N := (some 114)) rfl (by rfl) rfl ?_ ?_ ?_; rotate_left 2; (focus (intro w'; go_simp; exact Plan2.isV)); (focus (simp only [Act.put, List.setIfInBounds_toArray, List.set_cons_zero, List.set_cons_succ]; rfl))))
                  (first | (refine' Plan2.off (N := (some 115)) rfl (by rfl) rfl ?_ ?_; rotate_left 1; (focus (simp only [Act.put, List.setIfInBounds_toArray, List.set_cons_zero, List.set_cons_succ]; rfl))) | (refine' Plan2.pure (N := (some 115)) rfl (by rfl) rfl ?_ ?_ ?_; rotate_left 2; (focus (intro w'; go_simp; exact Plan2.isV)); (focus (simp only [Act.put, List.setIfInBounds_toArray, List.set_cons_zero, List.set_cons_succ]; rfl))))
                  (first | (refine' Plan2.off (N := (some 116)) rfl (by rfl) rfl ?_ ?_; rotate_left 1; (focus (simp only [Act.put, List.setIfInBounds_toArray, List.set_cons_zero, List.set_cons_succ]; rfl))) | (refine' Plan2.pure (N := (some 116)) rfl (by rfl) rfl ?_ ?_ ?_; rotate_left 2; (focus (intro w'; go_simp; exact Plan2.isV)); (focus (simp only [Act.put, List.setIfInBounds_toArray, List.set_cons_zero, List.set_cons_succ]; rfl))))
                  (first | (refine' Plan2.off (N := (some 117)) rfl (by rfl) rfl ?_ ?_; rotate_left 1; (focus (simp only [Act.put, List.setIfInBounds_toArray, List.set_cons_zero, List.set_cons_succ]; rfl))) | (refine' Plan2.load (N := (some 117)) rfl (by rfl) rfl ?_ ?_ ?_; rotate_left 2; (focus (intro w' hS; (try dsimp only at hS); go_simp; exact Plan2.isV)); (focus (simp only [Act.put, List.setIfInBounds_toArray, List.set_cons_zero, List.set_cons_succ]; rfl))))
                  (first | (refine' Plan2.off (N := (some 118)) rfl (by rfl) rfl ?_ ?_; rotate_left 1; (focus (simp only [Act.put, List.setIfInBounds_toArray, List.set_cons_zero, List.set_cons_succ]; rfl))) | (refine' Plan2.pure (N := (some 118)) rfl (by rfl) rfl ?_ ?_ ?_; rotate_left 2; (focus (intro w'; go_simp; exact Plan2.isV)); (focus (simp only [Act.put, List.setIfInBounds_toArray, List.set_cons_zero, List.set_cons_succ]; rfl))))
                  (refine' Plan2.pure (N := (some 119)) rfl (by rfl) rfl ?_ ?_ ?_; rotate_left 2; (focus (intro w'; go_simp; exact Plan2.isV)); (focus (simp only [Act.put, List.setIfInBounds_toArray, List.set_cons_zero, List.set_cons_succ]; rfl)))
                  (refine' Plan2.pure (N := (some 120)) rfl (by rfl) rfl ?_ ?_ ?_; rotate_left 2; (focus (intro w'; go_simp; exact Plan2.isV)); (focus (simp only [Act.put, List.setIfInBounds_toArray, List.set_cons_zero, List.set_cons_succ]; rfl)))
                  (first | (refine' Plan2.off (N := (some 121)) rfl (by rfl) rfl ?_ ?_; rotate_left 1; (focus (simp only [Act.put, List.setIfInBounds_toArray, List.set_cons_zero, List.set_cons_succ]; rfl))) | (refine' Plan2.pure (N := (some 121)) rfl (by rfl) rfl ?_ ?_ ?_; rotate_left 2; (focus (intro w'; go_simp; exact Plan2.isV)); (focus (simp only [Act.put, List.setIfInBounds_toArray, List.set_cons_zero, List.set_cons_succ]; rfl))))
                  (first | (refine' Plan2.off (N := (some 122)) rfl (by rfl) rfl ?_ ?_; rotate_left 1; (focus (simp only [Act.put, List.setIfInBounds_toArray, List.set_cons_zero, List.set_cons_succ]; rfl))) | (refine' Plan2.pure (N := (some 122)) rfl (by rfl) rfl ?_ ?_ ?_; rotate_left 2; (focus (intro w'; go_simp; exact Plan2.isV)); (focus (simp only [Act.put, List.setIfInBounds_toArray, List.set_cons_zero, List.set_cons_succ]; rfl))))
                  (first | (refine' Plan2.off (N := (some 123)) rfl (by rfl) rfl ?_ ?_; rotate_left 1; (focus (simp only [Act.put, List.setIfInBounds_toArray, List.set_cons_zero, List.set_cons_succ]; rfl))) | (refine' Plan2.pure (N := (some 123)) rfl (by rfl) rfl ?_ ?_ ?_; rotate_left 2; (focus (intro w'; go_simp; exact Plan2.isV)); (focus (simp only [Act.put, List.setIfInBounds_toArray, List.set_cons_zero, List.set_cons_succ]; rfl))))
                  (first | (refine' Plan2.off (N := (some 124)) rfl (by rfl) rfl ?_ ?_; rotate_left 1; (focus (simp only [Act.put, List.setIfInBounds_toArray, List.set_cons_zero, List.set_cons_succ]; rfl))) | (refine' Plan2.load (N := (some 124)) rfl (by rfl) rfl ?_ ?_ ?_; rotate_left 2; (focus (intro w' hS; (try dsimp only at hS); go_simp; exact Plan2.isV)); (focus (simp only [Act.put, List.setIfInBounds_toArray, List.set_cons_zero, List.set_cons_succ]; rfl))))
                  (first | (refine' Plan2.off (N := (some 125)) rfl (by rfl) rfl ?_ ?_; rotate_left 1; (focus (simp only [Act.put, List.setIfInBounds_toArray, List.set_cons_zero, List.set_cons_succ]; rfl))) | (refine' Plan2.pure (N := (some 125)) rfl (by rfl) rfl ?_ ?_ ?_; rotate_left 2; (focus (intro w'; go_simp; exact Plan2.isV)); (focus (simp only [Act.put, List.setIfInBounds_toArray, List.set_cons_zero, List.set_cons_succ]; rfl))))
                  (first | (refine' Plan2.off (N := (some 126)) rfl (by rfl) rfl ?_ ?_; rotate_left 1; (focus (simp only [Act.put, List.setIfInBounds_toArray, List.set_cons_zero, List.set_cons_succ]; rfl))) | (refine' Plan2.pure (N := (some 126)) rfl (by rfl) rfl ?_ ?_ ?_; rotate_left 2; (focus (intro w'; go_simp; exact Plan2.isV)); (focus (simp only [Act.put, List.setIfInBounds_toArray, List.set_cons_zero, List.set_cons_succ]; rfl))))
                  (first | (refine' Plan2.off (N := (some 127)) rfl (by rfl) rfl ?_ ?_; rotate_left 1; (focus (simp only [Act.put, List.setIfInBounds_toArray, List.set_cons_zero, List.set_cons_succ]; rfl))) | (refine' Plan2.pure (N := (some 127)) rfl (by rfl) rfl ?_ ?_ ?_; rotate_left 2; (focus (intro w'; go_simp; exact Plan2.isV)); (focus (simp only [Act.put, List.setIfInBounds_toArray, List.set_cons_zero, List.set_cons_succ]; rfl))))
                  (first | (refine' Plan2.off (N := (some 128)) rfl (by rfl) rfl ?_ ?_; rotate_left 1; (focus (simp only [Act.put, List.setIfInBounds_toArray, List.set_cons_zero, List.set_cons_succ]; rfl))) | (refine' Plan2.pure (N := (some 128)) rfl (by rfl) rfl ?_ ?_ ?_; rotate_left 2; (focus (intro w'; go_simp; exact Plan2.isV)); (focus (simp only [Act.put, List.setIfInBounds_toArray, List.set_cons_zero, List.set_cons_succ]; rfl))))
                  (first | (refine' Plan2.off (N := (some 129)) rfl (by rfl) rfl ?_ ?_; rotate_left 1; (focus (simp only [Act.put, List.setIfInBounds_toArray, List.set_cons_zero, List.set_cons_succ]; rfl))) | (refine' Plan2.load (N := (some 129)) rfl (by rfl) rfl ?_ ?_ ?_; rotate_left 2; (focus (intro w' hS; (try dsimp only at hS); go_simp; exact Plan2.isV)); (focus (simp only [Act.put, List.setIfInBounds_toArray, List.set_cons_zero, List.set_cons_succ]; rfl))))
                  (first | (refine' Plan2.off (N := (some 130)) rfl (by rfl) rfl ?_ ?_; rotate_left 1; (focus (simp only [Act.put, List.setIfInBounds_toArray, List.set_cons_zero, List.set_cons_succ]; rfl))) | (refine' Plan2.pure (N := (some 130)) rfl (by rfl) rfl ?_ ?_ ?_; rotate_left 2; (focus (intro w'; go_simp; exact Plan2.isV)); (focus (simp only [Act.put, List.setIfInBounds_toArray, List.set_cons_zero, List.set_cons_succ]; rfl))))
                  (refine' Plan2.pure (N := (some 131)) rfl (by rfl) rfl ?_ ?_ ?_; rotate_left 2; (focus (intro w'; go_simp; exact Plan2.isV)); (focus (simp only [Act.put, List.setIfInBounds_toArray, List.set_cons_zero, List.set_cons_succ]; rfl)))
                  (refine' Plan2.pure (N := (some 132)) rfl (by rfl) rfl ?_ ?_ ?_; rotate_left 2; (focus (intro w'; go_simp; exact Plan2.isV)); (focus (simp only [Act.put, List.setIfInBounds_toArray, List.set_cons_zero, List.set_cons_succ]; rfl)))
                  (first | (refine' Plan2.off (N := (some 133)) rfl (by rfl) rfl ?_ ?_; rotate_left 1; (focus (simp only [Act.put, List.setIfInBounds_toArray, List.set_cons_zero, List.set_cons_succ]; rfl))) | (refine' Plan2.pure (N := (some 133)) rfl (by rfl) rfl ?_ ?_ ?_; rotate_left 2; (focus (intro w'; go_simp; exact Plan2.isV)); (focus (simp only [Act.put, List.setIfInBounds_toArray, List.set_cons_zero, List.set_cons_succ]; rfl))))
                  (first | (refine' Plan2.off (N := (some 134)) rfl (by rfl) rfl ?_ ?_; rotate_left 1; (focus (simp only [Act.put, List.setIfInBounds_toArray, List.set_cons_zero, List.set_cons_succ]; rfl))) | (refine' Plan2.pure (N := (some 134)) rfl (by rfl) rfl ?_ ?_ ?_; rotate_left 2; (focus (intro w'; go_simp; exact Plan2.isV)); (focus (simp only [Act.put, List.setIfInBounds_toArray, List.set_cons_zero, List.set_cons_succ]; rfl))))
                  (first | (refine' Plan2.off (N := (some 135)) rfl (by rfl) rfl ?_ ?_; rotate_left 1; (focus (simp only [Act.put, List.setIfInBounds_toArray, List.set_cons_zero, List.set_cons_succ]; rfl))) | (refine' Plan2.pure (N := (some 135)) rfl (by rfl) rfl ?_ ?_ ?_; rotate_left 2; (focus (intro w'; go_simp; exact Plan2.isV)); (focus (simp only [Act.put, List.setIfInBounds_toArray, List.set_cons_zero, List.set_cons_succ]; rfl))))
                  (first | (refine' Plan2.off (N := (some 136)) rfl (by rfl) rfl ?_ ?_; rotate_left 1; (focus (simp only [Act.put, List.setIfInBounds_toArray, List.set_cons_zero, List.set_cons_succ]; rfl))) | (refine' Plan2.load (N := (some 136)) rfl (by rfl) rfl ?_ ?_ ?_; rotate_left 2; (focus (intro w' hS; (try dsimp only at hS); go_simp; exact Plan2.isV)); (focus (simp only [Act.put, List.setIfInBounds_toArray, List.set_cons_zero, List.set_cons_succ]; rfl))))
                  (first | (refine' Plan2.off (N := (some 137)) rfl (by rfl) rfl ?_ ?_; rotate_left 1; (focus (simp only [Act.put, List.setIfInBounds_toArray, List.set_cons_zero, List.set_cons_succ]; rfl))) | (refine' Plan2.pure (N := (some 137)) rfl (by rfl) rfl ?_ ?_ ?_; rotate_left 2; (focus (intro w'; go_simp; exact Plan2.isV)); (focus (simp only [Act.put, List.setIfInBounds_toArray, List.set_cons_zero, List.set_cons_succ]; rfl))))
                  (first | (refine' Plan2.off (N := (some 138)) rfl (by rfl) rfl ?_ ?_; rotate_left 1; (focus (simp only [Act.put, List.setIfInBounds_toArray, List.set_cons_zero, List.set_cons_succ]; rfl))) | (refine' Plan2.pure (N := (some 138)) rfl (by rfl) rfl ?_ ?_ ?_; rotate_left 2; (focus (intro w'; go_simp; exact Plan2.isV)); (focus (simp only [Act.put, List.setIfInBounds_toArray, List.set_cons_zero, List.set_cons_succ]; rfl))))
                  (refine' Plan2.pure (N := (some 139)) rfl (by rfl) rfl ?_ ?_ ?_; rotate_left 2; (focus (intro w'; go_simp; exact Plan2.isV)); (focus (simp only [Act.put, List.setIfInBounds_toArray, List.set_cons_zero, List.set_cons_succ]; rfl)))
                  (refine' Plan2.pure (N := (some 140)) rfl (by rfl) rfl ?_ ?_ ?_; rotate_left 2; (focus (intro w'; go_simp; exact Plan2.isV)); (focus (simp only [Act.put, List.setIfInBounds_toArray, List.set_cons_zero, List.set_cons_succ]; rfl)))
                  (first | (refine' Plan2.off (N := (some 141)) rfl (by rfl) rfl ?_ ?_; rotate_left 1; (focus (simp only [Act.put, List.setIfInBounds_toArray, List.set_cons_zero, List.set_cons_succ]; rfl))) | (refine' Plan2.pure (N := (some 141)) rfl (by rfl) rfl ?_ ?_ ?_; rotate_left 2; (focus (intro w'; go_simp; exact Plan2.isV)); (focus (simp only [Act.put, List.setIfInBounds_toArray, List.set_cons_zero, List.set_cons_succ]; rfl))))
                  (first | (refine' Plan2.off (N := (some 142)) rfl (by rfl) rfl ?_ ?_; rotate_left 1; (focus (simp only [Act.put, List.setIfInBounds_toArray, List.set_cons_zero, List.set_cons_succ]; rfl))) | (refine' Plan2.pure (N := (some 142)) rfl (by rfl) rfl ?_ ?_ ?_; rotate_left 2; (focus (intro w'; go_simp; exact Plan2.isV)); (focus (simp only [Act.put, List.setIfInBounds_toArray, List.set_cons_zero, List.set_cons_succ]; rfl))))
                  (first | (refine' Plan2.off (N := (some 143)) rfl (by rfl) rfl ?_ ?_; rotate_left 1; (focus (simp only [Act.put, List.setIfInBounds_toArray, List.set_cons_zero, List.set_cons_succ]; rfl))) | (refine' Plan2.pure (N := (some 143)) rfl (by rfl) rfl ?_ ?_ ?_; rotate_left 2; (focus (intro w'; go_simp; exact Plan2.isV)); (focus (simp only [Act.put, List.setIfInBounds_toArray, List.set_cons_zero, List.set_cons_succ]; rfl))))
                  (first | (refine' Plan2.off (N := (some 144)) rfl (by rfl) rfl ?_ ?_; rotate_left 1; (focus (simp only [Act.put, List.setIfInBounds_toArray, List.set_cons_zero, List.set_cons_succ]; rfl))) | (refine' Plan2.load (N := (some 144)) rfl (by rfl) rfl ?_ ?_ ?_; rotate_left 2; (focus (intro w' hS; (try dsimp only at hS); go_simp; exact Plan2.isV)); (focus (simp only [Act.put, List.setIfInBounds_toArray, List.set_cons_zero, List.set_cons_succ]; rfl))))
                  (first | (refine' Plan2.off (N := (some 145)) rfl (by rfl) rfl ?_ ?_; rotate_left 1; (focus (simp only [Act.put, List.setIfInBounds_toArray, List.set_cons_zero, List.set_cons_succ]; rfl))) | (refine' Plan2.pure (N := (some 145)) rfl (by rfl) rfl ?_ ?_ ?_; rotate_left 2; (focus (intro w'; go_simp; exact Plan2.isV)); (focus (simp only [Act.put, List.setIfInBounds_toArray, List.set_cons_zero, List.set_cons_succ]; rfl))))
                  (first | (refine' Plan2.off (N := (some 146)) rfl (by rfl) rfl ?_ ?_; rotate_left 1; (focus (simp only [Act.put, List.setIfInBounds_toArray, List.set_cons_zero, List.set_cons_succ]; rfl))) | (refine' Plan2.pure (N := (some 146)) rfl (by rfl) rfl ?_ ?_ ?_; rotate_left 2; (focus (intro w'; go_simp; exact Plan2.isV)); (focus (simp only [Act.put, List.setIfInBounds_toArray, List.set_cons_zero, List.set_cons_succ]; rfl))))
                  (refine' Plan2.pure (N := (some 147)) rfl (by rfl) rfl ?_ ?_ ?_; rotate_left 2; (focus (intro w'; go_simp; exact Plan2.isV)); (focus (simp only [Act.put, List.setIfInBounds_toArray, List.set_cons_zero, List.set_cons_succ]; rfl)))
                  refine Plan2.done ?_
                  go_wp2_with fail
                  go_roundw
                  case measure => have := HR.out.2.2.2; simp [intOf] <;> omega
                  case rel => exact ⟨k + 1, t3.set j 0, by go_num, HR.out.2.2.2, by rw [List.length_set]; exact HX3.out.2.2.2.2, HR.out.1, HR.out.2.1, HR.out.2.2.1, HX3.out.2.2.2.1⟩
                · obtain rfl : k = X.length := by omega
                  have hM3 := HX3.out.1
                  rw [List.drop_length, List.append_nil] at hM3
                  have HM3 := Aside0.mk hM3; clear hM3
                  go_wp2_with fail
                  go_roundw
                  case measure => simp [intOf] <;> omega
                  case rel => exact ⟨s + 1, F4, tt, M, t3, by go_num, by omega, (by first | exact fun _ => HEND.out | exact fun h => by omega), HX3.out.2.2.2.2, HM3.out, HX3.out.2.1⟩
          · obtain rfl : s = K := by omega
            have H12 := Aside0.mk (And.intro hnow.2 (Int.le_refl 1099511627776))
            have hs21 : (s : Int) < steps.length := by have := HK.out.2; omega
            have hs22 : ¬ (s : Int) < 60 := by have := HK.out.2; omega
            obtain ⟨X, hX⟩ : ∃ X, X = L2.filter (upTo (1099511627776)) := ⟨_, rfl⟩
            obtain ⟨M, hM⟩ : ∃ M, M = L2.filter (fun d => !upTo (1099511627776) d) := ⟨_, rfl⟩
            have HE := Aside0.mk (once_facts HI2.out.1 HI2.out.2.isw hX hM)
            have HC := Aside0.mk (adv_to (g := g) HI2.out.2.isw H12.out.1 H12.out.2 hX hM)
            have HEND := Aside0.mk (by rw [hM]; exact late_none HI2.out.2.isw : M = [])
            clear hX hM
            go_wp2_with fail
            refine (now_any wr F2 g now L2 HI2.out.2.isw).mono ?_
            rintro e w' ⟨rfl, rfl⟩
            go_wp2_with fail
            refine HC.out.mono ?_
            rintro e w4 ⟨A4, c4, F4, rfl, ho4, hn4, hq4, ht4⟩
            have h4 := HI2.out.2.turn hq4 ht4
            have H4 := Aside0.mk (And.intro h4 (And.intro ho4 (fun b hb => by have := own_lt HI2.out.2.row b hb; have := ht4.fr.size; omega : ∀ b, (Value.slice A7 i c7).ownBlock = some b → b < w4.heap.size)))
            have HN4 := Aside0.mk (fun b hb => by have := own_lt HI2.out.2.row b hb; have := (hn4 b · |>.1); intro h; have := this h; omega : ∀ b, (Value.slice A7 i c7).ownBlock = some b → ¬ (Value.slice A4 X.length c4).ownBlock = some b)
            clear h4 ho4 hn4 hq4 ht4
            go_wp2_with fail
            go_loopw [15, 16] (fun v15 _ wr => OnceC w w4 g F4 (1099511627776) M X A4 c4 i (.slice A7 i c7) v15 wr) (fun v15 _ _ => X.length - (intOf v15).toNat)
            case atStart => exact ⟨0, t2, rfl, Nat.zero_le _, HLEN.out, HE.out.1, H4.out.1, H4.out.2.1, H4.out.2.2⟩
            case round =>
              obtain ⟨k, t3, rfl, hk, hl3, hM3, hI3, ho3, hb3⟩ := hrel
              have HX3 := Aside0.mk (And.intro hM3 (And.intro hI3 (And.intro ho3 (And.intro hb3 hl3)))); clear hM3 hI3 ho3 hb3 hl3
              by_cases hk2 : k < X.length
              · have hz7 : (k : Int) < (X.length : Int) := by omega
                have hz8 : (k : Int) < 5000 := by have := HE.out.2.1; omega
                obtain ⟨bl, ol, c', he⟩ := orow_some HX3.out.2.2.1 (by omega)
                injection he with he e2 e3
                subst he
                subst e3
                clear e2
                obtain ⟨cy0, cy1⟩ := HX3.out.2.2.1.cellsAt k hk2
                have hdr := List.drop_eq_getElem_cons hk2
                have hdX : X[k] ∈ X := List.getElem_mem hk2
                obtain ⟨d, hdd⟩ : ∃ d, d = X[k] := ⟨_, rfl⟩
                rw [← hdd] at cy0 cy1 hdr hdX
                have hM3 := HX3.out.1
                rw [hdr] at hM3
                obtain ⟨j, hj, hjl, hja, hj0⟩ := hM3.lt (List.mem_append_right _ (List.mem_cons_self ..))
                obtain ⟨a, ha⟩ : ∃ a, a = d.at_ := ⟨_, rfl⟩
                rw [hj] at cy0
                rw [← ha] at cy1 hja hj0
                have hla := HE.out.2.2.1 d hdX
                rw [← ha] at hla
                obtain ⟨hla1, hla2⟩ := hla
                have hI3 := HX3.out.2.1
                obtain ⟨ga, cap, he, _, _⟩ := hI3.row.form (by omega)
                injection he with he e2 e3
                subst he
                clear e2 e3
                have hrow := hI3.row
                have hjl2 : j < i := by have := HX3.out.2.2.2.2; omega
                rw [HX3.out.2.2.2.2] at hrow
                have hcell := own_at hrow (j : Int) (by omega) (by omega)
                rw [show rd t3 (j : Int) = a from by unfold rd; rw [Int.toNat_natCast, List.getD_eq_getElem?_getD, hja]; rfl, Int.toNat_natCast] at hcell
                obtain ⟨hca, hfa⟩ := hcell
                have hji : (j : Int) < (i : Int) := by have := HX3.out.2.2.2.2; omega
                have hk : wr.drew.cell? ⟨ga, j, none⟩ = some (.int .i64 a) ∧ wr.drew.cell? ⟨bl, ol + k * 2 + 1, none⟩ = some (.int .i64 a) := ⟨hca, cy1⟩
                have hb1 : decide (i ≤ j) = false := by simp; omega
                have hb2 : (a == 0) = false := by simpa using hj0
                have hb3 : decide (a ≤ now) = false := by simp; omega
                have hb4 : decide (1099511627776 < a) = false := by simp; omega
                have hn3 : ((M ++ d :: X.drop (k + 1)).map (·.id)).Nodup := by rw [← hdr]; exact HE.out.2.2.2 k
                have hT := hM3.tell hn3 hj
                have hst := hI3.store j
                have hor := HX3.out.2.2.1.frame hst.2 (fun b hb e => HN4.out b (by rw [e]; rfl) hb)
                have HR := Aside0.mk (And.intro hT (And.intro hst.1 (And.intro hor hk2)))
                clear hrow hjl2 hdr hdX hdd hM3 hj hjl hja ha hI3 hn3 hT hst hor
                go_wp2_with fail
                refine Plan2.region 1000 (fun w' => w'.cell? ⟨ga, j, none⟩ = some (.int .i64 a) ∧ w'.cell? ⟨bl, ol + k * 2 + 1, none⟩ = some (.int .i64 a)) [(0, 0), (1, 0), (2, 0), (3, 0), (4, 0), (5, 0), (6, 0), (7, 0), (8, 0), (9, 0), (10, 0), (11, 0), (12, 1), (13, 0), (14, 0), (15, 0), (16, 0), (17, 0), (18, 0), (19, 1), (20, 0), (21, 0), (22, 0), (23, 0), (24, 1), (25, 0), (26, 0), (27, 0), (28, 0), (29, 0), (30, 0), (31, 1), (32, 0), (33, 0), (34, 0), (35, 0), (36, 0), (37, 0), (38, 0), (39, 1), (40, 0), (41, 0), (42, 0)] (by kernel_rfl) (by kernel_rfl) (fun _ _ d _ _ h => by cases d <;> exact h) ?_ ?_
                focus exact hk
                (refine' Plan2.pure (N := (some 105)) rfl (by rfl) rfl ?_ ?_ ?_; rotate_left 2; (focus (intro w'; go_simp; exact Plan2.isV)); (focus (simp only [Act.put, List.setIfInBounds_toArray, List.set_cons_zero, List.set_cons_succ]; rfl)))
                (refine' Plan2.pure (N := (some 106)) rfl (by rfl) rfl ?_ ?_ ?_; rotate_left 2; (focus (intro w'; go_simp; exact Plan2.isV)); (focus (simp only [Act.put, List.setIfInBounds_toArray, List.set_cons_zero, List.set_cons_succ]; rfl)))
                (refine' Plan2.pure (N := (some 107)) rfl (by rfl) rfl ?_ ?_ ?_; rotate_left 2; (focus (intro w'; go_simp; exact Plan2.isV)); (focus (simp only [Act.put, List.setIfInBounds_toArray, List.set_cons_zero, List.set_cons_succ]; rfl)))
                (first | (refine' Plan2.off (N := (some 108)) rfl (by rfl) rfl ?_ ?_; rotate_left 1; (focus (simp only [Act.put, List.setIfInBounds_toArray, List.set_cons_zero, List.set_cons_succ]; rfl))) | (refine' Plan2.pure (N := (some 108)) rfl (by rfl) rfl ?_ ?_ ?_; rotate_left 2; (focus (intro w'; go_simp; exact Plan2.isV)); (focus (simp only [Act.put, List.setIfInBounds_toArray, List.set_cons_zero, List.set_cons_succ]; rfl))))
                (first | (refine' Plan2.off (N := (some 109)) rfl (by rfl) rfl ?_ ?_; rotate_left 1; (focus (simp only [Act.put, List.setIfInBounds_toArray, List.set_cons_zero, List.set_cons_succ]; rfl))) | (refine' Plan2.pure (N := (some 109)) rfl (by rfl) rfl ?_ ?_ ?_; rotate_left 2; (focus (intro w'; go_simp; exact Plan2.isV)); (focus (simp only [Act.put, List.setIfInBounds_toArray, List.set_cons_zero, List.set_cons_succ]; rfl))))
                (first | (refine' Plan2.off (N := (some 110)) rfl (by rfl) rfl ?_ ?_; rotate_left 1; (focus (simp only [Act.put, List.setIfInBounds_toArray, List.set_cons_zero, List.set_cons_succ]; rfl))) | (refine' Plan2.pure (N := (some 110)) rfl (by rfl) rfl ?_ ?_ ?_; rotate_left 2; (focus (intro w'; go_simp; exact Plan2.isV)); (focus (simp only [Act.put, List.setIfInBounds_toArray, List.set_cons_zero, List.set_cons_succ]; rfl))))
                (first | (refine' Plan2.off (N := (some 111)) rfl (by rfl) rfl ?_ ?_; rotate_left 1; (focus (simp only [Act.put, List.setIfInBounds_toArray, List.set_cons_zero, List.set_cons_succ]; rfl))) | (refine' Plan2.pure (N := (some 111)) rfl (by rfl) rfl ?_ ?_ ?_; rotate_left 2; (focus (intro w'; go_simp; exact Plan2.isV)); (focus (simp only [Act.put, List.setIfInBounds_toArray, List.set_cons_zero, List.set_cons_succ]; rfl))))
                (refine' Plan2.pure (N := (some 112)) rfl (by rfl) rfl ?_ ?_ ?_; rotate_left 2; (focus (intro w'; go_simp; exact Plan2.isV)); (focus (simp only [Act.put, List.setIfInBounds_toArray, List.set_cons_zero, List.set_cons_succ]; rfl)))
                (refine' Plan2.pure (N := (some 113)) rfl (by rfl) rfl ?_ ?_ ?_; rotate_left 2; (focus (intro w'; go_simp; exact Plan2.isV)); (focus (simp only [Act.put, List.setIfInBounds_toArray, List.set_cons_zero, List.set_cons_succ]; rfl)))
                (first | (refine' Plan2.off (N := (some 114)) rfl (by rfl) rfl ?_ ?_; rotate_left 1; (focus (simp only [Act.put, List.setIfInBounds_toArray, List.set_cons_zero, List.set_cons_succ]; rfl))) | (refine' Plan2.pure (N := (some 114)) rfl (by rfl) rfl ?_ ?_ ?_; rotate_left 2; (focus (intro w'; go_simp; exact Plan2.isV)); (focus (simp only [Act.put, List.setIfInBounds_toArray, List.set_cons_zero, List.set_cons_succ]; rfl))))
                (first | (refine' Plan2.off (N := (some 115)) rfl (by rfl) rfl ?_ ?_; rotate_left 1; (focus (simp only [Act.put, List.setIfInBounds_toArray, List.set_cons_zero, List.set_cons_succ]; rfl))) | (refine' Plan2.pure (N := (some 115)) rfl (by rfl) rfl ?_ ?_ ?_; rotate_left 2; (focus (intro w'; go_simp; exact Plan2.isV)); (focus (simp only [Act.put, List.setIfInBounds_toArray, List.set_cons_zero, List.set_cons_succ]; rfl))))
                (first | (refine' Plan2.off (N := (some 116)) rfl (by rfl) rfl ?_ ?_; rotate_left 1; (focus (simp only [Act.put, List.setIfInBounds_toArray, List.set_cons_zero, List.set_cons_succ]; rfl))) | (refine' Plan2.pure (N := (some 116)) rfl (by rfl) rfl ?_ ?_ ?_; rotate_left 2; (focus (intro w'; go_simp; exact Plan2.isV)); (focus (simp only [Act.put, List.setIfInBounds_toArray, List.set_cons_zero, List.set_cons_succ]; rfl))))
                (first | (refine' Plan2.off (N := (some 117)) rfl (by rfl) rfl ?_ ?_; rotate_left 1; (focus (simp only [Act.put, List.setIfInBounds_toArray, List.set_cons_zero, List.set_cons_succ]; rfl))) | (refine' Plan2.load (N := (some 117)) rfl (by rfl) rfl ?_ ?_ ?_; rotate_left 2; (focus (intro w' hS; (try dsimp only at hS); go_simp; exact Plan2.isV)); (focus (simp only [Act.put, List.setIfInBounds_toArray, List.set_cons_zero, List.set_cons_succ]; rfl))))
                (first | (refine' Plan2.off (N := (some 118)) rfl (by rfl) rfl ?_ ?_; rotate_left 1; (focus (simp only [Act.put, List.setIfInBounds_toArray, List.set_cons_zero, List.set_cons_succ]; rfl))) | (refine' Plan2.pure (N := (some 118)) rfl (by rfl) rfl ?_ ?_ ?_; rotate_left 2; (focus (intro w'; go_simp; exact Plan2.isV)); (focus (simp only [Act.put, List.setIfInBounds_toArray, List.set_cons_zero, List.set_cons_succ]; rfl))))
                (refine' Plan2.pure (N := (some 119)) rfl (by rfl) rfl ?_ ?_ ?_; rotate_left 2; (focus (intro w'; go_simp; exact Plan2.isV)); (focus (simp only [Act.put, List.setIfInBounds_toArray, List.set_cons_zero, List.set_cons_succ]; rfl)))
                (refine' Plan2.pure (N := (some 120)) rfl (by rfl) rfl ?_ ?_ ?_; rotate_left 2; (focus (intro w'; go_simp; exact Plan2.isV)); (focus (simp only [Act.put, List.setIfInBounds_toArray, List.set_cons_zero, List.set_cons_succ]; rfl)))
                (first | (refine' Plan2.off (N := (some 121)) rfl (by rfl) rfl ?_ ?_; rotate_left 1; (focus (simp only [Act.put, List.setIfInBounds_toArray, List.set_cons_zero, List.set_cons_succ]; rfl))) | (refine' Plan2.pure (N := (some 121)) rfl (by rfl) rfl ?_ ?_ ?_; rotate_left 2; (focus (intro w'; go_simp; exact Plan2.isV)); (focus (simp only [Act.put, List.setIfInBounds_toArray, List.set_cons_zero, List.set_cons_succ]; rfl))))
                (first | (refine' Plan2.off (N := (some 122)) rfl (by rfl) rfl ?_ ?_; rotate_left 1; (focus (simp only [Act.put, List.setIfInBounds_toArray, List.set_cons_zero, List.set_cons_succ]; rfl))) | (refine' Plan2.pure (N := (some 122)) rfl (by rfl) rfl ?_ ?_ ?_; rotate_left 2; (focus (intro w'; go_simp; exact Plan2.isV)); (focus (simp only [Act.put, List.setIfInBounds_toArray, List.set_cons_zero, List.set_cons_succ]; rfl))))
                (first | (refine' Plan2.off (N := (some 123)) rfl (by rfl) rfl ?_ ?_; rotate_left 1; (focus (simp only [Act.put, List.setIfInBounds_toArray, List.set_cons_zero, List.set_cons_succ]; rfl))) | (refine' Plan2.pure (N := (some 123)) rfl (by rfl) rfl ?_ ?_ ?_; rotate_left 2; (focus (intro w'; go_simp; exact Plan2.isV)); (focus (simp only [Act.put, List.setIfInBounds_toArray, List.set_cons_zero, List.set_cons_succ]; rfl))))
                (first | (refine' Plan2.off (N := (some 124)) rfl (by rfl) rfl ?_ ?_; rotate_left 1; (focus (simp only [Act.put, List.setIfInBounds_toArray, List.set_cons_zero, List.set_cons_succ]; rfl))) | (refine' Plan2.load (N := (some 124)) rfl (by rfl) rfl ?_ ?_ ?_; rotate_left 2; (focus (intro w' hS; (try dsimp only at hS); go_simp; exact Plan2.isV)); (focus (simp only [Act.put, List.setIfInBounds_toArray, List.set_cons_zero, List.set_cons_succ]; rfl))))
                (first | (refine' Plan2.off (N := (some 125)) rfl (by rfl) rfl ?_ ?_; rotate_left 1; (focus (simp only [Act.put, List.setIfInBounds_toArray, List.set_cons_zero, List.set_cons_succ]; rfl))) | (refine' Plan2.pure (N := (some 125)) rfl (by rfl) rfl ?_ ?_ ?_; rotate_left 2; (focus (intro w'; go_simp; exact Plan2.isV)); (focus (simp only [Act.put, List.setIfInBounds_toArray, List.set_cons_zero, List.set_cons_succ]; rfl))))
                (first | (refine' Plan2.off (N := (some 126)) rfl (by rfl) rfl ?_ ?_; rotate_left 1; (focus (simp only [Act.put, List.setIfInBounds_toArray, List.set_cons_zero, List.set_cons_succ]; rfl))) | (refine' Plan2.pure (N := (some 126)) rfl (by rfl) rfl ?_ ?_ ?_; rotate_left 2; (focus (intro w'; go_simp; exact Plan2.isV)); (focus (simp only [Act.put, List.setIfInBounds_toArray, List.set_cons_zero, List.set_cons_succ]; rfl))))
                (first | (refine' Plan2.off (N := (some 127)) rfl (by rfl) rfl ?_ ?_; rotate_left 1; (focus (simp only [Act.put, List.setIfInBounds_toArray, List.set_cons_zero, List.set_cons_succ]; rfl))) | (refine' Plan2.pure (N := (some 127)) rfl (by rfl) rfl ?_ ?_ ?_; rotate_left 2; (focus (intro w'; go_simp; exact Plan2.isV)); (focus (simp only [Act.put, List.setIfInBounds_toArray, List.set_cons_zero, List.set_cons_succ]; rfl))))
                (first | (refine' Plan2.off (N := (some 128)) rfl (by rfl) rfl ?_ ?_; rotate_left 1; (focus (simp only [Act.put, List.setIfInBounds_toArray, List.set_cons_zero, List.set_cons_succ]; rfl))) | (refine' Plan2.pure (N := (some 128)) rfl (by rfl) rfl ?_ ?_ ?_; rotate_left 2; (focus (intro w'; go_simp; exact Plan2.isV)); (focus (simp only [Act.put, List.setIfInBounds_toArray, List.set_cons_zero, List.set_cons_succ]; rfl))))
                (first | (refine' Plan2.off (N := (some 129)) rfl (by rfl) rfl ?_ ?_; rotate_left 1; (focus (simp only [Act.put, List.setIfInBounds_toArray, List.set_cons_zero, List.set_cons_succ]; rfl))) | (refine' Plan2.load (N := (some 129)) rfl (by rfl) rfl ?_ ?_ ?_; rotate_left 2; (focus (intro w' hS; (try dsimp only at hS); go_simp; exact Plan2.isV)); (focus (simp only [Act.put, List.setIfInBounds_toArray, List.set_cons_zero, List.set_cons_succ]; rfl))))
                (first | (refine' Plan2.off (N := (some 130)) rfl (by rfl) rfl ?_ ?_; rotate_left 1; (focus (simp only [Act.put, List.setIfInBounds_toArray, List.set_cons_zero, List.set_cons_succ]; rfl))) | (refine' Plan2.pure (N := (some 130)) rfl (by rfl) rfl ?_ ?_ ?_; rotate_left 2; (focus (intro w'; go_simp; exact Plan2.isV)); (focus (simp only [Act.put, List.setIfInBounds_toArray, List.set_cons_zero, List.set_cons_succ]; rfl))))
                (refine' Plan2.pure (N := (some 131)) rfl (by rfl) rfl ?_ ?_ ?_; rotate_left 2; (focus (intro w'; go_simp; exact Plan2.isV)); (focus (simp only [Act.put, List.setIfInBounds_toArray, List.set_cons_zero, List.set_cons_succ]; rfl)))
                (refine' Plan2.pure (N := (some 132)) rfl (by rfl) rfl ?_ ?_ ?_; rotate_left 2; (focus (intro w'; go_simp; exact Plan2.isV)); (focus (simp only [Act.put, List.setIfInBounds_toArray, List.set_cons_zero, List.set_cons_succ]; rfl)))
                (first | (refine' Plan2.off (N := (some 133)) rfl (by rfl) rfl ?_ ?_; rotate_left 1; (focus (simp only [Act.put, List.setIfInBounds_toArray, List.set_cons_zero, List.set_cons_succ]; rfl))) | (refine' Plan2.pure (N := (some 133)) rfl (by rfl) rfl ?_ ?_ ?_; rotate_left 2; (focus (intro w'; go_simp; exact Plan2.isV)); (focus (simp only [Act.put, List.setIfInBounds_toArray, List.set_cons_zero, List.set_cons_succ]; rfl))))
                (first | (refine' Plan2.off (N := (some 134)) rfl (by rfl) rfl ?_ ?_; rotate_left 1; (focus (simp only [Act.put, List.setIfInBounds_toArray, List.set_cons_zero, List.set_cons_succ]; rfl))) | (refine' Plan2.pure (N := (some 134)) rfl (by rfl) rfl ?_ ?_ ?_; rotate_left 2; (focus (intro w'; go_simp; exact Plan2.isV)); (focus (simp only [Act.put, List.setIfInBounds_toArray, List.set_cons_zero, List.set_cons_succ]; rfl))))
                (first | (refine' Plan2.off (N := (some 135)) rfl (by rfl) rfl ?_ ?_; rotate_left 1; (focus (simp only [Act.put, List.setIfInBounds_toArray, List.set_cons_zero, List.set_cons_succ]; rfl))) | (refine' Plan2.pure (N := (some 135)) rfl (by rfl) rfl ?_ ?_ ?_; rotate_left 2; (focus (intro w'; go_simp; exact Plan2.isV)); (focus (simp only [Act.put, List.setIfInBounds_toArray, List.set_cons_zero, List.set_cons_succ]; rfl))))
                (first | (refine' Plan2.off (N := (some 136)) rfl (by rfl) rfl ?_ ?_; rotate_left 1; (focus (simp only [Act.put, List.setIfInBounds_toArray, List.set_cons_zero, List.set_cons_succ]; rfl))) | (refine' Plan2.load (N := (some 136)) rfl (by rfl) rfl ?_ ?_ ?_; rotate_left 2; (focus (intro w' hS; (try dsimp only at hS); go_simp; exact Plan2.isV)); (focus (simp only [Act.put, List.setIfInBounds_toArray, List.set_cons_zero, List.set_cons_succ]; rfl))))
                (first | (refine' Plan2.off (N := (some 137)) rfl (by rfl) rfl ?_ ?_; rotate_left 1; (focus (simp only [Act.put, List.setIfInBounds_toArray, List.set_cons_zero, List.set_cons_succ]; rfl))) | (refine' Plan2.pure (N := (some 137)) rfl (by rfl) rfl ?_ ?_ ?_; rotate_left 2; (focus (intro w'; go_simp; exact Plan2.isV)); (focus (simp only [Act.put, List.setIfInBounds_toArray, List.set_cons_zero, List.set_cons_succ]; rfl))))
                (first | (refine' Plan2.off (N := (some 138)) rfl (by rfl) rfl ?_ ?_; rotate_left 1; (focus (simp only [Act.put, List.setIfInBounds_toArray, List.set_cons_zero, List.set_cons_succ]; rfl))) | (refine' Plan2.pure (N := (some 138)) rfl (by rfl) rfl ?_ ?_ ?_; rotate_left 2; (focus (intro w'; go_simp; exact Plan2.isV)); (focus (simp only [Act.put, List.setIfInBounds_toArray, List.set_cons_zero, List.set_cons_succ]; rfl))))
                (refine' Plan2.pure (N := (some 139)) rfl (by rfl) rfl ?_ ?_ ?_; rotate_left 2; (focus (intro w'; go_simp; exact Plan2.isV)); (focus (simp only [Act.put, List.setIfInBounds_toArray, List.set_cons_zero, List.set_cons_succ]; rfl)))
                (refine' Plan2.pure (N := (some 140)) rfl (by rfl) rfl ?_ ?_ ?_; rotate_left 2; (focus (intro w'; go_simp; exact Plan2.isV)); (focus (simp only [Act.put, List.setIfInBounds_toArray, List.set_cons_zero, List.set_cons_succ]; rfl)))
                (first | (refine' Plan2.off (N := (some 141)) rfl (by rfl) rfl ?_ ?_; rotate_left 1; (focus (simp only [Act.put, List.setIfInBounds_toArray, List.set_cons_zero, List.set_cons_succ]; rfl))) | (refine' Plan2.pure (N := (some 141)) rfl (by rfl) rfl ?_ ?_ ?_; rotate_left 2; (focus (intro w'; go_simp; exact Plan2.isV)); (focus (simp only [Act.put, List.setIfInBounds_toArray, List.set_cons_zero, List.set_cons_succ]; rfl))))
                (first | (refine' Plan2.off (N := (some 142)) rfl (by rfl) rfl ?_ ?_; rotate_left 1; (focus (simp only [Act.put, List.setIfInBounds_toArray, List.set_cons_zero, List.set_cons_succ]; rfl))) | (refine' Plan2.pure (N := (some 142)) rfl (by rfl) rfl ?_ ?_ ?_; rotate_left 2; (focus (intro w'; go_simp; exact Plan2.isV)); (focus (simp only [Act.put, List.setIfInBounds_toArray, List.set_cons_zero, List.set_cons_succ]; rfl))))
                (first | (refine' Plan2.off (N := (some 143)) rfl (by rfl) rfl ?_ ?_; rotate_left 1; (focus (simp only [Act.put, List.setIfInBounds_toArray, List.set_cons_zero, List.set_cons_succ]; rfl))) | (refine' Plan2.pure (N := (some 143)) rfl (by rfl) rfl ?_ ?_ ?_; rotate_left 2; (focus (intro w'; go_simp; exact Plan2.isV)); (focus (simp only [Act.put, List.setIfInBounds_toArray, List.set_cons_zero, List.set_cons_succ]; rfl))))
                (first | (refine' Plan2.off (N := (some 144)) rfl (by rfl) rfl ?_ ?_; rotate_left 1; (focus (simp only [Act.put, List.setIfInBounds_toArray, List.set_cons_zero, List.set_cons_succ]; rfl))) | (refine' Plan2.load (N := (some 144)) rfl (by rfl) rfl ?_ ?_ ?_; rotate_left 2; (focus (intro w' hS; (try dsimp only at hS); go_simp; exact Plan2.isV)); (focus (simp only [Act.put, List.setIfInBounds_toArray, List.set_cons_zero, List.set_cons_succ]; rfl))))
                (first | (refine' Plan2.off (N := (some 145)) rfl (by rfl) rfl ?_ ?_; rotate_left 1; (focus (simp only [Act.put, List.setIfInBounds_toArray, List.set_cons_zero, List.set_cons_succ]; rfl))) | (refine' Plan2.pure (N := (some 145)) rfl (by rfl) rfl ?_ ?_ ?_; rotate_left 2; (focus (intro w'; go_simp; exact Plan2.isV)); (focus (simp only [Act.put, List.setIfInBounds_toArray, List.set_cons_zero, List.set_cons_succ]; rfl))))
                (first | (refine' Plan2.off (N := (some 146)) rfl (by rfl) rfl ?_ ?_; rotate_left 1; (focus (simp only [Act.put, List.setIfInBounds_toArray, List.set_cons_zero, List.set_cons_succ]; rfl))) | (refine' Plan2.pure (N := (some 146)) rfl (by rfl) rfl ?_ ?_ ?_; rotate_left 2; (focus (intro w'; go_simp; exact Plan2.isV)); (focus (simp only [Act.put, List.setIfInBounds_toArray, List.set_cons_zero, List.set_cons_succ]; rfl))))
                (refine' Plan2.pure (N := (some 147)) rfl (by rfl) rfl ?_ ?_ ?_; rotate_left 2; (focus (intro w'; go_simp; exact Plan2.isV)); (focus (simp only [Act.put, List.setIfInBounds_toArray, List.set_cons_zero, List.set_cons_succ]; rfl)))
                refine Plan2.done ?_
                go_wp2_with fail
                go_roundw
                case measure => have := HR.out.2.2.2; simp [intOf] <;> omega
                case rel => exact ⟨k + 1, t3.set j 0, by go_num, HR.out.2.2.2, by rw [List.length_set]; exact HX3.out.2.2.2.2, HR.out.1, HR.out.2.1, HR.out.2.2.1, HX3.out.2.2.2.1⟩
              · obtain rfl : k = X.length := by omega
                have hM3 := HX3.out.1
                rw [List.drop_length, List.append_nil] at hM3
                have HM3 := Aside0.mk hM3; clear hM3
                go_wp2_with fail
                go_roundw
                case measure => simp [intOf] <;> omega
                case rel => exact ⟨s + 1, F4, 1099511627776, M, t3, by go_num, by omega, (by first | exact fun _ => HEND.out | exact fun h => by omega), HX3.out.2.2.2.2, HM3.out, HX3.out.2.1⟩
        · obtain rfl : s = K + 1 := by omega
          obtain rfl := hend rfl
          have hs31 : ((K + 1 : Nat) : Int) ≤ steps.length := by have := HK.out.2; omega
          have hs32 : ¬ ((K + 1 : Nat) : Int) ≤ 60 := by have := HK.out.2; omega
          go_wp2_with fail
          go_loopw [17] (fun v17 w' => OnceD t2 wr v17 w') (fun v17 _ => i - (intOf v17).toNat)
          case atStart => exact ⟨0, rfl, Nat.zero_le _, rfl⟩
          case round =>
            obtain ⟨k, rfl, hk, rfl⟩ := hrel
            by_cases hk2 : k < i
            · have hz7 : (k : Int) < (i : Int) := by omega
              have hI3 := HI2.out.2
              have hlen := HLEN.out
              obtain ⟨ga, cap, he, _, _⟩ := hI3.row.form (by omega)
              injection he with he e2 e3
              subst he
              clear e2 e3
              have hrow := hI3.row
              rw [hlen] at hrow
              have hcell := own_at hrow (k : Int) (by omega) (by omega)
              rw [rd_zero HI2.out.1 (by omega), Int.toNat_natCast] at hcell
              obtain ⟨hca, hfa⟩ := hcell
              clear hI3 hlen hrow
              go_wp2_with fail
              go_roundw
              case measure => simp [intOf] <;> omega
              case rel => exact ⟨k + 1, by go_num, by have := HLEN.out; omega, rfl⟩
            · have hz7 : ¬ (k : Int) < (i : Int) := by omega
              go_wp2_with fail
              refine (len_any wr F2 g now [] HI2.out.2.isw).mono ?_
              rintro e w' ⟨rfl, rfl⟩
              go_wp2_with fail
              refine (known_any _).mono ?_
              rintro e w11 ⟨rfl, hb⟩
              go_wp2_with fail
              go_ret
              exact ⟨rfl, (HI2.out.2.own.step hb).below⟩
end Go.Proofs.Ytodgcfkdnellpaa
