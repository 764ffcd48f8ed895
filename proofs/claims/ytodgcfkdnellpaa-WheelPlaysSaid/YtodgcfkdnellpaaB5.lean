/- Wheel: Set. -/
import Derived.Test.YtodgcfkdnellpaaB4
import Derived.Test.YtodgcfkdnellpaaB1
set_option linter.unusedSimpArgs false
set_option linter.unusedVariables false
namespace Go.Proofs.Ytodgcfkdnellpaa
open Go.RowKit Go.Maps Go.Proofs.YtodgcfkdnellpaaW.PrintWords
theorem me82 (g o : Nat) (w : World) : (method 233 82 (.pointer (some ⟨g, o, none⟩)) "steelyard/wheel.put").run Try.prog w = .ok (30, .pointer (some ⟨g, o, none⟩)) w := by kernel_rfl
theorem me83 (g o : Nat) (w : World) : (method 233 83 (.pointer (some ⟨g, o, none⟩)) "steelyard/wheel.put").run Try.prog w = .ok (74, .pointer (some ⟨g, o, none⟩)) w := by kernel_rfl
theorem set_end {w w2 w3 : World} {F F1 : Nat → Prop} {g bm : Nat} {now : Int} {C3 : Nat → List Du} {L : List Du} (hm : MapIs w2 bm L) (ht : TurnW w w2 F F1) (hF : F1 bm) (hF1 : ∀ k, F1 k → k < w2.heap.size) (hsz : w.heap.size ≤ w2.heap.size) (hi : Inv now C3 L) (hp : ∃ F' R', Raw w3 F' g bm now R' C3 ∧ Turn w2 w3 F1 F' bm) : ∃ F', IsW w3 F' g now L ∧ TurnW w w3 F F' := by
  obtain ⟨F', R', h1, h2⟩ := hp
  refine ⟨F', ⟨bm, R', C3, h1, hm.frame h2.fr (fun h => h.2 rfl), hi⟩, ht.fr.trans h2.fr (fun k h => ht.new k h.1), fun k hk => ?_⟩
  rcases h2.new k hk with h | h
  · exact ht.new k h
  · exact .inr (by omega)
def setRes (now : Int) (L : List Du) (x a : Int) : Int := if a ≤ now then 21 else if 1099511627776 < a then 1 else if L.any (fun d => d.id == x) = false ∧ L.length = 4096 then 4 else 0
def setL (now : Int) (L : List Du) (x a : Int) : List Du := if setRes now L x a = 0 then insDu ⟨x, a⟩ (dropL L x) else L
def SetPost (w : World) (F : Nat → Prop) (g : Nat) (now : Int) (L : List Du) (r : Int) (e : Ending) (w' : World) : Prop := e = .returned (.int .i64 r) ∧ ∃ F', IsW w' F' g now L ∧ TurnW w w' F F'
theorem TurnW.refl (w : World) (F : Nat → Prop) : TurnW w w F F := ⟨Fr.refl _ _, fun k h => .inl h⟩
set_option maxHeartbeats 4000000 in
set_option maxRecDepth 100000 in
theorem set_err (w : World) (F : Nat → Prop) (g : Nat) (now : Int) (L : List Du) (x a : Int) (hx : (Lit.int .i64 x).wf = true) (h : IsW w F g now L) (hr : setRes now L x a ≠ 0) : Calls Try.prog 10 #[.pointer (some ⟨g, 0, none⟩), .int .i64 x, .int .i64 a] w (SetPost w F g now (setL now L x a) (setRes now L x a)) := by
  have HH := Aside0.mk h
  have e : setL now L x a = L := by unfold setL; rw [if_neg hr]
  rw [e]
  obtain ⟨bm, R, C, hr0, ⟨D, hm, hsz, hh, ha⟩, hi⟩ := h
  have c0 := hr0.cell0
  have c1 := hr0.cell1
  have hlen : ∀ ty, (Builtin.len_ #[60] ty #[.map (some bm)]).run Try.prog w = .ok (.int .i64 L.length) w := fun ty => by
    have := hm.len Try.underlying60 ty
    rw [hsz] at this
    exact this
  have hax := ha x
  have HK := keyOf_int_mk (P := Try.prog) Try.underlying2 hx
  have HM := Aside0.mk hm
  clear hr0 hi hsz hh ha e
  unfold setRes at hr ⊢
  by_cases h1 : a ≤ now
  · rw [if_pos h1]
    clear hr hm hlen hax
    go_enter Try.func10, Try.ntmps10
    go_wp2
    go_ret
    exact ⟨rfl, F, HH.out, TurnW.refl _ _⟩
  · rw [if_neg h1] at hr ⊢
    by_cases h2 : 1099511627776 < a
    · rw [if_pos h2]
      clear hr hm hlen hax
      go_enter Try.func10, Try.ntmps10
      go_wp2
      go_ret
      exact ⟨rfl, F, HH.out, TurnW.refl _ _⟩
    · rw [if_neg h2] at hr ⊢
      by_cases h3 : L.any (fun d => d.id == x) = false ∧ L.length = 4096
      · rw [if_pos h3]
        rw [atOf_none h3.1] at hax
        have h4 : (L.length : Int) = 4096 := by omega
        have HA := Aside0.mk hax; clear hax hr
        rw [h4] at hlen
        clear h3 h4
        go_enter Try.func10, Try.ntmps10
        go_wp2_with (first | (at_lookup; refine wpList_lookup_own_int _ rfl _ _ 60 rfl 2 2 .i64 law2 Try.underlying60 Try.underlying2 (zero2 _) bm L.length D rfl hm _ _ rfl HK ?_; intro c hat hwc; obtain rfl : c = 0 := (by have := hat.symm.trans HA.out; injection this with this; injection this); clear hat hwc))
        go_ret
        exact ⟨rfl, F, HH.out, TurnW.refl _ _⟩
      · rw [if_neg h3] at hr; exact absurd rfl hr
theorem drop_any_none (L : List Du) (x : Int) : (dropL L x).any (fun e => e.id == x) = false := by
  rw [any_drop]; simp
theorem set_mid {w w1 w2 : World} {F F1 : Nat → Prop} {g bm : Nat} {now x a : Int} {R1 : Nat → Value} {C1 : Nat → List Du} {L : List Du} {D : DataW Nat} {n : Nat} (hr : Raw w1 F1 g bm now R1 C1) (ht : TurnW w w1 F F1) (hbm : g ≠ bm ∧ ∀ i, i < 65 → (R1 i).ownBlock ≠ some bm) (hg : w1.grownBy w2 (some bm)) (htd : Tidy D) (hsz : Maps.size D = L.length) (hh : ∀ x : Int, Maps.has D (.int .i64 x) = L.any (fun d => d.id == x)) (ha : ∀ x : Int, D.atKey (.int .i64 x) z0 = .lit (.int .i64 (atOf L x)))
    (hn : (L.map (·.id)).Nodup) (hany : L.any (fun d => d.id == x) = false) (ho : w2.ownsMap Try.prog 2 (plainElem Try.prog 2) bm n (D.put (.int .i64 x) (.lit (.int .i64 a)))) : Raw w2 F1 g bm now R1 C1 ∧ MapIs w2 bm (insDu ⟨x, a⟩ L) ∧ TurnW w w2 F F1 := by
  have hf : Fr (fun k => k = bm) w1 w2 := (Fr.of_grown hg).mono (fun k _ h => by injection h with h; exact h.symm)
  refine ⟨?_, mapis_set (d := ⟨x, a⟩) htd hsz hh ha hn hany trivial ho, ht.fr.trans hf (fun k h => by rw [h]; exact ht.new bm hr.fm), ht.new⟩
  obtain ⟨cs, hbk, hrest⟩ := hr.blk
  exact ⟨⟨cs, hf.blk hbk (fun e => hbm.1 e), hrest⟩, fun i hi => (hr.row i hi).frame hf (fun k hk e => hbm.2 i hi (by rw [hk, e])), hr.apart, hr.fg, hr.fm, hr.fr, fun k hk => Nat.lt_of_lt_of_le (hr.lt k hk) hf.size⟩
set_option maxHeartbeats 4000000 in
set_option maxRecDepth 100000 in
theorem set_ok (w : World) (F : Nat → Prop) (g : Nat) (now : Int) (L : List Du) (x a : Int) (hx : (Lit.int .i64 x).wf = true) (h : IsW w F g now L) (hr : setRes now L x a = 0) : Calls Try.prog 10 #[.pointer (some ⟨g, 0, none⟩), .int .i64 x, .int .i64 a] w (SetPost w F g now (insDu ⟨x, a⟩ (dropL L x)) 0) := by
  have hdrop := drop_any w F g now L x hx h
  have HD := Aside0.mk hdrop
  have h0 := h
  obtain ⟨bm, R, C, hr0, ⟨D, hm, hsz, hh, ha⟩, hi⟩ := h
  have c0 := hr0.cell0
  have c1 := hr0.cell1
  have hlen : ∀ ty, (Builtin.len_ #[60] ty #[.map (some bm)]).run Try.prog w = .ok (.int .i64 L.length) w := fun ty => by
    have := hm.len Try.underlying60 ty
    rw [hsz] at this
    exact this
  have hax := ha x
  have HK := keyOf_int_mk (P := Try.prog) Try.underlying2 hx
  have h1 : ¬ a ≤ now := fun h => by unfold setRes at hr; rw [if_pos h] at hr; cases hr
  have h2 : ¬ 1099511627776 < a := fun h => by unfold setRes at hr; rw [if_neg h1, if_pos h] at hr; cases hr
  have h3 : ¬ (L.any (fun d => d.id == x) = false ∧ L.length = 4096) := fun h => by unfold setRes at hr; rw [if_neg h1, if_neg h2, if_pos h] at hr; cases hr
  have hroom : (dropL L x).length < 4096 := by
    cases hany : L.any (fun d => d.id == x) with
    | false => rw [drop_none hany]; have := hi.few; have : L.length ≠ 4096 := fun e => h3 ⟨hany, e⟩; omega
    | true => have := drop_len hi.ids hany; have := hi.few; omega
  have hnz : L.any (fun d => d.id == x) = true → atOf L x ≠ 0 := fun hany => by
    obtain ⟨d, hd, rfl⟩ := any_mem hany
    rw [atOf_mem hi.ids hd]
    have := hi.late d hd; have := hi.now0; omega
  have hne4 : atOf L x = 0 → ¬ (L.length : Int) = 4096 := fun hz e => by
    cases hany : L.any (fun d => d.id == x) with
    | false => exact h3 ⟨hany, by omega⟩
    | true => exact hnz hany hz
  have hn0 := hi.now0
  have hn1 := hi.now1
  have HA := Aside0.mk hax
  have HI := Aside0.mk (And.intro hroom hi.ids)
  obtain ⟨ax, hax2⟩ : ∃ z, z = atOf L x := ⟨_, rfl⟩
  rw [← hax2] at hne4 HA
  clear hr0 hi hsz hh ha hax hdrop h0 hr h3 hroom hnz hax2
  by_cases hz : ax = 0
  · have hl4 := hne4 hz
    subst hz
    clear hne4
    go_enter Try.func10, Try.ntmps10
    go_wp2_with (first | (at_lookup; refine wpList_lookup_own_int _ rfl _ _ 60 rfl 2 2 .i64 law2 Try.underlying60 Try.underlying2 (zero2 _) bm L.length D rfl hm _ _ rfl HK ?_; intro c hat hwc; obtain rfl : c = 0 := (by have := hat.symm.trans HA.out; injection this with this; injection this); clear hat hwc))
    refine HD.out.mono ?_
    rintro e w1 ⟨rfl, F1, hw1, ht1⟩
    obtain ⟨bm1, R1, C1, hr1, ⟨D1, hm1, hsz1, hh1, ha1⟩, hi1⟩ := hw1
    have hbm1 := hr1.map_ne ⟨D1, hm1, hsz1, hh1, ha1⟩
    have htd1 := hm1.tidy law2
    have c1' := hr1.cell1
    have hln : (dropL L x).length < maxLen := by have := HI.out.1; unfold maxLen; omega
    have H1 := Aside0.mk (And.intro hr1 (And.intro ht1 (And.intro hbm1 hi1)))
    have HM1 := Aside0.mk (And.intro htd1 (And.intro hsz1 (And.intro hh1 ha1)))
    clear hr1 ht1 hbm1 hi1 htd1 hsz1 hh1 ha1 c0 c1 hm hlen
    go_wp2_with (first | (at_mapUpdate; refine wpList_mapUpdate_own _ rfl _ _ _ 60 rfl 2 2 law2 Try.underlying60 _ bm1 (dropL L x).length D1 rfl hm1 hln _ _ _ rfl rfl HK _ [] (plainElem_int Try.underlying2 (WalkArith.wf_i64 (by omega))) ?_; intro w2 hown2 hgrow2))
    obtain ⟨hr2, hm2, ht2⟩ := set_mid H1.out.1 H1.out.2.1 H1.out.2.2.1 hgrow2 HM1.out.1 HM1.out.2.1 HM1.out.2.2.1 HM1.out.2.2.2 H1.out.2.2.2.ids (drop_any_none L x) hown2
    have c0'' := hr2.cell0
    have H2 := Aside0.mk (And.intro hr2 (And.intro hm2 ht2)); clear hr2 hm2 ht2 hown2 hgrow2 c1' hm1
    have hdue : due ⟨x, a⟩ = .agg #[.int .i64 x, .int .i64 a] := rfl
    by_cases hnear : a - now < 64
    · obtain ⟨k, hk⟩ : ∃ k : Nat, a % 64 = k := ⟨(a % 64).toNat, by omega⟩
      have hk64 : k < 64 := by omega
      have hput := put_any w2 F1 g bm1 now R1 C1 ⟨x, a⟩ k H2.out.1 H1.out.2.2.1 hk64 hk (by show 0 ≤ a; omega) (row_few H1.out.2.2.2 (by omega))
      rw [hdue] at hput
      have HP := Aside0.mk hput; have HKk := Aside0.mk (And.intro hk hk64); clear hput hk hk64 hdue
      refine (place_near w2 g now a c0'' hn0 hn1 (by omega) h2 hnear).mono ?_
      rintro e w3 ⟨rfl, rfl⟩
      have hme := me82
      go_wp2_with fail
      refine HP.out.mono ?_
      rintro e w4 ⟨rfl, hput⟩
      have HQ := Aside0.mk hput; clear hput
      go_wp2_with fail
      go_ret
      refine ⟨rfl, set_end H2.out.2.1 H2.out.2.2 H2.out.1.fm H2.out.1.lt H2.out.2.2.fr.size (H1.out.2.2.2.ins (drop_any_none L x) (by show now < a; omega) (by show a ≤ _; omega) hx HI.out.1 k _ (.inl ⟨hnear, by show k = (a % 64).toNat; have := HKk.out.1; omega, rfl⟩)) HQ.out⟩
    · have hne : ∀ e ∈ C1 64, e.id ≠ x := fun e he hex => by
        rw [H1.out.2.2.2.far] at he
        exact (mem_drop (List.mem_filter.1 he).1).2 hex
      have hput := late_any w2 F1 g bm1 now R1 C1 ⟨x, a⟩ H2.out.1 H1.out.2.2.1 (row_few H1.out.2.2.2 (by omega)) (by rw [H1.out.2.2.2.far]; exact H1.out.2.2.2.sorted.filter _) hne
      rw [hdue] at hput
      have HP := Aside0.mk hput; clear hput hdue hne
      refine (place_far w2 g now a c0'' hn0 hn1 (by omega) h2 hnear).mono ?_
      rintro e w3 ⟨rfl, rfl⟩
      have hme := me83
      go_wp2_with fail
      refine HP.out.mono ?_
      rintro e w4 ⟨rfl, hput⟩
      have HQ := Aside0.mk hput; clear hput
      go_wp2_with fail
      go_ret
      refine ⟨rfl, set_end H2.out.2.1 H2.out.2.2 H2.out.1.fm H2.out.1.lt H2.out.2.2.fr.size (H1.out.2.2.2.ins (drop_any_none L x) (by show now < a; omega) (by show a ≤ _; omega) hx HI.out.1 64 _ (.inr ⟨by show 64 ≤ a - now; omega, rfl, rfl⟩)) HQ.out⟩
  · have hl4 : True := trivial
    have hzb : (ax == 0) = false := by simpa using hz
    clear hne4
    go_enter Try.func10, Try.ntmps10
    go_wp2_with (first | (at_lookup; refine wpList_lookup_own_int _ rfl _ _ 60 rfl 2 2 .i64 law2 Try.underlying60 Try.underlying2 (zero2 _) bm L.length D rfl hm _ _ rfl HK ?_; intro c hat hwc; obtain rfl : c = ax := (by have := hat.symm.trans HA.out; injection this with this; injection this); clear hat hwc))
    refine HD.out.mono ?_
    rintro e w1 ⟨rfl, F1, hw1, ht1⟩
    obtain ⟨bm1, R1, C1, hr1, ⟨D1, hm1, hsz1, hh1, ha1⟩, hi1⟩ := hw1
    have hbm1 := hr1.map_ne ⟨D1, hm1, hsz1, hh1, ha1⟩
    have htd1 := hm1.tidy law2
    have c1' := hr1.cell1
    have hln : (dropL L x).length < maxLen := by have := HI.out.1; unfold maxLen; omega
    have H1 := Aside0.mk (And.intro hr1 (And.intro ht1 (And.intro hbm1 hi1)))
    have HM1 := Aside0.mk (And.intro htd1 (And.intro hsz1 (And.intro hh1 ha1)))
    clear hr1 ht1 hbm1 hi1 htd1 hsz1 hh1 ha1 c0 c1 hm hlen
    go_wp2_with (first | (at_mapUpdate; refine wpList_mapUpdate_own _ rfl _ _ _ 60 rfl 2 2 law2 Try.underlying60 _ bm1 (dropL L x).length D1 rfl hm1 hln _ _ _ rfl rfl HK _ [] (plainElem_int Try.underlying2 (WalkArith.wf_i64 (by omega))) ?_; intro w2 hown2 hgrow2))
    obtain ⟨hr2, hm2, ht2⟩ := set_mid H1.out.1 H1.out.2.1 H1.out.2.2.1 hgrow2 HM1.out.1 HM1.out.2.1 HM1.out.2.2.1 HM1.out.2.2.2 H1.out.2.2.2.ids (drop_any_none L x) hown2
    have c0'' := hr2.cell0
    have H2 := Aside0.mk (And.intro hr2 (And.intro hm2 ht2)); clear hr2 hm2 ht2 hown2 hgrow2 c1' hm1
    have hdue : due ⟨x, a⟩ = .agg #[.int .i64 x, .int .i64 a] := rfl
    by_cases hnear : a - now < 64
    · obtain ⟨k, hk⟩ : ∃ k : Nat, a % 64 = k := ⟨(a % 64).toNat, by omega⟩
      have hk64 : k < 64 := by omega
      have hput := put_any w2 F1 g bm1 now R1 C1 ⟨x, a⟩ k H2.out.1 H1.out.2.2.1 hk64 hk (by show 0 ≤ a; omega) (row_few H1.out.2.2.2 (by omega))
      rw [hdue] at hput
      have HP := Aside0.mk hput; have HKk := Aside0.mk (And.intro hk hk64); clear hput hk hk64 hdue
      refine (place_near w2 g now a c0'' hn0 hn1 (by omega) h2 hnear).mono ?_
      rintro e w3 ⟨rfl, rfl⟩
      have hme := me82
      go_wp2_with fail
      refine HP.out.mono ?_
      rintro e w4 ⟨rfl, hput⟩
      have HQ := Aside0.mk hput; clear hput
      go_wp2_with fail
      go_ret
      refine ⟨rfl, set_end H2.out.2.1 H2.out.2.2 H2.out.1.fm H2.out.1.lt H2.out.2.2.fr.size (H1.out.2.2.2.ins (drop_any_none L x) (by show now < a; omega) (by show a ≤ _; omega) hx HI.out.1 k _ (.inl ⟨hnear, by show k = (a % 64).toNat; have := HKk.out.1; omega, rfl⟩)) HQ.out⟩
    · have hne : ∀ e ∈ C1 64, e.id ≠ x := fun e he hex => by
        rw [H1.out.2.2.2.far] at he
        exact (mem_drop (List.mem_filter.1 he).1).2 hex
      have hput := late_any w2 F1 g bm1 now R1 C1 ⟨x, a⟩ H2.out.1 H1.out.2.2.1 (row_few H1.out.2.2.2 (by omega)) (by rw [H1.out.2.2.2.far]; exact H1.out.2.2.2.sorted.filter _) hne
      rw [hdue] at hput
      have HP := Aside0.mk hput; clear hput hdue hne
      refine (place_far w2 g now a c0'' hn0 hn1 (by omega) h2 hnear).mono ?_
      rintro e w3 ⟨rfl, rfl⟩
      have hme := me83
      go_wp2_with fail
      refine HP.out.mono ?_
      rintro e w4 ⟨rfl, hput⟩
      have HQ := Aside0.mk hput; clear hput
      go_wp2_with fail
      go_ret
      refine ⟨rfl, set_end H2.out.2.1 H2.out.2.2 H2.out.1.fm H2.out.1.lt H2.out.2.2.fr.size (H1.out.2.2.2.ins (drop_any_none L x) (by show now < a; omega) (by show a ≤ _; omega) hx HI.out.1 64 _ (.inr ⟨by show 64 ≤ a - now; omega, rfl, rfl⟩)) HQ.out⟩
theorem set_any (w : World) (F : Nat → Prop) (g : Nat) (now : Int) (L : List Du) (x a : Int) (hx : (Lit.int .i64 x).wf = true) (h : IsW w F g now L) : Calls Try.prog 10 #[.pointer (some ⟨g, 0, none⟩), .int .i64 x, .int .i64 a] w (SetPost w F g now (setL now L x a) (setRes now L x a)) := by
  by_cases hr : setRes now L x a = 0
  · rw [show setL now L x a = insDu ⟨x, a⟩ (dropL L x) from by unfold setL; rw [if_pos hr], hr]
    exact set_ok w F g now L x a hx h hr
  · exact set_err w F g now L x a hx h hr
end Go.Proofs.Ytodgcfkdnellpaa
