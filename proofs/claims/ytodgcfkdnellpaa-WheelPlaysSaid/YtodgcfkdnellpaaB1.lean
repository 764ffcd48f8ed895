/- Wheel: Drop. -/
import Derived.Test.YtodgcfkdnellpaaA9
set_option linter.unusedSimpArgs false
set_option linter.unusedVariables false
namespace Go.Proofs.Ytodgcfkdnellpaa
open Go.RowKit Go.Maps Go.Proofs.YtodgcfkdnellpaaW.PrintWords
structure TurnW (w w' : World) (F F' : Nat → Prop) : Prop where
  fr : Fr F w w'
  new : ∀ k, F' k → F k ∨ w.heap.size ≤ k
def DropPost (w : World) (F : Nat → Prop) (g : Nat) (now : Int) (L : List Du) (r : Bool) (e : Ending) (w' : World) : Prop := e = .returned (.bool r) ∧ ∃ F', IsW w' F' g now L ∧ TurnW w w' F F'
theorem drop_end {w w1 w2 : World} {F F1 : Nat → Prop} {g bm : Nat} {now : Int} {R1 : Nat → Value} {C1 : Nat → List Du} {L : List Du} {D : DataW Nat} {n : Nat} {x : Int} (hr : Raw w1 F1 g bm now R1 C1) (ht : Turn w w1 F F1 bm) (hF : F bm) (hm : MapIs w1 bm L) (htd : Tidy D) (hsz : Maps.size D = L.length) (hh : ∀ x : Int, Maps.has D (.int .i64 x) = L.any (fun d => d.id == x)) (ha : ∀ x : Int, D.atKey (.int .i64 x) z0 = .lit (.int .i64 (atOf L x)))
    (hn : (L.map (·.id)).Nodup) (hany : L.any (fun d => d.id == x) = true) (ho : w2.ownsMap Try.prog 2 (plainElem Try.prog 2) bm n (D.del (.int .i64 x))) (hg : w1.grownBy w2 (some bm)) (hi : Inv now C1 (dropL L x)) : ∃ F', IsW w2 F' g now (dropL L x) ∧ TurnW w w2 F F' := by
  have hb := hr.map_ne hm
  have hf : Fr (fun k => k = bm) w1 w2 := (Fr.of_grown hg).mono (fun k _ h => by injection h with h; exact h.symm)
  have hfF : Fr F w w2 := (ht.fr.mono (fun _ _ h => h.1)).trans hf (fun k h => .inl (by rw [h]; exact hF))
  refine ⟨F1, ⟨bm, R1, C1, ?_, mapis_drop htd hsz hh ha hn hany ho, hi⟩, hfF, ht.new⟩
  obtain ⟨cs, hbk, hrest⟩ := hr.blk
  exact ⟨⟨cs, hf.blk hbk (fun e => hb.1 e), hrest⟩, fun i hi => (hr.row i hi).frame hf (fun k hk e => hb.2 i hi (by rw [hk, e])), hr.apart, hr.fg, hr.fm, hr.fr, fun k hk => Nat.lt_of_lt_of_le (hr.lt k hk) hf.size⟩
theorem in_row {now : Int} {C : Nat → List Du} {L : List Du} (h : Inv now C L) {d : Du} (hd : d ∈ L) {k : Nat} (hk : k < 64) (h1 : d.at_ - now < 64) (h2 : d.at_ % 64 = k) : 0 < (C k).length ∧ (C k).length ≤ 4096 := by
  have hp := h.near k hk
  rw [hp.length_eq]
  refine ⟨List.length_pos_of_mem (List.mem_filter.2 ⟨hd, by simpa using ⟨h1, h2⟩⟩), Nat.le_trans (List.length_filter_le _ _) h.few⟩
theorem row_few {now : Int} {C : Nat → List Du} {L : List Du} (h : Inv now C L) {k : Nat} (hk : k < 65) : (C k).length ≤ 4096 := by
  by_cases h64 : k = 64
  · subst h64; rw [h.far]; exact Nat.le_trans (List.length_filter_le _ _) h.few
  · rw [(h.near k (by omega)).length_eq]; exact Nat.le_trans (List.length_filter_le _ _) h.few
set_option maxHeartbeats 4000000 in
set_option maxRecDepth 100000 in
theorem drop_any (w : World) (F : Nat → Prop) (g : Nat) (now : Int) (L : List Du) (x : Int) (hx : (Lit.int .i64 x).wf = true) (h : IsW w F g now L) : Calls Try.prog 17 #[.pointer (some ⟨g, 0, none⟩), .int .i64 x] w (DropPost w F g now (dropL L x) (L.any (fun d => d.id == x))) := by
  obtain ⟨bm, R, C, hr, ⟨D, hm, hsz, hh, ha⟩, hi⟩ := h
  have hbm := hr.map_ne ⟨D, hm, hsz, hh, ha⟩
  have htd := hm.tidy law2
  have c0 := hr.cell0
  have c1 := hr.cell1
  have hax := ha x
  have hhx := hh x
  obtain ⟨b, hb⟩ : ∃ b, b = L.any (fun d => d.id == x) := ⟨_, rfl⟩
  rw [← hb] at hhx ⊢
  have HK := keyOf_int_mk (P := Try.prog) Try.underlying2 hx
  have HR := Aside0.mk (And.intro hr (And.intro hi (And.intro hbm hb)))
  have HM := Aside0.mk (And.intro htd (And.intro hsz (And.intro hh ha)))
  clear hr hi hbm htd hsz hh ha hb
  cases b with
  | false =>
    have hz : atOf L x = 0 := atOf_none HR.out.2.2.2.symm
    rw [hz] at hax
    have HA := Aside0.mk hax; clear hax hz
    go_enter Try.func17, Try.ntmps17
    go_wp2_with (first | (at_lookup; refine wpList_lookup_own_ok_int _ rfl _ _ 60 rfl 2 2 .i64 law2 Try.underlying60 Try.underlying2 (zero2 _) bm L.length D rfl hm _ _ rfl HK ?_; intro c hat hwc; obtain rfl : c = 0 := (by have := hat.symm.trans HA.out; injection this with this; injection this); rw [hhx]; clear hat hwc))
    go_ret
    unfold DropPost
    rw [drop_none HR.out.2.2.2.symm]
    exact ⟨rfl, F, ⟨bm, R, C, HR.out.1, ⟨D, hm, HM.out.2⟩, HR.out.2.1⟩, Fr.refl _ _, fun k hk => .inl hk⟩
  | true =>
    obtain ⟨d, hd, hdx⟩ := any_mem HR.out.2.2.2.symm
    have hat0 : atOf L x = d.at_ := by rw [← hdx]; exact atOf_mem HR.out.2.1.ids hd
    rw [hat0] at hax
    have HA := Aside0.mk hax
    have hlate := HR.out.2.1.late d hd
    have hn0 := HR.out.2.1.now0
    have hn1 := HR.out.2.1.now1
    have hdue : due d = .agg #[.int .i64 x, .int .i64 d.at_] := by unfold due; rw [hdx]
    obtain ⟨xa, hxa⟩ : ∃ a, a = d.at_ := ⟨_, rfl⟩
    have HD := Aside0.mk (And.intro hd (And.intro hdx (And.intro hxa hlate)))
    have Hw := Aside0.mk hm
    rw [← hxa] at hdue hlate HA
    clear hax hat0 hd hdx hxa
    by_cases hnear : xa - now < 64
    · obtain ⟨k, hk⟩ : ∃ k : Nat, d.at_ % 64 = k := ⟨(d.at_ % 64).toNat, by have := HD.out.2.2.1; omega⟩
      have hk64 : k < 64 := by omega
      have hrowk := in_row HR.out.2.1 HD.out.1 hk64 (by rw [← HD.out.2.2.1]; exact hnear) hk
      have hpl := place_near w g now xa c0 hn0 hn1 (by omega) (by omega) hnear
      have htk := take_near w F g bm now R C d k HR.out.1 HR.out.2.2.1 hk64 hk (by have := HD.out.2.2.2; omega) hrowk.2 hrowk.1
      rw [hdue] at htk
      have HP := Aside0.mk hpl; have HT := Aside0.mk htk; have HKk := Aside0.mk (And.intro hk hk64); clear hpl htk hrowk hk hk64 hdue
      go_enter Try.func17, Try.ntmps17
      go_wp2_with (first | (at_lookup; refine wpList_lookup_own_ok_int _ rfl _ _ 60 rfl 2 2 .i64 law2 Try.underlying60 Try.underlying2 (zero2 _) bm L.length D rfl hm _ _ rfl HK ?_; intro c hat hwc; obtain rfl : c = xa := (by have := hat.symm.trans HA.out; injection this with this; injection this); rw [hhx]; clear hat hwc))
      refine HP.out.mono ?_
      rintro e w1 ⟨rfl, rfl⟩
      go_wp2_with fail
      refine HT.out.mono ?_
      rintro e w1 ⟨rfl, F1, R1, hr1, ht1⟩
      have hm1 := ht1.fr.map hm (fun h => h.2 rfl)
      have c1' := hr1.cell1
      have HE := Aside0.mk (And.intro hr1 ht1); clear hr1 ht1 c0 c1 hm
      go_wp2_with (first | (at_delete; refine wpList_delete_own _ rfl _ _ 60 2 rfl 2 law2 Try.underlying60 _ bm _ D rfl hm1 _ _ rfl HK ?_; intro w2 hown2 hturn2))
      go_ret
      have hmm := HM.out
      refine ⟨rfl, drop_end HE.out.1 HE.out.2 HR.out.1.fm ⟨D, hm1, hmm.2⟩ hmm.1 hmm.2.1 hmm.2.2.1 hmm.2.2.2 HR.out.2.1.ids HR.out.2.2.2.symm hown2 hturn2.grown ?_⟩
      have := HR.out.2.1.drop HD.out.1 k (.inl ⟨by rw [← HD.out.2.2.1]; exact hnear, by have := HKk.out.1; omega⟩)
      rw [HD.out.2.1] at this
      exact this
    · have hrowk : 0 < (C 64).length ∧ (C 64).length ≤ 4096 := by
        refine ⟨?_, row_few HR.out.2.1 (by omega)⟩
        rw [HR.out.2.1.far]
        exact List.length_pos_of_mem (List.mem_filter.2 ⟨HD.out.1, by rw [← HD.out.2.2.1]; simp; omega⟩)
      have hpl := place_far w g now xa c0 hn0 hn1 (by omega) (by omega) hnear
      have htk := take_far w F g bm now R C d HR.out.1 HR.out.2.2.1 hrowk.2 hrowk.1
      rw [hdue] at htk
      have HP := Aside0.mk hpl; have HT := Aside0.mk htk; clear hpl htk hrowk hdue
      go_enter Try.func17, Try.ntmps17
      go_wp2_with (first | (at_lookup; refine wpList_lookup_own_ok_int _ rfl _ _ 60 rfl 2 2 .i64 law2 Try.underlying60 Try.underlying2 (zero2 _) bm L.length D rfl hm _ _ rfl HK ?_; intro c hat hwc; obtain rfl : c = xa := (by have := hat.symm.trans HA.out; injection this with this; injection this); rw [hhx]; clear hat hwc))
      refine HP.out.mono ?_
      rintro e w1 ⟨rfl, rfl⟩
      go_wp2_with fail
      refine HT.out.mono ?_
      rintro e w1 ⟨rfl, F1, R1, hr1, ht1⟩
      have hm1 := ht1.fr.map hm (fun h => h.2 rfl)
      have c1' := hr1.cell1
      have HE := Aside0.mk (And.intro hr1 ht1); clear hr1 ht1 c0 c1 hm
      go_wp2_with (first | (at_delete; refine wpList_delete_own _ rfl _ _ 60 2 rfl 2 law2 Try.underlying60 _ bm _ D rfl hm1 _ _ rfl HK ?_; intro w2 hown2 hturn2))
      go_ret
      have hmm := HM.out
      refine ⟨rfl, drop_end HE.out.1 HE.out.2 HR.out.1.fm ⟨D, hm1, hmm.2⟩ hmm.1 hmm.2.1 hmm.2.2.1 hmm.2.2.2 HR.out.2.1.ids HR.out.2.2.2.symm hown2 hturn2.grown ?_⟩
      have := HR.out.2.1.drop HD.out.1 64 (.inr ⟨by rw [← HD.out.2.2.1]; omega, rfl⟩)
      rw [HD.out.2.1] at this
      exact this
end Go.Proofs.Ytodgcfkdnellpaa
