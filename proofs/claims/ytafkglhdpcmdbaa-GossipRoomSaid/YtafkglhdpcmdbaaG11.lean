/- Gossip: pick. -/
import Derived.Test.YtafkglhdpcmdbaaG10
set_option linter.unusedSimpArgs false
set_option linter.unusedVariables false
namespace Go.Proofs.Ytafkglhdpcmdbaa
open Go.RowKit Go.Proofs.YtafkglhdpcmdbaaW.PrintWords
open T (S39 k39 k39_mkM)
def PS (base g : Nat) (v : Value) (ps : List PI) (j : Nat) : Prop := QW g v ps j ∨ base ≤ j
structure PickInv (w wr : World) (base lb g : Nat) (most : Int) (v : Value) (ps : List PI) (room0 room : Int) (k : Nat) (qs : List PI) (vl : Value) (news : List S39) : Prop where
  raw : RawQ wr g most v qs
  len : qs.length = ps.length
  same : ∀ j (h : k ≤ j) (hj : j < ps.length), qs[j]'(by omega) = ps[j]
  blk : wr.heap[lb]? = some (.cells #[vl] 36 (0, 0))
  row : k39.R 39 wr base (TOk base lb) vl news
  eq : pickP room0 ps = (news ++ (pickP room (ps.drop k)).1, qs.take k ++ (pickP room (ps.drop k)).2)
  few : news.length ≤ k
  sub : ∀ j, QF g v qs j → QF g v ps j
  fr : Fr (PS base g v ps) w wr
def PickRel (w : World) (base lb g : Nat) (most : Int) (v : Value) (ps : List PI) (room0 : Int) (s1 s19 : Value) (wr : World) : Prop := ∃ (room : Int) (k : Nat) (qs : List PI) (vl : Value) (news : List S39), s1 = .int .i64 room ∧ s19 = .int .i64 k ∧ k ≤ ps.length ∧ room ≤ room0 ∧ PickInv w wr base lb g most v ps room0 room k qs vl news
theorem PickInv.start {w w1 : World} {base lb g : Nat} {most : Int} {v : Value} {ps : List PI} {room0 : Int} (hq : RawQ w1 g most v ps) (hl : w1.heap[lb]? = some (.cells #[.slice none 0 0] 36 (0, 0))) (hf : Fr (PS base g v ps) w w1) : PickInv w w1 base lb g most v ps room0 room0 0 ps (.slice none 0 0) [] :=
  ⟨hq, rfl, fun _ _ _ => rfl, hl, Kd.R_nil _ _ _ _ _, by simp, Nat.le_refl _, fun _ h => h, hf⟩
theorem PickInv.skip {w wr : World} {base lb g : Nat} {most : Int} {v : Value} {ps : List PI} {room0 room : Int} {k : Nat} {qs : List PI} {vl : Value} {news : List S39} (h : PickInv w wr base lb g most v ps room0 room k qs vl news) (hk : k < ps.length) (ht : ¬ tells room ps[k].it) : PickInv w wr base lb g most v ps room0 room (k + 1) qs vl news := by
  have hq : qs[k]'(by rw [h.len]; exact hk) = ps[k] := h.same k (Nat.le_refl _) hk
  refine ⟨h.raw, h.len, fun j h1 hj => h.same j (by omega) hj, h.blk, h.row, ?_, by have := h.few; omega, h.sub, h.fr⟩
  rw [h.eq, List.drop_eq_getElem_cons hk]
  simp only [pickP, if_neg ht]
  rw [List.take_succ_eq_append_getElem (by rw [h.len]; exact hk), hq]
  simp
/-- the item k told: its count, then the list -/
theorem PickInv.tell {w wr w9 : World} {base lb g : Nat} {most : Int} {v vl v1 : Value} {ps qs : List PI} {room0 room : Int} {k : Nat} {news : List S39} (h : PickInv w wr base lb g most v ps room0 room k qs vl news) (hk : k < ps.length) (ht : tells room ps[k].it) (hQb : ∀ j, QF g v ps j → j < base) (hb : base ≤ lb)
    (hl9 : w9.heap[lb]? = some (.cells #[v1] 36 (0, 0))) (hr9 : k39.R 39 w9 base (TOk base lb) v1 (news ++ [⟨ps[k].it.key, ps[k].it.data⟩])) (hf9 : Fr (fun j => j = lb ∨ vl.ownBlock = some j) (wr.setCell ⟨ps[k].p, 2, none⟩ (.int .i64 (ps[k].it.left - 1))) w9) :
    PickInv w w9 base lb g most v ps room0 (room - ps[k].it.data.length) (k + 1) (qs.set k ps[k].told) v1 (news ++ [⟨ps[k].it.key, ps[k].it.data⟩]) := by
  have hkq : k < qs.length := by rw [h.len]; exact hk
  have hq : qs[k] = ps[k] := h.same k (Nat.le_refl _) hk
  have hraw := h.raw.tell1 hkq
  rw [hq] at hraw
  have hsub : ∀ j, QF g v (qs.set k ps[k].told) j → QF g v ps j := fun j hj => h.sub j (QF_set (g := g) (v := v) hkq j (by rw [hq]; exact hj))
  have hown : ∀ j, vl.ownBlock = some j → base ≤ j := fun j hj => Kd.R_base h.row j hj
  refine ⟨hraw.frame hf9 (fun j hj hs => ?_), by rw [List.length_set]; exact h.len, fun j h1 hj => ?_, hl9, hr9, ?_, ?_, hsub, ?_⟩
  · have := hQb j (hsub j hj)
    rcases hs with rfl | hs
    · omega
    · have := hown j hs; omega
  · rw [List.getElem_set_ne (by omega)]; exact h.same j (by omega) hj
  · rw [h.eq, List.drop_eq_getElem_cons hk]
    simp only [pickP, if_pos ht]
    rw [List.take_succ_eq_append_getElem (by rw [List.length_set]; exact hkq), List.getElem_set_self, List.take_set_of_le (Nat.le_refl _)]
    simp
  · have := h.few; simp; omega
  · refine Fr.trans (h.fr.setCell (p := ⟨ps[k].p, 2, none⟩) (.inl (.inl (.inr (.inr ⟨ps[k], List.getElem_mem _, rfl⟩)))) _) hf9 (fun j hj => .inl (.inr ?_))
    rcases hj with rfl | hj
    · exact hb
    · exact hown j hj
def PickPost (w : World) (base lb g : Nat) (most : Int) (v : Value) (ps : List PI) (told : List S39) (left : List PI) (e : Ending) (w' : World) : Prop := e = .returned (.tuple #[]) ∧ ∃ v' vl, RawQ w' g most v' left ∧ w'.heap[lb]? = some (.cells #[vl] 36 (0, 0)) ∧ k39.R 39 w' base (TOk base lb) vl told ∧ Fr (PS base g v ps) w w' ∧ (∀ j, QF g v' left j → QF g v ps j)
theorem PickInv.finish {w w3 w4 : World} {base lb g : Nat} {most : Int} {v v' vl : Value} {ps qs : List PI} {room0 room : Int} {news : List S39} (h : PickInv w w3 base lb g most v ps room0 room ps.length qs vl news) (hQb : ∀ j, QF g v ps j → j < base) (hb : base ≤ lb)
    (hf4 : Fr (fun k => v.ownBlock = some k) w3 w4) (ho : w4.ownsRow 0 69 1 v' (qs.filter keepB).length ((qs.filter keepB).map (fun x : PI => ptr x.p))) (hvo : v'.ownBlock = v.ownBlock) :
    PickPost w base lb g most v ps (pickP room0 ps).1 ((pickP room0 ps).2.filter keepB) (.returned (.tuple #[])) (w4.setCell ⟨g, 1, none⟩ v') := by
  have he := h.eq
  rw [List.drop_length] at he
  simp only [pickP, List.append_nil] at he
  have hqs : qs.take ps.length = qs := by rw [← h.len]; exact List.take_length
  rw [hqs] at he
  rw [he]
  have hg4 := hf4.blk h.raw.blk (own_ne h.raw.row h.raw.blk (by decide)).symm
  have hf5 : Fr (fun k => k = g ∨ v.ownBlock = some k) w3 (w4.setCell ⟨g, 1, none⟩ v') := Fr.setCell (S := fun k => k = g ∨ v.ownBlock = some k) (p := ⟨g, 1, none⟩) (hf4.mono (fun k _ h => .inr h)) (.inl (.inl rfl)) _
  have hmem : ∀ x, x ∈ qs.filter keepB → x ∈ qs := fun x hx => (List.mem_filter.1 hx).1
  have hnl : ∀ j, j = g ∨ v.ownBlock = some j → j < base := fun j hj => hQb j (h.sub j (.inl (hj.elim .inl (fun h => .inr (.inl h)))))
  refine ⟨rfl, v', vl, ⟨by simpa using blk_set hg4 1 v', own_setCell ho (own_ne ho hg4 (by decide)) _, fun x hx => ?_, ?_⟩, hf5.blk h.blk (fun hj => ?_), ?_, ?_, ?_⟩
  · exact (h.raw.its x (hmem x hx)).frame hf5 (h.raw.it_apart (hmem x hx)).1 (h.raw.it_apart (hmem x hx)).2
  · exact List.Sublist.nodup (List.Sublist.map PI.p List.filter_sublist) h.raw.nodup
  · have := hnl _ hj; omega
  · exact Kd.R_step h.row (fun j hj hlt => hf5.block j hlt (fun hs => by have := hnl _ hs; have := hj.1; omega))
  · exact h.fr.trans hf5 (fun j hj => .inl (.inl (hj.elim .inl (fun h => .inr (.inl h)))))
  · intro j hj
    refine h.sub j ?_
    rcases hj with (rfl | hj | ⟨x, hx, rfl⟩) | ⟨x, hx, hj⟩
    · exact .inl (.inl rfl)
    · exact .inl (.inr (.inl (by rw [← hvo]; exact hj)))
    · exact .inl (.inr (.inr ⟨x, hmem x hx, rfl⟩))
    · exact .inr ⟨x, hmem x hx, hj⟩
theorem QW_perm {g : Nat} {v : Value} {ps qs : List PI} (hp : qs.Perm ps) (j : Nat) (h : QW g v qs j) : QW g v ps j := h.imp id (fun h => h.imp id (fun ⟨x, hx, hj⟩ => ⟨x, hp.mem_iff.1 hx, hj⟩))
theorem QF_perm {g : Nat} {v : Value} {ps qs : List PI} (hp : qs.Perm ps) (j : Nat) (h : QF g v qs j) : QF g v ps j := h.imp (QW_perm hp j) (fun ⟨x, hx, hj⟩ => ⟨x, hp.mem_iff.1 hx, hj⟩)
theorem PickPost.perm {w : World} {base lb g : Nat} {most : Int} {v : Value} {ps qs : List PI} {told : List S39} {left : List PI} {e : Ending} {w' : World} (hp : qs.Perm ps) (h : PickPost w base lb g most v qs told left e w') : PickPost w base lb g most v ps told left e w' := by
  obtain ⟨he, v', vl, h1, h2, h3, h4, h5⟩ := h
  exact ⟨he, v', vl, h1, h2, h3, h4.mono (fun j _ hj => hj.imp (QW_perm hp j) id), fun j hj => QF_perm hp j (h5 j hj)⟩
set_option maxHeartbeats 4000000 in
set_option maxRecDepth 100000 in
theorem pick_any (w : World) (base lb g : Nat) (most : Int) (v : Value) (ps : List PI) (room : Int) (hq : RawQ w g most v ps) (hkeys : (ps.map (·.it.key)).Nodup) (h64 : ps.length ≤ 4096) (hgood : ∀ x ∈ ps, 0 < x.it.data.length ∧ x.it.data.length ≤ 140737488351232 ∧ 1 ≤ x.it.left ∧ x.it.left ≤ 1000)
    (hQb : ∀ j, QF g v ps j → j < base) (hb : base ≤ lb) (hl : w.heap[lb]? = some (.cells #[.slice none 0 0] 36 (0, 0))) (hroom : room ≤ 9223372036854775807) :
    Calls Try.prog 27 #[.pointer (some ⟨g, 0, none⟩), .int .i64 room, .func (.func 28) #[] #[.pointer (some ⟨lb, 0, none⟩)]] w fun e w' => ∃ ps0, ps0.Perm ps ∧ ps0.map (·.it) = sortQ (ps.map (·.it)) ∧ PickPost w base lb g most v ps (pickP room ps0).1 ((pickP room ps0).2.filter keepB) e w' := by
  obtain ⟨B, cv, rfl, hg, c0, c1, hfz⟩ := hq.facts
  have hs := sort_any w g most _ ps hq hkeys h64
  have HS := Aside0.mk hs; clear hs
  have HQ := Aside0.mk hq; clear hq
  have HG := Aside0.mk hgood; clear hgood
  have HB := Aside0.mk hQb; clear hQb
  have HL := Aside0.mk hl; clear hl
  have HK := Aside0.mk hkeys; clear hkeys
  go_enter Try.func27, Try.ntmps27
  go_wp2_with fail
  refine HS.out.mono ?_
  rintro e w1 ⟨rfl, ps0, hperm, hsort, hq1, hf1⟩
  have HP0 := Aside0.mk (And.intro hperm hsort); clear hperm hsort
  have HB0 := Aside0.mk (fun j (hj : QF g _ ps0 j) => HB.out j (QF_perm HP0.out.1 j hj))
  have hlen : ps0.length = ps.length := HP0.out.1.length_eq
  obtain ⟨B', cv', ee, hg1, d0, d1, e1⟩ := hq1.facts
  obtain ⟨rfl, rfl⟩ : B' = B ∧ cv' = cv := by injection ee with h1 _ h2; exact ⟨h1.symm, h2.symm⟩
  clear ee c0 c1 hfz hg e1
  have HQ1 := Aside0.mk hq1; clear hq1
  have HF1 := Aside0.mk hf1; clear hf1
  go_wp2_with fail
  go_loopw [1, 19] (fun r i wr => PickRel w base lb g most (.slice B' ps.length cv') ps0 room r i wr) (fun _ i _ => ps.length - (intOf i).toNat)
  case atStart => exact ⟨room, 0, ps0, .slice none 0 0, [], rfl, rfl, Nat.zero_le _, Int.le_refl _, PickInv.start HQ1.out (HF1.out.blk HL.out (fun h => by have := HB.out _ (.inl (.inr (.inl h))); omega)) (HF1.out.mono (fun k _ h => .inl (.inr (.inl h))))⟩
  case round =>
    obtain ⟨room1, k, qs, vl, news, rfl, rfl, hk, hrm, hI⟩ := hrel
    by_cases hlt : k < ps.length
    · have hlt0 : k < ps0.length := by omega
      have hltq : k < qs.length := by rw [hI.len]; omega
      have hqk : qs[k] = ps0[k] := hI.same k (Nat.le_refl _) hlt0
      have hx := hI.raw.its qs[k] (List.getElem_mem _)
      obtain ⟨xg0, xg1, xg2, xg3⟩ := HG.out ps0[k] (HP0.out.1.mem_iff.1 (List.getElem_mem _))
      rw [hqk] at hx
      rcases hI.raw.shape with ⟨_, hq0⟩ | ⟨b, c, cur, hv, _, _, _, _, hcell⟩
      · rw [hq0] at hltq; exact absurd hltq (Nat.not_lt_zero _)
      injection hv with hv1 hv2 hv3
      subst hv1; subst hv3; clear hv2
      have ck := hcell k hltq
      rw [hqk] at ck
      unfold ptr at ck
      clear hcell
      obtain ⟨xA, xc, hxv⟩ := own_slice hx.row
      have x0 := blk_cell hx.blk 0
      have x1 := blk_cell hx.blk 1
      have x2 := blk_cell hx.blk 2
      have f2 := blk_frozen hx.blk 2
      have hxr := hx.row
      have hxb := hx.blk
      obtain ⟨X, hX⟩ : ∃ X, X = ps0[k] := ⟨_, rfl⟩
      rw [← hX] at ck x0 x1 x2 f2 xg0 xg1 xg2 xg3 hxv hxr hxb
      rw [hxv] at hxr
      have HX := Aside0.mk hX; clear hX hx hqk
      have HI := Aside0.mk hI; clear hI
      obtain ⟨p, pv, key, xdata, left⟩ := X
      simp only [] at hxv
      subst hxv
      have x0' : wr.cell? ⟨p, 0, none⟩ = some (.int .i64 key) := x0
      have x1' : wr.cell? ⟨p, 1, none⟩ = some (.slice xA xdata.length xc) := x1
      have x2' : wr.cell? ⟨p, 2, none⟩ = some (.int .i64 left) := x2
      have HXR := Aside0.mk hxr; have HXB := Aside0.mk hxb
      simp only [] at ck f2 xg0 xg1 xg2 xg3
      clear x0 x1 x2 hxr hxb
      have hkz : (k : Int) < (ps.length : Int) := by omega
      by_cases ht : (xdata.length : Int) ≤ room1
      · have hr0 : 0 ≤ room1 - xdata.length := by omega
        have hr1 : room1 - xdata.length ≤ 9223372036854775807 := by omega
        go_wp2
        have hpb : p < base := HB0.out p (HI.out.sub p (.inl (.inr (.inr ⟨_, List.getElem_mem hltq, by rw [HI.out.same k (Nat.le_refl _) hlt0, ← HX.out]⟩))))
        have HT := Aside0.mk (show (wr.setCell ⟨p, 2, none⟩ (.int .i64 (left - 1))).drew.heap[lb]? = some (.cells #[vl] 36 (0, 0)) ∧ k39.R 39 (wr.setCell ⟨p, 2, none⟩ (.int .i64 (left - 1))).drew base (TOk base lb) vl news ∧ ReadsInt (wr.setCell ⟨p, 2, none⟩ (.int .i64 (left - 1))).drew .u8 xA xdata.length xdata ∧ news.length ≤ 4096 from
          ⟨blk_far HI.out.blk (p := ⟨p, 2, none⟩) (by show lb ≠ p; omega) _, Kd.R_drew (Kd.R_far (p := ⟨p, 2, none⟩) HI.out.row (fun j hj h => by have := hj.1; simp only [] at h; omega) _), own_reads' (own_setCell HXR.out (p := ⟨p, 2, none⟩) (own_ne HXR.out HXB.out (by decide)) _), by have := HI.out.few; omega⟩)
        have hx0' : (wr.setCell ⟨p, 2, none⟩ (.int .i64 (left - 1))).drew.cell? ⟨p, 0, none⟩ = some (.int .i64 key) := by go_simp
        have hx1' : (wr.setCell ⟨p, 2, none⟩ (.int .i64 (left - 1))).drew.cell? ⟨p, 1, none⟩ = some (.slice xA xdata.length xc) := by go_simp
        refine Plan2.region 9 (fun w' => w'.cell? ⟨p, 0, none⟩ = some (.int .i64 key) ∧ w'.cell? ⟨p, 1, none⟩ = some (.slice xA xdata.length xc)) [(0, 0), (1, 0), (2, 0), (3, 0), (4, 1), (5, 0), (6, 0), (7, 0), (8, 1), (9, 2)] (by kernel_rfl) (by kernel_rfl) (fun _ _ d _ _ h => by cases d <;> exact h) ?_ ?_
        focus exact ⟨hx0', hx1'⟩
        (refine' Plan2.pure (N := (some 41)) rfl (by rfl) rfl ?_ ?_ ?_; rotate_left 2; (focus (intro w'; go_simp; exact Plan2.isV)); (focus (simp only [Act.put, List.setIfInBounds_toArray, List.set_cons_zero, List.set_cons_succ]; rfl)))
        (refine' Plan2.pure (N := (some 42)) rfl (by rfl) rfl ?_ ?_ ?_; rotate_left 2; (focus (intro w'; go_simp; exact Plan2.isV)); (focus (simp only [Act.put, List.setIfInBounds_toArray, List.set_cons_zero, List.set_cons_succ]; rfl)))
        (refine' Plan2.pure (N := (some 43)) rfl (by rfl) rfl ?_ ?_ ?_; rotate_left 2; (focus (intro w'; go_simp; exact Plan2.isV)); (focus (simp only [Act.put, List.setIfInBounds_toArray, List.set_cons_zero, List.set_cons_succ]; rfl)))
        (refine' Plan2.pure (N := (some 44)) rfl (by rfl) rfl ?_ ?_ ?_; rotate_left 2; (focus (intro w'; go_simp; exact Plan2.isV)); (focus (simp only [Act.put, List.setIfInBounds_toArray, List.set_cons_zero, List.set_cons_succ]; rfl)))
        (refine' Plan2.load (N := (some 45)) rfl (by rfl) rfl ?_ ?_ ?_; rotate_left 2; (focus (intro w' hS; (try dsimp only at hS); go_simp; exact Plan2.isV)); (focus (simp only [Act.put, List.setIfInBounds_toArray, List.set_cons_zero, List.set_cons_succ]; rfl)))
        (refine' Plan2.pure (N := (some 46)) rfl (by rfl) rfl ?_ ?_ ?_; rotate_left 2; (focus (intro w'; go_simp; exact Plan2.isV)); (focus (simp only [Act.put, List.setIfInBounds_toArray, List.set_cons_zero, List.set_cons_succ]; rfl)))
        (refine' Plan2.pure (N := (some 47)) rfl (by rfl) rfl ?_ ?_ ?_; rotate_left 2; (focus (intro w'; go_simp; exact Plan2.isV)); (focus (simp only [Act.put, List.setIfInBounds_toArray, List.set_cons_zero, List.set_cons_succ]; rfl)))
        (refine' Plan2.pure (N := (some 48)) rfl (by rfl) rfl ?_ ?_ ?_; rotate_left 2; (focus (intro w'; go_simp; exact Plan2.isV)); (focus (simp only [Act.put, List.setIfInBounds_toArray, List.set_cons_zero, List.set_cons_succ]; rfl)))
        (refine' Plan2.load (N := (some 49)) rfl (by rfl) rfl ?_ ?_ ?_; rotate_left 2; (focus (intro w' hS; (try dsimp only at hS); go_simp; exact Plan2.isV)); (focus (simp only [Act.put, List.setIfInBounds_toArray, List.set_cons_zero, List.set_cons_succ]; rfl)))
        (refine' Plan2.acts (past' := true) rfl (by rfl) rfl (fun K hK => ?_); go_simp; (refine (tell_any base lb vl news key xA xc xdata _ HT.out.1 hb HT.out.2.1 HT.out.2.2.1 xg0 xg1 HT.out.2.2.2).mono ?_); rintro e w9 hpost; obtain ⟨rfl, hpost⟩ := hpost; have HP := Aside0.mk hpost; clear hpost; (refine hK.out _ _ (fun hp => ?_) (fun hS => ?_)); (focus (cases hp)))
        refine Plan2.done ?_
        go_wp2
        go_roundw
        case measure => simp [intOf]; omega
        case rel =>
          obtain ⟨v1, hl9, hr9, hf9⟩ := HP.out
          have hXk := HX.out
          have hm := PickInv.tell (k := k) (w9 := w9) (v1 := v1) HI.out hlt0 (by rw [← hXk]; exact ht) HB0.out hb hl9 (by rw [← hXk]; exact hr9) (by rw [← hXk]; exact ⟨hf9.os, hf9.tape, hf9.output, hf9.size, hf9.block⟩)
          rw [← hXk] at hm
          exact ⟨room1 - xdata.length, k + 1, _, v1, _, rfl, by go_num, by omega, by omega, hm⟩
      · go_wp2
        go_roundw
        case measure => simp [intOf]; omega
        case rel => exact ⟨room1, k + 1, qs, vl, news, rfl, by go_num, by omega, hrm, HI.out.skip hlt0 (by rw [← HX.out]; exact ht)⟩
    · have hkz : ¬ (k : Int) < (ps.length : Int) := by omega
      obtain ⟨B9, c9, ee, hg9, d09, d19, e19⟩ := hI.raw.facts
      rw [← ee] at d19
      have e191 := e19 1
      have hD := delete_all wr g most _ qs hI.raw (by rw [hI.len]; omega)
      have HD := Aside0.mk hD; have HI := Aside0.mk hI
      clear ee hD hI e19 d09
      go_wp2_with fail
      refine HD.out.mono ?_
      rintro e w4 ⟨v', rfl, hf4, ho4, hvo⟩
      obtain ⟨A4, n4, rfl⟩ := own_slice ho4
      have hg4 := hf4.blk HI.out.raw.blk (own_ne HI.out.raw.row HI.out.raw.blk (by decide)).symm
      have z1 := blk_cell hg4 1
      have z2 := blk_frozen hg4 1
      have HZ := Aside0.mk (And.intro hf4 (And.intro ho4 hvo))
      clear hf4 ho4 hvo hg4
      go_wp2
      go_end0
      obtain rfl : k = ps0.length := by omega
      exact ⟨ps0, HP0.out.1, HP0.out.2, PickPost.perm HP0.out.1 (PickInv.finish HI.out HB0.out hb HZ.out.1 HZ.out.2.1 HZ.out.2.2)⟩
end Go.Proofs.Ytafkglhdpcmdbaa
