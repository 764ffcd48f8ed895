/- Gossip: put. -/
import Derived.Test.YtafkglhdpcmdbaaG3
set_option linter.unusedSimpArgs false
set_option linter.unusedVariables false
namespace Go.Proofs.Ytafkglhdpcmdbaa
open Go.RowKit Go.Proofs.YtafkglhdpcmdbaaW.PrintWords
theorem RawQ.facts {w : World} {g : Nat} {most : Int} {v : Value} {ps : List PI} (h : RawQ w g most v ps) : ∃ A c, v = .slice A ps.length c ∧ g < w.heap.size ∧ w.cell? ⟨g, 0, none⟩ = some (.int .i64 most) ∧ w.cell? ⟨g, 1, none⟩ = some (.slice A ps.length c) ∧ (∀ i, w.frozen? ⟨g, i, none⟩ = false) := by
  obtain ⟨A, c, rfl⟩ := own_slice h.row
  exact ⟨A, c, rfl, blk_lt h.blk, blk_cell h.blk 0, blk_cell h.blk 1, blk_frozen h.blk⟩
theorem info69 : (Try.prog.info? 69).map (fun i => (i.zero, i.size, i.bytes)) = some (some (.pointer none), 1, 8) := by kernel_rfl
theorem info5 : (Try.prog.info? 5).map (fun i => (i.zero, i.size, i.bytes)) = some (some (.int .u8 0), 1, 1) := by kernel_rfl
/-- slices.Clone at bytes that are there -/
theorem clone_any (w : World) (A : Option Addr) (c : Nat) (data : List Int) (hd : ReadsInt w .u8 A data.length data) (h0 : 0 < data.length) (hl : data.length ≤ 140737488351232) :
    Calls Try.prog 29 #[.slice A data.length c] w fun e w' => ∃ v', e = .returned v' ∧ w'.ownsRow w.heap.size 5 1 v' data.length (nums .u8 data) ∧ Below w.heap.size w w' := by
  obtain ⟨⟨b, off, sp⟩, rfl, hc⟩ := hd.2.2 h0
  obtain ⟨i0, hi, hz0, hz1, hz2⟩ := info_parts info5
  obtain rfl : sp = none := by
    have h1 := hc 0 h0
    cases sp with
    | none => rfl
    | some s =>
      simp only [Addr.add, if_true, World.cell?] at h1
      split at h1 <;> simp at h1
  have hcc : ∀ j, j < data.length → w.cell? ⟨b, off + j, none⟩ = some (.int .u8 (data.getD j 0)) := fun j hj => by
    have := hc j hj
    have e : (⟨b, off, none⟩ : Addr).add j = ⟨b, off + j, none⟩ := by unfold Addr.add; split <;> simp_all
    rwa [e] at this
  have hcon := AnyE.slices_Clone Try.cloneL i0 (.int .u8 0) 1 1 hi hz0 hz1 hz2 rfl (by decide) Try.sizeOf5 b off data.length c (nums .u8 data) w (by simp [nums]) (by unfold maxLen; omega) (by omega)
    (fun j u hu => by
      have hj : j < data.length := by have := (List.getElem?_eq_some_iff.1 hu).1; simpa [nums] using this
      rw [hcc j hj]
      simp [nums, List.getElem?_map, List.getElem?_eq_getElem hj] at hu
      rw [← hu, List.getD_eq_getElem?_getD, List.getElem?_eq_getElem hj]; rfl)
    (fun u hu => by simp [nums] at hu; obtain ⟨a, _, rfl⟩ := hu; rfl)
  exact hcon.mono fun e w' ⟨v', he, hown, _, hb⟩ => ⟨v', he, hown, hb⟩
/-- what a list of items becomes -/
def putL : List It → It → List It
  | [], x => [x]
  | y :: r, x => if y.key = x.key then x :: r else y :: putL r x
def hasKey (l : List It) (key : Int) : Bool := l.any (fun y => decide (y.key = key))
structure PutTo (w w' : World) (g : Nat) (most : Int) (v : Value) (ps : List PI) (v' : Value) (ps' : List PI) : Prop where
  raw : RawQ w' g most v' ps'
  fr : Fr (QW g v ps) w w'
  new : ∀ k, QF g v' ps' k → QF g v ps k ∨ w.heap.size ≤ k
set_option maxHeartbeats 1000000 in
theorem put_full (w : World) (g : Nat) (most : Int) (v : Value) (ps : List PI) (key : Int) (D : Value) (times : Int) (hq : RawQ w g most v ps) (hno : NoKey ps key) (hfull : (ps.length : Int) = most) (h64 : ps.length ≤ 4096) :
    Calls Try.prog 26 #[.pointer (some ⟨g, 0, none⟩), .int .i64 key, D, .int .i64 times] w fun e w' => e = .returned (.int .i64 4) ∧ Below w.heap.size w w' := by
  have hcon := find_any w g most key v ps hq
  have HC := Aside0.mk hcon; clear hcon
  have HQ := Aside0.mk hq; clear hq
  have HN := Aside0.mk hno; clear hno
  subst hfull
  go_enter Try.func26, Try.ntmps26
  go_wp2_with fail
  refine HC.out.mono ?_
  rintro e w1 ⟨A, rfl, hA, hb⟩
  obtain rfl : A = none := by
    rcases hA with ⟨h, _⟩ | ⟨k, hk, _, hf⟩
    · exact h
    · obtain ⟨hk, hkk, _⟩ := hf
      exact absurd hkk (HN.out _ (List.getElem_mem _))
  clear hA
  obtain ⟨B, c, rfl, hg, c0, c1, hfz⟩ := (HQ.out.below hb).facts
  have HB := Aside0.mk hb; clear hb hfz
  go_wp2
  go_quiet (fail)
  go_wp2
  go_ret
  exact ⟨rfl, pw_below_drewN HB.out _⟩
theorem put_app {w2 w3 : World} {g : Nat} {most key : Int} {v : Value} {ps : List PI} (hq : RawQ w2 g most v ps) (hg : (w2.alloc (.cells #[.int .i64 key, .slice none 0 0, .int .i64 0] 72)).grownBy w3 v.ownBlock) :
    w3.heap[g]? = some (.cells #[.int .i64 most, v] 63 (0, 0)) ∧ w3.heap[w2.heap.size]? = some (.cells #[.int .i64 key, .slice none 0 0, .int .i64 0] 72 (0, 0)) ∧ w2.heap.size < w3.heap.size := by
  have hq' := hq.below (below_alloc (Below.refl _ _) (.cells #[.int .i64 key, .slice none 0 0, .int .i64 0] 72))
  have hn : (w2.alloc (.cells #[.int .i64 key, .slice none 0 0, .int .i64 0] 72)).heap[w2.heap.size]? = some (.cells #[.int .i64 key, .slice none 0 0, .int .i64 0] 72 (0, 0)) := heap_alloc_new w2 _
  have h3 := blk_grown hn hg (own_ne hq'.row hn (by decide))
  exact ⟨blk_grown hq'.blk hg (own_ne hq'.row hq'.blk (by decide)), h3, blk_lt h3⟩
/-- the queue's own two blocks -/
def Q2 (g : Nat) (v : Value) (k : Nat) : Prop := k = g ∨ v.ownBlock = some k
theorem Q2.qw {g : Nat} {v : Value} {ps : List PI} (k : Nat) (h : Q2 g v k) : QW g v ps k := h.elim .inl (fun h => .inr (.inl h))
theorem RawQ.it_apart {w : World} {g : Nat} {most : Int} {v : Value} {ps : List PI} (hq : RawQ w g most v ps) {y : PI} (hy : y ∈ ps) : ¬ Q2 g v y.p ∧ ∀ k, y.v.ownBlock = some k → ¬ Q2 g v k := by
  have hi := hq.its y hy
  refine ⟨fun h => ?_, fun k hk h => ?_⟩
  · rcases h with h | h
    · exact blk_ne hi.blk hq.blk (by decide) h
    · exact own_ne hq.row hi.blk (by decide) h.symm
  · rcases h with h | h
    · subst h; exact own_ne hi.row hq.blk (by decide) hk.symm
    · rcases own_type_ne hi.row hq.row (by decide) with h2 | h2
      · rw [h2] at hk; cases hk
      · exact h2 (hk.trans h.symm)
theorem put_close {w w4 w5 : World} {g p : Nat} {most key times : Int} {v v1 v5 : Value} {ps : List PI} {data : List Int} (hq : RawQ w g most v ps) (hF : Fr (Q2 g v) w w4) (hG : w4.heap[g]? = some (.cells #[.int .i64 most, v1] 63 (0, 0))) (hP : w4.heap[p]? = some (.cells #[.int .i64 key, .slice none 0 0, .int .i64 0] 72 (0, 0)))
    (hO : w4.ownsRow 0 69 1 v1 (ps.length + 1) ((ps.map fun x => ptr x.p) ++ [ptr p])) (hp : w.heap.size ≤ p) (hv1 : ∀ k, v1.ownBlock = some k → v.ownBlock = some k ∨ w.heap.size ≤ k) (hv5 : w5.ownsRow w4.heap.size 5 1 v5 data.length (nums .u8 data)) (hb5 : Below w4.heap.size w4 w5) :
    PutTo w ((w5.setCell ⟨p, 1, none⟩ v5).setCell ⟨p, 2, none⟩ (.int .i64 times)) g most v ps v1 (ps ++ [⟨p, v5, ⟨key, data, times⟩⟩]) := by
  have hF5 := hF.trans (Fr.of_below hb5 SNo) (fun _ h => h.elim)
  have hF6 := (hF5.setCell (p := ⟨p, 1, none⟩) (.inr hp) v5).setCell (p := ⟨p, 2, none⟩) (.inr hp) (.int .i64 times)
  have hG5 := (Fr.of_below hb5 SNo).blk hG (fun h => h)
  have hP5 := (Fr.of_below hb5 SNo).blk hP (fun h => h)
  have hgp : g ≠ p := by have := blk_lt hq.blk; omega
  have hG6 := blk_far (blk_far hG5 (p := ⟨p, 1, none⟩) hgp v5) (p := ⟨p, 2, none⟩) hgp (.int .i64 times)
  have hO5 := pw_own_below hO hb5
  have hO6 := own_setCell (own_setCell hO5 (p := ⟨p, 1, none⟩) (own_ne hO5 hP5 (by decide)) v5) (p := ⟨p, 2, none⟩) (own_ne hO5 hP5 (by decide)) (.int .i64 times)
  have hP6 := blk_set (blk_set hP5 1 v5) 2 (.int .i64 times)
  have h5 := own_less hv5 (Nat.zero_le _)
  have hV6 := own_setCell (own_setCell h5 (p := ⟨p, 1, none⟩) (own_ne h5 hP5 (by decide)) v5) (p := ⟨p, 2, none⟩) (own_ne h5 hP5 (by decide)) (.int .i64 times)
  refine ⟨⟨hG6, ?_, ?_, ?_⟩, hF6.mono (fun k _ h => Q2.qw k h), ?_⟩
  · simpa using hO6
  · intro y hy
    rcases List.mem_append.1 hy with hy | hy
    · exact (hq.its y hy).frame hF6 (hq.it_apart hy).1 (hq.it_apart hy).2
    · obtain rfl : y = _ := by simpa using hy
      exact ⟨by simpa using hP6, hV6⟩
  · rw [List.map_append, List.nodup_append]
    refine ⟨hq.nodup, by simp, fun a ha b hb => ?_⟩
    obtain ⟨y, hy, rfl⟩ := List.mem_map.1 ha
    simp at hb
    subst hb
    have := (hq.its y hy).lt
    omega
  · intro k hk
    rcases hk with (rfl | hk | ⟨x, hx, rfl⟩) | ⟨x, hx, hk⟩
    · exact .inl (.inl (.inl rfl))
    · exact (hv1 k hk).imp (fun h => .inl (.inr (.inl h))) id
    · rcases List.mem_append.1 hx with hx | hx
      · exact .inl (.inl (.inr (.inr ⟨x, hx, rfl⟩)))
      · obtain rfl : x = _ := by simpa using hx
        exact .inr hp
    · rcases List.mem_append.1 hx with hx | hx
      · exact .inl (.inr ⟨x, hx, hk⟩)
      · obtain rfl : x = _ := by simpa using hx
        have := own_base hv5 k hk
        have := hF.size
        exact .inr (by omega)
set_option maxHeartbeats 1000000 in
theorem put_new (w : World) (g : Nat) (most : Int) (v : Value) (ps : List PI) (key : Int) (A : Option Addr) (c : Nat) (data : List Int) (times : Int) (hq : RawQ w g most v ps) (hno : NoKey ps key) (hfull : ¬ (ps.length : Int) = most) (h64 : ps.length ≤ 4096)
    (hd : ∀ W, Fr (QW g v ps) w W → ReadsInt W .u8 A data.length data) (h0 : 0 < data.length) (hl : data.length ≤ 140737488351232) :
    Calls Try.prog 26 #[.pointer (some ⟨g, 0, none⟩), .int .i64 key, .slice A data.length c, .int .i64 times] w fun e w' => e = .returned (.int .i64 0) ∧ ∃ v' x, x.it = ⟨key, data, times⟩ ∧ PutTo w w' g most v ps v' (ps ++ [x]) := by
  have hcon := find_any w g most key v ps hq
  have HC := Aside0.mk hcon; clear hcon
  have HQ := Aside0.mk hq; clear hq
  have HN := Aside0.mk hno; clear hno
  have HD := Aside0.mk hd; clear hd
  go_enter Try.func26, Try.ntmps26
  go_wp2_with fail
  refine HC.out.mono ?_
  rintro e w1 ⟨P, rfl, hA, hb⟩
  obtain rfl : P = none := by
    rcases hA with ⟨h, _⟩ | ⟨k, hk, _, hf⟩
    · exact h
    · obtain ⟨hk, hkk, _⟩ := hf
      exact absurd hkk (HN.out _ (List.getElem_mem _))
  clear hA
  have HQ1 := Aside0.mk (HQ.out.below hb)
  obtain ⟨B, cv, rfl, hg, c0, c1, hfz⟩ := HQ1.out.facts
  have HB := Aside0.mk hb; clear hb
  go_wp2
  go_quiet (fail)
  have HB2 := Aside0.mk (pw_below_drewN HB.out nq)
  have HQ2 := Aside0.mk (HQ1.out.below (pw_below_drewN (Below.refl _ _) nq))
  clear HB HQ1 c0 c1 hfz hg
  generalize w1.drewN nq = w2 at *
  obtain ⟨B', cv', ee, hg, c0, c1, hfz⟩ := HQ2.out.facts
  obtain ⟨rfl, rfl⟩ : B' = B ∧ cv' = cv := by injection ee with h1 _ h2; exact ⟨h1.symm, h2.symm⟩
  clear ee
  clear hfz
  have HO := Aside0.mk (show (w2.alloc (.cells #[.int .i64 key, .slice none 0 0, .int .i64 0] 72)).ownsRow 0 69 1 (.slice B' ps.length cv') (ps.map fun x => ptr x.p).length (ps.map fun x => ptr x.p) from by rw [List.length_map]; exact HQ2.out.row.alloc _)
  go_wp2_with (first | (at_builtin; go_loud (refine print_append (w0 := w2.alloc (.cells #[.int .i64 key, .slice none 0 0, .int .i64 0] 72)) 0 rfl (.tmp 32) (.tmp 34) 59 69 (.pointer none) 8 rfl Try.underlying59 info69 rfl (by decide) (.slice B' ps.length cv') (ps.map fun x => ptr x.p) (.pointer (some ⟨w2.heap.size, 0, none⟩)) rfl (by show Value.slice (some ⟨w2.heap.size + 1, 0, none⟩) 1 1 = _; simp) rfl HO.out (Below.refl _ _) (Nat.zero_le _) (by rw [List.length_map]; omega) ?_; intro v1 w3 hown hB3 hgr hat; obtain ⟨hgb, hpb, h3⟩ := put_app HQ2.out hgr; obtain ⟨A1, cv1, rfl⟩ := own_slice hown; have HA := Aside0.mk (And.intro hown (And.intro hgr hat)); clear hown hB3 hgr hat; obtain ⟨k3, d3, f3⟩ := cells_of_blk hgb; have d31 := d3 1 (.slice B' ps.length cv') rfl; have f31 := f3 1; have HG := Aside0.mk hgb; have HP := Aside0.mk hpb; clear hgb hpb d3 f3)))
  have hown := HA.out.1
  have F4 := Aside0.mk (show Fr (Q2 g (.slice B' ps.length cv')) w (w3.setCell ⟨g, 1, none⟩ (.slice A1 (ps.length + 1) cv1)) from (((Fr.of_below HB2.out _).alloc _).trans (Fr.of_grown HA.out.2.1) (fun k hk => .inl (.inr hk))).setCell (.inl (.inl rfl)) _)
  have G4 := Aside0.mk (show (w3.setCell ⟨g, 1, none⟩ (.slice A1 (ps.length + 1) cv1)).heap[g]? = some (.cells #[.int .i64 most, .slice A1 (ps.length + 1) cv1] 63 (0, 0)) from by simpa using blk_set HG.out 1 (.slice A1 (ps.length + 1) cv1))
  have P4 := Aside0.mk (blk_far HP.out (p := ⟨g, 1, none⟩) (by show w2.heap.size ≠ g; omega) (.slice A1 (ps.length + 1) cv1))
  have O4 := Aside0.mk (own_setCell hown (p := ⟨g, 1, none⟩) (own_ne hown HG.out (by decide)) (.slice A1 (ps.length + 1) cv1))
  have Z4 : w3.heap.size ≤ (w3.setCell ⟨g, 1, none⟩ (.slice A1 (ps.length + 1) cv1)).heap.size := by simp
  clear hown HG HP d31 f31
  generalize w3.setCell ⟨g, 1, none⟩ (.slice A1 (ps.length + 1) cv1) = w4 at *
  refine (clone_any w4 A c data (HD.out _ (F4.out.mono fun k _ h => Q2.qw k h)) h0 hl).mono ?_
  rintro e w5 ⟨v5, rfl, hv5, hb5⟩
  obtain ⟨A5, c5, rfl⟩ := own_slice hv5
  have P5 := Aside0.mk ((Fr.of_below hb5 SNo).blk P4.out (fun h => h))
  obtain ⟨k5, d5, f5⟩ := cells_of_blk P5.out
  have d51 := d5 1 (.slice none 0 0) rfl
  have d52 := d5 2 (.int .i64 0) rfl
  have f51 := f5 1
  have f52 := f5 2
  have V5 := Aside0.mk (And.intro hv5 hb5)
  clear d5 f5 hv5 hb5
  go_wp2
  go_ret
  have hz := HB2.out.size
  have ho4 := O4.out
  have ha4 := HA.out.2.2
  simp only [List.length_append, List.length_map, List.length_cons, List.length_nil, Nat.zero_add] at ho4 ha4
  exact ⟨rfl, _, ⟨w2.heap.size, _, ⟨key, data, times⟩⟩, rfl, put_close HQ.out F4.out G4.out P4.out ho4 hz (fun k hk => ha4.elim (fun h => .inl (h.symm.trans hk)) (fun ⟨b, hb, hle⟩ => .inr (by rw [hk] at hb; injection hb with hb; simp at hle; omega))) V5.out.1 V5.out.2⟩
end Go.Proofs.Ytafkglhdpcmdbaa
