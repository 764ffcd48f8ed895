/- Store: StoreQuiet. -/
import Derived.Test.YtinfafnpbalihaaSL
set_option linter.unusedSimpArgs false
set_option linter.unusedVariables false
namespace Go.Proofs.Ytinfafnpbalihaa
open Go.RowKit Go.Maps Go.WideMaps Go.Proofs.YtinfafnpbalihaaW.PrintWords
def QRel (w : World) (b g : Int) (n : Nat) (v9 v10 v11 : Value) (wr : World) : Prop :=
  ∃ (i : Nat) (now : Int) (q : Bool), v9 = .int .i64 now ∧ v10 = .bool (!q) ∧ v11 = .int .i64 i ∧ i ≤ n ∧ i ≤ 80 ∧ QS w b g (2 * i) now q wr ∧ 0 ≤ now ∧ now ≤ 1099511627776
/-- an act's variable -/
structure AcVar (W : World) (B : Nat) (y : Ac) : Prop where
  c0 : W.cell? ⟨B, 0, none⟩ = some (.int .i64 y.kind)
  c38 : W.cell? ⟨B, 38, none⟩ = some (.int .i64 y.flags)
  c39 : W.cell? ⟨B, 39, none⟩ = some (.int .i64 y.now)
  c40 : W.cell? ⟨B, 40, none⟩ = some (.int .i64 y.until_)
  c41 : W.cell? ⟨B, 41, none⟩ = some (.int .i64 y.b)
  c42 : W.cell? ⟨B, 42, none⟩ = some (.int .i64 y.g)
  t : W.rangeAt B 1 y.t.cells
  lt : B < W.heap.size
theorem AcVar.of {W : World} {B : Nat} {y : Ac} {CS : List Value} (hy : y.t.Ok) (he : y.cells = CS) (h : W.rangeAt B 0 CS) : AcVar W B y := by
  subst he
  have at1 : ∀ j, y.cells[1 + j]? = (y.t.cells ++ [Value.int .i64 y.flags, .int .i64 y.now, .int .i64 y.until_, .int .i64 y.b, .int .i64 y.g])[j]? := fun j => by unfold Ac.cells; rw [Nat.add_comm, List.getElem?_cons_succ]
  have tail : ∀ j, y.cells[38 + j]? = [Value.int .i64 y.flags, .int .i64 y.now, .int .i64 y.until_, .int .i64 y.b, .int .i64 y.g][j]? := fun j => by
    rw [show 38 + j = 1 + (37 + j) by omega, at1, List.getElem?_append_right (by rw [Tup.len hy]; omega), Tup.len hy]; congr 1; omega
  have c0 := h 0 (.int .i64 y.kind) rfl
  refine ⟨c0, by simpa using h 38 _ (tail 0), by simpa using h 39 _ (tail 1), by simpa using h 40 _ (tail 2), by simpa using h 41 _ (tail 3), by simpa using h 42 _ (tail 4), fun j v hj => ?_, block_lt_of_cell (a := ⟨B, _, none⟩) c0⟩
  have := h (1 + j) v (by rw [at1, List.getElem?_append_left (List.getElem?_eq_some_iff.1 hj).1]; exact hj)
  rwa [Nat.zero_add] at this
theorem AcVar.fr {S : Nat → Prop} {W W1 : World} {B : Nat} {y : Ac} (h : AcVar W B y) (hf : Fr S W W1) (hn : ¬ S B) : AcVar W1 B y := by
  have hk := hf.block B h.lt hn
  have hc : ∀ o, W1.cell? ⟨B, o, none⟩ = W.cell? ⟨B, o, none⟩ := fun o => by unfold World.cell?; simp only [hk]
  exact ⟨(hc 0).trans h.c0, (hc 38).trans h.c38, (hc 39).trans h.c39, (hc 40).trans h.c40, (hc 41).trans h.c41, (hc 42).trans h.c42, range_fr h.t hf hn h.lt, Nat.lt_of_lt_of_le h.lt hf.size⟩
theorem AcVar.tt {W : World} {B : Nat} {y : Ac} {TS : List Value} (h : AcVar W B y) (e : y.t.cells = TS) : W.rangeAt B 1 TS := by subst e; exact h.t
theorem AcVar.box {W W1 : World} {B : Nat} {y : Ac} {o : Obj} (h : AcVar W B y) (hf : Fr (fun k => k = W.heap.size) (W.alloc o) W1) : AcVar W1 B y := by
  have hlt := h.lt
  exact (h.fr (Fr.of_below (below_alloc (Below.refl _ W) o) SNo) (fun h => h)).fr hf (by omega)
theorem QS.bel {w W : World} {b g now : Int} {c : Nat} {q : Bool} (h : QS w b g c now q W) : Below w.heap.size w W := by obtain ⟨M, U, _, _, _, _, hb⟩ := h; exact hb
theorem q_store {w W W1 : World} {o : Obj} {b g now : Int} {c : Nat} {q : Bool} (h : QS w b g c now q W) (hf : Fr (fun k => k = W.heap.size) (W.alloc o) W1) : QS w b g c now q W1 :=
  h.below ((below_alloc (Below.refl _ _) o).trans (hf.below (fun k hk e => by omega) (by rw [size_alloc1]; omega)))
theorem q_size {w W : World} {b g now : Int} {c : Nat} {q : Bool} (h : QS w b g c now q W) : w.heap.size + 2 < W.heap.size := by obtain ⟨M, U, hs, _⟩ := h; exact hs.lt
theorem q_busy {w W : World} {b g now : Int} {c : Nat} {q : Bool} (h : QS w b g c now q W) (hb : wf64 b) (hg : wf64 g) (hc : c < 999990) :
    Calls Try.prog 12 #[.pointer (some ⟨w.heap.size + 2, 0, none⟩), .int .i64 b, .int .i64 g, .int .i64 now] W fun e w' => e = .returned (.bool q) ∧ Below W.heap.size W w' := by
  obtain ⟨M, U, hs, _, _, hq, _⟩ := h
  rw [← hq]
  exact busy_any W _ _ _ 8 c M U b g now hs (by omega) hb hg
set_option maxHeartbeats 8000000 in
set_option maxRecDepth 100000 in
theorem quiet_law (A : Option Addr) (cap : Nat) (l : List Ac) (b g : Int) (w : World) (hl : AcsAt w A l) (hmx : l.length ≤ maxLen) (hb : wf64 b) (hg : wf64 g) : Calls Try.prog 4 #[.slice A l.length cap, .int .i64 b, .int .i64 g] w (LawPost w) := by
  have HL := Aside0.mk hl
  have HW := Aside0.mk (And.intro hb hg)
  have hml : l.length ≤ 9223372036854775807 := by unfold maxLen at hmx; omega
  clear hl hb hg hmx
  go_enter Try.func4, Try.ntmps4
  go_wp2_with fail
  refine (new_any w 8 (by omega) (by omega)).mono ?_
  rintro e w1 ⟨rfl, hs1, hb1⟩
  have HQ := Aside0.mk (show QS w b g 0 0 false w1 from ⟨_, _, hs1, fun x hx => (List.not_mem_nil hx).elim, fun x hx => (List.not_mem_nil hx).elim, rfl, hb1⟩)
  clear hs1 hb1
  go_wp2_with fail
  refine (q_busy HQ.out HW.out.1 HW.out.2 (by omega)).mono ?_
  rintro e w2 ⟨rfl, hb2⟩
  have HQ2 := Aside0.mk (HQ.out.below hb2)
  clear hb2 HQ
  go_wp2_with fail
  go_loopw [9, 10, 11, 12, 13, 14, 15, 16] (fun v9 v10 v11 _ _ _ _ _ wr => QRel w b g l.length v9 v10 v11 wr) (fun _ _ i _ _ _ _ _ _ => l.length - (intOf i).toNat)
  case atStart => exact ⟨0, 0, false, rfl, rfl, rfl, by omega, by omega, HQ2.out, by omega, by omega⟩
  case round =>
    obtain ⟨i, now, q, rfl, rfl, rfl, hi1, hi2, hqs, hn0, hn1⟩ := hrel
    have HQS := Aside0.mk hqs
    clear hqs HQ2
    by_cases hlt : i < l.length
    · by_cases h80 : i < 80
      · rcases HL.out with h0 | ⟨b0, off, rfl, hb0, hat⟩
        · subst h0; simp at hlt
        obtain ⟨y, hy⟩ : ∃ y, y = l[i]'hlt := ⟨_, rfl⟩
        have hat := hat i hlt
        rw [← hy] at hat
        obtain ⟨hr, hok⟩ := hat
        obtain ⟨M0, U0', hs0, _, _, _, hbw⟩ := HQS.out
        have hr := range_below hr hbw hb0
        have HOK := Aside0.mk hok
        have l43 : y.cells.length = 43 := Ac.len hok.t
        have o43 : ∀ v ∈ y.cells, v.oneCell' = true := Ac.one
        have hlo := hs0.lt
        clear hs0 hbw hok hy
        generalize hCS : y.cells = CS at hr l43 o43
        have HCS := Aside0.mk hCS
        clear hCS
        have lT : y.t.cells.length = 37 := Tup.len HOK.out.t
        generalize hTS : y.t.cells = TS at lT
        have HTS := Aside0.mk hTS
        clear hTS
        by_cases hA : now < y.now
        · by_cases hB : y.now ≤ 1099511627776
          · by_cases hk : y.kind < 2
            · go_wp2_with (first
                | (refine wpList_load_midG (by rfl) 42 _ rfl b0 (off + i * 43) rfl CS _ hr Try.underlying42 rfl (by rw [l43]; exact size42) ?_)
                | (refine wpList_store_fr (by rfl) 42 _ _ rfl wr.heap.size 0 CS rfl rfl (by rw [size_alloc1]; omega) (by rw [l43]; exact new_there (Nat.le_refl _)) (by rw [l43]; exact size42) o43 ?_; intro w2 hr2 hf2 hs2; have HV := Aside0.mk (AcVar.of HOK.out.t HCS.out hr2); have c0 := HV.out.c0; have c38 := HV.out.c38; have c39 := HV.out.c39; have c40 := HV.out.c40; have c41 := HV.out.c41; have c42 := HV.out.c42; have KT := AcVar.tt HV.out HTS.out; have HQ := Aside0.mk (q_store HQS.out hf2); clear hr2 hf2 hs2 hr l43 o43)
                | (refine wpList_load_midG (by rfl) 33 _ rfl wr.heap.size 1 rfl TS _ KT Try.underlying33 rfl (by rw [lT]; exact size33) ?_))
              have hcl := q_packet (f := y.flags) (u := y.until_) HQ.out (show now ≤ y.now by omega) HOK.out.t HOK.out.until_ (by omega)
              rw [HTS.out] at hcl
              refine hcl.mono ?_
              rintro e w3 ⟨C, k, q', ⟨lC, oC⟩, rfl, hR, hq3, hf3⟩
              have HQ3 := Aside0.mk hq3
              clear hq3 hf3 hcl c0 c38 c39 c40 c41 c42 KT lC oC
              cases q
              · have hR := hR rfl
                subst hR
                go_wp2_with fail
                have HBZ := q_busy HQ3.out HW.out.1 HW.out.2 (by omega)
                refine HBZ.mono ?_
                rintro e w5 ⟨rfl, hb5⟩
                have HQ5 := Aside0.mk (QS.below HQ3.out hb5)
                clear hb5 HBZ
                have hwi : IntKind.i64.wrap ((i : Int) + 1) = ((i : Int) + 1) := IntWalk.i64_in _ (by omega)
                go_wp2_with fail
                exact ⟨⟨i + 1, y.now, _, rfl, by first | rfl | simp, by simp, by omega, by omega, HQ5.out, by omega, by omega⟩, by simp [intOf]; omega⟩
              · clear hR
                go_wp2_with fail
                have HBZ := q_busy HQ3.out HW.out.1 HW.out.2 (by omega)
                refine HBZ.mono ?_
                rintro e w5 ⟨rfl, hb5⟩
                have HQ5 := Aside0.mk (QS.below HQ3.out hb5)
                clear hb5 HBZ
                have hwi : IntKind.i64.wrap ((i : Int) + 1) = ((i : Int) + 1) := IntWalk.i64_in _ (by omega)
                go_wp2_with fail
                exact ⟨⟨i + 1, y.now, _, rfl, by first | rfl | simp, by simp, by omega, by omega, HQ5.out, by omega, by omega⟩, by simp [intOf]; omega⟩
            · go_wp2_with (first
                | (refine wpList_load_midG (by rfl) 42 _ rfl b0 (off + i * 43) rfl CS _ hr Try.underlying42 rfl (by rw [l43]; exact size42) ?_)
                | (refine wpList_store_fr (by rfl) 42 _ _ rfl wr.heap.size 0 CS rfl rfl (by rw [size_alloc1]; omega) (by rw [l43]; exact new_there (Nat.le_refl _)) (by rw [l43]; exact size42) o43 ?_; intro w2 hr2 hf2 hs2; have HV := Aside0.mk (AcVar.of HOK.out.t HCS.out hr2); have c0 := HV.out.c0; have c38 := HV.out.c38; have c39 := HV.out.c39; have c40 := HV.out.c40; have c41 := HV.out.c41; have c42 := HV.out.c42; have KT := AcVar.tt HV.out HTS.out; have HQ := Aside0.mk (q_store HQS.out hf2); clear hr2 hf2 hs2 hr l43 o43)
                | (refine wpList_load_midG (by rfl) 33 _ rfl wr.heap.size 1 rfl TS _ KT Try.underlying33 rfl (by rw [lT]; exact size33) ?_))
              have hcl := q_begin (f := y.flags) (u := y.until_) HQ.out (show now ≤ y.now by omega) HOK.out.t HOK.out.b HOK.out.g HOK.out.until_ (by omega)
              rw [HTS.out] at hcl
              refine hcl.mono ?_
              rintro e w3 ⟨C, k, q', ⟨lC, oC⟩, rfl, hR, hq3, hf3⟩
              have HQ3 := Aside0.mk hq3
              have HV3 := Aside0.mk (HV.out.fr hf3 (by rintro (e | e) <;> omega))
              clear hq3 hf3 hcl c0 c38 c39 c40 c41 c42 KT
              cases q
              · cases q'
                · clear hR
                  go_wp2_with (refine wpList_store_fr (by rfl) 38 _ _ rfl w3.heap.size 0 C rfl rfl (by rw [size_alloc1]; omega) (by rw [lC]; exact new_there (Nat.le_refl _)) (by rw [lC]; exact size38) oC ?_; intro w4 hr4 hf4 hs4; have HQ4 := Aside0.mk (q_store HQ3.out hf4); have HV4 := HV3.out.box hf4; have c41 := HV4.c41; have c42 := HV4.c42; clear hr4 hf4 hs4 lC oC HV4)
                  all_goals (
                    have HBZ := q_busy HQ4.out HW.out.1 HW.out.2 (by omega)
                    refine HBZ.mono ?_
                    rintro e w5 ⟨rfl, hb5⟩
                    have HQ5 := Aside0.mk (QS.below HQ4.out hb5)
                    clear hb5 HBZ
                    have hwi : IntKind.i64.wrap ((i : Int) + 1) = ((i : Int) + 1) := IntWalk.i64_in _ (by omega)
                    go_wp2_with fail
                    exact ⟨⟨i + 1, y.now, _, rfl, by first | rfl | simp, by simp, by omega, by omega, HQ5.out, by omega, by omega⟩, by simp [intOf]; omega⟩)
                · obtain ⟨rfl, e1, e2⟩ := hR rfl rfl
                  go_wp2_with (refine wpList_store_fr (by rfl) 38 _ _ rfl w3.heap.size 0 C rfl rfl (by rw [size_alloc1]; omega) (by rw [lC]; exact new_there (Nat.le_refl _)) (by rw [lC]; exact size38) oC ?_; intro w4 hr4 hf4 hs4; have HQ4 := Aside0.mk (q_store HQ3.out hf4); have HV4 := HV3.out.box hf4; have c41 := HV4.c41; have c42 := HV4.c42; rw [e1] at c41; rw [e2] at c42; clear hr4 hf4 hs4 lC oC HV4)
                  all_goals (
                    have HBZ := q_busy HQ4.out HW.out.1 HW.out.2 (by omega)
                    refine HBZ.mono ?_
                    rintro e w5 ⟨rfl, hb5⟩
                    have HQ5 := Aside0.mk (QS.below HQ4.out hb5)
                    clear hb5 HBZ
                    have hwi : IntKind.i64.wrap ((i : Int) + 1) = ((i : Int) + 1) := IntWalk.i64_in _ (by omega)
                    go_wp2_with fail
                    exact ⟨⟨i + 1, y.now, _, rfl, by first | rfl | simp, by simp, by omega, by omega, HQ5.out, by omega, by omega⟩, by simp [intOf]; omega⟩)
              · clear hR
                go_wp2_with (refine wpList_store_fr (by rfl) 38 _ _ rfl w3.heap.size 0 C rfl rfl (by rw [size_alloc1]; omega) (by rw [lC]; exact new_there (Nat.le_refl _)) (by rw [lC]; exact size38) oC ?_; intro w4 hr4 hf4 hs4; have HQ4 := Aside0.mk (q_store HQ3.out hf4); have HV4 := HV3.out.box hf4; have c41 := HV4.c41; have c42 := HV4.c42; clear hr4 hf4 hs4 lC oC HV4)
                all_goals (
                  have HBZ := q_busy HQ4.out HW.out.1 HW.out.2 (by omega)
                  refine HBZ.mono ?_
                  rintro e w5 ⟨rfl, hb5⟩
                  have HQ5 := Aside0.mk (QS.below HQ4.out hb5)
                  clear hb5 HBZ
                  have hwi : IntKind.i64.wrap ((i : Int) + 1) = ((i : Int) + 1) := IntWalk.i64_in _ (by omega)
                  go_wp2_with fail
                  exact ⟨⟨i + 1, y.now, _, rfl, by first | rfl | simp, by simp, by omega, by omega, HQ5.out, by omega, by omega⟩, by simp [intOf]; omega⟩)
          · by_cases hk : y.kind < 2
            · go_wp2_with (first
                | (refine wpList_load_midG (by rfl) 42 _ rfl b0 (off + i * 43) rfl CS _ hr Try.underlying42 rfl (by rw [l43]; exact size42) ?_)
                | (refine wpList_store_fr (by rfl) 42 _ _ rfl wr.heap.size 0 CS rfl rfl (by rw [size_alloc1]; omega) (by rw [l43]; exact new_there (Nat.le_refl _)) (by rw [l43]; exact size42) o43 ?_; intro w2 hr2 hf2 hs2; have HV := Aside0.mk (AcVar.of HOK.out.t HCS.out hr2); have c0 := HV.out.c0; have c38 := HV.out.c38; have c39 := HV.out.c39; have c40 := HV.out.c40; have c41 := HV.out.c41; have c42 := HV.out.c42; have KT := AcVar.tt HV.out HTS.out; have HQ := Aside0.mk (q_store HQS.out hf2); clear hr2 hf2 hs2 hr l43 o43)
                | (refine wpList_load_midG (by rfl) 33 _ rfl wr.heap.size 1 rfl TS _ KT Try.underlying33 rfl (by rw [lT]; exact size33) ?_))
              have hcl := q_packet (f := y.flags) (u := y.until_) HQ.out (show now ≤ now by omega) HOK.out.t HOK.out.until_ (by omega)
              rw [HTS.out] at hcl
              refine hcl.mono ?_
              rintro e w3 ⟨C, k, q', ⟨lC, oC⟩, rfl, hR, hq3, hf3⟩
              have HQ3 := Aside0.mk hq3
              clear hq3 hf3 hcl c0 c38 c39 c40 c41 c42 KT lC oC
              cases q
              · have hR := hR rfl
                subst hR
                go_wp2_with fail
                have HBZ := q_busy HQ3.out HW.out.1 HW.out.2 (by omega)
                refine HBZ.mono ?_
                rintro e w5 ⟨rfl, hb5⟩
                have HQ5 := Aside0.mk (QS.below HQ3.out hb5)
                clear hb5 HBZ
                have hwi : IntKind.i64.wrap ((i : Int) + 1) = ((i : Int) + 1) := IntWalk.i64_in _ (by omega)
                go_wp2_with fail
                exact ⟨⟨i + 1, now, _, rfl, by first | rfl | simp, by simp, by omega, by omega, HQ5.out, by omega, by omega⟩, by simp [intOf]; omega⟩
              · clear hR
                go_wp2_with fail
                have HBZ := q_busy HQ3.out HW.out.1 HW.out.2 (by omega)
                refine HBZ.mono ?_
                rintro e w5 ⟨rfl, hb5⟩
                have HQ5 := Aside0.mk (QS.below HQ3.out hb5)
                clear hb5 HBZ
                have hwi : IntKind.i64.wrap ((i : Int) + 1) = ((i : Int) + 1) := IntWalk.i64_in _ (by omega)
                go_wp2_with fail
                exact ⟨⟨i + 1, now, _, rfl, by first | rfl | simp, by simp, by omega, by omega, HQ5.out, by omega, by omega⟩, by simp [intOf]; omega⟩
            · go_wp2_with (first
                | (refine wpList_load_midG (by rfl) 42 _ rfl b0 (off + i * 43) rfl CS _ hr Try.underlying42 rfl (by rw [l43]; exact size42) ?_)
                | (refine wpList_store_fr (by rfl) 42 _ _ rfl wr.heap.size 0 CS rfl rfl (by rw [size_alloc1]; omega) (by rw [l43]; exact new_there (Nat.le_refl _)) (by rw [l43]; exact size42) o43 ?_; intro w2 hr2 hf2 hs2; have HV := Aside0.mk (AcVar.of HOK.out.t HCS.out hr2); have c0 := HV.out.c0; have c38 := HV.out.c38; have c39 := HV.out.c39; have c40 := HV.out.c40; have c41 := HV.out.c41; have c42 := HV.out.c42; have KT := AcVar.tt HV.out HTS.out; have HQ := Aside0.mk (q_store HQS.out hf2); clear hr2 hf2 hs2 hr l43 o43)
                | (refine wpList_load_midG (by rfl) 33 _ rfl wr.heap.size 1 rfl TS _ KT Try.underlying33 rfl (by rw [lT]; exact size33) ?_))
              have hcl := q_begin (f := y.flags) (u := y.until_) HQ.out (show now ≤ now by omega) HOK.out.t HOK.out.b HOK.out.g HOK.out.until_ (by omega)
              rw [HTS.out] at hcl
              refine hcl.mono ?_
              rintro e w3 ⟨C, k, q', ⟨lC, oC⟩, rfl, hR, hq3, hf3⟩
              have HQ3 := Aside0.mk hq3
              have HV3 := Aside0.mk (HV.out.fr hf3 (by rintro (e | e) <;> omega))
              clear hq3 hf3 hcl c0 c38 c39 c40 c41 c42 KT
              cases q
              · cases q'
                · clear hR
                  go_wp2_with (refine wpList_store_fr (by rfl) 38 _ _ rfl w3.heap.size 0 C rfl rfl (by rw [size_alloc1]; omega) (by rw [lC]; exact new_there (Nat.le_refl _)) (by rw [lC]; exact size38) oC ?_; intro w4 hr4 hf4 hs4; have HQ4 := Aside0.mk (q_store HQ3.out hf4); have HV4 := HV3.out.box hf4; have c41 := HV4.c41; have c42 := HV4.c42; clear hr4 hf4 hs4 lC oC HV4)
                  all_goals (
                    have HBZ := q_busy HQ4.out HW.out.1 HW.out.2 (by omega)
                    refine HBZ.mono ?_
                    rintro e w5 ⟨rfl, hb5⟩
                    have HQ5 := Aside0.mk (QS.below HQ4.out hb5)
                    clear hb5 HBZ
                    have hwi : IntKind.i64.wrap ((i : Int) + 1) = ((i : Int) + 1) := IntWalk.i64_in _ (by omega)
                    go_wp2_with fail
                    exact ⟨⟨i + 1, now, _, rfl, by first | rfl | simp, by simp, by omega, by omega, HQ5.out, by omega, by omega⟩, by simp [intOf]; omega⟩)
                · obtain ⟨rfl, e1, e2⟩ := hR rfl rfl
                  go_wp2_with (refine wpList_store_fr (by rfl) 38 _ _ rfl w3.heap.size 0 C rfl rfl (by rw [size_alloc1]; omega) (by rw [lC]; exact new_there (Nat.le_refl _)) (by rw [lC]; exact size38) oC ?_; intro w4 hr4 hf4 hs4; have HQ4 := Aside0.mk (q_store HQ3.out hf4); have HV4 := HV3.out.box hf4; have c41 := HV4.c41; have c42 := HV4.c42; rw [e1] at c41; rw [e2] at c42; clear hr4 hf4 hs4 lC oC HV4)
                  all_goals (
                    have HBZ := q_busy HQ4.out HW.out.1 HW.out.2 (by omega)
                    refine HBZ.mono ?_
                    rintro e w5 ⟨rfl, hb5⟩
                    have HQ5 := Aside0.mk (QS.below HQ4.out hb5)
                    clear hb5 HBZ
                    have hwi : IntKind.i64.wrap ((i : Int) + 1) = ((i : Int) + 1) := IntWalk.i64_in _ (by omega)
                    go_wp2_with fail
                    exact ⟨⟨i + 1, now, _, rfl, by first | rfl | simp, by simp, by omega, by omega, HQ5.out, by omega, by omega⟩, by simp [intOf]; omega⟩)
              · clear hR
                go_wp2_with (refine wpList_store_fr (by rfl) 38 _ _ rfl w3.heap.size 0 C rfl rfl (by rw [size_alloc1]; omega) (by rw [lC]; exact new_there (Nat.le_refl _)) (by rw [lC]; exact size38) oC ?_; intro w4 hr4 hf4 hs4; have HQ4 := Aside0.mk (q_store HQ3.out hf4); have HV4 := HV3.out.box hf4; have c41 := HV4.c41; have c42 := HV4.c42; clear hr4 hf4 hs4 lC oC HV4)
                all_goals (
                  have HBZ := q_busy HQ4.out HW.out.1 HW.out.2 (by omega)
                  refine HBZ.mono ?_
                  rintro e w5 ⟨rfl, hb5⟩
                  have HQ5 := Aside0.mk (QS.below HQ4.out hb5)
                  clear hb5 HBZ
                  have hwi : IntKind.i64.wrap ((i : Int) + 1) = ((i : Int) + 1) := IntWalk.i64_in _ (by omega)
                  go_wp2_with fail
                  exact ⟨⟨i + 1, now, _, rfl, by first | rfl | simp, by simp, by omega, by omega, HQ5.out, by omega, by omega⟩, by simp [intOf]; omega⟩)
        · by_cases hk : y.kind < 2
          · go_wp2_with (first
              | (refine wpList_load_midG (by rfl) 42 _ rfl b0 (off + i * 43) rfl CS _ hr Try.underlying42 rfl (by rw [l43]; exact size42) ?_)
              | (refine wpList_store_fr (by rfl) 42 _ _ rfl wr.heap.size 0 CS rfl rfl (by rw [size_alloc1]; omega) (by rw [l43]; exact new_there (Nat.le_refl _)) (by rw [l43]; exact size42) o43 ?_; intro w2 hr2 hf2 hs2; have HV := Aside0.mk (AcVar.of HOK.out.t HCS.out hr2); have c0 := HV.out.c0; have c38 := HV.out.c38; have c39 := HV.out.c39; have c40 := HV.out.c40; have c41 := HV.out.c41; have c42 := HV.out.c42; have KT := AcVar.tt HV.out HTS.out; have HQ := Aside0.mk (q_store HQS.out hf2); clear hr2 hf2 hs2 hr l43 o43)
              | (refine wpList_load_midG (by rfl) 33 _ rfl wr.heap.size 1 rfl TS _ KT Try.underlying33 rfl (by rw [lT]; exact size33) ?_))
            have hcl := q_packet (f := y.flags) (u := y.until_) HQ.out (show now ≤ now by omega) HOK.out.t HOK.out.until_ (by omega)
            rw [HTS.out] at hcl
            refine hcl.mono ?_
            rintro e w3 ⟨C, k, q', ⟨lC, oC⟩, rfl, hR, hq3, hf3⟩
            have HQ3 := Aside0.mk hq3
            clear hq3 hf3 hcl c0 c38 c39 c40 c41 c42 KT lC oC
            cases q
            · have hR := hR rfl
              subst hR
              go_wp2_with fail
              have HBZ := q_busy HQ3.out HW.out.1 HW.out.2 (by omega)
              refine HBZ.mono ?_
              rintro e w5 ⟨rfl, hb5⟩
              have HQ5 := Aside0.mk (QS.below HQ3.out hb5)
              clear hb5 HBZ
              have hwi : IntKind.i64.wrap ((i : Int) + 1) = ((i : Int) + 1) := IntWalk.i64_in _ (by omega)
              go_wp2_with fail
              exact ⟨⟨i + 1, now, _, rfl, by first | rfl | simp, by simp, by omega, by omega, HQ5.out, by omega, by omega⟩, by simp [intOf]; omega⟩
            · clear hR
              go_wp2_with fail
              have HBZ := q_busy HQ3.out HW.out.1 HW.out.2 (by omega)
              refine HBZ.mono ?_
              rintro e w5 ⟨rfl, hb5⟩
              have HQ5 := Aside0.mk (QS.below HQ3.out hb5)
              clear hb5 HBZ
              have hwi : IntKind.i64.wrap ((i : Int) + 1) = ((i : Int) + 1) := IntWalk.i64_in _ (by omega)
              go_wp2_with fail
              exact ⟨⟨i + 1, now, _, rfl, by first | rfl | simp, by simp, by omega, by omega, HQ5.out, by omega, by omega⟩, by simp [intOf]; omega⟩
          · go_wp2_with (first
              | (refine wpList_load_midG (by rfl) 42 _ rfl b0 (off + i * 43) rfl CS _ hr Try.underlying42 rfl (by rw [l43]; exact size42) ?_)
              | (refine wpList_store_fr (by rfl) 42 _ _ rfl wr.heap.size 0 CS rfl rfl (by rw [size_alloc1]; omega) (by rw [l43]; exact new_there (Nat.le_refl _)) (by rw [l43]; exact size42) o43 ?_; intro w2 hr2 hf2 hs2; have HV := Aside0.mk (AcVar.of HOK.out.t HCS.out hr2); have c0 := HV.out.c0; have c38 := HV.out.c38; have c39 := HV.out.c39; have c40 := HV.out.c40; have c41 := HV.out.c41; have c42 := HV.out.c42; have KT := AcVar.tt HV.out HTS.out; have HQ := Aside0.mk (q_store HQS.out hf2); clear hr2 hf2 hs2 hr l43 o43)
              | (refine wpList_load_midG (by rfl) 33 _ rfl wr.heap.size 1 rfl TS _ KT Try.underlying33 rfl (by rw [lT]; exact size33) ?_))
            have hcl := q_begin (f := y.flags) (u := y.until_) HQ.out (show now ≤ now by omega) HOK.out.t HOK.out.b HOK.out.g HOK.out.until_ (by omega)
            rw [HTS.out] at hcl
            refine hcl.mono ?_
            rintro e w3 ⟨C, k, q', ⟨lC, oC⟩, rfl, hR, hq3, hf3⟩
            have HQ3 := Aside0.mk hq3
            have HV3 := Aside0.mk (HV.out.fr hf3 (by rintro (e | e) <;> omega))
            clear hq3 hf3 hcl c0 c38 c39 c40 c41 c42 KT
            cases q
            · cases q'
              · clear hR
                go_wp2_with (refine wpList_store_fr (by rfl) 38 _ _ rfl w3.heap.size 0 C rfl rfl (by rw [size_alloc1]; omega) (by rw [lC]; exact new_there (Nat.le_refl _)) (by rw [lC]; exact size38) oC ?_; intro w4 hr4 hf4 hs4; have HQ4 := Aside0.mk (q_store HQ3.out hf4); have HV4 := HV3.out.box hf4; have c41 := HV4.c41; have c42 := HV4.c42; clear hr4 hf4 hs4 lC oC HV4)
                all_goals (
                  have HBZ := q_busy HQ4.out HW.out.1 HW.out.2 (by omega)
                  refine HBZ.mono ?_
                  rintro e w5 ⟨rfl, hb5⟩
                  have HQ5 := Aside0.mk (QS.below HQ4.out hb5)
                  clear hb5 HBZ
                  have hwi : IntKind.i64.wrap ((i : Int) + 1) = ((i : Int) + 1) := IntWalk.i64_in _ (by omega)
                  go_wp2_with fail
                  exact ⟨⟨i + 1, now, _, rfl, by first | rfl | simp, by simp, by omega, by omega, HQ5.out, by omega, by omega⟩, by simp [intOf]; omega⟩)
              · obtain ⟨rfl, e1, e2⟩ := hR rfl rfl
                go_wp2_with (refine wpList_store_fr (by rfl) 38 _ _ rfl w3.heap.size 0 C rfl rfl (by rw [size_alloc1]; omega) (by rw [lC]; exact new_there (Nat.le_refl _)) (by rw [lC]; exact size38) oC ?_; intro w4 hr4 hf4 hs4; have HQ4 := Aside0.mk (q_store HQ3.out hf4); have HV4 := HV3.out.box hf4; have c41 := HV4.c41; have c42 := HV4.c42; rw [e1] at c41; rw [e2] at c42; clear hr4 hf4 hs4 lC oC HV4)
                all_goals (
                  have HBZ := q_busy HQ4.out HW.out.1 HW.out.2 (by omega)
                  refine HBZ.mono ?_
                  rintro e w5 ⟨rfl, hb5⟩
                  have HQ5 := Aside0.mk (QS.below HQ4.out hb5)
                  clear hb5 HBZ
                  have hwi : IntKind.i64.wrap ((i : Int) + 1) = ((i : Int) + 1) := IntWalk.i64_in _ (by omega)
                  go_wp2_with fail
                  exact ⟨⟨i + 1, now, _, rfl, by first | rfl | simp, by simp, by omega, by omega, HQ5.out, by omega, by omega⟩, by simp [intOf]; omega⟩)
            · clear hR
              go_wp2_with (refine wpList_store_fr (by rfl) 38 _ _ rfl w3.heap.size 0 C rfl rfl (by rw [size_alloc1]; omega) (by rw [lC]; exact new_there (Nat.le_refl _)) (by rw [lC]; exact size38) oC ?_; intro w4 hr4 hf4 hs4; have HQ4 := Aside0.mk (q_store HQ3.out hf4); have HV4 := HV3.out.box hf4; have c41 := HV4.c41; have c42 := HV4.c42; clear hr4 hf4 hs4 lC oC HV4)
              all_goals (
                have HBZ := q_busy HQ4.out HW.out.1 HW.out.2 (by omega)
                refine HBZ.mono ?_
                rintro e w5 ⟨rfl, hb5⟩
                have HQ5 := Aside0.mk (QS.below HQ4.out hb5)
                clear hb5 HBZ
                have hwi : IntKind.i64.wrap ((i : Int) + 1) = ((i : Int) + 1) := IntWalk.i64_in _ (by omega)
                go_wp2_with fail
                exact ⟨⟨i + 1, now, _, rfl, by first | rfl | simp, by simp, by omega, by omega, HQ5.out, by omega, by omega⟩, by simp [intOf]; omega⟩)
      · go_wp2_with fail
        refine (known_any _).mono ?_
        rintro e w6 ⟨rfl, hb6⟩
        have HQ6 := Aside0.mk (HQS.out.below hb6)
        clear hb6
        go_wp2_with fail
        go_ret
        exact ⟨rfl, HQ6.out.bel⟩
    · go_wp2_with fail
      refine (known_any _).mono ?_
      rintro e w6 ⟨rfl, hb6⟩
      have HQ6 := Aside0.mk (HQS.out.below hb6)
      clear hb6
      go_wp2_with fail
      go_ret
      exact ⟨rfl, HQ6.out.bel⟩
end Go.Proofs.Ytinfafnpbalihaa
