/- Store: StoreKeeps. -/
import Derived.Test.YtinfafnpbalihaaSM
import Derived.Test.YtinfafnpbalihaaSN
set_option linter.unusedSimpArgs false
set_option linter.unusedVariables false
namespace Go.Proofs.Ytinfafnpbalihaa
open Go.RowKit Go.Maps Go.WideMaps Go.Proofs.YtinfafnpbalihaaW.PrintWords
theorem eqop_want {w : World} {ops : Array Oper} {rest : List Oper} {o : Oper} {a : Act} {Q : Exit → Act → World → Prop} (hg : Region.wanted o (yielded ops a.tmps) = true) (x y : Operand) (ty t2 : TypeId) (op : BinOp) (hop : o.op = .binOp op ty x y t2) (u v : Array Value) (hx : a.eval x = .agg u) (hy : a.eval y = .agg v) (hm : Try.prog.eqGuardType Try.prog.depth ty = false) {r r' : Bool}
    (hrun : (Op.equalIn 10000 ty (.agg u) (.agg v)).run Try.prog w = .ok r w) (he : (op = .eql ∧ r' = r) ∨ (op = .neq ∧ r' = !r)) (h : wpList Try.prog ops Q rest (a.put o.dst (.bool r')) w) : wpList Try.prog ops Q (o :: rest) a w := by
  refine BigFrame.wpList_want hg fun K' hK' => ?_
  unfold Oper.wp execOp
  rw [hop]
  simp only [hx, hy]
  have hq := run_eqGuard_agg (P := Try.prog) (w := w) op ty x y u v hm
  rcases he with ⟨rfl, rfl⟩ | ⟨rfl, rfl⟩
  · simp [binOp, Op.equal, Op.maxDepth, hq, hrun, Result.andThen]
    exact hK' _ _ h
  · simp [binOp, Op.equal, Op.maxDepth, hq, hrun, Result.andThen]
    exact hK' _ _ h
theorem equal33' {t t' : Tup} (ht : t.Ok) (ht' : t'.Ok) (w : World) : (Op.equalIn 10000 33 (.agg t.cells.toArray) (.agg t'.cells.toArray)).run Try.prog w = .ok (decide (t = t')) w := by
  obtain ⟨r, h1, h2⟩ := equal33 ht ht' w
  refine h1.trans ?_
  cases r with
  | true => rw [decide_eq_true (h2.1 rfl)]
  | false => rw [decide_eq_false (fun e => by have := h2.2 e; cases this)]
theorem ints_form {w : World} {k : IntKind} {A : Option Addr} {n : Nat} {xs : List Int} (h : ReadsInt w k A n xs) (h0 : 0 < n) : ∃ b off, A = some ⟨b, off, none⟩ ∧ b < w.heap.size ∧ ∀ j, j < n → w.cell? ⟨b, off + j, none⟩ = some (.int k (xs.getD j 0)) := by
  obtain ⟨⟨b, off, sp⟩, rfl, hc⟩ := h.2.2 h0
  have h1 := hc 0 h0
  obtain rfl : sp = none := by
    cases sp with
    | none => rfl
    | some s =>
      simp only [Addr.add, if_true, World.cell?] at h1
      split at h1 <;> simp at h1
  refine ⟨b, off, rfl, World.block_lt_of_cell? w _ h1, fun j hj => ?_⟩
  have := hc j hj
  have e : (⟨b, off, none⟩ : Addr).add j = ⟨b, off + j, none⟩ := by unfold Addr.add; split <;> simp_all
  rwa [e] at this
theorem keep9 {W W1 : World} {o : Obj} {b : Nat} {cs : List Value} (h : W.rangeAt b 0 cs) (hb : b < W.heap.size) (hf : Fr (fun k => k = W.heap.size) (W.alloc o) W1) : W1.rangeAt b 0 cs :=
  range_fr (range_below h (below_alloc (Below.refl _ _) o) hb) hf (by omega) (by rw [size_alloc1]; omega)
theorem cell_keep {W W1 : World} {o : Obj} {b off : Nat} {v : Value} (h : W.cell? ⟨b, off, none⟩ = some v) (hf : Fr (fun k => k = W.heap.size) (W.alloc o) W1) : W1.cell? ⟨b, off, none⟩ = some v := by
  have hlt : b < W.heap.size := block_lt_of_cell (a := ⟨b, off, none⟩) h
  have h1 := ((below_alloc (Below.refl W.heap.size W) o).cell (p := ⟨b, off, none⟩) hlt).trans h
  rw [← h1]
  unfold World.cell?
  simp only [hf.block b (by rw [size_alloc1]; omega) (by omega)]
theorem k_store {w W W1 : World} {o : Obj} {bk l : Int} {c : Nat} (h : KS w bk c l W) (hf : Fr (fun k => k = W.heap.size) (W.alloc o) W1) : KS w bk c l W1 :=
  h.below ((below_alloc (Below.refl _ _) o).trans (hf.below (fun k hk e => by omega) (by rw [size_alloc1]; omega)))
theorem KS.to {w W : World} {bk l : Int} {c c' : Nat} (h : KS w bk c l W) (hc : c ≤ c') : KS w bk c' l W := by
  obtain ⟨M, U, hs, h1⟩ := h; exact ⟨M, U, hs.mono hc, h1⟩
theorem KS.size {w W : World} {bk l : Int} {c : Nat} (h : KS w bk c l W) : w.heap.size + 2 < W.heap.size := by obtain ⟨M, U, hs, _⟩ := h; exact hs.lt
theorem KS.bel {w W : World} {bk l : Int} {c : Nat} (h : KS w bk c l W) : Below w.heap.size w W := by obtain ⟨M, U, _, _, _, hb⟩ := h; exact hb
theorem pin_read {W : World} {B : Nat} {C T0 : List Value} {bk l : Int} (h0 : kt.cells = T0) (hC : C = (kp bk l).cells) (h : W.rangeAt B 0 C) : W.cell? ⟨B, 37, none⟩ = some (.int .i64 bk) ∧ W.cell? ⟨B, 38, none⟩ = some (.int .i64 7) ∧ W.rangeAt B 0 T0 := by
  subst hC; subst h0
  have h1 := h 37 _ (by rw [show 37 = 37 + 0 by rfl, Pn.at_end (x := kp bk l) kt_ok]; rfl)
  have h2 := h 38 _ (by rw [show 38 = 37 + 1 by rfl, Pn.at_end (x := kp bk l) kt_ok]; rfl)
  rw [Nat.zero_add] at h1 h2
  exact ⟨h1, h2, range_pre (r := [.int .i64 bk, .int .i64 7, .int .i64 6, .int .i64 1, .int .i64 l]) h⟩
def KRel (w : World) (bk : Int) (B9 : Nat) (n : Nat) (v10 v13 : Value) (wr : World) : Prop :=
  ∃ (i : Nat) (now : Int), v10 = .int .i64 now ∧ v13 = .int .i64 i ∧ i ≤ n ∧ i ≤ 60 ∧ KS w bk (2 + 4 * i) now wr ∧ 0 ≤ now ∧ now ≤ 60 * i ∧ wr.rangeAt B9 0 kt.cells ∧ B9 < wr.heap.size ∧ w.heap.size + 2 < B9
set_option maxHeartbeats 8000000 in
set_option maxRecDepth 100000 in
theorem keeps_law (A : Option Addr) (cap : Nat) (l : List Ac) (A1 : Option Addr) (c1 : Nat) (ds : List Int) (bk0 : Int) (w : World) (hl : AcsAt w A l) (hmx : l.length ≤ maxLen) (hr1 : ReadsInt w .i64 A1 ds.length ds) (hm1 : ds.length ≤ maxLen) (hw1 : ∀ x ∈ ds, (Lit.int .i64 x).wf = true) :
    Calls Try.prog 3 #[.slice A l.length cap, .slice A1 ds.length c1, .int .i64 bk0] w (LawPost w) := by
  have HL := Aside0.mk hl
  have HD := Aside0.mk hr1
  have hml : l.length ≤ 9223372036854775807 := by unfold maxLen at hmx; omega
  have hmd : ds.length ≤ 9223372036854775807 := by unfold maxLen at hm1; omega
  clear hl hmx hr1 hm1 hw1
  have l0 : kt.cells.length = 37 := Tup.len kt_ok
  have o0 : ∀ v ∈ kt.cells, v.oneCell' = true := Tup.one
  have HT := Aside0.mk (fun W => tuple_flat 60000 W (by omega))
  have e0 : tupK (1 + 60000) = kt := rfl
  rw [e0] at HT
  clear e0
  have HE0 := Aside0.mk (fun W => equal33' kt_ok kt_ok W)
  rw [decide_eq_true rfl] at HE0
  have HFI := Aside0.mk (fun (W : World) (bk : Int) (hs : IsS W (w.heap.size + 2) w.heap.size (w.heap.size + 1) 256 0 [] (fun _ _ => none)) (hb : Below w.heap.size w W) (hk : 0 ≤ bk ∧ bk < 32) => k_first hs hb hk)
  generalize hT0 : kt.cells = T0 at l0 o0 HT HE0 HFI
  have HT0 := Aside0.mk hT0
  clear hT0
  go_enter Try.func3, Try.ntmps3
  go_wp2_with fail
  refine (new_any w 256 (by omega) (by omega)).mono ?_
  rintro e w1 ⟨rfl, hs1, hb1⟩
  have HS := Aside0.mk (And.intro hs1 hb1)
  have z1 := hs1.lt
  clear hs1 hb1
  go_wp2_with fail
  refine (count8 bk0 32 _ (by omega) (by omega)).mono ?_
  rintro e w2 ⟨bk, hk0, hk1, rfl, rfl⟩
  have HW := Aside0.mk (show wf64 bk from wf64_of (by omega))
  go_wp2_with fail
  refine (HT.out _).mono ?_
  rintro e w2 ⟨rfl, hb2⟩
  have HS := Aside0.mk (And.intro (HS.out.1.below hb2) (HS.out.2.trans (hb2.mono HS.out.2.size)))
  have z2 : w.heap.size + 2 < w2.heap.size := Nat.lt_of_lt_of_le z1 hb2.size
  clear hb2 z1 HT

  go_wp2_with (first
    | (refine wpList_store_fr (by rfl) 33 _ _ rfl w2.heap.size 0 T0 rfl rfl (by rw [size_alloc1]; omega) (by rw [l0]; exact new_there (Nat.le_refl _)) (by rw [l0]; exact size33) o0 ?_; intro w3 hr3 hf3 hs3; have HS3 := Aside0.mk (known_box HS.out hr3 hf3 hs3); have K3 := HS3.out.2.2.1; clear hr3 hf3 hs3)
    | (refine wpList_load_midG (by rfl) 33 _ rfl w2.heap.size 0 rfl T0 _ K3 Try.underlying33 rfl (by rw [l0]; exact size33) ?_))
  refine (HFI.out w3 bk HS3.out.1 HS3.out.2.1 ⟨hk0, hk1⟩).mono ?_
  rintro e w4 ⟨C, k, ⟨lC, oC⟩, rfl, hC, hq4, hf4⟩
  obtain ⟨hC1, rfl⟩ := hC _ rfl
  clear hC1
  have HQ4 := Aside0.mk hq4
  have KB4 := range_fr K3 hf4 (by rintro (e | e) <;> omega) HS3.out.2.2.2
  have hz4 : w2.heap.size < w4.heap.size := Nat.lt_of_lt_of_le HS3.out.2.2.2 hf4.size
  clear hq4 hf4 hC K3 HFI HS HS3
  go_wp2_with (first
    | (refine wpList_store_fr (by rfl) 38 _ _ rfl w4.heap.size 0 C rfl rfl (by rw [size_alloc1]; omega) (by rw [lC]; exact new_there (Nat.le_refl _)) (by rw [lC]; exact size38) oC ?_; intro w5 hr5 hf5 hs5; have HQ5 := Aside0.mk (k_store HQ4.out hf5); have KB5 := keep9 KB4 hz4 hf5; have hz5 : w2.heap.size < w5.heap.size := (by have h6 := hs5.trans (size_alloc1 _ _); omega); clear hr5 hf5 hs5 lC oC KB4 hz4))
  generalize w2.heap.size = B9 at *
  have HB5 := Aside0.mk (And.intro KB5 hz5)
  clear KB5 hz5
  go_loopw [10, 13, 14, 15, 16, 17] (fun v10 v13 _ _ _ _ wr => KRel w bk B9 l.length v10 v13 wr) (fun _ i _ _ _ _ _ => l.length - (intOf i).toNat)
  case atStart => exact ⟨0, 0, rfl, rfl, by omega, by omega, HQ5.out, by omega, by omega, by rw [HT0.out]; exact HB5.out.1, HB5.out.2, z2⟩
  case round =>
    obtain ⟨i, now, rfl, rfl, hi1, hi2, hks, hn0, hn1, hb9, hz9, h9⟩ := hrel
    rw [HT0.out] at hb9
    have HKS := Aside0.mk hks
    have HB9 := Aside0.mk (And.intro hb9 hz9)
    clear hks hb9 hz9 HB5 HQ5
    by_cases hlt : i < l.length
    · by_cases h60 : i < 60
      · rcases HL.out with h0 | ⟨b0, off, rfl, hb0, hat⟩
        · subst h0; simp at hlt
        obtain ⟨y, hy⟩ : ∃ y, y = l[i]'hlt := ⟨_, rfl⟩
        have hat := hat i hlt
        rw [← hy] at hat
        obtain ⟨hr, hok⟩ := hat
        have hr := range_below hr HKS.out.bel hb0
        have HOK := Aside0.mk hok
        have l43 : y.cells.length = 43 := Ac.len hok.t
        have o43 : ∀ v ∈ y.cells, v.oneCell' = true := Ac.one
        have hlo := HKS.out.size
        have hz9 := HB9.out.2
        have HEQ := Aside0.mk (fun W => equal33' HOK.out.t kt_ok W)
        rw [HT0.out] at HEQ
        clear hok hy
        generalize hCS : y.cells = CS at hr l43 o43
        have HCS := Aside0.mk hCS
        clear hCS
        have lT : y.t.cells.length = 37 := Tup.len HOK.out.t
        generalize hTS : y.t.cells = TS at lT HEQ
        have HTS := Aside0.mk hTS
        clear hTS
        by_cases hne : y.t = kt
        · rw [decide_eq_true hne] at HEQ
          have hwi : IntKind.i64.wrap ((i : Int) + 1) = ((i : Int) + 1) := IntWalk.i64_in _ (by omega)
          go_wp2_with (first
            | (refine wpList_load_midG (by rfl) 42 _ rfl b0 (off + i * 43) rfl CS _ hr Try.underlying42 rfl (by rw [l43]; exact size42) ?_)
            | (refine wpList_store_fr (by rfl) 42 _ _ rfl wr.heap.size 0 CS rfl rfl (by rw [size_alloc1]; omega) (by rw [l43]; exact new_there (Nat.le_refl _)) (by rw [l43]; exact size42) o43 ?_; intro w2 hr2 hf2 hs2; have HV := Aside0.mk (AcVar.of HOK.out.t HCS.out hr2); have c0 := HV.out.c0; have c38 := HV.out.c38; have c41 := HV.out.c41; have c42 := HV.out.c42; have KT := AcVar.tt HV.out HTS.out; have KB := keep9 HB9.out.1 HB9.out.2 hf2; have hz2 := hs2.trans (size_alloc1 _ _); have HQ := Aside0.mk (k_store HKS.out hf2); clear hr2 hf2 hs2 hr l43 o43)
            | (refine wpList_load_midG (by rfl) 33 _ rfl wr.heap.size 1 rfl TS _ KT Try.underlying33 rfl (by rw [lT]; exact size33) ?_)
            | (refine wpList_load_midG (by rfl) 33 _ rfl B9 0 rfl T0 _ KB Try.underlying33 rfl (by rw [l0]; exact size33) ?_)
            | (refine eqop_at _ rfl _ _ 33 33 .eql rfl TS.toArray T0.toArray rfl rfl eqg33 (HEQ.out _) (.inl ⟨rfl, rfl⟩) ?_))
          exact ⟨⟨i + 1, now, rfl, by simp, by omega, by omega, HQ.out.to (by omega), by omega, by omega, by rw [HT0.out]; exact KB, by omega, h9⟩, by simp [intOf]; omega⟩
        · rw [decide_eq_false hne] at HEQ
          have hwi : IntKind.i64.wrap ((i : Int) + 1) = ((i : Int) + 1) := IntWalk.i64_in _ (by omega)
          by_cases hd : i < ds.length
          · obtain ⟨b1, off1, rfl, hb1, hd1⟩ := ints_form HD.out (by omega)
            have cd : wr.cell? ⟨b1, off1 + i, none⟩ = some (.int .i64 (ds.getD i 0)) := (HKS.out.bel.cell (p := ⟨b1, off1 + i, none⟩) hb1).trans (hd1 i hd)
            clear hd1
            generalize ds.getD i 0 = d at cd
            have HCD := Aside0.mk (And.intro cd hb1)
            clear cd
            by_cases hd0 : 0 ≤ d
            · by_cases hd60 : d ≤ 60
              · obtain ⟨now2, hsw, hN1, hN2⟩ : ∃ now2, IntKind.i64.wrap (now + d) = now2 ∧ now ≤ now2 ∧ now2 ≤ now + 60 := ⟨now + d, IntWalk.i64_in _ (by omega), by omega, by omega⟩
                by_cases hk : y.kind < 2
                · go_wp2_with (first
                    | (refine wpList_load_midG (by rfl) 42 _ rfl b0 (off + i * 43) rfl CS _ hr Try.underlying42 rfl (by rw [l43]; exact size42) ?_)
                    | (refine wpList_store_fr (by rfl) 42 _ _ rfl wr.heap.size 0 CS rfl rfl (by rw [size_alloc1]; omega) (by rw [l43]; exact new_there (Nat.le_refl _)) (by rw [l43]; exact size42) o43 ?_; intro w2 hr2 hf2 hs2; have HV := Aside0.mk (AcVar.of HOK.out.t HCS.out hr2); have c0 := HV.out.c0; have c38 := HV.out.c38; have c41 := HV.out.c41; have c42 := HV.out.c42; have KT := AcVar.tt HV.out HTS.out; have KB := keep9 HB9.out.1 HB9.out.2 hf2; have hz2 := hs2.trans (size_alloc1 _ _); have HQ := Aside0.mk (k_store HKS.out hf2); have cd := cell_keep HCD.out.1 hf2; clear hr2 hf2 hs2 hr l43 o43)
                    | (refine wpList_load_midG (by rfl) 33 _ rfl wr.heap.size 1 rfl TS _ KT Try.underlying33 rfl (by rw [lT]; exact size33) ?_)
                    | (refine wpList_load_midG (by rfl) 33 _ rfl B9 0 rfl T0 _ KB Try.underlying33 rfl (by rw [l0]; exact size33) ?_)
                    | (refine eqop_at _ rfl _ _ 33 33 .eql rfl TS.toArray T0.toArray rfl rfl eqg33 (HEQ.out _) (.inl ⟨rfl, rfl⟩) ?_))
                  have hcl := k_packet (f := y.flags) (now := now2) HQ.out HOK.out.t hne (by omega) (by omega)
                  rw [HTS.out] at hcl
                  refine hcl.mono ?_
                  rintro e w4 ⟨C, k, _, rfl, _, hq4, hf4⟩
                  have HQ4 := Aside0.mk hq4
                  have KB4 := range_fr KB hf4 (by rintro (e | e) <;> omega) (by omega)
                  have hz4 : B9 < w4.heap.size := Nat.lt_of_lt_of_le (show B9 < w2.heap.size by omega) hf4.size
                  clear hq4 hf4 hcl c0 c38 c41 c42 KT KB HQ HV cd
                  have hcm := k_mine HQ4.out HW.out (l := now) (now := now2) (by omega) (by omega)
                  rw [HT0.out] at hcm
                  go_wp2_with (refine wpList_load_midG (by rfl) 33 _ rfl B9 0 rfl T0 _ KB4 Try.underlying33 rfl (by rw [l0]; exact size33) ?_)
                  refine hcm.mono ?_
                  rintro e w5 ⟨C, k, ⟨lC, oC⟩, rfl, hC, hq5, hf5⟩
                  obtain ⟨hC1, rfl⟩ := hC _ rfl
                  have HQ5 := Aside0.mk hq5
                  have KB5 := range_fr KB4 hf5 (by rintro (e | e) <;> omega) hz4
                  have hz5 : B9 < w5.heap.size := Nat.lt_of_lt_of_le hz4 hf5.size
                  have HC1 := Aside0.mk hC1
                  clear hq5 hf5 hcm hC hC1 KB4 hz4
                  go_wp2_with (first
                    | (refine wpList_store_fr (by rfl) 38 _ _ rfl w5.heap.size 0 C rfl rfl (by rw [size_alloc1]; omega) (by rw [lC]; exact new_there (Nat.le_refl _)) (by rw [lC]; exact size38) oC ?_; intro w6 hr6 hf6 hs6; have HQ6 := Aside0.mk (k_store HQ5.out hf6); have KB6 := keep9 KB5 hz5 hf6; (obtain ⟨d37, d38, K0⟩ := pin_read HT0.out HC1.out hr6); have hz6 : B9 < w6.heap.size := (by have h6 := hs6.trans (size_alloc1 _ _); omega); clear hr6 hf6 hs6 lC oC KB5 hz5)
                    | (refine wpList_load_midG (by rfl) 33 _ rfl w5.heap.size 0 rfl T0 _ K0 Try.underlying33 rfl (by rw [l0]; exact size33) ?_)
                    | (refine wpList_load_midG (by rfl) 33 _ rfl B9 0 rfl T0 _ KB6 Try.underlying33 rfl (by rw [l0]; exact size33) ?_)
                    | (refine eqop_want (by rfl) _ _ 33 33 .neq rfl T0.toArray T0.toArray rfl rfl eqg33 (HE0.out _) (.inr ⟨rfl, rfl⟩) ?_))
                  exact ⟨⟨i + 1, now2, rfl, by simp, by omega, by omega, HQ6.out.to (by omega), by omega, by omega, by rw [HT0.out]; exact KB6, hz6, h9⟩, by simp [intOf]; omega⟩
                · go_wp2_with (first
                    | (refine wpList_load_midG (by rfl) 42 _ rfl b0 (off + i * 43) rfl CS _ hr Try.underlying42 rfl (by rw [l43]; exact size42) ?_)
                    | (refine wpList_store_fr (by rfl) 42 _ _ rfl wr.heap.size 0 CS rfl rfl (by rw [size_alloc1]; omega) (by rw [l43]; exact new_there (Nat.le_refl _)) (by rw [l43]; exact size42) o43 ?_; intro w2 hr2 hf2 hs2; have HV := Aside0.mk (AcVar.of HOK.out.t HCS.out hr2); have c0 := HV.out.c0; have c38 := HV.out.c38; have c41 := HV.out.c41; have c42 := HV.out.c42; have KT := AcVar.tt HV.out HTS.out; have KB := keep9 HB9.out.1 HB9.out.2 hf2; have hz2 := hs2.trans (size_alloc1 _ _); have HQ := Aside0.mk (k_store HKS.out hf2); have cd := cell_keep HCD.out.1 hf2; clear hr2 hf2 hs2 hr l43 o43)
                    | (refine wpList_load_midG (by rfl) 33 _ rfl wr.heap.size 1 rfl TS _ KT Try.underlying33 rfl (by rw [lT]; exact size33) ?_)
                    | (refine wpList_load_midG (by rfl) 33 _ rfl B9 0 rfl T0 _ KB Try.underlying33 rfl (by rw [l0]; exact size33) ?_)
                    | (refine eqop_at _ rfl _ _ 33 33 .eql rfl TS.toArray T0.toArray rfl rfl eqg33 (HEQ.out _) (.inl ⟨rfl, rfl⟩) ?_))
                  have hcl := k_begin (f := y.flags) (now := now2) HQ.out HOK.out.t hne HOK.out.b HOK.out.g (by omega) (by omega)
                  rw [HTS.out] at hcl
                  refine hcl.mono ?_
                  rintro e w4 ⟨C, k, _, rfl, _, hq4, hf4⟩
                  have HQ4 := Aside0.mk hq4
                  have KB4 := range_fr KB hf4 (by rintro (e | e) <;> omega) (by omega)
                  have hz4 : B9 < w4.heap.size := Nat.lt_of_lt_of_le (show B9 < w2.heap.size by omega) hf4.size
                  clear hq4 hf4 hcl c0 c38 c41 c42 KT KB HQ HV cd
                  have hcm := k_mine HQ4.out HW.out (l := now) (now := now2) (by omega) (by omega)
                  rw [HT0.out] at hcm
                  go_wp2_with (refine wpList_load_midG (by rfl) 33 _ rfl B9 0 rfl T0 _ KB4 Try.underlying33 rfl (by rw [l0]; exact size33) ?_)
                  refine hcm.mono ?_
                  rintro e w5 ⟨C, k, ⟨lC, oC⟩, rfl, hC, hq5, hf5⟩
                  obtain ⟨hC1, rfl⟩ := hC _ rfl
                  have HQ5 := Aside0.mk hq5
                  have KB5 := range_fr KB4 hf5 (by rintro (e | e) <;> omega) hz4
                  have hz5 : B9 < w5.heap.size := Nat.lt_of_lt_of_le hz4 hf5.size
                  have HC1 := Aside0.mk hC1
                  clear hq5 hf5 hcm hC hC1 KB4 hz4
                  go_wp2_with (first
                    | (refine wpList_store_fr (by rfl) 38 _ _ rfl w5.heap.size 0 C rfl rfl (by rw [size_alloc1]; omega) (by rw [lC]; exact new_there (Nat.le_refl _)) (by rw [lC]; exact size38) oC ?_; intro w6 hr6 hf6 hs6; have HQ6 := Aside0.mk (k_store HQ5.out hf6); have KB6 := keep9 KB5 hz5 hf6; (obtain ⟨d37, d38, K0⟩ := pin_read HT0.out HC1.out hr6); have hz6 : B9 < w6.heap.size := (by have h6 := hs6.trans (size_alloc1 _ _); omega); clear hr6 hf6 hs6 lC oC KB5 hz5)
                    | (refine wpList_load_midG (by rfl) 33 _ rfl w5.heap.size 0 rfl T0 _ K0 Try.underlying33 rfl (by rw [l0]; exact size33) ?_)
                    | (refine wpList_load_midG (by rfl) 33 _ rfl B9 0 rfl T0 _ KB6 Try.underlying33 rfl (by rw [l0]; exact size33) ?_)
                    | (refine eqop_want (by rfl) _ _ 33 33 .neq rfl T0.toArray T0.toArray rfl rfl eqg33 (HE0.out _) (.inr ⟨rfl, rfl⟩) ?_))
                  exact ⟨⟨i + 1, now2, rfl, by simp, by omega, by omega, HQ6.out.to (by omega), by omega, by omega, by rw [HT0.out]; exact KB6, hz6, h9⟩, by simp [intOf]; omega⟩
              · obtain ⟨now2, hsw, hN1, hN2⟩ : ∃ now2, IntKind.i64.wrap (now + 1) = now2 ∧ now ≤ now2 ∧ now2 ≤ now + 60 := ⟨now + 1, IntWalk.i64_in _ (by omega), by omega, by omega⟩
                by_cases hk : y.kind < 2
                · go_wp2_with (first
                    | (refine wpList_load_midG (by rfl) 42 _ rfl b0 (off + i * 43) rfl CS _ hr Try.underlying42 rfl (by rw [l43]; exact size42) ?_)
                    | (refine wpList_store_fr (by rfl) 42 _ _ rfl wr.heap.size 0 CS rfl rfl (by rw [size_alloc1]; omega) (by rw [l43]; exact new_there (Nat.le_refl _)) (by rw [l43]; exact size42) o43 ?_; intro w2 hr2 hf2 hs2; have HV := Aside0.mk (AcVar.of HOK.out.t HCS.out hr2); have c0 := HV.out.c0; have c38 := HV.out.c38; have c41 := HV.out.c41; have c42 := HV.out.c42; have KT := AcVar.tt HV.out HTS.out; have KB := keep9 HB9.out.1 HB9.out.2 hf2; have hz2 := hs2.trans (size_alloc1 _ _); have HQ := Aside0.mk (k_store HKS.out hf2); have cd := cell_keep HCD.out.1 hf2; clear hr2 hf2 hs2 hr l43 o43)
                    | (refine wpList_load_midG (by rfl) 33 _ rfl wr.heap.size 1 rfl TS _ KT Try.underlying33 rfl (by rw [lT]; exact size33) ?_)
                    | (refine wpList_load_midG (by rfl) 33 _ rfl B9 0 rfl T0 _ KB Try.underlying33 rfl (by rw [l0]; exact size33) ?_)
                    | (refine eqop_at _ rfl _ _ 33 33 .eql rfl TS.toArray T0.toArray rfl rfl eqg33 (HEQ.out _) (.inl ⟨rfl, rfl⟩) ?_))
                  have hcl := k_packet (f := y.flags) (now := now2) HQ.out HOK.out.t hne (by omega) (by omega)
                  rw [HTS.out] at hcl
                  refine hcl.mono ?_
                  rintro e w4 ⟨C, k, _, rfl, _, hq4, hf4⟩
                  have HQ4 := Aside0.mk hq4
                  have KB4 := range_fr KB hf4 (by rintro (e | e) <;> omega) (by omega)
                  have hz4 : B9 < w4.heap.size := Nat.lt_of_lt_of_le (show B9 < w2.heap.size by omega) hf4.size
                  clear hq4 hf4 hcl c0 c38 c41 c42 KT KB HQ HV cd
                  have hcm := k_mine HQ4.out HW.out (l := now) (now := now2) (by omega) (by omega)
                  rw [HT0.out] at hcm
                  go_wp2_with (refine wpList_load_midG (by rfl) 33 _ rfl B9 0 rfl T0 _ KB4 Try.underlying33 rfl (by rw [l0]; exact size33) ?_)
                  refine hcm.mono ?_
                  rintro e w5 ⟨C, k, ⟨lC, oC⟩, rfl, hC, hq5, hf5⟩
                  obtain ⟨hC1, rfl⟩ := hC _ rfl
                  have HQ5 := Aside0.mk hq5
                  have KB5 := range_fr KB4 hf5 (by rintro (e | e) <;> omega) hz4
                  have hz5 : B9 < w5.heap.size := Nat.lt_of_lt_of_le hz4 hf5.size
                  have HC1 := Aside0.mk hC1
                  clear hq5 hf5 hcm hC hC1 KB4 hz4
                  go_wp2_with (first
                    | (refine wpList_store_fr (by rfl) 38 _ _ rfl w5.heap.size 0 C rfl rfl (by rw [size_alloc1]; omega) (by rw [lC]; exact new_there (Nat.le_refl _)) (by rw [lC]; exact size38) oC ?_; intro w6 hr6 hf6 hs6; have HQ6 := Aside0.mk (k_store HQ5.out hf6); have KB6 := keep9 KB5 hz5 hf6; (obtain ⟨d37, d38, K0⟩ := pin_read HT0.out HC1.out hr6); have hz6 : B9 < w6.heap.size := (by have h6 := hs6.trans (size_alloc1 _ _); omega); clear hr6 hf6 hs6 lC oC KB5 hz5)
                    | (refine wpList_load_midG (by rfl) 33 _ rfl w5.heap.size 0 rfl T0 _ K0 Try.underlying33 rfl (by rw [l0]; exact size33) ?_)
                    | (refine wpList_load_midG (by rfl) 33 _ rfl B9 0 rfl T0 _ KB6 Try.underlying33 rfl (by rw [l0]; exact size33) ?_)
                    | (refine eqop_want (by rfl) _ _ 33 33 .neq rfl T0.toArray T0.toArray rfl rfl eqg33 (HE0.out _) (.inr ⟨rfl, rfl⟩) ?_))
                  exact ⟨⟨i + 1, now2, rfl, by simp, by omega, by omega, HQ6.out.to (by omega), by omega, by omega, by rw [HT0.out]; exact KB6, hz6, h9⟩, by simp [intOf]; omega⟩
                · go_wp2_with (first
                    | (refine wpList_load_midG (by rfl) 42 _ rfl b0 (off + i * 43) rfl CS _ hr Try.underlying42 rfl (by rw [l43]; exact size42) ?_)
                    | (refine wpList_store_fr (by rfl) 42 _ _ rfl wr.heap.size 0 CS rfl rfl (by rw [size_alloc1]; omega) (by rw [l43]; exact new_there (Nat.le_refl _)) (by rw [l43]; exact size42) o43 ?_; intro w2 hr2 hf2 hs2; have HV := Aside0.mk (AcVar.of HOK.out.t HCS.out hr2); have c0 := HV.out.c0; have c38 := HV.out.c38; have c41 := HV.out.c41; have c42 := HV.out.c42; have KT := AcVar.tt HV.out HTS.out; have KB := keep9 HB9.out.1 HB9.out.2 hf2; have hz2 := hs2.trans (size_alloc1 _ _); have HQ := Aside0.mk (k_store HKS.out hf2); have cd := cell_keep HCD.out.1 hf2; clear hr2 hf2 hs2 hr l43 o43)
                    | (refine wpList_load_midG (by rfl) 33 _ rfl wr.heap.size 1 rfl TS _ KT Try.underlying33 rfl (by rw [lT]; exact size33) ?_)
                    | (refine wpList_load_midG (by rfl) 33 _ rfl B9 0 rfl T0 _ KB Try.underlying33 rfl (by rw [l0]; exact size33) ?_)
                    | (refine eqop_at _ rfl _ _ 33 33 .eql rfl TS.toArray T0.toArray rfl rfl eqg33 (HEQ.out _) (.inl ⟨rfl, rfl⟩) ?_))
                  have hcl := k_begin (f := y.flags) (now := now2) HQ.out HOK.out.t hne HOK.out.b HOK.out.g (by omega) (by omega)
                  rw [HTS.out] at hcl
                  refine hcl.mono ?_
                  rintro e w4 ⟨C, k, _, rfl, _, hq4, hf4⟩
                  have HQ4 := Aside0.mk hq4
                  have KB4 := range_fr KB hf4 (by rintro (e | e) <;> omega) (by omega)
                  have hz4 : B9 < w4.heap.size := Nat.lt_of_lt_of_le (show B9 < w2.heap.size by omega) hf4.size
                  clear hq4 hf4 hcl c0 c38 c41 c42 KT KB HQ HV cd
                  have hcm := k_mine HQ4.out HW.out (l := now) (now := now2) (by omega) (by omega)
                  rw [HT0.out] at hcm
                  go_wp2_with (refine wpList_load_midG (by rfl) 33 _ rfl B9 0 rfl T0 _ KB4 Try.underlying33 rfl (by rw [l0]; exact size33) ?_)
                  refine hcm.mono ?_
                  rintro e w5 ⟨C, k, ⟨lC, oC⟩, rfl, hC, hq5, hf5⟩
                  obtain ⟨hC1, rfl⟩ := hC _ rfl
                  have HQ5 := Aside0.mk hq5
                  have KB5 := range_fr KB4 hf5 (by rintro (e | e) <;> omega) hz4
                  have hz5 : B9 < w5.heap.size := Nat.lt_of_lt_of_le hz4 hf5.size
                  have HC1 := Aside0.mk hC1
                  clear hq5 hf5 hcm hC hC1 KB4 hz4
                  go_wp2_with (first
                    | (refine wpList_store_fr (by rfl) 38 _ _ rfl w5.heap.size 0 C rfl rfl (by rw [size_alloc1]; omega) (by rw [lC]; exact new_there (Nat.le_refl _)) (by rw [lC]; exact size38) oC ?_; intro w6 hr6 hf6 hs6; have HQ6 := Aside0.mk (k_store HQ5.out hf6); have KB6 := keep9 KB5 hz5 hf6; (obtain ⟨d37, d38, K0⟩ := pin_read HT0.out HC1.out hr6); have hz6 : B9 < w6.heap.size := (by have h6 := hs6.trans (size_alloc1 _ _); omega); clear hr6 hf6 hs6 lC oC KB5 hz5)
                    | (refine wpList_load_midG (by rfl) 33 _ rfl w5.heap.size 0 rfl T0 _ K0 Try.underlying33 rfl (by rw [l0]; exact size33) ?_)
                    | (refine wpList_load_midG (by rfl) 33 _ rfl B9 0 rfl T0 _ KB6 Try.underlying33 rfl (by rw [l0]; exact size33) ?_)
                    | (refine eqop_want (by rfl) _ _ 33 33 .neq rfl T0.toArray T0.toArray rfl rfl eqg33 (HE0.out _) (.inr ⟨rfl, rfl⟩) ?_))
                  exact ⟨⟨i + 1, now2, rfl, by simp, by omega, by omega, HQ6.out.to (by omega), by omega, by omega, by rw [HT0.out]; exact KB6, hz6, h9⟩, by simp [intOf]; omega⟩
            · obtain ⟨now2, hsw, hN1, hN2⟩ : ∃ now2, IntKind.i64.wrap (now + 1) = now2 ∧ now ≤ now2 ∧ now2 ≤ now + 60 := ⟨now + 1, IntWalk.i64_in _ (by omega), by omega, by omega⟩
              by_cases hk : y.kind < 2
              · go_wp2_with (first
                  | (refine wpList_load_midG (by rfl) 42 _ rfl b0 (off + i * 43) rfl CS _ hr Try.underlying42 rfl (by rw [l43]; exact size42) ?_)
                  | (refine wpList_store_fr (by rfl) 42 _ _ rfl wr.heap.size 0 CS rfl rfl (by rw [size_alloc1]; omega) (by rw [l43]; exact new_there (Nat.le_refl _)) (by rw [l43]; exact size42) o43 ?_; intro w2 hr2 hf2 hs2; have HV := Aside0.mk (AcVar.of HOK.out.t HCS.out hr2); have c0 := HV.out.c0; have c38 := HV.out.c38; have c41 := HV.out.c41; have c42 := HV.out.c42; have KT := AcVar.tt HV.out HTS.out; have KB := keep9 HB9.out.1 HB9.out.2 hf2; have hz2 := hs2.trans (size_alloc1 _ _); have HQ := Aside0.mk (k_store HKS.out hf2); have cd := cell_keep HCD.out.1 hf2; clear hr2 hf2 hs2 hr l43 o43)
                  | (refine wpList_load_midG (by rfl) 33 _ rfl wr.heap.size 1 rfl TS _ KT Try.underlying33 rfl (by rw [lT]; exact size33) ?_)
                  | (refine wpList_load_midG (by rfl) 33 _ rfl B9 0 rfl T0 _ KB Try.underlying33 rfl (by rw [l0]; exact size33) ?_)
                  | (refine eqop_at _ rfl _ _ 33 33 .eql rfl TS.toArray T0.toArray rfl rfl eqg33 (HEQ.out _) (.inl ⟨rfl, rfl⟩) ?_))
                have hcl := k_packet (f := y.flags) (now := now2) HQ.out HOK.out.t hne (by omega) (by omega)
                rw [HTS.out] at hcl
                refine hcl.mono ?_
                rintro e w4 ⟨C, k, _, rfl, _, hq4, hf4⟩
                have HQ4 := Aside0.mk hq4
                have KB4 := range_fr KB hf4 (by rintro (e | e) <;> omega) (by omega)
                have hz4 : B9 < w4.heap.size := Nat.lt_of_lt_of_le (show B9 < w2.heap.size by omega) hf4.size
                clear hq4 hf4 hcl c0 c38 c41 c42 KT KB HQ HV cd
                have hcm := k_mine HQ4.out HW.out (l := now) (now := now2) (by omega) (by omega)
                rw [HT0.out] at hcm
                go_wp2_with (refine wpList_load_midG (by rfl) 33 _ rfl B9 0 rfl T0 _ KB4 Try.underlying33 rfl (by rw [l0]; exact size33) ?_)
                refine hcm.mono ?_
                rintro e w5 ⟨C, k, ⟨lC, oC⟩, rfl, hC, hq5, hf5⟩
                obtain ⟨hC1, rfl⟩ := hC _ rfl
                have HQ5 := Aside0.mk hq5
                have KB5 := range_fr KB4 hf5 (by rintro (e | e) <;> omega) hz4
                have hz5 : B9 < w5.heap.size := Nat.lt_of_lt_of_le hz4 hf5.size
                have HC1 := Aside0.mk hC1
                clear hq5 hf5 hcm hC hC1 KB4 hz4
                go_wp2_with (first
                  | (refine wpList_store_fr (by rfl) 38 _ _ rfl w5.heap.size 0 C rfl rfl (by rw [size_alloc1]; omega) (by rw [lC]; exact new_there (Nat.le_refl _)) (by rw [lC]; exact size38) oC ?_; intro w6 hr6 hf6 hs6; have HQ6 := Aside0.mk (k_store HQ5.out hf6); have KB6 := keep9 KB5 hz5 hf6; (obtain ⟨d37, d38, K0⟩ := pin_read HT0.out HC1.out hr6); have hz6 : B9 < w6.heap.size := (by have h6 := hs6.trans (size_alloc1 _ _); omega); clear hr6 hf6 hs6 lC oC KB5 hz5)
                  | (refine wpList_load_midG (by rfl) 33 _ rfl w5.heap.size 0 rfl T0 _ K0 Try.underlying33 rfl (by rw [l0]; exact size33) ?_)
                  | (refine wpList_load_midG (by rfl) 33 _ rfl B9 0 rfl T0 _ KB6 Try.underlying33 rfl (by rw [l0]; exact size33) ?_)
                  | (refine eqop_want (by rfl) _ _ 33 33 .neq rfl T0.toArray T0.toArray rfl rfl eqg33 (HE0.out _) (.inr ⟨rfl, rfl⟩) ?_))
                exact ⟨⟨i + 1, now2, rfl, by simp, by omega, by omega, HQ6.out.to (by omega), by omega, by omega, by rw [HT0.out]; exact KB6, hz6, h9⟩, by simp [intOf]; omega⟩
              · go_wp2_with (first
                  | (refine wpList_load_midG (by rfl) 42 _ rfl b0 (off + i * 43) rfl CS _ hr Try.underlying42 rfl (by rw [l43]; exact size42) ?_)
                  | (refine wpList_store_fr (by rfl) 42 _ _ rfl wr.heap.size 0 CS rfl rfl (by rw [size_alloc1]; omega) (by rw [l43]; exact new_there (Nat.le_refl _)) (by rw [l43]; exact size42) o43 ?_; intro w2 hr2 hf2 hs2; have HV := Aside0.mk (AcVar.of HOK.out.t HCS.out hr2); have c0 := HV.out.c0; have c38 := HV.out.c38; have c41 := HV.out.c41; have c42 := HV.out.c42; have KT := AcVar.tt HV.out HTS.out; have KB := keep9 HB9.out.1 HB9.out.2 hf2; have hz2 := hs2.trans (size_alloc1 _ _); have HQ := Aside0.mk (k_store HKS.out hf2); have cd := cell_keep HCD.out.1 hf2; clear hr2 hf2 hs2 hr l43 o43)
                  | (refine wpList_load_midG (by rfl) 33 _ rfl wr.heap.size 1 rfl TS _ KT Try.underlying33 rfl (by rw [lT]; exact size33) ?_)
                  | (refine wpList_load_midG (by rfl) 33 _ rfl B9 0 rfl T0 _ KB Try.underlying33 rfl (by rw [l0]; exact size33) ?_)
                  | (refine eqop_at _ rfl _ _ 33 33 .eql rfl TS.toArray T0.toArray rfl rfl eqg33 (HEQ.out _) (.inl ⟨rfl, rfl⟩) ?_))
                have hcl := k_begin (f := y.flags) (now := now2) HQ.out HOK.out.t hne HOK.out.b HOK.out.g (by omega) (by omega)
                rw [HTS.out] at hcl
                refine hcl.mono ?_
                rintro e w4 ⟨C, k, _, rfl, _, hq4, hf4⟩
                have HQ4 := Aside0.mk hq4
                have KB4 := range_fr KB hf4 (by rintro (e | e) <;> omega) (by omega)
                have hz4 : B9 < w4.heap.size := Nat.lt_of_lt_of_le (show B9 < w2.heap.size by omega) hf4.size
                clear hq4 hf4 hcl c0 c38 c41 c42 KT KB HQ HV cd
                have hcm := k_mine HQ4.out HW.out (l := now) (now := now2) (by omega) (by omega)
                rw [HT0.out] at hcm
                go_wp2_with (refine wpList_load_midG (by rfl) 33 _ rfl B9 0 rfl T0 _ KB4 Try.underlying33 rfl (by rw [l0]; exact size33) ?_)
                refine hcm.mono ?_
                rintro e w5 ⟨C, k, ⟨lC, oC⟩, rfl, hC, hq5, hf5⟩
                obtain ⟨hC1, rfl⟩ := hC _ rfl
                have HQ5 := Aside0.mk hq5
                have KB5 := range_fr KB4 hf5 (by rintro (e | e) <;> omega) hz4
                have hz5 : B9 < w5.heap.size := Nat.lt_of_lt_of_le hz4 hf5.size
                have HC1 := Aside0.mk hC1
                clear hq5 hf5 hcm hC hC1 KB4 hz4
                go_wp2_with (first
                  | (refine wpList_store_fr (by rfl) 38 _ _ rfl w5.heap.size 0 C rfl rfl (by rw [size_alloc1]; omega) (by rw [lC]; exact new_there (Nat.le_refl _)) (by rw [lC]; exact size38) oC ?_; intro w6 hr6 hf6 hs6; have HQ6 := Aside0.mk (k_store HQ5.out hf6); have KB6 := keep9 KB5 hz5 hf6; (obtain ⟨d37, d38, K0⟩ := pin_read HT0.out HC1.out hr6); have hz6 : B9 < w6.heap.size := (by have h6 := hs6.trans (size_alloc1 _ _); omega); clear hr6 hf6 hs6 lC oC KB5 hz5)
                  | (refine wpList_load_midG (by rfl) 33 _ rfl w5.heap.size 0 rfl T0 _ K0 Try.underlying33 rfl (by rw [l0]; exact size33) ?_)
                  | (refine wpList_load_midG (by rfl) 33 _ rfl B9 0 rfl T0 _ KB6 Try.underlying33 rfl (by rw [l0]; exact size33) ?_)
                  | (refine eqop_want (by rfl) _ _ 33 33 .neq rfl T0.toArray T0.toArray rfl rfl eqg33 (HE0.out _) (.inr ⟨rfl, rfl⟩) ?_))
                exact ⟨⟨i + 1, now2, rfl, by simp, by omega, by omega, HQ6.out.to (by omega), by omega, by omega, by rw [HT0.out]; exact KB6, hz6, h9⟩, by simp [intOf]; omega⟩
          · obtain ⟨now2, hsw, hN1, hN2⟩ : ∃ now2, IntKind.i64.wrap (now + 1) = now2 ∧ now ≤ now2 ∧ now2 ≤ now + 60 := ⟨now + 1, IntWalk.i64_in _ (by omega), by omega, by omega⟩
            by_cases hk : y.kind < 2
            · go_wp2_with (first
                | (refine wpList_load_midG (by rfl) 42 _ rfl b0 (off + i * 43) rfl CS _ hr Try.underlying42 rfl (by rw [l43]; exact size42) ?_)
                | (refine wpList_store_fr (by rfl) 42 _ _ rfl wr.heap.size 0 CS rfl rfl (by rw [size_alloc1]; omega) (by rw [l43]; exact new_there (Nat.le_refl _)) (by rw [l43]; exact size42) o43 ?_; intro w2 hr2 hf2 hs2; have HV := Aside0.mk (AcVar.of HOK.out.t HCS.out hr2); have c0 := HV.out.c0; have c38 := HV.out.c38; have c41 := HV.out.c41; have c42 := HV.out.c42; have KT := AcVar.tt HV.out HTS.out; have KB := keep9 HB9.out.1 HB9.out.2 hf2; have hz2 := hs2.trans (size_alloc1 _ _); have HQ := Aside0.mk (k_store HKS.out hf2); clear hr2 hf2 hs2 hr l43 o43)
                | (refine wpList_load_midG (by rfl) 33 _ rfl wr.heap.size 1 rfl TS _ KT Try.underlying33 rfl (by rw [lT]; exact size33) ?_)
                | (refine wpList_load_midG (by rfl) 33 _ rfl B9 0 rfl T0 _ KB Try.underlying33 rfl (by rw [l0]; exact size33) ?_)
                | (refine eqop_at _ rfl _ _ 33 33 .eql rfl TS.toArray T0.toArray rfl rfl eqg33 (HEQ.out _) (.inl ⟨rfl, rfl⟩) ?_))
              have hcl := k_packet (f := y.flags) (now := now2) HQ.out HOK.out.t hne (by omega) (by omega)
              rw [HTS.out] at hcl
              refine hcl.mono ?_
              rintro e w4 ⟨C, k, _, rfl, _, hq4, hf4⟩
              have HQ4 := Aside0.mk hq4
              have KB4 := range_fr KB hf4 (by rintro (e | e) <;> omega) (by omega)
              have hz4 : B9 < w4.heap.size := Nat.lt_of_lt_of_le (show B9 < w2.heap.size by omega) hf4.size
              clear hq4 hf4 hcl c0 c38 c41 c42 KT KB HQ HV
              have hcm := k_mine HQ4.out HW.out (l := now) (now := now2) (by omega) (by omega)
              rw [HT0.out] at hcm
              go_wp2_with (refine wpList_load_midG (by rfl) 33 _ rfl B9 0 rfl T0 _ KB4 Try.underlying33 rfl (by rw [l0]; exact size33) ?_)
              refine hcm.mono ?_
              rintro e w5 ⟨C, k, ⟨lC, oC⟩, rfl, hC, hq5, hf5⟩
              obtain ⟨hC1, rfl⟩ := hC _ rfl
              have HQ5 := Aside0.mk hq5
              have KB5 := range_fr KB4 hf5 (by rintro (e | e) <;> omega) hz4
              have hz5 : B9 < w5.heap.size := Nat.lt_of_lt_of_le hz4 hf5.size
              have HC1 := Aside0.mk hC1
              clear hq5 hf5 hcm hC hC1 KB4 hz4
              go_wp2_with (first
                | (refine wpList_store_fr (by rfl) 38 _ _ rfl w5.heap.size 0 C rfl rfl (by rw [size_alloc1]; omega) (by rw [lC]; exact new_there (Nat.le_refl _)) (by rw [lC]; exact size38) oC ?_; intro w6 hr6 hf6 hs6; have HQ6 := Aside0.mk (k_store HQ5.out hf6); have KB6 := keep9 KB5 hz5 hf6; (obtain ⟨d37, d38, K0⟩ := pin_read HT0.out HC1.out hr6); have hz6 : B9 < w6.heap.size := (by have h6 := hs6.trans (size_alloc1 _ _); omega); clear hr6 hf6 hs6 lC oC KB5 hz5)
                | (refine wpList_load_midG (by rfl) 33 _ rfl w5.heap.size 0 rfl T0 _ K0 Try.underlying33 rfl (by rw [l0]; exact size33) ?_)
                | (refine wpList_load_midG (by rfl) 33 _ rfl B9 0 rfl T0 _ KB6 Try.underlying33 rfl (by rw [l0]; exact size33) ?_)
                | (refine eqop_want (by rfl) _ _ 33 33 .neq rfl T0.toArray T0.toArray rfl rfl eqg33 (HE0.out _) (.inr ⟨rfl, rfl⟩) ?_))
              exact ⟨⟨i + 1, now2, rfl, by simp, by omega, by omega, HQ6.out.to (by omega), by omega, by omega, by rw [HT0.out]; exact KB6, hz6, h9⟩, by simp [intOf]; omega⟩
            · go_wp2_with (first
                | (refine wpList_load_midG (by rfl) 42 _ rfl b0 (off + i * 43) rfl CS _ hr Try.underlying42 rfl (by rw [l43]; exact size42) ?_)
                | (refine wpList_store_fr (by rfl) 42 _ _ rfl wr.heap.size 0 CS rfl rfl (by rw [size_alloc1]; omega) (by rw [l43]; exact new_there (Nat.le_refl _)) (by rw [l43]; exact size42) o43 ?_; intro w2 hr2 hf2 hs2; have HV := Aside0.mk (AcVar.of HOK.out.t HCS.out hr2); have c0 := HV.out.c0; have c38 := HV.out.c38; have c41 := HV.out.c41; have c42 := HV.out.c42; have KT := AcVar.tt HV.out HTS.out; have KB := keep9 HB9.out.1 HB9.out.2 hf2; have hz2 := hs2.trans (size_alloc1 _ _); have HQ := Aside0.mk (k_store HKS.out hf2); clear hr2 hf2 hs2 hr l43 o43)
                | (refine wpList_load_midG (by rfl) 33 _ rfl wr.heap.size 1 rfl TS _ KT Try.underlying33 rfl (by rw [lT]; exact size33) ?_)
                | (refine wpList_load_midG (by rfl) 33 _ rfl B9 0 rfl T0 _ KB Try.underlying33 rfl (by rw [l0]; exact size33) ?_)
                | (refine eqop_at _ rfl _ _ 33 33 .eql rfl TS.toArray T0.toArray rfl rfl eqg33 (HEQ.out _) (.inl ⟨rfl, rfl⟩) ?_))
              have hcl := k_begin (f := y.flags) (now := now2) HQ.out HOK.out.t hne HOK.out.b HOK.out.g (by omega) (by omega)
              rw [HTS.out] at hcl
              refine hcl.mono ?_
              rintro e w4 ⟨C, k, _, rfl, _, hq4, hf4⟩
              have HQ4 := Aside0.mk hq4
              have KB4 := range_fr KB hf4 (by rintro (e | e) <;> omega) (by omega)
              have hz4 : B9 < w4.heap.size := Nat.lt_of_lt_of_le (show B9 < w2.heap.size by omega) hf4.size
              clear hq4 hf4 hcl c0 c38 c41 c42 KT KB HQ HV
              have hcm := k_mine HQ4.out HW.out (l := now) (now := now2) (by omega) (by omega)
              rw [HT0.out] at hcm
              go_wp2_with (refine wpList_load_midG (by rfl) 33 _ rfl B9 0 rfl T0 _ KB4 Try.underlying33 rfl (by rw [l0]; exact size33) ?_)
              refine hcm.mono ?_
              rintro e w5 ⟨C, k, ⟨lC, oC⟩, rfl, hC, hq5, hf5⟩
              obtain ⟨hC1, rfl⟩ := hC _ rfl
              have HQ5 := Aside0.mk hq5
              have KB5 := range_fr KB4 hf5 (by rintro (e | e) <;> omega) hz4
              have hz5 : B9 < w5.heap.size := Nat.lt_of_lt_of_le hz4 hf5.size
              have HC1 := Aside0.mk hC1
              clear hq5 hf5 hcm hC hC1 KB4 hz4
              go_wp2_with (first
                | (refine wpList_store_fr (by rfl) 38 _ _ rfl w5.heap.size 0 C rfl rfl (by rw [size_alloc1]; omega) (by rw [lC]; exact new_there (Nat.le_refl _)) (by rw [lC]; exact size38) oC ?_; intro w6 hr6 hf6 hs6; have HQ6 := Aside0.mk (k_store HQ5.out hf6); have KB6 := keep9 KB5 hz5 hf6; (obtain ⟨d37, d38, K0⟩ := pin_read HT0.out HC1.out hr6); have hz6 : B9 < w6.heap.size := (by have h6 := hs6.trans (size_alloc1 _ _); omega); clear hr6 hf6 hs6 lC oC KB5 hz5)
                | (refine wpList_load_midG (by rfl) 33 _ rfl w5.heap.size 0 rfl T0 _ K0 Try.underlying33 rfl (by rw [l0]; exact size33) ?_)
                | (refine wpList_load_midG (by rfl) 33 _ rfl B9 0 rfl T0 _ KB6 Try.underlying33 rfl (by rw [l0]; exact size33) ?_)
                | (refine eqop_want (by rfl) _ _ 33 33 .neq rfl T0.toArray T0.toArray rfl rfl eqg33 (HE0.out _) (.inr ⟨rfl, rfl⟩) ?_))
              exact ⟨⟨i + 1, now2, rfl, by simp, by omega, by omega, HQ6.out.to (by omega), by omega, by omega, by rw [HT0.out]; exact KB6, hz6, h9⟩, by simp [intOf]; omega⟩
      · have hbz := k_busy HKS.out HW.out (by omega) (by omega)
        go_wp2_with fail
        refine hbz.mono ?_
        rintro e w2 ⟨rfl, hb2⟩
        have HK2 := Aside0.mk (HKS.out.below hb2)
        clear hb2 hbz
        go_wp2_with fail
        refine (known_any _).mono ?_
        rintro e w3 ⟨rfl, hb3⟩
        have HK3 := Aside0.mk (HK2.out.below hb3)
        clear hb3
        go_wp2_with fail
        go_ret
        exact ⟨rfl, HK3.out.bel⟩
    · have hbz := k_busy HKS.out HW.out (by omega) (by omega)
      go_wp2_with fail
      refine hbz.mono ?_
      rintro e w2 ⟨rfl, hb2⟩
      have HK2 := Aside0.mk (HKS.out.below hb2)
      clear hb2 hbz
      go_wp2_with fail
      refine (known_any _).mono ?_
      rintro e w3 ⟨rfl, hb3⟩
      have HK3 := Aside0.mk (HK2.out.below hb3)
      clear hb3
      go_wp2_with fail
      go_ret
      exact ⟨rfl, HK3.out.bel⟩
end Go.Proofs.Ytinfafnpbalihaa
