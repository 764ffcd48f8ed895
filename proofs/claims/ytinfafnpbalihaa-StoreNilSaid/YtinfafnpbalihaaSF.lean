/- Store: Begin. -/
import Derived.Test.YtinfafnpbalihaaSE
set_option linter.unusedSimpArgs false
set_option linter.unusedVariables false
namespace Go.Proofs.Ytinfafnpbalihaa
open Go.RowKit Go.Maps Go.WideMaps Go.Proofs.YtinfafnpbalihaaW.PrintWords
def begQ (p f n : Int) : Int × Int × Int × Int :=
  if p ≠ 6 ∧ p ≠ 17 then (0, 0, 0, 14) else if fWrong (flagsOf p) f n = true then (0, 0, 0, 1) else if nextS p 1 f = 3 then (0, 0, 0, 5) else (p, nextS p 1 f, n, 0)
theorem beg_q (p f n : Int) : fBegin p f n = FE (begQ p f n).1 (begQ p f n).2.1 (begQ p f n).2.2.1 (begQ p f n).2.2.2 := by
  unfold fBegin begQ
  split
  · rfl
  · split
    · rfl
    · split <;> rfl
def argsB (u b g : Int) : Bool := clkB u && (decide (0 ≤ b) && (decide (b < 32) && (decide (1 ≤ g) && clkB g)))
/-- a first packet's answer, its error, and what is put -/
def begRes (M : List Pn) (most : Int) (t : Tup) (f n u b g : Int) (rt : Bool) : Pn × Int × Option Pn :=
  if (rt && argsB u b g) = false then (Pn.zero, 1, none) else if (getS M t n).isSome = true then (Pn.zero, 5, none) else
    if (begQ t.p f n).2.2.2 ≠ 0 then (Pn.zero, (begQ t.p f n).2.2.2, none) else if most ≤ (lenS M n : Nat) then (Pn.zero, 4, none) else
      (⟨t, b, g, (begQ t.p f n).1, (begQ t.p f n).2.1, (begQ t.p f n).2.2.1⟩, 0, some ⟨t, b, g, (begQ t.p f n).1, (begQ t.p f n).2.1, (begQ t.p f n).2.2.1⟩)
def BegPost (w : World) (g bm bu : Nat) (most : Int) (c : Nat) (M : List Pn) (U : Int → Int → Option Int) (t : Tup) (f n u bk gn : Int) (e : Ending) (w' : World) : Prop :=
  ∃ rt : Bool, (t.nice → rt = true) ∧ e = .returned (.tuple #[(begRes M most t f n u bk gn rt).1.val, .int .i64 (begRes M most t f n u bk gn rt).2.1]) ∧ IsS w' g bm bu most (c + 2) (if (begRes M most t f n u bk gn rt).2.2.isSome then optM (liveM M n) (begRes M most t f n u bk gn rt).2.2 else M) (optU U u (begRes M most t f n u bk gn rt).2.2) ∧ Fr (Maps2 bm bu) w w'
section
variable {w W W1 W2 : World} {g bm bu : Nat} {most : Int} {c : Nat} {M : List Pn} {U : Int → Int → Option Int} {t : Tup} {f n u bk gn k : Int} {x' : Pn}
theorem beg_fail (rt : Bool) (hrt : t.nice → rt = true) (h : begRes M most t f n u bk gn rt = (Pn.zero, k, none)) (K : PkK w g bm bu most c M U t W) (hf : Fr (fun k => k = w.heap.size + 1) W W1) :
    BegPost w g bm bu most c M U t f n u bk gn (.returned (.tuple #[Pn.zero.val, .int .i64 k])) W1 := by
  obtain ⟨h1, h2⟩ := K.res (S := SNo) hf
  exact ⟨rt, hrt, by rw [h], by rw [h]; exact h1.mono (by omega), h2⟩
theorem beg_arg {rt : Bool} (h : argsB u bk gn = false) : begRes M most t f n u bk gn rt = (Pn.zero, 1, none) := by unfold begRes; rw [h, Bool.and_false, if_pos rfl]
theorem beg_good (h : begRes M most t f n u bk gn true = (x', 0, some x')) (K : PkK w g bm bu most c (liveM M n) U t W)
    (hs : IsS W1 g bm bu most (c + 2) (putM (liveM M n) x') (putU U x'.b x'.g (mx ((U x'.b x'.g).getD 0) u))) (hf : Fr (Maps2 bm bu) W W1) (hf2 : Fr (fun k => k = w.heap.size + 1) W1 W2) :
    BegPost w g bm bu most c M U t f n u bk gn (.returned (.tuple #[x'.val, .int .i64 0])) W2 := by
  obtain ⟨h1, h2⟩ := (K.put hs hf).res (S := SNo) hf2
  exact ⟨true, fun _ => rfl, by rw [h], by rw [h]; exact h1, h2⟩
theorem beg_found (ha : argsB u bk gn = true) (h : true = (getS M t n).isSome) : begRes M most t f n u bk gn true = (Pn.zero, 5, none) := by
  unfold begRes; rw [ha, ← h]; rfl
theorem beg_go {QP QS QL QE : Int} (ha : argsB u bk gn = true) (h : false = (getS M t n).isSome) (hq : begQ t.p f n = (QP, QS, QL, QE)) :
    begRes M most t f n u bk gn true = if QE ≠ 0 then (Pn.zero, QE, none) else if most ≤ (lenS M n : Nat) then (Pn.zero, 4, none) else (⟨t, bk, gn, QP, QS, QL⟩, 0, some ⟨t, bk, gn, QP, QS, QL⟩) := by
  unfold begRes; rw [ha, ← h]
  simp only [Bool.and_self, Bool.true_eq_false, if_false, Bool.false_eq_true, hq]
/-- with the new pin's block -/
structure BgK (w : World) (g bm bu : Nat) (most : Int) (c : Nat) (M : List Pn) (U : Int → Int → Option Int) (t : Tup) (b : Nat) (C : List Value) (W : World) : Prop where
  k : PkK w g bm bu most c M U t W
  r : W.rangeAt b 0 C
  lt : b < W.heap.size
  ge : w.heap.size + 2 ≤ b
theorem BgK.go {b : Nat} {C : List Value} (hb : Below W.heap.size W W1) (h : BgK w g bm bu most c M U t b C W) : BgK w g bm bu most c M U t b C W1 :=
  ⟨PkK.go hb h.k, range_below h.r hb h.lt, Nat.lt_of_lt_of_le h.lt hb.size, h.ge⟩
theorem BgK.drew {b : Nat} {C : List Value} (h : BgK w g bm bu most c M U t b C W) : BgK w g bm bu most c M U t b C W.drew := h.go (drew_below (Below.refl _ _))
theorem BgK.put {b c' : Nat} {C : List Value} {M' : List Pn} {U' : Int → Int → Option Int} (h : BgK w g bm bu most c M U t b C W) (hs : IsS W1 g bm bu most c' M' U') (hf : Fr (Maps2 bm bu) W W1) : BgK w g bm bu most c' M' U' t b C W1 := by
  have hl := h.k.lt
  have hg := h.ge
  exact ⟨h.k.put hs hf, range_fr h.r hf (by rintro (e | e) <;> omega) h.lt, Nat.lt_of_lt_of_le h.lt hf.size, h.ge⟩
end
theorem pk_flow0 {w W0 W W1 : World} {g bm bu : Nat} {most : Int} {c : Nat} {M : List Pn} {U : Int → Int → Option Int} {t : Tup} (h0 : PkK w g bm bu most c M U t W0) (h1 : PkK w g bm bu most c M U t W) (hf : Fr (fun k => k = W0.heap.size) W W1) : PkK w g bm bu most c M U t W1 := by
  have hz := h0.sz
  have hl := h0.lt
  refine ⟨h1.s.fr hf (by omega) (by omega) (by omega), range_fr h1.at1 hf (by omega) (by have := h1.sz; omega), there_fr h1.th hf (by omega) (by have := h1.sz; omega), h1.fr.trans hf (fun k hk => .inr (by omega)), Nat.le_trans h1.sz hf.size, h1.lt⟩
set_option maxHeartbeats 4000000 in
set_option maxRecDepth 100000 in
theorem begin_aux (w : World) (g bm bu : Nat) (most : Int) (c : Nat) (M : List Pn) (U : Int → Int → Option Int) (t : Tup) (f n u bk gn : Int) (TS XS : List Value) (X : Pn) (fnd : Bool) (hB : t.cells = TS) (hX : X.cells = XS) (l1 : TS.length = 37) (l2 : XS.length = 42) (hone : ∀ v ∈ XS, v.oneCell' = true)
    (HO : Aside0 (t.Ok ∧ wf64 bk ∧ wf64 gn ∧ wf64 u ∧ c < 999990)) (HF : Aside0 (X = pinOr (getS M t n) ∧ fnd = (getS M t n).isSome))
    (HK : Aside0 (∀ Z : Array Value, Z.size = 42 → PkK w g bm bu most c M U t ((w.alloc (.cells TS.toArray 33)).alloc (.cells Z 38)))) :
    Calls Try.prog 10 #[.pointer (some ⟨g, 0, none⟩), .agg TS.toArray, .int .i64 f, .int .i64 n, .int .i64 u, .int .i64 bk, .int .i64 gn] w (BegPost w g bm bu most c M U t f n u bk gn) := by
  have HT := Aside0.mk (fun W => tright_any t HO.out.1 W)
  rw [hB] at HT
  have HA := Aside0.mk (fun W (h : PkK w g bm bu most c M U t W) => h.at1)
  rw [hB] at HA
  go_enter Try.func10, Try.ntmps10
  go_wp2_with (first | (refine wpList_load_midG (by rfl) 33 _ rfl w.heap.size 0 rfl TS _ (HA.out _ (HK.out _ (by rfl))) Try.underlying33 rfl (by rw [l1]; exact size33) ?_))
  refine (HT.out _).mono ?_
  rintro e w1 ⟨rt, ⟨rfl, hrt⟩, hb1⟩
  have K1 := Aside0.mk (PkK.go hb1 (HK.out _ (by rfl)))
  have HRT := Aside0.mk hrt
  clear hb1 hrt HK HT
  have A1 := HA.out _ K1.out
  have T1 := K1.out.th
  cases rt
  · go_wp2_with (first
      | (refine wpList_store_fr (by rfl) 38 _ _ rfl (w.heap.size + 1) 0 Pn.zero.cells rfl rfl (by have := K1.out.sz; omega) T1 size38 Pn.one ?_; intro W8 hr8 hf8 hs8))
    have hl := run_loadVar_mid W8 (w.heap.size + 1) 0 38 Pn.zero.cells _ hr8 Try.underlying38 rfl size38
    refine bodyPost_ret (v := .tuple #[Pn.zero.val, .int .i64 1]) (results_two rfl _ _ _ _ _ rfl rfl hl) rfl ?_
    exact beg_fail false HRT.out (by simp [begRes]) K1.out hf8
  have hcl := sclock_any u w1
  have HARG := Aside0.mk (fun h : argsB u bk gn = false => beg_arg (M := M) (most := most) (t := t) (f := f) (n := n) (rt := true) h)
  cases hc : clkB u
  · rw [hc] at hcl
    go_wp2_with (first
      | (refine hcl.mono ?_; rintro e w2 ⟨rfl, rfl⟩; clear hcl)
      | (refine wpList_store_fr (by rfl) 38 _ _ rfl (w.heap.size + 1) 0 Pn.zero.cells rfl rfl (by have := K1.out.sz; omega) T1 size38 Pn.one ?_; intro W8 hr8 hf8 hs8))
    have hl := run_loadVar_mid W8 (w.heap.size + 1) 0 38 Pn.zero.cells _ hr8 Try.underlying38 rfl size38
    refine bodyPost_ret (v := .tuple #[Pn.zero.val, .int .i64 1]) (results_two rfl _ _ _ _ _ rfl rfl hl) rfl ?_
    exact beg_fail true (fun _ => rfl) (HARG.out (by simp [argsB, hc])) K1.out hf8
  rw [hc] at hcl
  by_cases hb0 : 0 ≤ bk
  rotate_left 1
  · go_wp2_with (first
      | (refine hcl.mono ?_; rintro e w2 ⟨rfl, rfl⟩; clear hcl)
      | (refine wpList_store_fr (by rfl) 38 _ _ rfl (w.heap.size + 1) 0 Pn.zero.cells rfl rfl (by have := K1.out.sz; omega) T1 size38 Pn.one ?_; intro W8 hr8 hf8 hs8))
    have hl := run_loadVar_mid W8 (w.heap.size + 1) 0 38 Pn.zero.cells _ hr8 Try.underlying38 rfl size38
    refine bodyPost_ret (v := .tuple #[Pn.zero.val, .int .i64 1]) (results_two rfl _ _ _ _ _ rfl rfl hl) rfl ?_
    exact beg_fail true (fun _ => rfl) (HARG.out (by simp [argsB]; intros; omega)) K1.out hf8
  by_cases hb1 : bk < 32
  rotate_left 1
  · go_wp2_with (first
      | (refine hcl.mono ?_; rintro e w2 ⟨rfl, rfl⟩; clear hcl)
      | (refine wpList_store_fr (by rfl) 38 _ _ rfl (w.heap.size + 1) 0 Pn.zero.cells rfl rfl (by have := K1.out.sz; omega) T1 size38 Pn.one ?_; intro W8 hr8 hf8 hs8))
    have hl := run_loadVar_mid W8 (w.heap.size + 1) 0 38 Pn.zero.cells _ hr8 Try.underlying38 rfl size38
    refine bodyPost_ret (v := .tuple #[Pn.zero.val, .int .i64 1]) (results_two rfl _ _ _ _ _ rfl rfl hl) rfl ?_
    exact beg_fail true (fun _ => rfl) (HARG.out (by simp [argsB]; intros; omega)) K1.out hf8
  by_cases hg1 : 1 ≤ gn
  rotate_left 1
  · go_wp2_with (first
      | (refine hcl.mono ?_; rintro e w2 ⟨rfl, rfl⟩; clear hcl)
      | (refine wpList_store_fr (by rfl) 38 _ _ rfl (w.heap.size + 1) 0 Pn.zero.cells rfl rfl (by have := K1.out.sz; omega) T1 size38 Pn.one ?_; intro W8 hr8 hf8 hs8))
    have hl := run_loadVar_mid W8 (w.heap.size + 1) 0 38 Pn.zero.cells _ hr8 Try.underlying38 rfl size38
    refine bodyPost_ret (v := .tuple #[Pn.zero.val, .int .i64 1]) (results_two rfl _ _ _ _ _ rfl rfl hl) rfl ?_
    exact beg_fail true (fun _ => rfl) (HARG.out (by simp [argsB]; intros; omega)) K1.out hf8
  have hcg := sclock_any gn w1
  cases hcgv : clkB gn
  · rw [hcgv] at hcg
    go_wp2_with (first
      | (refine hcl.mono ?_; rintro e w2 ⟨rfl, rfl⟩; clear hcl)
      | (refine hcg.mono ?_; rintro e w2 ⟨rfl, rfl⟩; clear hcg)
      | (refine wpList_store_fr (by rfl) 38 _ _ rfl (w.heap.size + 1) 0 Pn.zero.cells rfl rfl (by have := K1.out.sz; omega) T1 size38 Pn.one ?_; intro W8 hr8 hf8 hs8))
    have hl := run_loadVar_mid W8 (w.heap.size + 1) 0 38 Pn.zero.cells _ hr8 Try.underlying38 rfl size38
    refine bodyPost_ret (v := .tuple #[Pn.zero.val, .int .i64 1]) (results_two rfl _ _ _ _ _ rfl rfl hl) rfl ?_
    exact beg_fail true (fun _ => rfl) (HARG.out (by simp [argsB, hcgv])) K1.out hf8
  rw [hcgv] at hcg
  have HAG := Aside0.mk (show argsB u bk gn = true by simp [argsB, hc, hb0, hb1, hg1, hcgv])
  have HG := Aside0.mk (get_flat HF.out.1 HF.out.2 hX (get_any w1 g bm bu most c M U t n K1.out.s HO.out.1))
  rw [hB] at HG
  clear HARG
  go_wp2_with (first
    | (refine hcl.mono ?_; rintro e w2 ⟨rfl, rfl⟩; clear hcl)
    | (refine hcg.mono ?_; rintro e w2 ⟨rfl, rfl⟩; clear hcg)
    | (refine wpList_load_midG (by rfl) 33 _ rfl w.heap.size 0 rfl TS _ A1 Try.underlying33 rfl (by rw [l1]; exact size33) ?_))
  refine HG.out.mono ?_
  rintro e w3 ⟨rfl, hb3⟩
  have K3 := Aside0.mk (PkK.go hb3 K1.out)
  clear hb3 A1 T1 HG K1 hc hb0 hb1 hg1 hcgv
  cases fnd
  rotate_left 1
  · go_wp2_with (first
      | (refine wpList_store_fr (by rfl) 38 _ _ rfl w3.heap.size 0 XS rfl rfl (by rw [size_alloc1]; omega) (by rw [l2]; exact new_there (Nat.le_refl _)) (by rw [l2]; exact size38) hone ?_; intro W4 hr4 hf4 hs4; have K4 := Aside0.mk (PkK.box _ K3.out hf4); have T4 := K4.out.th; clear hr4 hf4 hs4)
      | (refine wpList_store_fr (by rfl) 38 _ _ rfl (w.heap.size + 1) 0 Pn.zero.cells rfl rfl (by have := K4.out.sz; omega) T4 size38 Pn.one ?_; intro W8 hr8 hf8 hs8))
    have hl := run_loadVar_mid W8 (w.heap.size + 1) 0 38 Pn.zero.cells _ hr8 Try.underlying38 rfl size38
    refine bodyPost_ret (v := .tuple #[Pn.zero.val, .int .i64 5]) (results_two rfl _ _ _ _ _ rfl rfl hl) rfl ?_
    exact beg_fail true (fun _ => rfl) (beg_found HAG.out HF.out.2) K4.out hf8
  have HBG := Aside0.mk (fun W => begin_any t.p f n W)
  simp only [beg_q, FE] at HBG
  generalize hq : begQ t.p f n = Q4 at HBG
  obtain ⟨QP, QS, QL, QE⟩ := Q4
  dsimp only at HBG
  have HRS := Aside0.mk (beg_go (most := most) HAG.out HF.out.2 hq)
  clear hq
  have l0 : (Pn.cells ⟨t, bk, gn, 0, 0, 0⟩).length = 42 := Pn.len (x := ⟨t, bk, gn, 0, 0, 0⟩) HO.out.1
  have hone0 : ∀ v ∈ (Pn.cells ⟨t, bk, gn, 0, 0, 0⟩), v.oneCell' = true := Pn.one
  have hC0 : TS ++ [Value.int .i64 bk, Value.int .i64 gn, Value.int .i64 0, Value.int .i64 0, Value.int .i64 0] = Pn.cells ⟨t, bk, gn, 0, 0, 0⟩ := by rw [← hB]; rfl
  have hbp := fun W => build_pin TS l1 bk gn W
  rw [hC0] at hbp
  have HHD := Aside0.mk (fun W b (h : World.rangeAt W b 0 (Pn.cells ⟨t, bk, gn, 0, 0, 0⟩)) => head_range (x := ⟨t, bk, gn, 0, 0, 0⟩) rfl h)
  have HTF := Aside0.mk (fun (b : Nat) (W W' : World) (h : W.rangeAt b 0 (Pn.head ⟨t, bk, gn, 0, 0, 0⟩)) (h2 : W'.rangeAt b 39 [.int .i64 QP, .int .i64 QS, .int .i64 QL]) (hp : ∀ cs, W.rangeAt b 0 cs → cs.length ≤ 39 → W'.rangeAt b 0 cs) => flow_range (x := ⟨t, bk, gn, 0, 0, 0⟩) HO.out.1 (hp _ h (by rw [Pn.head_len HO.out.1]; omega)) h2)
  have l3 : (Pn.cells ⟨t, bk, gn, QP, QS, QL⟩).length = 42 := Pn.len (x := ⟨t, bk, gn, QP, QS, QL⟩) HO.out.1
  have hone3 : ∀ v ∈ (Pn.cells ⟨t, bk, gn, QP, QS, QL⟩), v.oneCell' = true := Pn.one
  have HX2 := Aside0.mk (fun W (h : IsS W g bm bu most c (liveM M n) U) => put_any W g bm bu most c (liveM M n) U ⟨t, bk, gn, QP, QS, QL⟩ u h HO.out.1 HO.out.2.1 HO.out.2.2.1 HO.out.2.2.2.1 HO.out.2.2.2.2)
  simp only [Pn.val] at HX2
  have e2 : (Pn.flow ⟨t, bk, gn, 0, 0, 0⟩ QP QS QL) = ⟨t, bk, gn, QP, QS, QL⟩ := rfl
  rw [e2] at HTF
  clear e2 hC0
  generalize hC2 : Pn.cells ⟨t, bk, gn, QP, QS, QL⟩ = C2 at l3 hone3 HTF HX2
  have HC2 := Aside0.mk hC2
  clear hC2
  generalize hGC : Pn.cells ⟨t, bk, gn, 0, 0, 0⟩ = C0 at l0 hone0 hbp HHD
  clear hGC
  go_wp2_with (first
    | (refine wpList_store_fr (by rfl) 38 _ _ rfl w3.heap.size 0 XS rfl rfl (by rw [size_alloc1]; omega) (by rw [l2]; exact new_there (Nat.le_refl _)) (by rw [l2]; exact size38) hone ?_; intro W4 hr4 hf4 hs4; have K4 := Aside0.mk (PkK.box _ K3.out hf4); have A4 := HA.out _ K4.out; clear hr4 hf4 hs4)
    | (refine wpList_load_midG (by rfl) 33 _ rfl w.heap.size 0 rfl TS _ A4 Try.underlying33 rfl (by rw [l1]; exact size33) ?_)
    | (refine wpList_build (by rfl) 38 _ _ _ rfl (.agg TS.toArray) (.int .i64 bk) (.int .i64 gn) rfl rfl rfl (.agg C0.toArray) (hbp _) ?_)
    | (refine wpList_store_th (by rfl) 38 _ _ rfl W4.heap.size 0 C0 rfl rfl (by rw [size_alloc1]; omega) (by rw [l0]; exact new_there (Nat.le_refl _)) (by rw [l0]; exact size38) hone0 ?_; intro W5 hr5 hf5 hs5 ht5 _; have K5 := Aside0.mk (PkK.box _ K4.out hf5); have c34 := (TupAt.of_range HO.out.1 K5.out.at1).c34; have KB := Aside0.mk (And.intro (HHD.out _ _ hr5) (ht5 42 (new_there (Nat.le_refl _)))); have hz5 := hs5.trans (size_alloc1 _ _); clear hr5 hf5 hs5 ht5))
  refine (HBG.out W5).mono ?_
  rintro e W6 ⟨rfl, hb6⟩
  have K6 := Aside0.mk (PkK.go hb6 K5.out)
  have KB6 := Aside0.mk (And.intro (range_below KB.out.1 hb6 (by omega)) (there_below KB.out.2 hb6 (by omega)))
  have hz6 : W4.heap.size < W6.heap.size := by have := hb6.size; omega
  clear hb6 KB K5 HBG hz5 hone0 l0 hbp HHD c34 A4
  by_cases hqe : QE = 0
  rotate_left 1
  · go_wp2_with (first
      | (refine wpList_store_th (by rfl) 36 _ _ rfl W4.heap.size 39 [.int .i64 QP, .int .i64 QS, .int .i64 QL] rfl rfl hz6 (fun j hj => by have := KB6.out.2 (39 + j) (by have : j < 3 := hj; omega); rwa [Nat.zero_add] at this) size36 three_one ?_; intro W7 hr7 hf7 hs7 _ hp7; have K7 := Aside0.mk (pk_flow0 K4.out K6.out hf7); have T7 := K7.out.th; clear hr7 hf7 hs7 hp7)
      | (refine wpList_store_fr (by rfl) 38 _ _ rfl (w.heap.size + 1) 0 Pn.zero.cells rfl rfl (by have := K7.out.sz; omega) T7 size38 Pn.one ?_; intro W8 hr8 hf8 hs8))
    have hl := run_loadVar_mid W8 (w.heap.size + 1) 0 38 Pn.zero.cells _ hr8 Try.underlying38 rfl size38
    refine bodyPost_ret (v := .tuple #[Pn.zero.val, .int .i64 QE]) (results_two rfl _ _ _ _ _ rfl rfl hl) rfl ?_
    exact beg_fail true (fun _ => rfl) (by rw [HRS.out, if_pos hqe]) K7.out hf8
  subst hqe
  go_wp2_with (first
    | (refine wpList_store_th (by rfl) 36 _ _ rfl W4.heap.size 39 [.int .i64 QP, .int .i64 QS, .int .i64 QL] rfl rfl hz6 (fun j hj => by have := KB6.out.2 (39 + j) (by have : j < 3 := hj; omega); rwa [Nat.zero_add] at this) size36 three_one ?_; intro W7 hr7 hf7 hs7 _ hp7; have B7 := Aside0.mk (BgK.mk (pk_flow0 K4.out K6.out hf7) (HTF.out _ W6 W7 KB6.out.1 hr7 hp7) (by omega) K4.out.sz); clear hr7 hf7 hs7 hp7))
  have B8 := Aside0.mk B7.out.drew
  have HLEN := Aside0.mk (fun W (h : BgK w g bm bu most c M U t W4.heap.size C2 W) => len_any W g bm bu most c M U n h.k.s (by have := HO.out.2.2.2.2; omega))
  clear B7 KB6 K6 HTF hz6
  refine Plan2.region 1000 (BgK w g bm bu most c M U t W4.heap.size C2) [(0, 0), (1, 0), (3, 0), (4, 0), (5, 0), (6, 1), (2, 2), (7, 0)] (by kernel_rfl) (by kernel_rfl) (fun _ _ d _ _ h => by cases d <;> exact h) ?_ ?_
  focus (first | exact B9.out | exact B8.out)
  (refine' Plan2.pure (N := (some 76)) rfl (by rfl) rfl ?_ ?_ ?_; rotate_left 2; (focus (intro w'; go_simp; exact Plan2.isV)); (focus (simp only [Act.put, List.setIfInBounds_toArray, List.set_cons_zero, List.set_cons_succ]; rfl)))
  (refine' Plan2.pure (N := (some 77)) rfl (by rfl) rfl ?_ ?_ ?_; rotate_left 2; (focus (intro w'; go_simp; exact Plan2.isV)); (focus (simp only [Act.put, List.setIfInBounds_toArray, List.set_cons_zero, List.set_cons_succ]; rfl)))
  (refine' Plan2.pure (N := (some 79)) rfl (by rfl) rfl ?_ ?_ ?_; rotate_left 2; (focus (intro w'; go_simp; exact Plan2.isV)); (focus (simp only [Act.put, List.setIfInBounds_toArray, List.set_cons_zero, List.set_cons_succ]; rfl)))
  (refine' Plan2.pure (N := (some 80)) rfl (by rfl) rfl ?_ ?_ ?_; rotate_left 2; (focus (intro w'; go_simp; exact Plan2.isV)); (focus (simp only [Act.put, List.setIfInBounds_toArray, List.set_cons_zero, List.set_cons_succ]; rfl)))
  (refine' Plan2.pure (N := (some 81)) rfl (by rfl) rfl ?_ ?_ ?_; rotate_left 2; (focus (intro w'; go_simp; exact Plan2.isV)); (focus (simp only [Act.put, List.setIfInBounds_toArray, List.set_cons_zero, List.set_cons_succ]; rfl)))
  (refine' Plan2.load (N := (some 82)) rfl (by rfl) rfl ?_ ?_ ?_; rotate_left 2; (focus (intro w' hS; have hc := hS.k.s.c0; go_simp; exact Plan2.isV)); (focus (simp only [Act.put, List.setIfInBounds_toArray, List.set_cons_zero, List.set_cons_succ]; rfl)))
  (refine' Plan2.acts (past' := false) rfl (by rfl) rfl (fun K hK => ?_); go_simp; (refine (HLEN.out _ B8.out).mono ?_); rintro e W9 ⟨rfl, hb9⟩; have B9 := Aside0.mk (BgK.go hb9 B8.out); clear hb9; (refine hK.out _ _ (fun hp => ?_) (fun hS => ?_)); (focus (clear hp; (first | exact B9.out | exact B8.out))))
  (refine' Plan2.pure (N := (some 83)) rfl (by rfl) rfl ?_ ?_ ?_; rotate_left 2; (focus (intro w'; go_simp; exact Plan2.isV)); (focus (simp only [Act.put, List.setIfInBounds_toArray, List.set_cons_zero, List.set_cons_succ]; rfl)))
  refine Plan2.done ?_
  clear hS
  by_cases hm : most ≤ ((lenS M n : Nat) : Int)
  · have T9 := B9.out.k.th
    go_wp2_with (first
      | (refine wpList_store_fr (by rfl) 38 _ _ rfl (w.heap.size + 1) 0 Pn.zero.cells rfl rfl (by have := B9.out.k.sz; omega) T9 size38 Pn.one ?_; intro W8 hr8 hf8 hs8))
    have hl := run_loadVar_mid W8 (w.heap.size + 1) 0 38 Pn.zero.cells _ hr8 Try.underlying38 rfl size38
    refine bodyPost_ret (v := .tuple #[Pn.zero.val, .int .i64 4]) (results_two rfl _ _ _ _ _ rfl rfl hl) rfl ?_
    exact beg_fail true (fun _ => rfl) (by rw [HRS.out, if_neg (fun h => h rfl), if_pos hm]) B9.out.k hf8
  have HSW := Aside0.mk (sweep_any W9 g bm bu most c M U n B9.out.k.s (by have := HO.out.2.2.2.2; omega))
  have HRS2 : begRes M most t f n u bk gn true = (⟨t, bk, gn, QP, QS, QL⟩, 0, some ⟨t, bk, gn, QP, QS, QL⟩) := by rw [HRS.out, if_neg (fun h => h rfl), if_neg hm]
  have HRS2 := Aside0.mk HRS2
  clear HRS
  go_wp2_with fail
  refine HSW.out.mono ?_
  rintro e W10 ⟨⟨k0, rfl⟩, hs10, hf10⟩
  have B10 := Aside0.mk (B9.out.put hs10 hf10)
  have R10 := B10.out.r
  clear hs10 hf10 HSW HLEN
  go_wp2_with (first
    | (refine wpList_load_midG (by rfl) 38 _ rfl W4.heap.size 0 rfl C2 _ R10 Try.underlying38 rfl (by rw [l3]; exact size38) ?_))
  refine (HX2.out W10 B10.out.k.s).mono ?_
  rintro e W11 ⟨rfl, hs11, hf11⟩
  have HS11 := Aside0.mk (And.intro hs11 hf11)
  have B11 := Aside0.mk (B10.out.put hs11 hf11)
  have R11 := B11.out.r
  have T11 := B11.out.k.th
  clear hs11 hf11 HX2 R10
  go_wp2_with (first
    | (refine wpList_load_midG (by rfl) 38 _ rfl W4.heap.size 0 rfl C2 _ R11 Try.underlying38 rfl (by rw [l3]; exact size38) ?_)
    | (refine wpList_store_fr (by rfl) 38 _ _ rfl (w.heap.size + 1) 0 C2 rfl rfl (by have := B11.out.k.sz; omega) (by rw [l3]; exact T11) (by rw [l3]; exact size38) hone3 ?_; intro W12 hr12 hf12 hs12))
  have hl := run_loadVar_mid W12 (w.heap.size + 1) 0 38 C2 _ hr12 Try.underlying38 rfl (by rw [l3]; exact size38)
  refine bodyPost_ret (v := .tuple #[.agg C2.toArray, .int .i64 0]) (results_two rfl _ _ _ _ _ rfl rfl hl) rfl ?_
  have hfin := beg_good HRS2.out B10.out.k HS11.out.1 HS11.out.2 hf12
  rw [Pn.val, HC2.out] at hfin
  exact hfin
theorem begin_any' (w : World) (g bm bu : Nat) (most : Int) (c : Nat) (M : List Pn) (U : Int → Int → Option Int) (t : Tup) (f n u bk gn : Int) (h : IsS w g bm bu most c M U) (ht : t.Ok) (hb : wf64 bk) (hg : wf64 gn) (hu : wf64 u) (hc : c < 999990) :
    Calls Try.prog 10 #[.pointer (some ⟨g, 0, none⟩), .agg t.cells.toArray, .int .i64 f, .int .i64 n, .int .i64 u, .int .i64 bk, .int .i64 gn] w (BegPost w g bm bu most c M U t f n u bk gn) := by
  have hk : (pinOr (getS M t n)).t.Ok := by
    cases hf : getS M t n with
    | none => exact ⟨zero16, zero16, by decide, by decide, by decide⟩
    | some x =>
      have hx := get_mem hf
      obtain ⟨D, _, hD⟩ := h.pins
      exact hD.ok x hx
  exact begin_aux w g bm bu most c M U t f n u bk gn t.cells (pinOr (getS M t n)).cells (pinOr (getS M t n)) (getS M t n).isSome rfl rfl (Tup.len ht) (Pn.len hk) Pn.one ⟨ht, hb, hg, hu, hc⟩ ⟨rfl, rfl⟩ ⟨fun Z hZ => PkK.start h Z hZ⟩
end Go.Proofs.Ytinfafnpbalihaa
