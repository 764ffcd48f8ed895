/- Store: Packet. -/
import Derived.Test.YtinfafnpbalihaaSC
set_option linter.unusedSimpArgs false
set_option linter.unusedVariables false
namespace Go.Proofs.Ytinfafnpbalihaa
open Go.RowKit Go.Maps Go.WideMaps Go.Proofs.YtinfafnpbalihaaW.PrintWords
/-- on the way of a packet -/
structure PkK (w : World) (g bm bu : Nat) (most : Int) (c : Nat) (M : List Pn) (U : Int → Int → Option Int) (t : Tup) (W : World) : Prop where
  s : IsS W g bm bu most c M U
  at1 : W.rangeAt w.heap.size 0 t.cells
  th : W.there (w.heap.size + 1) 0 42
  fr : Fr (Maps2 bm bu) w W
  sz : w.heap.size + 2 ≤ W.heap.size
  lt : bm < w.heap.size ∧ bu < w.heap.size ∧ g < w.heap.size
section
variable {w W W1 : World} {g bm bu : Nat} {most : Int} {c : Nat} {M : List Pn} {U : Int → Int → Option Int} {t : Tup}
theorem PkK.go (hb : Below W.heap.size W W1) (h : PkK w g bm bu most c M U t W) : PkK w g bm bu most c M U t W1 :=
  ⟨h.s.below hb, range_below h.at1 hb (by have := h.sz; omega), there_below h.th hb (by have := h.sz; omega), h.fr.trans (Fr.of_below hb SNo) (fun k hk => hk.elim), Nat.le_trans h.sz hb.size, h.lt⟩
theorem PkK.start (h : IsS w g bm bu most c M U) (Z : Array Value) (hZ : Z.size = 42) : PkK w g bm bu most c M U t ((w.alloc (.cells t.cells.toArray 33)).alloc (.cells Z 38)) := by
  have b1 : Below w.heap.size w ((w.alloc (.cells t.cells.toArray 33)).alloc (.cells Z 38)) := ((Below.refl _ _).alloc (Nat.le_refl _) _).alloc (by rw [size_alloc1]; omega) _
  refine ⟨h.below b1, rangeAt_blk (heap_alloc2_old w _ _), there_blk (heap_alloc2_new w _ _) (by omega), Fr.of_below b1 _, by rw [size_alloc1, size_alloc1]; omega, h.pins.lt, h.use.lt, h.lt⟩
theorem PkK.put {c' : Nat} {M' : List Pn} {U' : Int → Int → Option Int} (h : PkK w g bm bu most c M U t W) (hs : IsS W1 g bm bu most c' M' U') (hf : Fr (Maps2 bm bu) W W1) : PkK w g bm bu most c' M' U' t W1 := by
  have hl := h.lt
  have hz := h.sz
  refine ⟨hs, range_fr h.at1 hf (fun e => ?_) (by omega), there_fr h.th hf (fun e => ?_) (by omega), h.fr.trans hf (fun k hk => .inl hk), Nat.le_trans hz hf.size, hl⟩
  all_goals (rcases e with e | e <;> omega)
/-- the result lies where it is read -/
theorem PkK.res {S : Nat → Prop} (h : PkK w g bm bu most c M U t W) (hf : Fr (fun k => k = w.heap.size + 1) W W1) : IsS W1 g bm bu most c M U ∧ Fr (Maps2 bm bu) w W1 := by
  have hl := h.lt
  have hz := h.sz
  exact ⟨h.s.fr hf (by omega) (by omega) (by omega), h.fr.trans hf (fun k hk => .inr (by rw [hk]; omega))⟩
theorem PkK.box (o : Obj) (h : PkK w g bm bu most c M U t W) (hf : Fr (fun k => k = W.heap.size) (W.alloc o) W1) : PkK w g bm bu most c M U t W1 :=
  h.go ((below_alloc (Below.refl _ _) o).trans (hf.below (fun k hk e => by omega) (by rw [size_alloc1]; omega)))
end
theorem new_there {w : World} {Z : Array Value} {t : TypeId} {n : Nat} (h : n ≤ Z.size) : (w.alloc (.cells Z t)).there w.heap.size 0 n := there_blk (heap_alloc_new w _) h
def stepQ (p s l f n : Int) : Int × Int × Int × Int :=
  if fRight p s l = false ∨ fWrong (flagsOf p) f n = true then (0, 0, 0, 1) else if n < l then (0, 0, 0, 21) else if fLive p s l n = false then (0, 0, 0, 5) else (p, nextS p s f, n, 0)
theorem step_q (p s l f n : Int) : fStep p s l f n = FE (stepQ p s l f n).1 (stepQ p s l f n).2.1 (stepQ p s l f n).2.2.1 (stepQ p s l f n).2.2.2 := by
  unfold fStep stepQ
  split
  · rfl
  · split
    · rfl
    · split <;> rfl
/-- a packet's answer, its error, and what is put -/
def pktRes (M : List Pn) (t : Tup) (f n u : Int) (rt : Bool) : Pn × Int × Option Pn :=
  if (rt && clkB u) = false then (Pn.zero, 1, none) else
    match getS M t n with
    | none => (Pn.zero, 20, none)
    | some x => if (stepQ x.p x.s x.l f n).2.2.2 ≠ 0 then (Pn.zero, (stepQ x.p x.s x.l f n).2.2.2, none) else
      ({ x with p := (stepQ x.p x.s x.l f n).1, s := (stepQ x.p x.s x.l f n).2.1, l := (stepQ x.p x.s x.l f n).2.2.1 }, 0, some { x with p := (stepQ x.p x.s x.l f n).1, s := (stepQ x.p x.s x.l f n).2.1, l := (stepQ x.p x.s x.l f n).2.2.1 })
def optM (M : List Pn) : Option Pn → List Pn
  | none => M
  | some x => putM M x
def optU (U : Int → Int → Option Int) (u : Int) : Option Pn → Int → Int → Option Int
  | none => U
  | some x => putU U x.b x.g (mx ((U x.b x.g).getD 0) u)
def PktPost (w : World) (g bm bu : Nat) (most : Int) (c : Nat) (M : List Pn) (U : Int → Int → Option Int) (t : Tup) (f n u : Int) (e : Ending) (w' : World) : Prop :=
  ∃ rt : Bool, (t.nice → rt = true) ∧ e = .returned (.tuple #[(pktRes M t f n u rt).1.val, .int .i64 (pktRes M t f n u rt).2.1]) ∧ IsS w' g bm bu most (c + 2) (optM M (pktRes M t f n u rt).2.2) (optU U u (pktRes M t f n u rt).2.2) ∧ Fr (Maps2 bm bu) w w'
def WfM (M : List Pn) : Prop := ∀ x ∈ M, wf64 x.b ∧ wf64 x.g
theorem pkt_fail {w W W1 : World} {g bm bu : Nat} {most : Int} {c : Nat} {M : List Pn} {U : Int → Int → Option Int} {t : Tup} {f n u k : Int} (rt : Bool) (hrt : t.nice → rt = true) (h : pktRes M t f n u rt = (Pn.zero, k, none)) (K : PkK w g bm bu most c M U t W) (hf : Fr (fun k => k = w.heap.size + 1) W W1) :
    PktPost w g bm bu most c M U t f n u (.returned (.tuple #[Pn.zero.val, .int .i64 k])) W1 := by
  obtain ⟨h1, h2⟩ := K.res (S := SNo) hf
  exact ⟨rt, hrt, by rw [h], by rw [h]; exact h1.mono (by omega), h2⟩
theorem pkt_clk {M : List Pn} {t : Tup} {f n u : Int} {rt : Bool} (h : clkB u = false) : pktRes M t f n u rt = (Pn.zero, 1, none) := by unfold pktRes; rw [h, Bool.and_false, if_pos rfl]
theorem get_flat {w : World} {M : List Pn} {t : Tup} {n : Int} {X : Pn} {f : Bool} {XS : List Value} {F : Nat} {args : Array Value} (h1 : X = pinOr (getS M t n)) (h2 : f = (getS M t n).isSome) (h3 : X.cells = XS) (h : Calls Try.prog F args w (GetPost w M t n)) :
    Calls Try.prog F args w fun e w' => e = .returned (.tuple #[.agg XS.toArray, .bool f]) ∧ Below w.heap.size w w' :=
  h.mono (fun e w' ⟨ha, hb⟩ => ⟨by rw [ha, ← h1, ← h2, ← h3]; rfl, hb⟩)
theorem pkt_none {M : List Pn} {t : Tup} {f n u : Int} (hc : clkB u = true) (h : false = (getS M t n).isSome) : pktRes M t f n u true = (Pn.zero, 20, none) := by
  cases hg : getS M t n with
  | none => unfold pktRes; rw [hc, hg]; rfl
  | some x => rw [hg] at h; cases h
theorem get_some {M : List Pn} {t : Tup} {n : Int} {X : Pn} (h1 : X = pinOr (getS M t n)) (h2 : true = (getS M t n).isSome) : getS M t n = some X := by
  cases hg : getS M t n with
  | none => rw [hg] at h2; cases h2
  | some x => rw [hg] at h1; rw [h1]; rfl
theorem pin_flow' {w : World} {b : Nat} {x : Pn} {XS : List Value} (hX : x.cells = XS) (h : w.rangeAt b 0 XS) (hx : x.t.Ok) : w.rangeAt b 39 [.int .i64 x.p, .int .i64 x.s, .int .i64 x.l] := by
  subst hX; exact pin_flow h hx
theorem wpList_store_th {ops : Array Oper} {rest : List Oper} {op : Oper} {a : Act} {w : World} {Q : Exit → Act → World → Prop} (hw : Region.wanted op (yielded ops a.tmps) = true) (ty : TypeId) (x y : Operand) (ho : op.op = .store ty x y) (b o : Nat) (cells : List Value) (hx : a.eval x = .pointer (some ⟨b, o, none⟩)) (hy : a.eval y = .agg cells.toArray) (hb : b < w.heap.size)
    (ht : w.there b o cells.length) (hi : (Try.prog.info? ty).map (·.size) = some cells.length) (h1 : ∀ v ∈ cells, v.oneCell' = true)
    (h : ∀ w', w'.rangeAt b o cells → Fr (fun k => k = b) w w' → w'.heap.size = w.heap.size → (∀ n, w.there b 0 n → w'.there b 0 n) → (∀ cs, w.rangeAt b 0 cs → cs.length ≤ o → w'.rangeAt b 0 cs) → wpList Try.prog ops Q rest (a.put op.dst undef) w') : wpList Try.prog ops Q (op :: rest) a w :=
  BigFrame.wpList_want hw fun _ hK => wp_store_mid ty x y ho b o cells.toArray hx hy (by simpa using ht) (by simpa using hi) (all_oneCell_toArray h1) (hK _ _ (h _ (World.rangeAt_setCells_same w b o cells ht) (fr_setCells w b o cells hb) (size_setCells1 _ _ _ _)
    (fun n hn j hj => ⟨World.isSome_setCells b cells o w _ (hn j hj).1, by rw [World.frozen?_setCells]; exact (hn j hj).2⟩) (fun cs hr hl => World.rangeAt_setCells_apart hr b o cells (.inr (.inl (by omega))))))
def Pn.flow (x : Pn) (p s l : Int) : Pn := { x with p := p, s := s, l := l }
def Pn.head (x : Pn) : List Value := x.t.cells ++ [.int .i64 x.b, .int .i64 x.g]
theorem Pn.head_cells (x : Pn) : x.cells = x.head ++ [.int .i64 x.p, .int .i64 x.s, .int .i64 x.l] := by unfold Pn.cells Pn.head; rw [List.append_assoc]; rfl
theorem Pn.head_len {x : Pn} (h : x.t.Ok) : x.head.length = 39 := by simp [Pn.head, Tup.len h]
theorem flow_range {w : World} {b : Nat} {x : Pn} {p s l : Int} (hx : x.t.Ok) (h1 : w.rangeAt b 0 x.head) (h2 : w.rangeAt b 39 [.int .i64 p, .int .i64 s, .int .i64 l]) : w.rangeAt b 0 (x.flow p s l).cells := by
  rw [Pn.head_cells]
  intro j v hj
  by_cases hlt : j < 39
  · rw [List.getElem?_append_left (by rw [show (x.flow p s l).head = x.head from rfl, Pn.head_len hx]; exact hlt)] at hj
    exact h1 j v hj
  · rw [List.getElem?_append_right (by rw [show (x.flow p s l).head = x.head from rfl, Pn.head_len hx]; omega), show (x.flow p s l).head = x.head from rfl, Pn.head_len hx] at hj
    have := h2 (j - 39) v hj
    rwa [show 39 + (j - 39) = 0 + j by omega] at this
theorem head_range {w : World} {b : Nat} {x : Pn} {XS : List Value} (hX : x.cells = XS) (h : w.rangeAt b 0 XS) : w.rangeAt b 0 x.head := by
  subst hX; rw [Pn.head_cells] at h; exact range_pre h
theorem pkt_step {M : List Pn} {t : Tup} {f n u : Int} {X : Pn} {QP QS QL QE : Int} (hc : clkB u = true) (hg : getS M t n = some X) (hq : stepQ X.p X.s X.l f n = (QP, QS, QL, QE)) :
    pktRes M t f n u true = if QE ≠ 0 then (Pn.zero, QE, none) else (X.flow QP QS QL, 0, some (X.flow QP QS QL)) := by
  unfold pktRes; rw [hc, hg]
  simp only [Bool.and_self, Bool.true_eq_false, if_false, hq]
  rfl
theorem pkt_good {w W W1 W2 : World} {g bm bu : Nat} {most : Int} {c : Nat} {M : List Pn} {U : Int → Int → Option Int} {t : Tup} {f n u : Int} {x' : Pn} (h : pktRes M t f n u true = (x', 0, some x')) (K : PkK w g bm bu most c M U t W)
    (hs : IsS W1 g bm bu most (c + 2) (putM M x') (putU U x'.b x'.g (mx ((U x'.b x'.g).getD 0) u))) (hf : Fr (Maps2 bm bu) W W1) (hf2 : Fr (fun k => k = w.heap.size + 1) W1 W2) :
    PktPost w g bm bu most c M U t f n u (.returned (.tuple #[x'.val, .int .i64 0])) W2 := by
  obtain ⟨h1, h2⟩ := (K.put hs hf).res (S := SNo) hf2
  exact ⟨true, fun _ => rfl, by rw [h], by rw [h]; exact h1, h2⟩
theorem flow_there {w : World} {b : Nat} {o : Obj} (h : w.there b 0 42) (hb : b < w.heap.size) : (w.alloc o).there b 39 3 := fun j hj => by
  have h1 := there_below h (below_alloc (Below.refl w.heap.size w) o) hb (39 + j) (by omega)
  rwa [Nat.zero_add] at h1
theorem three_one {a b c : Int} : ∀ v ∈ [Value.int .i64 a, .int .i64 b, .int .i64 c], v.oneCell' = true := ints_one (l := [a, b, c])
theorem two_flow {w w' : World} {o : Obj} {b : Nat} {x : Pn} {p s l : Int} (hx : x.t.Ok) (h : w.rangeAt b 0 x.head) (hb : b < w.heap.size) (hr : w'.rangeAt b 39 [.int .i64 p, .int .i64 s, .int .i64 l]) (hp : ∀ cs, (w.alloc o).rangeAt b 0 cs → cs.length ≤ 39 → w'.rangeAt b 0 cs) : w'.rangeAt b 0 (x.flow p s l).cells :=
  flow_range hx (hp _ (range_below h (below_alloc (Below.refl w.heap.size w) o) hb) (by rw [Pn.head_len hx]; omega)) hr
theorem pk_flow {w W0 W W1 : World} {o : Obj} {g bm bu : Nat} {most : Int} {c : Nat} {M : List Pn} {U : Int → Int → Option Int} {t : Tup} (h0 : PkK w g bm bu most c M U t W0) (h : PkK w g bm bu most c M U t W) (hf : Fr (fun k => k = W0.heap.size) (W.alloc o) W1) : PkK w g bm bu most c M U t W1 := by
  have h1 := PkK.go (below_alloc (Below.refl _ _) o) h
  have hz := h0.sz
  have hl := h0.lt
  refine ⟨h1.s.fr hf (by omega) (by omega) (by omega), range_fr h1.at1 hf (by omega) (by have := h1.sz; omega), there_fr h1.th hf (by omega) (by have := h1.sz; omega), h1.fr.trans hf (fun k hk => .inr (by omega)), Nat.le_trans h1.sz hf.size, h.lt⟩
theorem get_mem {M : List Pn} {t : Tup} {n : Int} {x : Pn} (h : getS M t n = some x) : x ∈ M := by
  unfold getS at h
  obtain ⟨h1, _⟩ := Option.filter_eq_some_iff.1 h
  exact (findP_some h1).1
instance (n : Int) : Decidable (wf64 n) := by unfold wf64; infer_instance
set_option maxHeartbeats 4000000 in
set_option maxRecDepth 100000 in
theorem packet_aux (w : World) (g bm bu : Nat) (most : Int) (c : Nat) (M : List Pn) (U : Int → Int → Option Int) (t : Tup) (f n u : Int) (TS XS : List Value) (X : Pn) (fnd : Bool) (hB : t.cells = TS) (hX : X.cells = XS) (l1 : TS.length = 37) (l2 : XS.length = 42) (hone : ∀ v ∈ XS, v.oneCell' = true)
    (HO : Aside0 (t.Ok ∧ X.t.Ok ∧ wf64 X.b ∧ wf64 X.g ∧ wf64 u ∧ c < 999990)) (HF : Aside0 (X = pinOr (getS M t n) ∧ fnd = (getS M t n).isSome))
    (HK : Aside0 (∀ Z : Array Value, Z.size = 42 → PkK w g bm bu most c M U t ((w.alloc (.cells TS.toArray 33)).alloc (.cells Z 38)))) :
    Calls Try.prog 11 #[.pointer (some ⟨g, 0, none⟩), .agg TS.toArray, .int .i64 f, .int .i64 n, .int .i64 u] w (PktPost w g bm bu most c M U t f n u) := by
  have HT := Aside0.mk (fun W => tright_any t HO.out.1 W)
  rw [hB] at HT
  have HA := Aside0.mk (fun W (h : PkK w g bm bu most c M U t W) => h.at1)
  rw [hB] at HA
  go_enter Try.func11, Try.ntmps11
  go_wp2_with (first | (refine wpList_load_midG (by rfl) 33 _ rfl w.heap.size 0 rfl TS _ (HA.out _ (HK.out _ (by rfl))) Try.underlying33 rfl (by rw [l1]; exact size33) ?_))
  refine (HT.out _).mono ?_
  rintro e w1 ⟨rt, ⟨rfl, hrt⟩, hb1⟩
  have K1 := Aside0.mk (PkK.go hb1 (HK.out _ (by rfl)))
  have HRT := Aside0.mk hrt
  clear hb1 hrt HK HT
  have A1 := HA.out _ K1.out
  have T1 := K1.out.th
  cases rt
  · go_wp2_with (first
      | (refine wpList_store_fr (by rfl) 38 _ _ rfl (w.heap.size + 1) 0 Pn.zero.cells rfl rfl (by have := K1.out.sz; omega) T1 size38 Pn.one ?_; intro W3 hr3 hf3 hs3))
    have hl := run_loadVar_mid W3 (w.heap.size + 1) 0 38 Pn.zero.cells _ hr3 Try.underlying38 rfl size38
    refine bodyPost_ret (v := .tuple #[Pn.zero.val, .int .i64 1]) (results_two rfl _ _ _ _ _ rfl rfl hl) rfl ?_
    exact pkt_fail false HRT.out (by simp [pktRes]) K1.out hf3
  have hcl := sclock_any u w1
  have HBk := Aside0.mk (fun h : clkB u = false => pkt_clk (M := M) (t := t) (f := f) (n := n) (rt := true) h)
  cases hc : clkB u
  · rw [hc] at hcl
    go_wp2_with (first
      | (refine hcl.mono ?_; rintro e w2 ⟨rfl, rfl⟩; clear hcl)
      | (refine wpList_store_fr (by rfl) 38 _ _ rfl (w.heap.size + 1) 0 Pn.zero.cells rfl rfl (by have := K1.out.sz; omega) T1 size38 Pn.one ?_; intro W3 hr3 hf3 hs3))
    have hl := run_loadVar_mid W3 (w.heap.size + 1) 0 38 Pn.zero.cells _ hr3 Try.underlying38 rfl size38
    refine bodyPost_ret (v := .tuple #[Pn.zero.val, .int .i64 1]) (results_two rfl _ _ _ _ _ rfl rfl hl) rfl ?_
    exact pkt_fail true (fun _ => rfl) (HBk.out hc) K1.out hf3
  rw [hc] at hcl
  have HG := Aside0.mk (get_flat HF.out.1 HF.out.2 hX (get_any w1 g bm bu most c M U t n K1.out.s HO.out.1))
  rw [hB] at HG
  go_wp2_with (first
    | (refine hcl.mono ?_; rintro e w2 ⟨rfl, rfl⟩; clear hcl)
    | (refine wpList_load_midG (by rfl) 33 _ rfl w.heap.size 0 rfl TS _ A1 Try.underlying33 rfl (by rw [l1]; exact size33) ?_))
  refine HG.out.mono ?_
  rintro e w3 ⟨rfl, hb3⟩
  have K3 := Aside0.mk (PkK.go hb3 K1.out)
  clear hb3 A1 T1 HG K1 HBk
  have T3 := K3.out.th
  cases fnd
  · go_wp2_with (first
      | (refine wpList_store_fr (by rfl) 38 _ _ rfl w3.heap.size 0 XS rfl rfl (by rw [size_alloc1]; omega) (by rw [l2]; exact new_there (Nat.le_refl _)) (by rw [l2]; exact size38) hone ?_; intro W4 hr4 hf4 hs4; have K4 := Aside0.mk (PkK.box _ K3.out hf4); have T4 := K4.out.th; clear hr4 hf4 hs4 T3)
      | (refine wpList_store_fr (by rfl) 38 _ _ rfl (w.heap.size + 1) 0 Pn.zero.cells rfl rfl (by have := K4.out.sz; omega) T4 size38 Pn.one ?_; intro W5 hr5 hf5 hs5))
    have hl := run_loadVar_mid W5 (w.heap.size + 1) 0 38 Pn.zero.cells _ hr5 Try.underlying38 rfl size38
    refine bodyPost_ret (v := .tuple #[Pn.zero.val, .int .i64 20]) (results_two rfl _ _ _ _ _ rfl rfl hl) rfl ?_
    exact pkt_fail true (fun _ => rfl) (pkt_none hc HF.out.2) K4.out hf5
  have HSP := Aside0.mk (fun W => step_any X.p X.s X.l f n W)
  have HGS := Aside0.mk (get_some HF.out.1 HF.out.2)
  simp only [step_q, FE] at HSP
  generalize hq : stepQ X.p X.s X.l f n = Q4 at HSP
  obtain ⟨QP, QS, QL, QE⟩ := Q4
  dsimp only at HSP
  have HQ := Aside0.mk hq
  clear hq
  have HX' := Aside0.mk (And.intro HO.out.2.1 (And.intro HO.out.2.2.1 HO.out.2.2.2.1))
  by_cases hqe : QE = 0
  · subst hqe
    go_wp2_with (first
      | (refine wpList_store_th (by rfl) 38 _ _ rfl w3.heap.size 0 XS rfl rfl (by rw [size_alloc1]; omega) (by rw [l2]; exact new_there (Nat.le_refl _)) (by rw [l2]; exact size38) hone ?_; intro W4 hr4 hf4 hs4 ht4 _; have K4 := Aside0.mk (PkK.box _ K3.out hf4); have KF := pin_flow' hX hr4 HO.out.2.1; have KB := Aside0.mk (And.intro (head_range hX hr4) (ht4 42 (new_there (Nat.le_refl _)))); have hz4 := hs4.trans (size_alloc1 _ _); clear hr4 hf4 hs4 T3 ht4)
      | (refine wpList_load_midG (by rfl) 36 _ rfl w3.heap.size 39 rfl _ _ KF Try.underlying36 rfl size36 ?_))
    refine (HSP.out W4).mono ?_
    rintro e W5 ⟨rfl, hb5⟩
    have K5 := Aside0.mk (PkK.go hb5 K4.out)
    have KB5 := Aside0.mk (And.intro (range_below KB.out.1 hb5 (by omega)) (there_below KB.out.2 hb5 (by omega)))
    have hz5 : w3.heap.size < W5.heap.size := by have := hb5.size; omega
    clear hb5 KF KB K4 HSP hz4
    have l3 : (X.flow QP QS QL).cells.length = 42 := Pn.len HX'.out.1
    have hone3 : ∀ v ∈ (X.flow QP QS QL).cells, v.oneCell' = true := Pn.one
    have HPT := Aside0.mk (fun W (h : PkK w g bm bu most c M U t W) => put_any W g bm bu most c M U (X.flow QP QS QL) u h.s HX'.out.1 HX'.out.2.1 HX'.out.2.2 HO.out.2.2.2.2.1 HO.out.2.2.2.2.2)
    have HTF := Aside0.mk (fun (W : World) (o : Obj) (W' : World) (h : W'.rangeAt w3.heap.size 39 [.int .i64 QP, .int .i64 QS, .int .i64 QL]) (hp : ∀ cs, (W5.alloc o).rangeAt w3.heap.size 0 cs → cs.length ≤ 39 → W'.rangeAt w3.heap.size 0 cs) => two_flow HX'.out.1 KB5.out.1 hz5 h hp)
    have HRS := Aside0.mk (pkt_step hc HGS.out HQ.out (u := u))
    simp only [Pn.val] at HPT HRS
    generalize hX2 : (X.flow QP QS QL).cells = CS2 at l3 hone3 HPT HTF
    have HX2 := Aside0.mk hX2
    clear hX2
    go_wp2_with (first
      | (refine wpList_store_th (by rfl) 36 _ _ rfl w3.heap.size 39 [.int .i64 QP, .int .i64 QS, .int .i64 QL] rfl rfl (by rw [size_alloc1]; omega) (flow_there KB5.out.2 (by omega)) size36 three_one ?_; intro W6 hr6 hf6 hs6 _ hp6; have KB6 := HTF.out W5 _ W6 hr6 hp6; have K6 := Aside0.mk (pk_flow K3.out K5.out hf6); have hz6 := hs6.trans (size_alloc1 _ _); clear hr6 hf6 hs6 hp6)
      | (refine wpList_load_midG (by rfl) 38 _ rfl w3.heap.size 0 rfl CS2 _ KB6 Try.underlying38 rfl (by rw [l3]; exact size38) ?_))
    refine (HPT.out W6 K6.out).mono ?_
    rintro e W7 ⟨rfl, hs7, hf7⟩
    have HS7 := Aside0.mk (And.intro hs7 hf7)
    have KB7 := range_fr KB6 hf7 (by have h1 := K3.out.lt; have h2 := K3.out.sz; rintro (e | e) <;> omega) (by omega)
    have T7 := there_fr K6.out.th hf7 (by have h1 := K3.out.lt; rintro (e | e) <;> omega) (by have := K6.out.sz; omega)
    have hz7 : w.heap.size + 2 ≤ W7.heap.size := Nat.le_trans K6.out.sz hf7.size
    clear hs7 hf7 KB6 HPT HTF hz6 KB5
    go_wp2_with (first
      | (refine wpList_load_midG (by rfl) 38 _ rfl w3.heap.size 0 rfl CS2 _ KB7 Try.underlying38 rfl (by rw [l3]; exact size38) ?_)
      | (refine wpList_store_fr (by rfl) 38 _ _ rfl (w.heap.size + 1) 0 CS2 rfl rfl (by omega) (by rw [l3]; exact T7) (by rw [l3]; exact size38) hone3 ?_; intro W8 hr8 hf8 hs8))
    have hl := run_loadVar_mid W8 (w.heap.size + 1) 0 38 CS2 _ hr8 Try.underlying38 rfl (by rw [l3]; exact size38)
    refine bodyPost_ret (v := .tuple #[.agg CS2.toArray, .int .i64 0]) (results_two rfl _ _ _ _ _ rfl rfl hl) rfl ?_
    have hfin := pkt_good (by rw [HRS.out]; rfl) K6.out HS7.out.1 HS7.out.2 hf8
    rw [Pn.val, HX2.out] at hfin
    exact hfin
  · go_wp2_with (first
      | (refine wpList_store_th (by rfl) 38 _ _ rfl w3.heap.size 0 XS rfl rfl (by rw [size_alloc1]; omega) (by rw [l2]; exact new_there (Nat.le_refl _)) (by rw [l2]; exact size38) hone ?_; intro W4 hr4 hf4 hs4 ht4 _; have K4 := Aside0.mk (PkK.box _ K3.out hf4); have KF := pin_flow' hX hr4 HO.out.2.1; clear hr4 hf4 hs4 T3 ht4)
      | (refine wpList_load_midG (by rfl) 36 _ rfl w3.heap.size 39 rfl _ _ KF Try.underlying36 rfl size36 ?_))
    refine (HSP.out W4).mono ?_
    rintro e W5 ⟨rfl, hb5⟩
    have K5 := Aside0.mk (PkK.go hb5 K4.out)
    clear hb5 KF K4 HSP
    go_wp2_with (first
      | (refine wpList_store_fr (by rfl) 38 _ _ rfl (w.heap.size + 1) 0 Pn.zero.cells rfl rfl (by have := K5.out.sz; rw [size_alloc1]; omega) (PkK.go (below_alloc (Below.refl _ _) _) K5.out).th size38 Pn.one ?_; intro W8 hr8 hf8 hs8))
    have hl := run_loadVar_mid W8 (w.heap.size + 1) 0 38 Pn.zero.cells _ hr8 Try.underlying38 rfl size38
    refine bodyPost_ret (v := .tuple #[Pn.zero.val, .int .i64 QE]) (results_two rfl _ _ _ _ _ rfl rfl hl) rfl ?_
    exact pkt_fail true (fun _ => rfl) (by rw [pkt_step hc HGS.out HQ.out, if_pos hqe]) (PkK.go (below_alloc (Below.refl _ _) _) K5.out) hf8
theorem packet_any (w : World) (g bm bu : Nat) (most : Int) (c : Nat) (M : List Pn) (U : Int → Int → Option Int) (t : Tup) (f n u : Int) (h : IsS w g bm bu most c M U) (hm : WfM M) (ht : t.Ok) (hu : wf64 u) (hc : c < 999990) :
    Calls Try.prog 11 #[.pointer (some ⟨g, 0, none⟩), .agg t.cells.toArray, .int .i64 f, .int .i64 n, .int .i64 u] w (PktPost w g bm bu most c M U t f n u) := by
  have hk : (pinOr (getS M t n)).t.Ok ∧ wf64 (pinOr (getS M t n)).b ∧ wf64 (pinOr (getS M t n)).g := by
    cases hf : getS M t n with
    | none => exact ⟨⟨zero16, zero16, by decide, by decide, by decide⟩, by decide, by decide⟩
    | some x =>
      have hx := get_mem hf
      obtain ⟨D, _, hD⟩ := h.pins
      exact ⟨hD.ok x hx, hm x hx⟩
  exact packet_aux w g bm bu most c M U t f n u t.cells (pinOr (getS M t n)).cells (pinOr (getS M t n)) (getS M t n).isSome rfl rfl (Tup.len ht) (Pn.len hk.1) Pn.one ⟨ht, hk.1, hk.2.1, hk.2.2, hu, hc⟩ ⟨rfl, rfl⟩ ⟨fun Z hZ => PkK.start h Z hZ⟩
end Go.Proofs.Ytinfafnpbalihaa
