/- Store: count. -/
import Derived.Test.YtinfafnpbalihaaS8
set_option linter.unusedSimpArgs false
set_option linter.unusedVariables false
namespace Go.Proofs.Ytinfafnpbalihaa
open Go.RowKit Go.Maps Go.WideMaps Go.Proofs.YtinfafnpbalihaaW.PrintWords
theorem below_grown {B r : Nat} {w w1 w2 : World} (h : Below B w w1) (hg : w1.grownBy w2 (some r)) (hr : B ≤ r) (hB : B ≤ w1.heap.size) : Below B w w2 :=
  ⟨hg.os.trans h.os, hg.tape.trans h.tape, hg.output.trans h.output, Nat.le_trans h.size hg.size, fun k hk => (hg.block k (Nat.lt_of_lt_of_le hk hB) (fun e => by have := Option.some.inj e; omega)).trans (h.block k hk)⟩
theorem grown_cell {r : Nat} {w1 w2 : World} (hg : w1.grownBy w2 (some r)) {b o : Nat} {v : Value} (h : w1.cell? ⟨b, o, none⟩ = some v) (hr : b ≠ r) : w2.cell? ⟨b, o, none⟩ = some v := by
  have hlt := block_lt_of_cell h
  rw [← h]
  unfold World.cell?
  simp only [hg.block b hlt (fun e => hr (Option.some.inj e))]
theorem grown_below {B : Nat} {w1 w2 : World} (hb : Below B w1 w2) : ∀ k, k < B → w2.heap[k]? = w1.heap[k]? := hb.block
theorem ranges_below {H : Type} {k : TypeId} {R : Value → Option (DataW H × List MemPlace)} {w w1 : World} {b r n cnt : Nat} {D : DataW H} {left : Lit → Bool} (h : w.ranges Try.prog k R b r n D left cnt) (hb : Below w.heap.size w w1) : w1.ranges Try.prog k R b r n D left cnt :=
  h.kept (row := none) ⟨hb.os, hb.tape, hb.output, hb.size, fun i hi _ => hb.block i hi⟩ (by simp) (by simp)
theorem same_tup {a b : Tup} (ha : a.Ok) (hb : b.Ok) : a.key.sameKey b.key = decide (a = b) := by
  by_cases h : a = b
  · subst h; rw [WideAt.sameKey_self (law33.key (key33 ha))]; simp
  · cases hs : a.key.sameKey b.key with
    | false => simp [h]
    | true => exact (h (Tup.key_inj ha hb (WideAt.sameKey_eq hs))).elim
/-- how many have come, and count -/
def cntL (M : List Pn) (L : Tup → Bool) (q : Pn → Bool) : Nat := (M.filter (fun y => !L y.t && q y)).length
theorem cnt_skip {M : List Pn} {L : Tup → Bool} {q : Pn → Bool} {t : Tup} (h : ∀ y ∈ M, y.t ≠ t) : cntL M (fun s => L s && !decide (s = t)) q = cntL M L q := by
  unfold cntL
  congr 1
  exact List.filter_congr (fun y hy => by simp [h y hy])
theorem cnt_step {L : Tup → Bool} {q : Pn → Bool} {x : Pn} (hL : L x.t = true) : ∀ {M : List Pn}, (M.map (·.t)).Nodup → x ∈ M → cntL M (fun s => L s && !decide (s = x.t)) q = cntL M L q + (if q x then 1 else 0)
  | [], _, h => by cases h
  | a :: r, hn, hx => by
    rw [List.map_cons, List.nodup_cons] at hn
    rcases List.mem_cons.1 hx with rfl | hx
    · have h1 := cnt_skip (M := r) (L := L) (q := q) (t := x.t) (fun y hy e => hn.1 (List.mem_map.2 ⟨y, hy, e⟩))
      unfold cntL at h1 ⊢
      rw [List.filter_cons, List.filter_cons]
      simp only [hL, decide_true, Bool.not_true, Bool.and_false, Bool.not_false, Bool.true_and, Bool.false_and]
      cases q x
      · simpa using h1
      · simpa using h1
    · have h1 := cnt_step (q := q) hL hn.2 hx
      have hne : a.t ≠ x.t := fun e => hn.1 (List.mem_map.2 ⟨x, hx, e.symm⟩)
      unfold cntL at h1 ⊢
      rw [List.filter_cons, List.filter_cons]
      simp only [hne, decide_false, Bool.not_false, Bool.and_true]
      split
      · rw [List.length_cons, List.length_cons, h1]; omega
      · exact h1
theorem cnt_congr {M : List Pn} {L L' : Tup → Bool} {q : Pn → Bool} (h : ∀ y ∈ M, L y.t = L' y.t) : cntL M L q = cntL M L' q := by
  unfold cntL; congr 1; exact List.filter_congr (fun y hy => by rw [h y hy])
theorem cnt_le (M : List Pn) (L : Tup → Bool) (q : Pn → Bool) : cntL M L q ≤ M.length := List.length_filter_le _ _
theorem cnt_start {M : List Pn} {D : DataW Value} (h : PinsD M D) (q : Pn → Bool) : cntL M (fun t => Maps.has D t.key) q = 0 := by
  unfold cntL
  rw [List.length_eq_zero_iff, List.filter_eq_nil_iff]
  intro y hy
  have := Maps.has_true_of_atKey (h.here y hy)
  simp [this]
theorem cnt_end {M : List Pn} {left : Lit → Bool} (hl : ∀ kl, left kl = false) (q : Pn → Bool) : cntL M (fun t => left t.key) q = (M.filter q).length := by
  unfold cntL; congr 1; exact List.filter_congr (fun y hy => by simp [hl])
/-- an entry that comes is a pin -/
theorem came {M : List Pn} {D : DataW Value} (h : PinsD M D) {kl : Lit} {v : Value} {y : DataW Value × List MemPlace} (hv : RP v = some y) (hat : ∀ zd, D.atKey kl zd = y.1) : ∃ x ∈ M, x.t.key = kl ∧ v = x.val := by
  obtain ⟨x, hx, rfl⟩ := h.has kl (Maps.has_true_of_atKey hat)
  refine ⟨x, hx, rfl, ?_⟩
  have h1 := (h.here x hx .nil).symm.trans (hat .nil)
  simp only [RP, Option.some.injEq] at hv
  rw [← hv] at h1
  injection h1 with h1
  exact h1.symm
/-- the loop of a count -/
structure CntR (w : World) (bm c : Nat) (D : DataW Value) (M : List Pn) (q : Pn → Bool) (n : Int) (fv : Value) (left : Lit → Bool) (cnt : Nat) (wr : World) : Prop where
  rg : wr.ranges Try.prog 33 RP bm (w.heap.size + 1) c D left cnt
  bl : Below w.heap.size w wr
  q0 : wr.cell? ⟨w.heap.size, 0, none⟩ = some (.int .i64 n)
  q1 : wr.cell? ⟨w.heap.size, 1, none⟩ = some fv
  lt : bm < w.heap.size
def CntRel (w : World) (bm c : Nat) (D : DataW Value) (M : List Pn) (q : Pn → Bool) (n : Int) (fv : Value) (v5 : Value) (wr : World) : Prop :=
  ∃ left cnt, v5 = .int .i64 (cntL M (fun t => left t.key) q : Nat) ∧ CntR w bm c D M q n fv left cnt wr
section
variable {w wr w1 : World} {bm c cnt : Nat} {D : DataW Value} {M : List Pn} {q : Pn → Bool} {n : Int} {fv : Value} {left : Lit → Bool}
theorem CntR.below (h : CntR w bm c D M q n fv left cnt wr) (hb : Below wr.heap.size wr w1) : CntR w bm c D M q n fv left cnt w1 := by
  have h0 : w.heap.size < wr.heap.size := block_lt_of_cell h.q0
  exact ⟨ranges_below h.rg hb, h.bl.trans (hb.mono (by omega)), (hb.cell (p := ⟨w.heap.size, 0, none⟩) h0).trans h.q0, (hb.cell (p := ⟨w.heap.size, 1, none⟩) h0).trans h.q1, h.lt⟩
theorem CntR.next (h : CntR w bm c D M q n fv left cnt wr) {left' : Lit → Bool} {cnt' : Nat} (hg : wr.grownBy w1 (some (w.heap.size + 1))) (hr : w1.ranges Try.prog 33 RP bm (w.heap.size + 1) c D left' cnt') : CntR w bm c D M q n fv left' cnt' w1 := by
  have h0 : w.heap.size < wr.heap.size := block_lt_of_cell h.q0
  exact ⟨hr, below_grown h.bl hg (by omega) (by omega), grown_cell hg h.q0 (by omega), grown_cell hg h.q1 (by omega), h.lt⟩
end
theorem CntR.start {w w0 : World} {bm c : Nat} {D : DataW Value} {M : List Pn} {q : Pn → Bool} {n : Int} {fv : Value} {left : Lit → Bool} {cnt : Nat} (hr : w0.ranges Try.prog 33 RP bm (w.alloc (.cells #[.int .i64 n, fv] 77)).heap.size c D left cnt)
    (hg : (w.alloc (.cells #[.int .i64 n, fv] 77)).grownBy w0 none) (hs : w0.heap.size = (w.alloc (.cells #[.int .i64 n, fv] 77)).heap.size + 1) (hlt : bm < w.heap.size) : CntR w bm c D M q n fv left cnt w0 := by
  have hg' := hg.but (some (w.heap.size + 1))
  rw [size_alloc1] at hr
  have hb := heap_alloc_new w (.cells #[.int .i64 n, fv] 77)
  exact ⟨hr, below_grown (below_alloc (Below.refl _ _) _) hg' (by omega) (by rw [size_alloc1]; omega), grown_cell hg' ((blk_cell hb 0).trans rfl) (by omega), grown_cell hg' ((blk_cell hb 1).trans rfl) (by omega), hlt⟩
theorem CntR.boxed {w w1 w2 : World} {bm c cnt : Nat} {D : DataW Value} {M : List Pn} {q : Pn → Bool} {n : Int} {fv : Value} {left : Lit → Bool} {o : Obj} (h : CntR w bm c D M q n fv left cnt w1) (hb : ∀ B, B ≤ w1.heap.size → Below B (w1.alloc o) w2) (hs : w2.heap.size = (w1.alloc o).heap.size) : CntR w bm c D M q n fv left cnt w2 ∧ w1.heap.size < w2.heap.size :=
  ⟨h.below ((below_alloc (Below.refl _ _) _).trans (hb _ (Nat.le_refl _))), by rw [hs, size_alloc1]; omega⟩
theorem cnt_came {M : List Pn} {D : DataW Value} {q : Pn → Bool} {left : Lit → Bool} {kl : Lit} {x : Pn} {a b : Nat} (h : left kl = true ∧ x ∈ M ∧ x.t.key = kl ∧ a < b) (hD : PinsD M D) : cntL M (fun t => left t.key && !t.key.sameKey kl) q = cntL M (fun t => left t.key) q + (if q x then 1 else 0) := by
  obtain ⟨hl, hx, rfl, _⟩ := h
  rw [← cnt_step (L := fun t => left t.key) hl hD.uniq hx]
  exact cnt_congr (fun y hy => by simp only [same_tup (hD.ok y hy) (hD.ok x hx)])
theorem cnt_round {w wr w3 : World} {bm c cnt cnt1 : Nat} {D : DataW Value} {M : List Pn} {q : Pn → Bool} {n : Int} {fv : Value} {left : Lit → Bool} {kl : Lit} {x : Pn} (hr : CntR w bm c D M q n fv left cnt wr) (h3 : CntR w bm c D M q n fv (fun z => left z && !z.sameKey kl) cnt1 w3)
    (h : left kl = true ∧ x ∈ M ∧ x.t.key = kl ∧ cnt1 < cnt) (hD : PinsD M D) (k : Int) (hk : k = (cntL M (fun t => left t.key) q : Nat) + (if q x then 1 else 0)) :
    CntRel w bm c D M q n fv (.int .i64 k) w3 ∧ w3.rangeLeft bm (w.heap.size + 1) < wr.rangeLeft bm (w.heap.size + 1) := by
  refine ⟨⟨_, _, ?_, h3⟩, by rw [h3.rg.left_eq, hr.rg.left_eq]; exact h.2.2.2⟩
  have hs := cnt_came (q := q) h hD
  rw [hk, hs]
  split <;> simp
def CountPost (w : World) (M : List Pn) (q : Pn → Bool) (e : Ending) (w' : World) : Prop := e = .returned (.int .i64 ((M.filter q).length : Nat)) ∧ Below w.heap.size w w'

set_option maxHeartbeats 2000000 in
set_option maxRecDepth 100000 in
theorem count_27 (w : World) (g bm bu : Nat) (most : Int) (c : Nat) (M : List Pn) (U : Int → Int → Option Int) (n : Int) (pd : Pn → Bool) (h : IsS w g bm bu most c M U) (hc : c < 1000000)
    (HC : Aside0 (∀ W (x : Pn), x.t.Ok → Below w.heap.size w W → Calls Try.prog 27 #[.agg x.cells.toArray] W fun e w' => e = .returned (.bool (pd x)) ∧ Below W.heap.size W w')) :
    Calls Try.prog 26 #[.pointer (some ⟨g, 0, none⟩), .agg #[.int .i64 n, .func (.func 27) #[] #[]]] w (CountPost w M (fun x => x.live n && pd x)) := by
  have hlt := h.pins.lt
  have hgl := h.lt
  have c1 : (w.alloc (.cells #[.int .i64 n, .func (.func 27) #[] #[]] 77)).cell? ⟨g, 1, none⟩ = some (.map (some bm)) := ((below_alloc (Below.refl w.heap.size w) _).cell (p := ⟨g, 1, none⟩) hgl).trans h.c1
  obtain ⟨D, ho, hD⟩ := h.pins
  have hown := ho.alloc (.cells #[.int .i64 n, .func (.func 27) #[] #[]] 77)
  have hsz : Maps.size D ≤ c := ho.size_le
  have HS := Aside0.mk (And.intro hsz hc)
  have HD := Aside0.mk hD
  clear h ho hsz hc hD
  go_enter Try.func26, Try.ntmps26
  go_wp2_with (first | (at_range; refine wpList_range_own _ rfl _ 61 rfl 33 38 law33 Try.underlying61 RP bm c _ rfl hown ?_; intro w0 hrg0 hg0 hs0))
  go_frame
  simp only [size_alloc1]
  have HR0 := Aside0.mk (CntR.start (q := fun x => x.live n && pd x) (M := M) (n := n) (fv := .func (.func 27) #[] #[]) hrg0 hg0 hs0 hlt)
  have HD0 := Aside0.mk (cnt_start HD.out (fun x => x.live n && pd x))
  clear hrg0 hg0 hs0 hown c1 hlt hgl
  go_loopw [5, 7] (fun v5 _ wr => CntRel w bm c D M (fun x => x.live n && pd x) n (.func (.func 27) #[] #[]) v5 wr) (fun _ _ wr => wr.rangeLeft bm (w.heap.size + 1))
  case atStart => exact ⟨_, _, by rw [HD0.out]; rfl, HR0.out⟩
  case round =>
    obtain ⟨left, cnt, rfl, HR⟩ := hrel
    have HR := Aside0.mk HR
    have hrg := HR.out.rg
    clear HR0 HD0
    go_wp2_with (first
      | (at_next; refine wpList_next_ranges _ rfl _ rfl 33 law33 RP id id (fun key _ _ => ⟨key, rfl⟩) (fun v _ _ => ⟨v, rfl⟩) bm (w.heap.size + 1) c _ _ _ rfl hrg ?_ ?_))
    · intro _ hl0
      clear hrg
      have HE := Aside0.mk (cnt_end (M := M) hl0 (fun x => x.live n && pd x))
      clear hl0
      go_wp2
      go_ret
      exact ⟨by rw [← HE.out]; rfl, HR.out.bl⟩
    · intro ky vv kl yd yp w1 cnt1 hkey hlx hv hat hrg1 hlt hg1 hs1 hen
      obtain ⟨x, hx, hxk, hvv⟩ := came HD.out hv hat
      have hvv : vv = x.val := hvv
      subst hvv
      have HR1 := Aside0.mk (HR.out.next hg1 hrg1)
      have HLX := Aside0.mk (And.intro hlx (And.intro hx (And.intro hxk hlt)))
      clear hrg hkey hlx hv hat hrg1 hlt hg1 hs1 hx hxk
      have HO := Aside0.mk (HD.out.ok x HLX.out.2.1)
      have l2 : x.cells.length = 42 := Pn.len HO.out
      have hone : ∀ v ∈ x.cells, v.oneCell' = true := Pn.one
      have hval : x.val = .agg x.cells.toArray := rfl
      rw [hval] at hen ⊢
      generalize hX : x.cells = XS at l2 hone hen ⊢
      have HXS := Aside0.mk hX
      clear hX hval
      go_wp2_with (first
        | (refine wpList_store_op (by rfl) 38 _ _ rfl w1.heap.size 0 XS rfl rfl (by rw [l2]; exact there_blk (heap_alloc_new w1 _) (Nat.le_refl _)) (by rw [l2]; exact size38) hone ?_; intro w2 hr2 hb2 hs2; (obtain ⟨HR2, hlt2⟩ := CntR.boxed HR1.out hb2 hs2); have KF : w2.rangeAt w1.heap.size 39 [.int .i64 x.p, .int .i64 x.s, .int .i64 x.l] := pin_flow (HXS.out ▸ hr2) HO.out; have q0 := HR2.q0; have HR2 := Aside0.mk HR2; have KB := Aside0.mk hr2; clear hr2 hb2 hs2)
        | (refine wpList_load_midG (by rfl) 36 _ rfl w1.heap.size 39 rfl _ _ KF Try.underlying36 rfl size36 ?_))
      refine (live_any x.p x.s x.l n w2).mono ?_
      rintro e w3 ⟨rfl, hb3⟩
      have K8 := range_below KB.out hb3 hlt2
      have HR3 := HR2.out.below hb3
      have q1 := HR3.q1
      have HR3 := Aside0.mk HR3
      have hlv : x.live n = fLive x.p x.s x.l n := rfl
      have HV := Aside0.mk hlv
      clear hb3 hlv KF q0 hlt2
      have hstep := cnt_came HLX.out HD.out (q := fun x => x.live n && pd x)
      have hle : cntL M (fun t => left t.key) (fun x => x.live n && pd x) ≤ 1000000 := by have h1 := cnt_le M (fun t => left t.key) (fun x => x.live n && pd x); have h2 := HD.out.size; have h3 := HS.out; omega
      cases hv : fLive x.p x.s x.l n
      · go_wp2_with fail
        exact cnt_round HR.out HR3.out HLX.out HD.out _ (by simp [HV.out, hv])
      · go_wp2_with (first | (refine wpList_load_midG (by rfl) 38 _ rfl w1.heap.size 0 rfl XS _ K8 Try.underlying38 rfl (by rw [l2]; exact size38) ?_))
        have hcl := HC.out w3 x HO.out HR3.out.bl
        rw [HXS.out] at hcl
        refine hcl.mono ?_
        rintro e w4 ⟨rfl, hb4⟩
        have HR4 := Aside0.mk (HR3.out.below hb4)
        clear hb4 hcl q1 K8
        cases hp : pd x
        · go_wp2_with fail
          exact cnt_round HR.out HR4.out HLX.out HD.out _ (by simp [hp])
        · go_wp2_with fail
          exact cnt_round HR.out HR4.out HLX.out HD.out _ (by simp [HV.out, hv, hp])

set_option maxHeartbeats 2000000 in
set_option maxRecDepth 100000 in
theorem count_28 (w : World) (g bm bu : Nat) (most : Int) (c : Nat) (M : List Pn) (U : Int → Int → Option Int) (n : Int) (b5 b6 : Nat) (pd : Pn → Bool) (h : IsS w g bm bu most c M U) (hc : c < 1000000)
    (HC : Aside0 (∀ W (x : Pn), x.t.Ok → Below w.heap.size w W → Calls Try.prog 28 #[.agg x.cells.toArray, .pointer (some ⟨b5, 0, none⟩), .pointer (some ⟨b6, 0, none⟩)] W fun e w' => e = .returned (.bool (pd x)) ∧ Below W.heap.size W w')) :
    Calls Try.prog 26 #[.pointer (some ⟨g, 0, none⟩), .agg #[.int .i64 n, .func (.func 28) #[] #[.pointer (some ⟨b5, 0, none⟩), .pointer (some ⟨b6, 0, none⟩)]]] w (CountPost w M (fun x => x.live n && pd x)) := by
  have hlt := h.pins.lt
  have hgl := h.lt
  have c1 : (w.alloc (.cells #[.int .i64 n, .func (.func 28) #[] #[.pointer (some ⟨b5, 0, none⟩), .pointer (some ⟨b6, 0, none⟩)]] 77)).cell? ⟨g, 1, none⟩ = some (.map (some bm)) := ((below_alloc (Below.refl w.heap.size w) _).cell (p := ⟨g, 1, none⟩) hgl).trans h.c1
  obtain ⟨D, ho, hD⟩ := h.pins
  have hown := ho.alloc (.cells #[.int .i64 n, .func (.func 28) #[] #[.pointer (some ⟨b5, 0, none⟩), .pointer (some ⟨b6, 0, none⟩)]] 77)
  have hsz : Maps.size D ≤ c := ho.size_le
  have HS := Aside0.mk (And.intro hsz hc)
  have HD := Aside0.mk hD
  clear h ho hsz hc hD
  go_enter Try.func26, Try.ntmps26
  go_wp2_with (first | (at_range; refine wpList_range_own _ rfl _ 61 rfl 33 38 law33 Try.underlying61 RP bm c _ rfl hown ?_; intro w0 hrg0 hg0 hs0))
  go_frame
  simp only [size_alloc1]
  have HR0 := Aside0.mk (CntR.start (q := fun x => x.live n && pd x) (M := M) (n := n) (fv := .func (.func 28) #[] #[.pointer (some ⟨b5, 0, none⟩), .pointer (some ⟨b6, 0, none⟩)]) hrg0 hg0 hs0 hlt)
  have HD0 := Aside0.mk (cnt_start HD.out (fun x => x.live n && pd x))
  clear hrg0 hg0 hs0 hown c1 hlt hgl
  go_loopw [5, 7] (fun v5 _ wr => CntRel w bm c D M (fun x => x.live n && pd x) n (.func (.func 28) #[] #[.pointer (some ⟨b5, 0, none⟩), .pointer (some ⟨b6, 0, none⟩)]) v5 wr) (fun _ _ wr => wr.rangeLeft bm (w.heap.size + 1))
  case atStart => exact ⟨_, _, by rw [HD0.out]; rfl, HR0.out⟩
  case round =>
    obtain ⟨left, cnt, rfl, HR⟩ := hrel
    have HR := Aside0.mk HR
    have hrg := HR.out.rg
    clear HR0 HD0
    go_wp2_with (first
      | (at_next; refine wpList_next_ranges _ rfl _ rfl 33 law33 RP id id (fun key _ _ => ⟨key, rfl⟩) (fun v _ _ => ⟨v, rfl⟩) bm (w.heap.size + 1) c _ _ _ rfl hrg ?_ ?_))
    · intro _ hl0
      clear hrg
      have HE := Aside0.mk (cnt_end (M := M) hl0 (fun x => x.live n && pd x))
      clear hl0
      go_wp2
      go_ret
      exact ⟨by rw [← HE.out]; rfl, HR.out.bl⟩
    · intro ky vv kl yd yp w1 cnt1 hkey hlx hv hat hrg1 hlt hg1 hs1 hen
      obtain ⟨x, hx, hxk, hvv⟩ := came HD.out hv hat
      have hvv : vv = x.val := hvv
      subst hvv
      have HR1 := Aside0.mk (HR.out.next hg1 hrg1)
      have HLX := Aside0.mk (And.intro hlx (And.intro hx (And.intro hxk hlt)))
      clear hrg hkey hlx hv hat hrg1 hlt hg1 hs1 hx hxk
      have HO := Aside0.mk (HD.out.ok x HLX.out.2.1)
      have l2 : x.cells.length = 42 := Pn.len HO.out
      have hone : ∀ v ∈ x.cells, v.oneCell' = true := Pn.one
      have hval : x.val = .agg x.cells.toArray := rfl
      rw [hval] at hen ⊢
      generalize hX : x.cells = XS at l2 hone hen ⊢
      have HXS := Aside0.mk hX
      clear hX hval
      go_wp2_with (first
        | (refine wpList_store_op (by rfl) 38 _ _ rfl w1.heap.size 0 XS rfl rfl (by rw [l2]; exact there_blk (heap_alloc_new w1 _) (Nat.le_refl _)) (by rw [l2]; exact size38) hone ?_; intro w2 hr2 hb2 hs2; (obtain ⟨HR2, hlt2⟩ := CntR.boxed HR1.out hb2 hs2); have KF : w2.rangeAt w1.heap.size 39 [.int .i64 x.p, .int .i64 x.s, .int .i64 x.l] := pin_flow (HXS.out ▸ hr2) HO.out; have q0 := HR2.q0; have HR2 := Aside0.mk HR2; have KB := Aside0.mk hr2; clear hr2 hb2 hs2)
        | (refine wpList_load_midG (by rfl) 36 _ rfl w1.heap.size 39 rfl _ _ KF Try.underlying36 rfl size36 ?_))
      refine (live_any x.p x.s x.l n w2).mono ?_
      rintro e w3 ⟨rfl, hb3⟩
      have K8 := range_below KB.out hb3 hlt2
      have HR3 := HR2.out.below hb3
      have q1 := HR3.q1
      have HR3 := Aside0.mk HR3
      have hlv : x.live n = fLive x.p x.s x.l n := rfl
      have HV := Aside0.mk hlv
      clear hb3 hlv KF q0 hlt2
      have hstep := cnt_came HLX.out HD.out (q := fun x => x.live n && pd x)
      have hle : cntL M (fun t => left t.key) (fun x => x.live n && pd x) ≤ 1000000 := by have h1 := cnt_le M (fun t => left t.key) (fun x => x.live n && pd x); have h2 := HD.out.size; have h3 := HS.out; omega
      cases hv : fLive x.p x.s x.l n
      · go_wp2_with fail
        exact cnt_round HR.out HR3.out HLX.out HD.out _ (by simp [HV.out, hv])
      · go_wp2_with (first | (refine wpList_load_midG (by rfl) 38 _ rfl w1.heap.size 0 rfl XS _ K8 Try.underlying38 rfl (by rw [l2]; exact size38) ?_))
        have hcl := HC.out w3 x HO.out HR3.out.bl
        rw [HXS.out] at hcl
        refine hcl.mono ?_
        rintro e w4 ⟨rfl, hb4⟩
        have HR4 := Aside0.mk (HR3.out.below hb4)
        clear hb4 hcl q1 K8
        cases hp : pd x
        · go_wp2_with fail
          exact cnt_round HR.out HR4.out HLX.out HD.out _ (by simp [hp])
        · go_wp2_with fail
          exact cnt_round HR.out HR4.out HLX.out HD.out _ (by simp [HV.out, hv, hp])

end Go.Proofs.Ytinfafnpbalihaa
