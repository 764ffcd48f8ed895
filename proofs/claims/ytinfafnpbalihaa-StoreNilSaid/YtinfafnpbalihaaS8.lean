/- Store: Get. -/
import Derived.Test.YtinfafnpbalihaaS7
set_option linter.unusedSimpArgs false
set_option linter.unusedVariables false
namespace Go.Proofs.Ytinfafnpbalihaa
open Go.RowKit Go.Maps Go.WideMaps Go.Proofs.YtinfafnpbalihaaW.PrintWords
/-- a whole struct is stored: the world behind it, by what is known of it -/
theorem store_op {op : Oper} {a : Act} {w : World} {K : Act → World → Prop} {Q : Exit → Act → World → Prop} (ty : TypeId) (x y : Operand) (ho : op.op = .store ty x y) (b o : Nat) (cells : List Value) (hx : a.eval x = .pointer (some ⟨b, o, none⟩)) (hy : a.eval y = .agg cells.toArray)
    (ht : w.there b o cells.length) (hi : (Try.prog.info? ty).map (·.size) = some cells.length) (h1 : ∀ v ∈ cells, v.oneCell' = true)
    (h : ∀ w', w'.rangeAt b o cells → (∀ B, B ≤ b → Below B w w') → w'.heap.size = w.heap.size → K (a.put op.dst undef) w') : op.wp Try.prog a w K Q :=
  wp_store_mid ty x y ho b o cells.toArray hx hy (by simpa using ht) (by simpa using hi) (all_oneCell_toArray h1) (h _ (World.rangeAt_setCells_same w b o cells ht) (fun B hB => below_setCells1 b hB _ _ (Below.refl B w)) (size_setCells1 _ _ _ _))
theorem wpList_store_op {ops : Array Oper} {rest : List Oper} {op : Oper} {a : Act} {w : World} {Q : Exit → Act → World → Prop} (hw : Region.wanted op (yielded ops a.tmps) = true) (ty : TypeId) (x y : Operand) (ho : op.op = .store ty x y) (b o : Nat) (cells : List Value) (hx : a.eval x = .pointer (some ⟨b, o, none⟩)) (hy : a.eval y = .agg cells.toArray)
    (ht : w.there b o cells.length) (hi : (Try.prog.info? ty).map (·.size) = some cells.length) (h1 : ∀ v ∈ cells, v.oneCell' = true)
    (h : ∀ w', w'.rangeAt b o cells → (∀ B, B ≤ b → Below B w w') → w'.heap.size = w.heap.size → wpList Try.prog ops Q rest (a.put op.dst undef) w') : wpList Try.prog ops Q (op :: rest) a w :=
  BigFrame.wpList_want hw fun _ hK => store_op ty x y ho b o cells hx hy ht hi h1 (fun w' h1 h2 h3 => hK _ _ (h w' h1 h2 h3))
theorem drew_below {B : Nat} {w w' : World} (h : Below B w w') : Below B w w'.drew := ⟨h.os, h.tape, h.output, h.size, h.block⟩
def getS (M : List Pn) (t : Tup) (n : Int) : Option Pn := (findP M t).filter (fun x => x.live n)
/-- on the way of a Get -/
structure GetK (w : World) (g bm bu : Nat) (most : Int) (c : Nat) (M : List Pn) (U : Int → Int → Option Int) (t : Tup) (W : World) : Prop where
  s : IsS W g bm bu most c M U
  at1 : W.rangeAt w.heap.size 0 t.cells
  th : W.there (w.heap.size + 1) 0 42
  bl : Below w.heap.size w W
  sz : w.heap.size + 2 ≤ W.heap.size
  lt : bm < w.heap.size ∧ bu < w.heap.size ∧ g < w.heap.size
section
variable {w W W1 : World} {g bm bu : Nat} {most : Int} {c : Nat} {M : List Pn} {U : Int → Int → Option Int} {t : Tup}
theorem GetK.below (h : GetK w g bm bu most c M U t W) (hb : Below W.heap.size W W1) : GetK w g bm bu most c M U t W1 :=
  ⟨h.s.below hb, range_below h.at1 hb (by have := h.sz; omega), there_below h.th hb (by have := h.sz; omega), h.bl.trans (hb.mono (by have := h.sz; omega)), Nat.le_trans h.sz hb.size, h.lt⟩
theorem size_alloc1 (w : World) (o : Obj) : (w.alloc o).heap.size = w.heap.size + 1 := by show (w.heap.push _).size = _; rw [Array.size_push]
theorem GetK.start (h : IsS w g bm bu most c M U) (Z : Array Value) (hZ : Z.size = 42) : GetK w g bm bu most c M U t ((w.alloc (.cells t.cells.toArray 33)).alloc (.cells Z 38)) := by
  have b1 : Below w.heap.size w ((w.alloc (.cells t.cells.toArray 33)).alloc (.cells Z 38)) := ((Below.refl _ _).alloc (Nat.le_refl _) _).alloc (by rw [size_alloc1]; omega) _
  refine ⟨h.below b1, rangeAt_blk (heap_alloc2_old w _ _), there_blk (heap_alloc2_new w _ _) (by omega), b1, by rw [size_alloc1, size_alloc1]; omega, h.pins.lt, h.use.lt, h.lt⟩
end
theorem GetK.drew {w W : World} {g bm bu : Nat} {most : Int} {c : Nat} {M : List Pn} {U : Int → Int → Option Int} {t : Tup} (h : GetK w g bm bu most c M U t W) : GetK w g bm bu most c M U t W.drew := h.below (drew_below (Below.refl _ _))
theorem GetK.two {w W1 : World} {g bm bu : Nat} {most : Int} {c : Nat} {M : List Pn} {U : Int → Int → Option Int} {t : Tup} {TS : List Value} {Z0 Z1 : Array Value} (h : ∀ Z : Array Value, Z.size = 42 → GetK w g bm bu most c M U t ((w.alloc (.cells TS.toArray 33)).alloc (.cells Z 38)))
    (hW : (((w.alloc (.cells TS.toArray 33)).alloc (.cells Z0 38)).alloc (.cells Z1 38)).drew = W1) (h0 : Z0.size = 42) (h1 : Z1.size = 42) : GetK w g bm bu most c M U t W1 ∧ W1.there (w.heap.size + 1 + 1) 0 42 ∧ W1.heap.size = w.heap.size + 3 := by
  subst hW
  have k := h Z0 h0
  have e : (((w.alloc (.cells TS.toArray 33)).alloc (.cells Z0 38))).heap.size = w.heap.size + 1 + 1 := by rw [size_alloc1, size_alloc1]
  refine ⟨(k.below (below_alloc (Below.refl _ _) _)).drew, ?_, by show (World.alloc _ _).heap.size = _; rw [size_alloc1, e]⟩
  have := there_blk (n := 42) (heap_alloc_new ((w.alloc (.cells TS.toArray 33)).alloc (.cells Z0 38)) (.cells Z1 38)) (by omega)
  rw [e] at this
  exact this
theorem GetK.three {w W1 W2 : World} {g bm bu : Nat} {most : Int} {c : Nat} {M : List Pn} {U : Int → Int → Option Int} {t : Tup} {XS : List Value} (h : GetK w g bm bu most c M U t W1 ∧ W1.there (w.heap.size + 1 + 1) 0 42 ∧ W1.heap.size = w.heap.size + 3)
    (hr : W2.rangeAt (w.heap.size + 1 + 1) 0 XS) (hb : ∀ B, B ≤ w.heap.size + 1 + 1 → Below B W1 W2) (hs : W2.heap.size = W1.heap.size) : GetK w g bm bu most c M U t W2 ∧ W2.rangeAt (w.heap.size + 1 + 1) 0 XS ∧ W2.heap.size = w.heap.size + 3 := by
  obtain ⟨h1, h2, h3⟩ := h
  have hb1 := hb (w.heap.size + 1 + 1) (Nat.le_refl _)
  have l1 := h1.s.lt
  have l2 := h1.s.pins.lt
  have l3 := h1.s.use.lt
  have hlt := h1.lt
  refine ⟨⟨h1.s.fr (S := fun k => k = w.heap.size + 1 + 1) ⟨hb1.os, hb1.tape, hb1.output, hb1.size, fun k hk hn => ?_⟩ ?_ ?_ ?_, range_below h1.at1 hb1 (by omega), there_below h1.th hb1 (by omega), h1.bl.trans (hb1.mono (by omega)), by rw [hs]; exact h1.sz, hlt⟩, hr, by rw [hs, h3]⟩
  · exact hb1.block k (by omega)
  all_goals (intro e; omega)
theorem results_two {fn : Func} {p q : Tmp} {ty : TypeId} (h : fn.results = #[.cell p ty, .tmp q]) (tmps : Array Value) (w : World) (a : Addr) (v u : Value) (hp : tmps.getD p undef = .pointer (some a)) (hq : tmps.getD q undef = u)
    (hl : (loadVar ty a).run Try.prog w = .ok v w) : (results fn tmps).run Try.prog w = .ok (.tuple #[v, u]) w := by
  have hp' : tmps[p]?.getD undef = .pointer (some a) := by simpa using hp
  have hq' : tmps[q]?.getD undef = u := by simpa using hq
  simp [results, h, hp', hq', asAddr, hl]
theorem size36 : (Try.prog.info? 36).map (·.size) = some 3 := by kernel_rfl
theorem pin_flow {w : World} {b : Nat} {x : Pn} (h : w.rangeAt b 0 x.cells) (hx : x.t.Ok) : w.rangeAt b 39 [.int .i64 x.p, .int .i64 x.s, .int .i64 x.l] := fun j v hj => by
  have h1 := h (37 + (2 + j)) v (by rw [Pn.at_end hx]; rw [show 2 + j = j + 1 + 1 by omega]; simpa using hj)
  rwa [show 0 + (37 + (2 + j)) = 39 + j by omega] at h1
theorem pin_cells {x : Pn} : x.val = .agg x.cells.toArray := rfl
def GetPost (w : World) (M : List Pn) (t : Tup) (n : Int) (e : Ending) (w' : World) : Prop := e = .returned (.tuple #[(pinOr (getS M t n)).val, .bool (getS M t n).isSome]) ∧ Below w.heap.size w w'
set_option maxHeartbeats 2000000 in
set_option maxRecDepth 100000 in
theorem get_aux (w : World) (g bm bu : Nat) (most : Int) (c : Nat) (M : List Pn) (U : Int → Int → Option Int) (t : Tup) (n : Int) (TS XS : List Value) (X : Pn) (f : Bool) (hB : t.cells = TS) (hX : X.cells = XS) (l1 : TS.length = 37) (l2 : XS.length = 42) (hone : ∀ v ∈ XS, v.oneCell' = true) (HO : Aside0 X.t.Ok)
    (HK : Aside0 (∀ Z : Array Value, Z.size = 42 → GetK w g bm bu most c M U t ((w.alloc (.cells TS.toArray 33)).alloc (.cells Z 38)))) (HL : Aside0 (∀ W, IsS W g bm bu most c M U → (Instr.lookup 61 (.map (some bm)) (.agg TS.toArray) true).run Try.prog W = .ok (.tuple #[.agg XS.toArray, .bool f]) W)) (HP : Aside0 (∀ e w', e = .returned (.tuple #[if f && X.live n then X.val else Pn.zero.val, .bool (f && X.live n)]) → Below w.heap.size w w' → GetPost w M t n e w')) :
    Calls Try.prog 16 #[.pointer (some ⟨g, 0, none⟩), .agg TS.toArray, .int .i64 n] w (GetPost w M t n) := by
  go_enter Try.func16, Try.ntmps16
  go_wp2_with fail
  refine Plan2.region 1000 (GetK w g bm bu most c M U t) [(0, 0), (1, 0), (2, 0), (3, 1), (4, 1), (5, 1), (6, 0), (7, 0), (8, 0), (9, 2), (10, 2), (11, 0)] (by kernel_rfl) (by kernel_rfl) (fun _ _ d _ _ h => by cases d <;> exact h) ?_ ?_
  focus (first | exact KK2.1 | exact KK1.1 | exact GetK.drew (HK.out _ (by rfl)))
  (refine' Plan2.pure (N := (some 14)) rfl (by rfl) rfl ?_ ?_ ?_; rotate_left 2; (focus (intro w'; go_simp; exact Plan2.isV)); (focus (simp only [Act.put, List.setIfInBounds_toArray, List.set_cons_zero, List.set_cons_succ]; rfl)))
  (refine' Plan2.pure (N := (some 15)) rfl (by rfl) rfl ?_ ?_ ?_; rotate_left 2; (focus (intro w'; go_simp; exact Plan2.isV)); (focus (simp only [Act.put, List.setIfInBounds_toArray, List.set_cons_zero, List.set_cons_succ]; rfl)))
  (refine' Plan2.pure (N := (some 16)) rfl (by rfl) rfl ?_ ?_ ?_; rotate_left 2; (focus (intro w'; go_simp; exact Plan2.isV)); (focus (simp only [Act.put, List.setIfInBounds_toArray, List.set_cons_zero, List.set_cons_succ]; rfl)))
  (refine' Plan2.load (N := (some 17)) rfl (by rfl) rfl ?_ ?_ ?_; rotate_left 2; (focus (intro w' hS; have hc := hS.s.c1; go_simp; exact Plan2.isV)); (focus (simp only [Act.put, List.setIfInBounds_toArray, List.set_cons_zero, List.set_cons_succ]; rfl)))
  (refine' Plan2.loadMid (N := (some 18)) rfl (by rfl) rfl 33 _ rfl w.heap.size 0 rfl TS _ ?_ Try.underlying33 rfl (by rw [l1]; exact size33) ?_ ?_; rotate_left 2; (focus (simp only [Act.put, List.setIfInBounds_toArray, List.set_cons_zero, List.set_cons_succ]; rfl)); rotate_left 1; (focus (intro w' hS; exact hB ▸ hS.at1)))
  (refine' Plan2.look (N := (some 19)) rfl (by rfl) rfl 61 _ _ true rfl _ _ rfl rfl (.tuple #[.agg XS.toArray, .bool f]) ?_ ?_ ?_; rotate_left 2; (focus (simp only [Act.put, List.setIfInBounds_toArray, List.set_cons_zero, List.set_cons_succ]; rfl)); rotate_left 1; (focus (intro w' hS; exact HL.out w' hS.s)))
  (refine' Plan2.pure (N := (some 13)) rfl (by rfl) rfl ?_ ?_ ?_; rotate_left 2; (focus (intro w'; go_simp; exact Plan2.isV)); (focus (simp only [Act.put, List.setIfInBounds_toArray, List.set_cons_zero, List.set_cons_succ]; rfl)))
  (refine' Plan2.pure (N := (some 20)) rfl (by rfl) rfl ?_ ?_ ?_; rotate_left 2; (focus (intro w'; go_simp; exact Plan2.isV)); (focus (simp only [Act.put, List.setIfInBounds_toArray, List.set_cons_zero, List.set_cons_succ]; rfl)))
  (refine' Plan2.pure (N := (some 21)) rfl (by rfl) rfl ?_ ?_ ?_; rotate_left 2; (focus (intro w'; go_simp; exact Plan2.isV)); (focus (simp only [Act.put, List.setIfInBounds_toArray, List.set_cons_zero, List.set_cons_succ]; rfl)))
  (refine' Plan2.acts (past' := false) rfl (by rfl) rfl (fun K hK => ?_); go_simp; generalize hW1 : World.drew (World.alloc _ (Obj.cells _ 38)) = W1; have KK1 := GetK.two HK.out hW1 (by rfl) (by rfl); clear hW1; (refine hK.out _ _ (fun hp => ?_) (fun hS => ?_)); (focus (clear hp; (first | exact KK2.1 | exact KK1.1 | exact GetK.drew (HK.out _ (by rfl))))))
  (refine' Plan2.acts (past' := false) rfl (by rfl) rfl (fun K hK => ?_); (refine store_op 38 _ _ rfl (w.heap.size + 1 + 1) 0 XS rfl rfl (by rw [l2]; exact KK1.2.1) (by rw [l2]; exact size38) hone ?_); intro W2 hr2 hb2 hs2; have KK2 := GetK.three KK1 hr2 hb2 hs2; clear hr2 hb2 hs2; go_simp; (refine hK.out _ _ (fun hp => ?_) (fun hS => ?_)); (focus (clear hp; (first | exact KK2.1 | exact KK1.1 | exact GetK.drew (HK.out _ (by rfl))))))
  (refine' Plan2.pure (N := (some 9)) rfl (by rfl) rfl ?_ ?_ ?_; rotate_left 2; (focus (intro w'; go_simp; exact Plan2.isV)); (focus (simp only [Act.put, List.setIfInBounds_toArray, List.set_cons_zero, List.set_cons_succ]; rfl)))
  refine Plan2.done ?_
  clear HK HL
  cases f
  · go_wp2_with (first | (refine wpList_store_op (by rfl) 38 _ _ rfl (w.heap.size + 1) 0 Pn.zero.cells rfl rfl KK2.1.th size38 Pn.one ?_; intro W3 hr3 hb3 hs3))
    have hl := run_loadVar_mid W3 (w.heap.size + 1) 0 38 Pn.zero.cells _ hr3 Try.underlying38 rfl size38
    refine bodyPost_ret (v := .tuple #[Pn.zero.val, .bool false]) (results_two rfl _ _ _ _ _ rfl rfl hl) rfl ?_
    exact HP.out _ _ rfl (KK2.1.bl.trans ((hb3 (w.heap.size + 1) (Nat.le_refl _)).mono (by omega)))
  · obtain ⟨KA, KB, KC⟩ := KK2
    have KF : W2.rangeAt (w.heap.size + 1 + 1) 39 [.int .i64 X.p, .int .i64 X.s, .int .i64 X.l] := pin_flow (hX ▸ KB) HO.out
    have KA := Aside0.mk KA
    have KB := Aside0.mk KB
    generalize hXP : X.p = XP at KF
    generalize hXS : X.s = XS' at KF
    generalize hXL : X.l = XL at KF
    have HE := Aside0.mk (And.intro hXP (And.intro hXS hXL))
    clear hXP hXS hXL
    go_wp2_with (first | (refine wpList_load_midG (by rfl) 36 _ rfl (w.heap.size + 1 + 1) 39 rfl _ _ KF Try.underlying36 rfl size36 ?_))
    refine (live_any XP XS' XL n W2).mono ?_
    rintro e W3 ⟨rfl, hb3⟩
    have HB3 := Aside0.mk hb3
    have K8 := range_below KB.out hb3 (by omega)
    have K6 := there_below KA.out.th hb3 (by omega)
    have hlv : X.live n = fLive XP XS' XL n := by unfold Pn.live; rw [HE.out.1, HE.out.2.1, HE.out.2.2]
    have HV := Aside0.mk hlv
    clear hb3 hlv KF KC
    cases hv : fLive XP XS' XL n
    · go_wp2_with (first | (refine wpList_store_op (by rfl) 38 _ _ rfl (w.heap.size + 1) 0 Pn.zero.cells rfl rfl K6 size38 Pn.one ?_; intro W4 hr4 hb4 hs4))
      have hl := run_loadVar_mid W4 (w.heap.size + 1) 0 38 Pn.zero.cells _ hr4 Try.underlying38 rfl size38
      refine bodyPost_ret (v := .tuple #[Pn.zero.val, .bool false]) (results_two rfl _ _ _ _ _ rfl rfl hl) rfl ?_
      exact HP.out _ _ (by rw [HV.out, hv]; rfl) ((KA.out.bl.trans (HB3.out.mono (by have := KA.out.sz; omega))).trans ((hb4 (w.heap.size + 1) (Nat.le_refl _)).mono (by omega)))
    · go_wp2_with (first | (refine wpList_load_midG (by rfl) 38 _ rfl (w.heap.size + 1 + 1) 0 rfl XS _ K8 Try.underlying38 rfl (by rw [l2]; exact size38) ?_) | (refine wpList_store_op (by rfl) 38 _ _ rfl (w.heap.size + 1) 0 XS rfl rfl (by rw [l2]; exact K6) (by rw [l2]; exact size38) hone ?_; intro W4 hr4 hb4 hs4))
      have hl := run_loadVar_mid W4 (w.heap.size + 1) 0 38 XS _ hr4 Try.underlying38 rfl (by rw [l2]; exact size38)
      refine bodyPost_ret (v := .tuple #[.agg XS.toArray, .bool true]) (results_two rfl _ _ _ _ _ rfl rfl hl) rfl ?_
      exact HP.out _ _ (by rw [HV.out, hv, ← hX]; rfl) ((KA.out.bl.trans (HB3.out.mono (by have := KA.out.sz; omega))).trans ((hb4 (w.heap.size + 1) (Nat.le_refl _)).mono (by omega)))
theorem get_any (w : World) (g bm bu : Nat) (most : Int) (c : Nat) (M : List Pn) (U : Int → Int → Option Int) (t : Tup) (n : Int) (h : IsS w g bm bu most c M U) (ht : t.Ok) :
    Calls Try.prog 16 #[.pointer (some ⟨g, 0, none⟩), .agg t.cells.toArray, .int .i64 n] w (GetPost w M t n) := by
  have hk : (pinOr (findP M t)).t.Ok := by
    cases hf : findP M t with
    | none => exact ⟨zero16, zero16, by decide, by decide, by decide⟩
    | some x =>
      obtain ⟨D, _, hD⟩ := h.pins
      exact hD.ok x (findP_some hf).1
  refine get_aux w g bm bu most c M U t n t.cells (pinOr (findP M t)).cells (pinOr (findP M t)) (findP M t).isSome rfl rfl (Tup.len ht) (Pn.len hk) Pn.one ⟨hk⟩ ⟨fun Z hZ => GetK.start h Z hZ⟩ ⟨fun W hW => look_pin hW.pins ht⟩ ⟨fun e w' he hb => ⟨?_, hb⟩⟩
  rw [he]
  unfold getS
  cases hf : findP M t with
  | none => rfl
  | some x =>
    simp only [Option.isSome_some, Bool.true_and, Option.filter_some]
    show Ending.returned (.tuple #[if x.live n = true then x.val else Pn.zero.val, .bool (x.live n)]) = _
    cases hv : x.live n <;> rfl
end Go.Proofs.Ytinfafnpbalihaa
