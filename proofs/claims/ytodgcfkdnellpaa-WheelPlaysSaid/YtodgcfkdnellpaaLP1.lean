/- Wheel: what WheelPlays holds against the reference behind each call: a piece of the law's loop. -/
import Derived.Test.YtodgcfkdnellpaaR2
import Derived.Test.YtodgcfkdnellpaaD0
import Derived.Deep.CutBlock
import Derived.Deep.QuietTactic
set_option linter.unusedSimpArgs false
set_option linter.unusedVariables false
namespace Go.Proofs.Ytodgcfkdnellpaa
open Go.RowKit Go.Proofs.YtodgcfkdnellpaaW.PrintWords
open T (S33 S55 k33 k55)
theorem put_lit (l : List Value) (d : List Deferred) (N : Tmp) (v : Value) : Act.put ⟨l.toArray, d⟩ (some N) v = ⟨(l.set N v).toArray, d⟩ := by simp [Act.put]
set_option maxHeartbeats 1000000 in
theorem radv_old (w : World) (G : Nat → Prop) (r : Nat) (now : Int) (L : List Du) (v : Value) (tk : Int) (h : IsR w G r now L v) (h1 : tk < now) : Calls Try.prog 23 #[.pointer (some ⟨r, 0, none⟩), .int .i64 tk] w fun e w' => e = .returned (.tuple #[.slice none 0 0, .int .i64 21]) ∧ w = w' := by
  obtain ⟨c0, c1, cf⟩ := h.cells
  clear cf h
  go_enter Try.func23, Try.ntmps23
  go_wp2_with fail
  exact bodyPost_ret (v := .tuple #[.slice none 0 0, .int .i64 21]) (by simp [results, Try.results23, go_sem]) rfl ⟨rfl, rfl⟩
set_option maxHeartbeats 1000000 in
theorem radv_arg (w : World) (G : Nat → Prop) (r : Nat) (now : Int) (L : List Du) (v : Value) (tk : Int) (h : IsR w G r now L v) (h1 : now ≤ tk) (h2 : 1099511627776 < tk) : Calls Try.prog 23 #[.pointer (some ⟨r, 0, none⟩), .int .i64 tk] w fun e w' => e = .returned (.tuple #[.slice none 0 0, .int .i64 1]) ∧ w = w' := by
  obtain ⟨c0, c1, cf⟩ := h.cells
  clear cf h
  go_enter Try.func23, Try.ntmps23
  go_wp2_with fail
  exact bodyPost_ret (v := .tuple #[.slice none 0 0, .int .i64 1]) (by simp [results, Try.results23, go_sem]) rfl ⟨rfl, rfl⟩
/-- the program's wheel and the reference's, apart -/
structure PlayI (w wr : World) (g r : Nat) (F G : Nat → Prop) (n1 : Int) (L1 : List Du) (n2 : Int) (L2 : List Du) (v : Value) : Prop where
  below : Below w.heap.size w wr
  new1 : ∀ k, F k → w.heap.size ≤ k
  new2 : ∀ k, G k → w.heap.size ≤ k
  isw : IsW wr F g n1 L1
  isr : IsR wr G r n2 L2 v
  apart : ∀ k, F k → ¬ G k
/-- and the call that is played lies in a block beside them -/
structure PlayJ (w wr : World) (g r n9 : Nat) (xi xa : Int) (F G : Nat → Prop) (n1 : Int) (L1 : List Du) (n2 : Int) (L2 : List Du) (v : Value) : Prop where
  pl : PlayI w wr g r F G n1 L1 n2 L2 v
  nf : ¬ F n9
  ng : ¬ G n9
  lt : n9 < wr.heap.size
  cells : wr.cell? ⟨n9, 1, none⟩ = some (.int .i64 xi) ∧ wr.cell? ⟨n9, 2, none⟩ = some (.int .i64 xa)
section
variable {w wr w2 : World} {g r n9 : Nat} {xi xa : Int} {F G F3 G3 : Nat → Prop} {n1 n2 n3 : Int} {L1 L2 L3 : List Du} {v v3 : Value}
theorem PlayI.turn1 (h : PlayI w wr g r F G n1 L1 n2 L2 v) (hq : IsW w2 F3 g n3 L3) (t : TurnW wr w2 F F3) : PlayI w w2 g r F3 G n3 L3 n2 L2 v := by
  have ho := (show Own w wr F from ⟨h.below, h.new1⟩).turn t
  refine ⟨ho.below, ho.new, h.new2, hq, h.isr.frame t.fr (fun k h2 h1 => h.apart k h1 h2), fun k h3 h2 => ?_⟩
  rcases t.new k h3 with e | e
  · exact h.apart k e h2
  · have := h.isr.lt k h2; omega
theorem PlayI.turn2 (h : PlayI w wr g r F G n1 L1 n2 L2 v) (hq : IsR w2 G3 r n3 L3 v3) (t : TurnW wr w2 G G3) : PlayI w w2 g r F G3 n1 L1 n3 L3 v3 := by
  have ho := (show Own w wr G from ⟨h.below, h.new2⟩).turn t
  refine ⟨ho.below, h.new1, ho.new, h.isw.frame t.fr (fun k h1 h2 => h.apart k h1 h2), hq, fun k h1 h3 => ?_⟩
  rcases t.new k h3 with e | e
  · exact h.apart k h1 e
  · have := h.isw.lt k h1; omega
theorem PlayI.step (h : PlayI w wr g r F G n1 L1 n2 L2 v) (hb : Below wr.heap.size wr w2) : PlayI w w2 g r F G n1 L1 n2 L2 v :=
  ⟨h.below.trans (hb.mono h.below.size), h.new1, h.new2, h.isw.below hb, h.isr.below hb, h.apart⟩
theorem PlayJ.turn1 (h : PlayJ w wr g r n9 xi xa F G n1 L1 n2 L2 v) (hq : IsW w2 F3 g n3 L3) (t : TurnW wr w2 F F3) : PlayJ w w2 g r n9 xi xa F3 G n3 L3 n2 L2 v :=
  ⟨h.pl.turn1 hq t, fun hF => (t.new n9 hF).elim h.nf (fun e => by have := h.lt; omega), h.ng, Nat.lt_of_lt_of_le h.lt t.fr.size, t.fr.cellAt (p := ⟨n9, 1, none⟩) h.lt h.nf h.cells.1, t.fr.cellAt (p := ⟨n9, 2, none⟩) h.lt h.nf h.cells.2⟩
theorem PlayJ.turn2 (h : PlayJ w wr g r n9 xi xa F G n1 L1 n2 L2 v) (hq : IsR w2 G3 r n3 L3 v3) (t : TurnW wr w2 G G3) : PlayJ w w2 g r n9 xi xa F G3 n1 L1 n3 L3 v3 :=
  ⟨h.pl.turn2 hq t, h.nf, fun hG => (t.new n9 hG).elim h.ng (fun e => by have := h.lt; omega), Nat.lt_of_lt_of_le h.lt t.fr.size, t.fr.cellAt (p := ⟨n9, 1, none⟩) h.lt h.ng h.cells.1, t.fr.cellAt (p := ⟨n9, 2, none⟩) h.lt h.ng h.cells.2⟩
theorem PlayJ.step (h : PlayJ w wr g r n9 xi xa F G n1 L1 n2 L2 v) (hb : Below wr.heap.size wr w2) : PlayJ w w2 g r n9 xi xa F G n1 L1 n2 L2 v :=
  ⟨h.pl.step hb, h.nf, h.ng, Nat.lt_of_lt_of_le h.lt hb.size, (Fr.of_below hb SNo).cellAt (p := ⟨n9, 1, none⟩) h.lt (fun h => h) h.cells.1, (Fr.of_below hb SNo).cellAt (p := ⟨n9, 2, none⟩) h.lt (fun h => h) h.cells.2⟩
theorem PlayJ.drew (h : PlayJ w wr g r n9 xi xa F G n1 L1 n2 L2 v) : PlayJ w wr.drew g r n9 xi xa F G n1 L1 n2 L2 v := h.step (below_drew (Below.refl _ _))
end
def PlayA (w : World) (g r n : Nat) (v8 : Value) (wr : World) : Prop := ∃ (i : Nat) (F G : Nat → Prop) (now : Int) (L : List Du) (v : Value), v8 = .int .i64 i ∧ i ≤ n ∧ i ≤ 200 ∧ PlayI w wr g r F G now L now L v
def PlayC (w : World) (g r n9 : Nat) (xi xa : Int) (s10 : Value) (wx : World) : Prop := s10 = .bool true ∧ ∃ (F G : Nat → Prop) (now : Int) (L : List Du) (v : Value), PlayJ w wx g r n9 xi xa F G now L now L v
theorem list_facts {w : World} {F : Nat → Prop} {g : Nat} {now : Int} {L : List Du} (h : IsW w F g now L) : L.length ≤ 4096 ∧ (∀ d ∈ L, 0 < d.at_) ∧ L.Pairwise (fun a b => before a b = true) := by
  obtain ⟨C, hi⟩ := h.inv
  exact ⟨hi.few, fun d hd => by have := (hi.late d hd).1; have := hi.now0; omega, hi.sorted⟩
/-- the piece of a code that begins with a region -/
def pieceAt (n : Nat) : Code → Option Code
  | .seq (.region k ops d) b => if k = n then some (.seq (.region k ops d) b) else pieceAt n b
  | .seq a b => match pieceAt n a with
    | some c => some c
    | none => pieceAt n b
  | .block _ c => pieceAt n c
  | .loop c => pieceAt n c
  | .scope c => pieceAt n c
  | .cond _ a b => match pieceAt n a with
    | some c => some c
    | none => pieceAt n b
  | _ => none
noncomputable def checks : Code := ((Try.f7.body.bind (pieceAt 26)).getD .skip)
set_option maxHeartbeats 40000000 in
set_option maxRecDepth 1000000 in
theorem play_checks (w wc : World) (g r n9 : Nat) (xi xa : Int) (F2 G2 : Nat → Prop) (now2 : Int) (L2 : List Du) (v2 : Value) (z0 z1 z2 z3 z4 z6 z8 z11 z12 z13 z14 z15 z16 z17 z18 z19 z20 z21 z22 z23 z24 z25 z26 z27 z28 z29 z30 z31 z32 z33 z34 z35 z36 z37 z38 z39 z40 z41 z42 z43 z44 z45 z46 z47 z48 z49 z50 z51 z52 z53 z54 z55 z56 z57 z58 z59 z60 z61 z62 z63 z64 z65 z66 z67 z68 z69 z70 z71 z72 z73 z74 z75 z76 z77 z78 z79 z80 z81 z82 z83 z84 z85 z86 z87 z88 z89 z90 z91 z92 z93 z94 z95 z96 z97 z98 z99 z100 z101 z102 z103 z104 z105 z106 z107 z108 z109 z110 z111 z112 z113 z114 z115 z116 z117 z118 z119 z120 z121 z122 z123 z124 z125 z126 z127 z128 z129 z130 z131 z132 z133 z134 z135 z136 z137 z138 z139 z140 z141 z142 z143 z144 z145 z146 z147 z148 z149 z150 z151 z152 z153 z154 z155 z156 z157 z158 z159 z160 z161 z162 z163 z164 z165 z166 z167 z168 z169 z170 z171 z172 z173 z174 z175 z176 z177 z178 z179 z180 z181 z182 z183 z184 z185 z186 z187 z188 z189 z190 z191 z192 : Value) (Q : Exit → Act → World → Prop) (hJ : PlayJ w wc g r n9 xi xa F2 G2 now2 L2 now2 L2 v2) (hw : (Lit.int .i64 xi).wf = true)
    (hK : ∀ (u15 u16 u17 u119 u120 u121 u122 u123 u124 u125 u126 u127 u128 u129 u130 u131 u132 u133 u134 u135 u136 u137 u138 u139 u140 u141 u142 u143 u144 u145 u146 u147 u148 u149 u150 u151 u152 u153 u154 u155 u156 u157 u158 u159 u160 u161 u162 u163 u164 u165 u166 u167 u168 u169 u170 u171 u172 u173 u174 u175 u176 u177 u178 u179 u180 u181 u182 u183 u184 u185 u186 u187 u188 u189 u190 u191 : Value) (w' : World), PlayI w w' g r F2 G2 now2 L2 now2 L2 v2 → Q .normal ⟨#[z0, z1, z2, z3, z4, .pointer (some ⟨g, 0, none⟩), z6, .pointer (some ⟨r, 0, none⟩), z8, .pointer (some ⟨n9, 0, none⟩), .bool true, z11, z12, z13, z14, u15, u16, u17, z18, z19, z20, z21, z22, z23, z24, z25, z26, z27, z28, z29, z30, z31, z32, z33, z34, z35, z36, z37, z38, z39, z40, z41, z42, z43, z44, z45, z46, z47, z48, z49, z50, z51, z52, z53, z54, z55, z56, z57, z58, z59, z60, z61, z62, z63, z64, z65, z66, z67, z68, z69, z70, z71, z72, z73, z74, z75, z76, z77, z78, z79, z80, z81, z82, z83, z84, z85, z86, z87, z88, z89, z90, z91, z92, z93, z94, z95, z96, z97, z98, z99, z100, z101, z102, z103, z104, z105, z106, z107, z108, z109, z110, z111, z112, z113, z114, z115, z116, z117, z118, u119, u120, u121, u122, u123, u124, u125, u126, u127, u128, u129, u130, u131, u132, u133, u134, u135, u136, u137, u138, u139, u140, u141, u142, u143, u144, u145, u146, u147, u148, u149, u150, u151, u152, u153, u154, u155, u156, u157, u158, u159, u160, u161, u162, u163, u164, u165, u166, u167, u168, u169, u170, u171, u172, u173, u174, u175, u176, u177, u178, u179, u180, u181, u182, u183, u184, u185, u186, u187, u188, u189, u190, u191, z192], []⟩ w') (hQ : ∀ c a d v w, Q (.panic c) (Act.put a d v) w → Q (.panic c) a w) : checks.wp Try.prog Q ⟨#[z0, z1, z2, z3, z4, .pointer (some ⟨g, 0, none⟩), z6, .pointer (some ⟨r, 0, none⟩), z8, .pointer (some ⟨n9, 0, none⟩), .bool true, z11, z12, z13, z14, z15, z16, z17, z18, z19, z20, z21, z22, z23, z24, z25, z26, z27, z28, z29, z30, z31, z32, z33, z34, z35, z36, z37, z38, z39, z40, z41, z42, z43, z44, z45, z46, z47, z48, z49, z50, z51, z52, z53, z54, z55, z56, z57, z58, z59, z60, z61, z62, z63, z64, z65, z66, z67, z68, z69, z70, z71, z72, z73, z74, z75, z76, z77, z78, z79, z80, z81, z82, z83, z84, z85, z86, z87, z88, z89, z90, z91, z92, z93, z94, z95, z96, z97, z98, z99, z100, z101, z102, z103, z104, z105, z106, z107, z108, z109, z110, z111, z112, z113, z114, z115, z116, z117, z118, z119, z120, z121, z122, z123, z124, z125, z126, z127, z128, z129, z130, z131, z132, z133, z134, z135, z136, z137, z138, z139, z140, z141, z142, z143, z144, z145, z146, z147, z148, z149, z150, z151, z152, z153, z154, z155, z156, z157, z158, z159, z160, z161, z162, z163, z164, z165, z166, z167, z168, z169, z170, z171, z172, z173, z174, z175, z176, z177, z178, z179, z180, z181, z182, z183, z184, z185, z186, z187, z188, z189, z190, z191, z192], []⟩ wc := by
  have HW := Aside0.mk (And.intro hw hw); clear hw
  have HK := Aside0.mk hK; clear hK
  have HQQ := Aside0.mk hQ; clear hQ
  have HJ2 := Aside0.mk hJ
  conv => arg 2; whnf
  have HN := Aside0.mk (next_any wc F2 g now2 L2 hJ.pl.isw)
  clear hJ
  go_wp2_with fail
  refine HN.out.mono ?_
  rintro e w6 ⟨rfl, hb6⟩
  have h6 := HJ2.out.step hb6
  obtain ⟨r0, r1, rf⟩ := h6.pl.isr.cells
  obtain ⟨A2, c2, hv2, _, _⟩ := h6.pl.isr.row.len
  subst hv2
  have hrlt : r < w6.heap.size := h6.pl.isr.lt r h6.pl.isr.gr
  have hnlt : n9 < w6.heap.size := h6.lt
  have j1 := h6.cells.1
  have j2 := h6.cells.2
  have H6 := Aside0.mk h6; clear h6 hb6 rf
  obtain ⟨q, hq⟩ : ∃ q, q = L2.length := ⟨_, rfl⟩
  obtain ⟨mi, ma, fl, hfl, hnv, hpos, hzero⟩ : ∃ (mi ma : Int) (fl : Bool), fl = decide (0 < q) ∧ nextV L2 = .tuple #[.agg #[.int .i64 mi, .int .i64 ma], .bool fl] ∧ (0 < q → ∃ T2, L2 = ⟨mi, ma⟩ :: T2) ∧ (¬ 0 < q → mi = 0 ∧ ma = 0) := by
    cases L2 with
    | nil => exact ⟨0, 0, _, rfl, (by rw [hq]; rfl), (fun h => absurd h (by rw [hq]; simp)), fun _ => ⟨rfl, rfl⟩⟩
    | cons d T2 => exact ⟨d.id, d.at_, _, rfl, (by rw [hq]; simp [nextV, due]), (fun _ => ⟨T2, rfl⟩), (fun h => absurd (by rw [hq]; simp) h)⟩
  rw [hnv]
  rw [← hq] at r1
  have HQ := Aside0.mk hq.symm
  have HP := Aside0.mk (And.intro hpos hzero)
  have HFL := Aside0.mk hfl
  clear hq hnv hpos hzero hfl
  go_upto_if 129 with fail
  go_cut [] from 129 to 135 (fun wx => (w6.alloc (.cells #[.int .i64 mi, .int .i64 ma] 33)).alloc (.cells #[.int .i64 mi, .int .i64 ma] 55) = wx)
  case first =>
    by_cases hq0 : 0 < q
    · obtain ⟨T2, hT⟩ := HP.out.1 hq0
      subst hT
      obtain ⟨b2, o2, c', he⟩ := prow_some H6.out.pl.isr.row (by simp)
      injection he with he e2 e3
      subst he
      subst e3
      clear e2
      obtain ⟨f0, f1⟩ := H6.out.pl.isr.row.cellsAt 0 (by simp)
      simp only [Nat.zero_mul, Nat.add_zero, List.getElem_cons_zero] at f0 f1
      have hblt : b2 < w6.heap.size := H6.out.pl.isr.row.lt b2 rfl
      have hqz : (0 : Int) < (q : Int) := by omega
      go_wp2_with fail
      go_meet
      rfl
    · obtain ⟨rfl, rfl⟩ := HP.out.2 hq0
      have hqd : decide (0 < q) = false := decide_eq_false hq0
      go_wp2_with fail
      go_meet
      rfl
  case rest =>
    obtain ⟨w7, hw7⟩ : ∃ w7, w7 = wc := ⟨_, rfl⟩
    subst hcut
    rw [HFL.out]
    have hb7 : Below w6.heap.size w6 ((w6.alloc (.cells #[.int .i64 mi, .int .i64 ma] 33)).alloc (.cells #[.int .i64 mi, .int .i64 ma] 55)) := below_alloc (below_alloc (Below.refl _ _) _) _
    have hd1 : ((w6.alloc (.cells #[.int .i64 mi, .int .i64 ma] 33)).alloc (.cells #[.int .i64 mi, .int .i64 ma] 55)).heap[w6.heap.size]? = some (.cells #[.int .i64 mi, .int .i64 ma] 33 (0, 0)) := blk_alloc (heap_alloc_new w6 _) _
    have hd2 : ((w6.alloc (.cells #[.int .i64 mi, .int .i64 ma] 33)).alloc (.cells #[.int .i64 mi, .int .i64 ma] 55)).heap[w6.heap.size + 1]? = some (.cells #[.int .i64 mi, .int .i64 ma] 55 (0, 0)) := by
      have := heap_alloc_new (w6.alloc (.cells #[.int .i64 mi, .int .i64 ma] 33)) (.cells #[.int .i64 mi, .int .i64 ma] 55)
      have e : (w6.alloc (.cells #[.int .i64 mi, .int .i64 ma] 33)).heap.size = w6.heap.size + 1 := Array.size_push _
      rw [e] at this
      exact this
    obtain ⟨nd, hnd⟩ : ∃ nd, nd = w6.heap.size := ⟨_, rfl⟩
    obtain ⟨nf, hnf⟩ : ∃ nf, nf = w6.heap.size + 1 := ⟨_, rfl⟩
    rw [← hw7] at hb7 hd1 hd2 ⊢
    rw [← hnf] at hd2 ⊢
    rw [← hnd] at hd1 ⊢
    have h7 := (H6.out.step hb7).drew
    obtain ⟨s0, s1, _⟩ := h7.pl.isr.cells
    rw [HQ.out] at s1
    have hk : w7.drew = w7.drew ∧ w7.drew.cell? ⟨r, 0, none⟩ = some (.int .i64 now2) ∧ w7.drew.cell? ⟨r, 1, none⟩ = some (.slice A2 q c2) ∧ w7.drew.cell? ⟨n9, 1, none⟩ = some (.int .i64 xi) ∧ w7.drew.cell? ⟨nd, 0, none⟩ = some (.int .i64 mi) ∧ w7.drew.cell? ⟨nd, 1, none⟩ = some (.int .i64 ma) ∧ w7.drew.cell? ⟨nf, 0, none⟩ = some (.int .i64 mi) ∧ w7.drew.cell? ⟨nf, 1, none⟩ = some (.int .i64 ma) := ⟨rfl, s0, s1, h7.cells.1, blk_cell (w := w7.drew) hd1 0, blk_cell (w := w7.drew) hd1 1, blk_cell (w := w7.drew) hd2 0, blk_cell (w := w7.drew) hd2 1⟩
    have hcl := len_any w7.drew F2 g now2 _ h7.pl.isw
    rw [HQ.out] at hcl
    have hca := at_any w7.drew F2 g now2 _ xi HW.out.1 h7.pl.isw
    have hcr := rat_any w7.drew G2 r now2 _ _ xi h7.pl.isr (list_facts h7.pl.isw).1
    obtain ⟨ax, hax⟩ : ∃ ax, ax = atOf L2 xi := ⟨_, rfl⟩
    rw [← hax] at hca hcr
    have HC := Aside0.mk (And.intro hcl (And.intro (now_any w7.drew F2 g now2 _ h7.pl.isw) (And.intro hca hcr)))
    have H7 := Aside0.mk h7.pl
    clear h7 s0 s1 hcl hca hcr hax hw7 hnd hnf hb7 hd1 hd2 r0 r1 j1 j2 hrlt hnlt
    go_wp2_with fail
    refine Plan2.region 1000 (fun w' => w' = w7.drew ∧ w'.cell? ⟨r, 0, none⟩ = some (.int .i64 now2) ∧ w'.cell? ⟨r, 1, none⟩ = some (.slice A2 q c2) ∧ w'.cell? ⟨n9, 1, none⟩ = some (.int .i64 xi) ∧ w'.cell? ⟨nd, 0, none⟩ = some (.int .i64 mi) ∧ w'.cell? ⟨nd, 1, none⟩ = some (.int .i64 ma) ∧ w'.cell? ⟨nf, 0, none⟩ = some (.int .i64 mi) ∧ w'.cell? ⟨nf, 1, none⟩ = some (.int .i64 ma)) [(0, 0), (1, 0), (2, 0), (3, 0), (4, 1), (5, 0), (6, 0), (7, 0), (8, 1), (9, 0), (10, 0), (11, 0), (12, 0), (13, 0), (14, 1), (15, 0), (16, 0), (17, 0), (18, 1), (19, 0), (20, 0), (21, 0), (22, 0), (23, 0), (24, 1), (25, 1), (26, 0), (27, 0), (28, 1), (29, 1), (30, 0), (31, 0), (32, 0), (33, 0), (34, 0), (35, 0), (36, 0), (37, 1), (38, 0), (39, 0), (40, 0), (41, 0), (42, 0), (43, 0), (44, 1), (45, 0), (46, 1), (47, 0), (48, 0), (49, 0), (50, 0), (51, 1), (52, 0), (53, 1), (54, 0), (55, 0)] (by kernel_rfl) (by kernel_rfl) HQQ.out ?_ ?_
    focus exact ⟨rfl, hk.2⟩
    (refine' Plan2.pure (N := (some 136)) rfl (by rfl) rfl ?_ ?_ ?_; rotate_left 2; (focus (intro w'; go_simp; exact Plan2.isV)); (focus (simp only [Act.put, List.setIfInBounds_toArray, List.set_cons_zero, List.set_cons_succ]; rfl)))
    (refine' Plan2.pure (N := (some 137)) rfl (by rfl) rfl ?_ ?_ ?_; rotate_left 2; (focus (intro w'; go_simp; exact Plan2.isV)); (focus (simp only [Act.put, List.setIfInBounds_toArray, List.set_cons_zero, List.set_cons_succ]; rfl)))
    (refine' Plan2.pure (N := (some 138)) rfl (by rfl) rfl ?_ ?_ ?_; rotate_left 2; (focus (intro w'; go_simp; exact Plan2.isV)); (focus (simp only [Act.put, List.setIfInBounds_toArray, List.set_cons_zero, List.set_cons_succ]; rfl)))
    (first | (refine' Plan2.off (N := (some 139)) rfl (by rfl) rfl ?_ ?_; rotate_left 1; (focus (simp only [Act.put, List.setIfInBounds_toArray, List.set_cons_zero, List.set_cons_succ]; rfl))) | (refine' Plan2.pure (N := (some 139)) rfl (by rfl) rfl ?_ ?_ ?_; rotate_left 2; (focus (intro w'; go_simp; exact Plan2.isV)); (focus (simp only [Act.put, List.setIfInBounds_toArray, List.set_cons_zero, List.set_cons_succ]; rfl))))
    (first | (refine' Plan2.off (N := (some 140)) rfl (by rfl) rfl ?_ ?_; rotate_left 1; (focus (simp only [Act.put, List.setIfInBounds_toArray, List.set_cons_zero, List.set_cons_succ]; rfl))) | (refine' Plan2.call (N := (some 140)) 13 #[.pointer (some ⟨g, 0, none⟩)] rfl (by rfl) rfl ?_ ?_ (by decide) ?_ ?_; rotate_left 2; (focus (intro w' _; (first | (go_simp; done) | (go_simp; rfl)))); (focus (intro w' hS; have hS := hS rfl; (try dsimp only at hS); exact by rw [hS.1]; exact (HC.out.1).mono (fun e w'' h => ⟨h.1, h.2.symm⟩))); (focus (simp only [Act.put, List.setIfInBounds_toArray, List.set_cons_zero, List.set_cons_succ]; rfl))))
    (first | (refine' Plan2.off (N := (some 141)) rfl (by rfl) rfl ?_ ?_; rotate_left 1; (focus (simp only [Act.put, List.setIfInBounds_toArray, List.set_cons_zero, List.set_cons_succ]; rfl))) | (refine' Plan2.pure (N := (some 141)) rfl (by rfl) rfl ?_ ?_ ?_; rotate_left 2; (focus (intro w'; go_simp; exact Plan2.isV)); (focus (simp only [Act.put, List.setIfInBounds_toArray, List.set_cons_zero, List.set_cons_succ]; rfl))))
    (first | (refine' Plan2.off (N := (some 142)) rfl (by rfl) rfl ?_ ?_; rotate_left 1; (focus (simp only [Act.put, List.setIfInBounds_toArray, List.set_cons_zero, List.set_cons_succ]; rfl))) | (refine' Plan2.pure (N := (some 142)) rfl (by rfl) rfl ?_ ?_ ?_; rotate_left 2; (focus (intro w'; go_simp; exact Plan2.isV)); (focus (simp only [Act.put, List.setIfInBounds_toArray, List.set_cons_zero, List.set_cons_succ]; rfl))))
    (first | (refine' Plan2.off (N := (some 143)) rfl (by rfl) rfl ?_ ?_; rotate_left 1; (focus (simp only [Act.put, List.setIfInBounds_toArray, List.set_cons_zero, List.set_cons_succ]; rfl))) | (refine' Plan2.pure (N := (some 143)) rfl (by rfl) rfl ?_ ?_ ?_; rotate_left 2; (focus (intro w'; go_simp; exact Plan2.isV)); (focus (simp only [Act.put, List.setIfInBounds_toArray, List.set_cons_zero, List.set_cons_succ]; rfl))))
    (first | (refine' Plan2.off (N := (some 144)) rfl (by rfl) rfl ?_ ?_; rotate_left 1; (focus (simp only [Act.put, List.setIfInBounds_toArray, List.set_cons_zero, List.set_cons_succ]; rfl))) | (refine' Plan2.load (N := (some 144)) rfl (by rfl) rfl ?_ ?_ ?_; rotate_left 2; (focus (intro w' hS; (try dsimp only at hS); go_simp; exact Plan2.isV)); (focus (simp only [Act.put, List.setIfInBounds_toArray, List.set_cons_zero, List.set_cons_succ]; rfl))))
    (first | (refine' Plan2.off (N := (some 145)) rfl (by rfl) rfl ?_ ?_; rotate_left 1; (focus (simp only [Act.put, List.setIfInBounds_toArray, List.set_cons_zero, List.set_cons_succ]; rfl))) | (refine' Plan2.pure (N := (some 145)) rfl (by rfl) rfl ?_ ?_ ?_; rotate_left 2; (focus (intro w'; go_simp; exact Plan2.isV)); (focus (simp only [Act.put, List.setIfInBounds_toArray, List.set_cons_zero, List.set_cons_succ]; rfl))))
    (first | (refine' Plan2.off (N := (some 146)) rfl (by rfl) rfl ?_ ?_; rotate_left 1; (focus (simp only [Act.put, List.setIfInBounds_toArray, List.set_cons_zero, List.set_cons_succ]; rfl))) | (refine' Plan2.pure (N := (some 146)) rfl (by rfl) rfl ?_ ?_ ?_; rotate_left 2; (focus (intro w'; go_simp; exact Plan2.isV)); (focus (simp only [Act.put, List.setIfInBounds_toArray, List.set_cons_zero, List.set_cons_succ]; rfl))))
    (refine' Plan2.pure (N := (some 147)) rfl (by rfl) rfl ?_ ?_ ?_; rotate_left 2; (focus (intro w'; go_simp; exact Plan2.isV)); (focus (simp only [Act.put, List.setIfInBounds_toArray, List.set_cons_zero, List.set_cons_succ]; rfl)))
    (refine' Plan2.pure (N := (some 148)) rfl (by rfl) rfl ?_ ?_ ?_; rotate_left 2; (focus (intro w'; go_simp; exact Plan2.isV)); (focus (simp only [Act.put, List.setIfInBounds_toArray, List.set_cons_zero, List.set_cons_succ]; rfl)))
    (first | (refine' Plan2.off (N := (some 149)) rfl (by rfl) rfl ?_ ?_; rotate_left 1; (focus (simp only [Act.put, List.setIfInBounds_toArray, List.set_cons_zero, List.set_cons_succ]; rfl))) | (refine' Plan2.pure (N := (some 149)) rfl (by rfl) rfl ?_ ?_ ?_; rotate_left 2; (focus (intro w'; go_simp; exact Plan2.isV)); (focus (simp only [Act.put, List.setIfInBounds_toArray, List.set_cons_zero, List.set_cons_succ]; rfl))))
    (first | (refine' Plan2.off (N := (some 150)) rfl (by rfl) rfl ?_ ?_; rotate_left 1; (focus (simp only [Act.put, List.setIfInBounds_toArray, List.set_cons_zero, List.set_cons_succ]; rfl))) | (refine' Plan2.call (N := (some 150)) 11 #[.pointer (some ⟨g, 0, none⟩)] rfl (by rfl) rfl ?_ ?_ (by decide) ?_ ?_; rotate_left 2; (focus (intro w' _; (first | (go_simp; done) | (go_simp; rfl)))); (focus (intro w' hS; have hS := hS rfl; (try dsimp only at hS); exact by rw [hS.1]; exact (HC.out.2.1).mono (fun e w'' h => ⟨h.1, h.2.symm⟩))); (focus (simp only [Act.put, List.setIfInBounds_toArray, List.set_cons_zero, List.set_cons_succ]; rfl))))
    (first | (refine' Plan2.off (N := (some 151)) rfl (by rfl) rfl ?_ ?_; rotate_left 1; (focus (simp only [Act.put, List.setIfInBounds_toArray, List.set_cons_zero, List.set_cons_succ]; rfl))) | (refine' Plan2.pure (N := (some 151)) rfl (by rfl) rfl ?_ ?_ ?_; rotate_left 2; (focus (intro w'; go_simp; exact Plan2.isV)); (focus (simp only [Act.put, List.setIfInBounds_toArray, List.set_cons_zero, List.set_cons_succ]; rfl))))
    (first | (refine' Plan2.off (N := (some 152)) rfl (by rfl) rfl ?_ ?_; rotate_left 1; (focus (simp only [Act.put, List.setIfInBounds_toArray, List.set_cons_zero, List.set_cons_succ]; rfl))) | (refine' Plan2.pure (N := (some 152)) rfl (by rfl) rfl ?_ ?_ ?_; rotate_left 2; (focus (intro w'; go_simp; exact Plan2.isV)); (focus (simp only [Act.put, List.setIfInBounds_toArray, List.set_cons_zero, List.set_cons_succ]; rfl))))
    (first | (refine' Plan2.off (N := (some 153)) rfl (by rfl) rfl ?_ ?_; rotate_left 1; (focus (simp only [Act.put, List.setIfInBounds_toArray, List.set_cons_zero, List.set_cons_succ]; rfl))) | (refine' Plan2.pure (N := (some 153)) rfl (by rfl) rfl ?_ ?_ ?_; rotate_left 2; (focus (intro w'; go_simp; exact Plan2.isV)); (focus (simp only [Act.put, List.setIfInBounds_toArray, List.set_cons_zero, List.set_cons_succ]; rfl))))
    (first | (refine' Plan2.off (N := (some 154)) rfl (by rfl) rfl ?_ ?_; rotate_left 1; (focus (simp only [Act.put, List.setIfInBounds_toArray, List.set_cons_zero, List.set_cons_succ]; rfl))) | (refine' Plan2.load (N := (some 154)) rfl (by rfl) rfl ?_ ?_ ?_; rotate_left 2; (focus (intro w' hS; (try dsimp only at hS); go_simp; exact Plan2.isV)); (focus (simp only [Act.put, List.setIfInBounds_toArray, List.set_cons_zero, List.set_cons_succ]; rfl))))
    (first | (refine' Plan2.off (N := (some 155)) rfl (by rfl) rfl ?_ ?_; rotate_left 1; (focus (simp only [Act.put, List.setIfInBounds_toArray, List.set_cons_zero, List.set_cons_succ]; rfl))) | (refine' Plan2.pure (N := (some 155)) rfl (by rfl) rfl ?_ ?_ ?_; rotate_left 2; (focus (intro w'; go_simp; exact Plan2.isV)); (focus (simp only [Act.put, List.setIfInBounds_toArray, List.set_cons_zero, List.set_cons_succ]; rfl))))
    (refine' Plan2.pure (N := (some 156)) rfl (by rfl) rfl ?_ ?_ ?_; rotate_left 2; (focus (intro w'; go_simp; exact Plan2.isV)); (focus (simp only [Act.put, List.setIfInBounds_toArray, List.set_cons_zero, List.set_cons_succ]; rfl)))
    (refine' Plan2.pure (N := (some 157)) rfl (by rfl) rfl ?_ ?_ ?_; rotate_left 2; (focus (intro w'; go_simp; exact Plan2.isV)); (focus (simp only [Act.put, List.setIfInBounds_toArray, List.set_cons_zero, List.set_cons_succ]; rfl)))
    (first | (refine' Plan2.off (N := (some 158)) rfl (by rfl) rfl ?_ ?_; rotate_left 1; (focus (simp only [Act.put, List.setIfInBounds_toArray, List.set_cons_zero, List.set_cons_succ]; rfl))) | (refine' Plan2.pure (N := (some 158)) rfl (by rfl) rfl ?_ ?_ ?_; rotate_left 2; (focus (intro w'; go_simp; exact Plan2.isV)); (focus (simp only [Act.put, List.setIfInBounds_toArray, List.set_cons_zero, List.set_cons_succ]; rfl))))
    (first | (refine' Plan2.off (N := (some 159)) rfl (by rfl) rfl ?_ ?_; rotate_left 1; (focus (simp only [Act.put, List.setIfInBounds_toArray, List.set_cons_zero, List.set_cons_succ]; rfl))) | (refine' Plan2.pure (N := (some 159)) rfl (by rfl) rfl ?_ ?_ ?_; rotate_left 2; (focus (intro w'; go_simp; exact Plan2.isV)); (focus (simp only [Act.put, List.setIfInBounds_toArray, List.set_cons_zero, List.set_cons_succ]; rfl))))
    (first | (refine' Plan2.off (N := (some 160)) rfl (by rfl) rfl ?_ ?_; rotate_left 1; (focus (simp only [Act.put, List.setIfInBounds_toArray, List.set_cons_zero, List.set_cons_succ]; rfl))) | (refine' Plan2.load (N := (some 160)) rfl (by rfl) rfl ?_ ?_ ?_; rotate_left 2; (focus (intro w' hS; (try dsimp only at hS); go_simp; exact Plan2.isV)); (focus (simp only [Act.put, List.setIfInBounds_toArray, List.set_cons_zero, List.set_cons_succ]; rfl))))
    (first | (refine' Plan2.off (N := (some 161)) rfl (by rfl) rfl ?_ ?_; rotate_left 1; (focus (simp only [Act.put, List.setIfInBounds_toArray, List.set_cons_zero, List.set_cons_succ]; rfl))) | (refine' Plan2.call (N := (some 161)) 19 #[.pointer (some ⟨g, 0, none⟩), .int .i64 xi] rfl (by rfl) rfl ?_ ?_ (by decide) ?_ ?_; rotate_left 2; (focus (intro w' _; (first | (go_simp; done) | (go_simp; rfl)))); (focus (intro w' hS; have hS := hS rfl; (try dsimp only at hS); exact by rw [hS.1]; exact (HC.out.2.2.1).mono (fun e w'' h => ⟨h.1, h.2.symm⟩))); (focus (simp only [Act.put, List.setIfInBounds_toArray, List.set_cons_zero, List.set_cons_succ]; rfl))))
    (first | (refine' Plan2.off (N := (some 162)) rfl (by rfl) rfl ?_ ?_; rotate_left 1; (focus (simp only [Act.put, List.setIfInBounds_toArray, List.set_cons_zero, List.set_cons_succ]; rfl))) | (refine' Plan2.pure (N := (some 162)) rfl (by rfl) rfl ?_ ?_ ?_; rotate_left 2; (focus (intro w'; go_simp; exact Plan2.isV)); (focus (simp only [Act.put, List.setIfInBounds_toArray, List.set_cons_zero, List.set_cons_succ]; rfl))))
    (first | (refine' Plan2.off (N := (some 163)) rfl (by rfl) rfl ?_ ?_; rotate_left 1; (focus (simp only [Act.put, List.setIfInBounds_toArray, List.set_cons_zero, List.set_cons_succ]; rfl))) | (refine' Plan2.pure (N := (some 163)) rfl (by rfl) rfl ?_ ?_ ?_; rotate_left 2; (focus (intro w'; go_simp; exact Plan2.isV)); (focus (simp only [Act.put, List.setIfInBounds_toArray, List.set_cons_zero, List.set_cons_succ]; rfl))))
    (first | (refine' Plan2.off (N := (some 164)) rfl (by rfl) rfl ?_ ?_; rotate_left 1; (focus (simp only [Act.put, List.setIfInBounds_toArray, List.set_cons_zero, List.set_cons_succ]; rfl))) | (refine' Plan2.load (N := (some 164)) rfl (by rfl) rfl ?_ ?_ ?_; rotate_left 2; (focus (intro w' hS; (try dsimp only at hS); go_simp; exact Plan2.isV)); (focus (simp only [Act.put, List.setIfInBounds_toArray, List.set_cons_zero, List.set_cons_succ]; rfl))))
    (first | (refine' Plan2.off (N := (some 165)) rfl (by rfl) rfl ?_ ?_; rotate_left 1; (focus (simp only [Act.put, List.setIfInBounds_toArray, List.set_cons_zero, List.set_cons_succ]; rfl))) | (refine' Plan2.call (N := (some 165)) 25 #[.pointer (some ⟨r, 0, none⟩), .int .i64 xi] rfl (by rfl) rfl ?_ ?_ (by decide) ?_ ?_; rotate_left 2; (focus (intro w' _; (first | (go_simp; done) | (go_simp; rfl)))); (focus (intro w' hS; have hS := hS rfl; (try dsimp only at hS); exact by rw [hS.1]; exact (HC.out.2.2.2).mono (fun e w'' h => ⟨h.1, h.2.symm⟩))); (focus (simp only [Act.put, List.setIfInBounds_toArray, List.set_cons_zero, List.set_cons_succ]; rfl))))
    (first | (refine' Plan2.off (N := (some 166)) rfl (by rfl) rfl ?_ ?_; rotate_left 1; (focus (simp only [Act.put, List.setIfInBounds_toArray, List.set_cons_zero, List.set_cons_succ]; rfl))) | (refine' Plan2.pure (N := (some 166)) rfl (by rfl) rfl ?_ ?_ ?_; rotate_left 2; (focus (intro w'; go_simp; exact Plan2.isV)); (focus (simp only [Act.put, List.setIfInBounds_toArray, List.set_cons_zero, List.set_cons_succ]; rfl))))
    (refine' Plan2.pure (N := (some 167)) rfl (by rfl) rfl ?_ ?_ ?_; rotate_left 2; (focus (intro w'; go_simp; exact Plan2.isV)); (focus (simp only [Act.put, List.setIfInBounds_toArray, List.set_cons_zero, List.set_cons_succ]; rfl)))
    (refine' Plan2.pure (N := (some 168)) rfl (by rfl) rfl ?_ ?_ ?_; rotate_left 2; (focus (intro w'; go_simp; exact Plan2.isV)); (focus (simp only [Act.put, List.setIfInBounds_toArray, List.set_cons_zero, List.set_cons_succ]; rfl)))
    (first | (refine' Plan2.off (N := (some 169)) rfl (by rfl) rfl ?_ ?_; rotate_left 1; (focus (simp only [Act.put, List.setIfInBounds_toArray, List.set_cons_zero, List.set_cons_succ]; rfl))) | (refine' Plan2.pure (N := (some 169)) rfl (by rfl) rfl ?_ ?_ ?_; rotate_left 2; (focus (intro w'; go_simp; exact Plan2.isV)); (focus (simp only [Act.put, List.setIfInBounds_toArray, List.set_cons_zero, List.set_cons_succ]; rfl))))
    (first | (refine' Plan2.off (N := (some 170)) rfl (by rfl) rfl ?_ ?_; rotate_left 1; (focus (simp only [Act.put, List.setIfInBounds_toArray, List.set_cons_zero, List.set_cons_succ]; rfl))) | (refine' Plan2.pure (N := (some 170)) rfl (by rfl) rfl ?_ ?_ ?_; rotate_left 2; (focus (intro w'; go_simp; exact Plan2.isV)); (focus (simp only [Act.put, List.setIfInBounds_toArray, List.set_cons_zero, List.set_cons_succ]; rfl))))
    (first | (refine' Plan2.off (N := (some 171)) rfl (by rfl) rfl ?_ ?_; rotate_left 1; (focus (simp only [Act.put, List.setIfInBounds_toArray, List.set_cons_zero, List.set_cons_succ]; rfl))) | (refine' Plan2.pure (N := (some 171)) rfl (by rfl) rfl ?_ ?_ ?_; rotate_left 2; (focus (intro w'; go_simp; exact Plan2.isV)); (focus (simp only [Act.put, List.setIfInBounds_toArray, List.set_cons_zero, List.set_cons_succ]; rfl))))
    (first | (refine' Plan2.off (N := (some 172)) rfl (by rfl) rfl ?_ ?_; rotate_left 1; (focus (simp only [Act.put, List.setIfInBounds_toArray, List.set_cons_zero, List.set_cons_succ]; rfl))) | (refine' Plan2.pure (N := (some 172)) rfl (by rfl) rfl ?_ ?_ ?_; rotate_left 2; (focus (intro w'; go_simp; exact Plan2.isV)); (focus (simp only [Act.put, List.setIfInBounds_toArray, List.set_cons_zero, List.set_cons_succ]; rfl))))
    (first | (refine' Plan2.off (N := (some 173)) rfl (by rfl) rfl ?_ ?_; rotate_left 1; (focus (simp only [Act.put, List.setIfInBounds_toArray, List.set_cons_zero, List.set_cons_succ]; rfl))) | (refine' Plan2.load (N := (some 173)) rfl (by rfl) rfl ?_ ?_ ?_; rotate_left 2; (focus (intro w' hS; (try dsimp only at hS); go_simp; exact Plan2.isV)); (focus (simp only [Act.put, List.setIfInBounds_toArray, List.set_cons_zero, List.set_cons_succ]; rfl))))
    (first | (refine' Plan2.off (N := (some 174)) rfl (by rfl) rfl ?_ ?_; rotate_left 1; (focus (simp only [Act.put, List.setIfInBounds_toArray, List.set_cons_zero, List.set_cons_succ]; rfl))) | (refine' Plan2.pure (N := (some 174)) rfl (by rfl) rfl ?_ ?_ ?_; rotate_left 2; (focus (intro w'; go_simp; exact Plan2.isV)); (focus (simp only [Act.put, List.setIfInBounds_toArray, List.set_cons_zero, List.set_cons_succ]; rfl))))
    (first | (refine' Plan2.off (N := (some 175)) rfl (by rfl) rfl ?_ ?_; rotate_left 1; (focus (simp only [Act.put, List.setIfInBounds_toArray, List.set_cons_zero, List.set_cons_succ]; rfl))) | (refine' Plan2.pure (N := (some 175)) rfl (by rfl) rfl ?_ ?_ ?_; rotate_left 2; (focus (intro w'; go_simp; exact Plan2.isV)); (focus (simp only [Act.put, List.setIfInBounds_toArray, List.set_cons_zero, List.set_cons_succ]; rfl))))
    (first | (refine' Plan2.off (N := (some 176)) rfl (by rfl) rfl ?_ ?_; rotate_left 1; (focus (simp only [Act.put, List.setIfInBounds_toArray, List.set_cons_zero, List.set_cons_succ]; rfl))) | (refine' Plan2.pure (N := (some 176)) rfl (by rfl) rfl ?_ ?_ ?_; rotate_left 2; (focus (intro w'; go_simp; exact Plan2.isV)); (focus (simp only [Act.put, List.setIfInBounds_toArray, List.set_cons_zero, List.set_cons_succ]; rfl))))
    (refine' Plan2.pure (N := (some 177)) rfl (by rfl) rfl ?_ ?_ ?_; rotate_left 2; (focus (intro w'; go_simp; exact Plan2.isV)); (focus (simp only [Act.put, List.setIfInBounds_toArray, List.set_cons_zero, List.set_cons_succ]; rfl)))
    (refine' Plan2.pure (N := (some 178)) rfl (by rfl) rfl ?_ ?_ ?_; rotate_left 2; (focus (intro w'; go_simp; exact Plan2.isV)); (focus (simp only [Act.put, List.setIfInBounds_toArray, List.set_cons_zero, List.set_cons_succ]; rfl)))
    (first | (refine' Plan2.off (N := (some 179)) rfl (by rfl) rfl ?_ ?_; rotate_left 1; (focus (simp only [Act.put, List.setIfInBounds_toArray, List.set_cons_zero, List.set_cons_succ]; rfl))) | (refine' Plan2.pure (N := (some 179)) rfl (by rfl) rfl ?_ ?_ ?_; rotate_left 2; (focus (intro w'; go_simp; exact Plan2.isV)); (focus (simp only [Act.put, List.setIfInBounds_toArray, List.set_cons_zero, List.set_cons_succ]; rfl))))
    (first | (refine' Plan2.off (N := (some 180)) rfl (by rfl) rfl ?_ ?_; rotate_left 1; (focus (simp only [Act.put, List.setIfInBounds_toArray, List.set_cons_zero, List.set_cons_succ]; rfl))) | (refine' Plan2.load (N := (some 180)) rfl (by rfl) rfl ?_ ?_ ?_; rotate_left 2; (focus (intro w' hS; (try dsimp only at hS); go_simp; exact Plan2.isV)); (focus (simp only [Act.put, List.setIfInBounds_toArray, List.set_cons_zero, List.set_cons_succ]; rfl))))
    (first | (refine' Plan2.off (N := (some 181)) rfl (by rfl) rfl ?_ ?_; rotate_left 1; (focus (simp only [Act.put, List.setIfInBounds_toArray, List.set_cons_zero, List.set_cons_succ]; rfl))) | (refine' Plan2.pure (N := (some 181)) rfl (by rfl) rfl ?_ ?_ ?_; rotate_left 2; (focus (intro w'; go_simp; exact Plan2.isV)); (focus (simp only [Act.put, List.setIfInBounds_toArray, List.set_cons_zero, List.set_cons_succ]; rfl))))
    (first | (refine' Plan2.off (N := (some 182)) rfl (by rfl) rfl ?_ ?_; rotate_left 1; (focus (simp only [Act.put, List.setIfInBounds_toArray, List.set_cons_zero, List.set_cons_succ]; rfl))) | (refine' Plan2.load (N := (some 182)) rfl (by rfl) rfl ?_ ?_ ?_; rotate_left 2; (focus (intro w' hS; (try dsimp only at hS); go_simp; exact Plan2.isV)); (focus (simp only [Act.put, List.setIfInBounds_toArray, List.set_cons_zero, List.set_cons_succ]; rfl))))
    (first | (refine' Plan2.off (N := (some 183)) rfl (by rfl) rfl ?_ ?_; rotate_left 1; (focus (simp only [Act.put, List.setIfInBounds_toArray, List.set_cons_zero, List.set_cons_succ]; rfl))) | (refine' Plan2.pure (N := (some 183)) rfl (by rfl) rfl ?_ ?_ ?_; rotate_left 2; (focus (intro w'; go_simp; exact Plan2.isV)); (focus (simp only [Act.put, List.setIfInBounds_toArray, List.set_cons_zero, List.set_cons_succ]; rfl))))
    (refine' Plan2.pure (N := (some 184)) rfl (by rfl) rfl ?_ ?_ ?_; rotate_left 2; (focus (intro w'; go_simp; exact Plan2.isV)); (focus (simp only [Act.put, List.setIfInBounds_toArray, List.set_cons_zero, List.set_cons_succ]; rfl)))
    (refine' Plan2.pure (N := (some 185)) rfl (by rfl) rfl ?_ ?_ ?_; rotate_left 2; (focus (intro w'; go_simp; exact Plan2.isV)); (focus (simp only [Act.put, List.setIfInBounds_toArray, List.set_cons_zero, List.set_cons_succ]; rfl)))
    (first | (refine' Plan2.off (N := (some 186)) rfl (by rfl) rfl ?_ ?_; rotate_left 1; (focus (simp only [Act.put, List.setIfInBounds_toArray, List.set_cons_zero, List.set_cons_succ]; rfl))) | (refine' Plan2.pure (N := (some 186)) rfl (by rfl) rfl ?_ ?_ ?_; rotate_left 2; (focus (intro w'; go_simp; exact Plan2.isV)); (focus (simp only [Act.put, List.setIfInBounds_toArray, List.set_cons_zero, List.set_cons_succ]; rfl))))
    (first | (refine' Plan2.off (N := (some 187)) rfl (by rfl) rfl ?_ ?_; rotate_left 1; (focus (simp only [Act.put, List.setIfInBounds_toArray, List.set_cons_zero, List.set_cons_succ]; rfl))) | (refine' Plan2.load (N := (some 187)) rfl (by rfl) rfl ?_ ?_ ?_; rotate_left 2; (focus (intro w' hS; (try dsimp only at hS); go_simp; exact Plan2.isV)); (focus (simp only [Act.put, List.setIfInBounds_toArray, List.set_cons_zero, List.set_cons_succ]; rfl))))
    (first | (refine' Plan2.off (N := (some 188)) rfl (by rfl) rfl ?_ ?_; rotate_left 1; (focus (simp only [Act.put, List.setIfInBounds_toArray, List.set_cons_zero, List.set_cons_succ]; rfl))) | (refine' Plan2.pure (N := (some 188)) rfl (by rfl) rfl ?_ ?_ ?_; rotate_left 2; (focus (intro w'; go_simp; exact Plan2.isV)); (focus (simp only [Act.put, List.setIfInBounds_toArray, List.set_cons_zero, List.set_cons_succ]; rfl))))
    (first | (refine' Plan2.off (N := (some 189)) rfl (by rfl) rfl ?_ ?_; rotate_left 1; (focus (simp only [Act.put, List.setIfInBounds_toArray, List.set_cons_zero, List.set_cons_succ]; rfl))) | (refine' Plan2.load (N := (some 189)) rfl (by rfl) rfl ?_ ?_ ?_; rotate_left 2; (focus (intro w' hS; (try dsimp only at hS); go_simp; exact Plan2.isV)); (focus (simp only [Act.put, List.setIfInBounds_toArray, List.set_cons_zero, List.set_cons_succ]; rfl))))
    (first | (refine' Plan2.off (N := (some 190)) rfl (by rfl) rfl ?_ ?_; rotate_left 1; (focus (simp only [Act.put, List.setIfInBounds_toArray, List.set_cons_zero, List.set_cons_succ]; rfl))) | (refine' Plan2.pure (N := (some 190)) rfl (by rfl) rfl ?_ ?_ ?_; rotate_left 2; (focus (intro w'; go_simp; exact Plan2.isV)); (focus (simp only [Act.put, List.setIfInBounds_toArray, List.set_cons_zero, List.set_cons_succ]; rfl))))
    (refine' Plan2.pure (N := (some 191)) rfl (by rfl) rfl ?_ ?_ ?_; rotate_left 2; (focus (intro w'; go_simp; exact Plan2.isV)); (focus (simp only [Act.put, List.setIfInBounds_toArray, List.set_cons_zero, List.set_cons_succ]; rfl)))
    refine Plan2.done ?_

    go_wp2_with fail
    exact HK.out _ _ _ _ _ _ _ _ _ _ _ _ _ _ _ _ _ _ _ _ _ _ _ _ _ _ _ _ _ _ _ _ _ _ _ _ _ _ _ _ _ _ _ _ _ _ _ _ _ _ _ _ _ _ _ _ _ _ _ _ _ _ _ _ _ _ _ _ _ _ _ _ _ _ _ _ w7.drew H7.out
end Go.Proofs.Ytodgcfkdnellpaa
