/- Store: is a tuple right? -/
import Derived.Test.YtinfafnpbalihaaS3

set_option linter.unusedSimpArgs false
set_option linter.unusedVariables false
namespace Go.Proofs.Ytinfafnpbalihaa
open Go.RowKit Go.Maps Go.WideMaps Go.Proofs.YtinfafnpbalihaaW.PrintWords
theorem wpList_load_midG {ops : Array Oper} {rest : List Oper} {op : Oper} {a : Act} {w : World} {Q : Exit → Act → World → Prop} (hw : Region.wanted op (yielded ops a.tmps) = true) (ty : TypeId) (x : Operand) (ho : op.op = .load ty x)
    (b o : Nat) (hx : a.eval x = .pointer (some ⟨b, o, none⟩)) (cs : List Value) (d : TypeDesc) (hc : w.rangeAt b o cs)
    (hu : Try.prog.underlying ty = some d) (hd : d.isRow = true) (hi : (Try.prog.info? ty).map (·.size) = some cs.length)
    (h : wpList Try.prog ops Q rest (a.put op.dst (.agg cs.toArray)) w) : wpList Try.prog ops Q (op :: rest) a w :=
  BigFrame.wpList_want hw fun _ hK => wp_load_mid ty x ho b o hx cs d hc hu hd hi (hK _ _ h)
/-- a tuple lies in a block, from its first cell on -/
structure TupAt (w : World) (b : Nat) (t : Tup) : Prop where
  src : w.rangeAt b 0 (addrC t.v t.s)
  dst : w.rangeAt b 17 (addrC t.u t.d)
  c0 : w.cell? ⟨b, 0, none⟩ = some (.bool t.v)
  c17 : w.cell? ⟨b, 17, none⟩ = some (.bool t.u)
  c34 : w.cell? ⟨b, 34, none⟩ = some (.int .i64 t.p)
  c35 : w.cell? ⟨b, 35, none⟩ = some (.int .i64 t.sp)
  c36 : w.cell? ⟨b, 36, none⟩ = some (.int .i64 t.dp)
theorem Tup.at_src {t : Tup} (h : t.Ok) {j : Nat} (hj : j < 17) : t.cells[j]? = (addrC t.v t.s)[j]? := by
  unfold Tup.cells; rw [List.getElem?_append_left (by rw [addrC_len h.s.len]; exact hj)]
theorem Tup.at_dst {t : Tup} (h : t.Ok) {j : Nat} (hj : j < 17) : t.cells[17 + j]? = (addrC t.u t.d)[j]? := by
  unfold Tup.cells; rw [List.getElem?_append_right (by rw [addrC_len h.s.len]; omega), addrC_len h.s.len, Nat.add_sub_cancel_left, List.getElem?_append_left (by rw [addrC_len h.d.len]; exact hj)]
theorem Tup.at_end {t : Tup} (h : t.Ok) {j : Nat} : t.cells[34 + j]? = [Value.int .i64 t.p, .int .i64 t.sp, .int .i64 t.dp][j]? := by
  unfold Tup.cells; rw [List.getElem?_append_right (by rw [addrC_len h.s.len]; omega), addrC_len h.s.len, List.getElem?_append_right (by rw [addrC_len h.d.len]; omega), addrC_len h.d.len]; congr 1; omega
theorem TupAt.of_range {w : World} {b : Nat} {t : Tup} (h : t.Ok) (hr : w.rangeAt b 0 t.cells) : TupAt w b t := by
  refine ⟨fun j v hj => hr j v (by rw [Tup.at_src h (by have := (List.getElem?_eq_some_iff.1 hj).1; rw [addrC_len h.s.len] at this; exact this)]; exact hj), fun j v hj => ?_, hr 0 _ (by rw [Tup.at_src h (by omega)]; rfl), hr 17 _ (by rw [show 17 = 17 + 0 by rfl, Tup.at_dst h (by omega)]; rfl), hr 34 _ (Tup.at_end h (j := 0)), hr 35 _ (Tup.at_end h (j := 1)), hr 36 _ (Tup.at_end h (j := 2))⟩
  have := hr (17 + j) v (by rw [Tup.at_dst h (by have := (List.getElem?_eq_some_iff.1 hj).1; rw [addrC_len h.d.len] at this; exact this)]; exact hj)
  rwa [Nat.zero_add] at this
theorem TupAt.below {B : Nat} {w w' : World} {b : Nat} {t : Tup} (h : TupAt w b t) (hb : Below B w w') (hB : b < B) : TupAt w' b t :=
  ⟨range_below h.src hb hB, range_below h.dst hb hB, (hb.cell (p := ⟨b, 0, none⟩) hB).trans h.c0, (hb.cell (p := ⟨b, 17, none⟩) hB).trans h.c17, (hb.cell (p := ⟨b, 34, none⟩) hB).trans h.c34, (hb.cell (p := ⟨b, 35, none⟩) hB).trans h.c35, (hb.cell (p := ⟨b, 36, none⟩) hB).trans h.c36⟩
def TuplePost (w : World) (t : Tup) (e : Ending) (w' : World) : Prop := ∃ b, (e = .returned (.bool b) ∧ (t.nice → b = true)) ∧ Below w.heap.size w w'
theorem nice_no {w w' : World} {t : Tup} {e : Ending} (he : e = .returned (.bool false)) (h : ¬ t.nice) (hb : Below w.heap.size w w') : TuplePost w t e w' := ⟨false, ⟨he, fun hn => (h hn).elim⟩, hb⟩
/-- what a call behind the box keeps -/
structure RT (w : World) (t : Tup) (w' : World) : Prop where
  bl : Below w.heap.size w w'
  at_ : TupAt w' w.heap.size t
  sz : w.heap.size < w'.heap.size
theorem RT.call {w w1 w2 : World} {t : Tup} (h : RT w t w1) (hb : Below w1.heap.size w1 w2) : RT w t w2 := ⟨h.bl.trans (hb.mono h.bl.size), h.at_.below hb h.sz, Nat.lt_of_lt_of_le h.sz hb.size⟩
theorem RT.start (w : World) {t : Tup} (h : t.Ok) : RT w t (w.alloc (.cells t.cells.toArray 33)) :=
  ⟨below_alloc (Below.refl _ _) _, TupAt.of_range h (rangeAt_blk (heap_alloc_new _ _)), by show _ < (w.heap.push _).size; rw [Array.size_push]; omega⟩
theorem not_nice_s {t : Tup} (h : t.v = true ∨ t.s.drop 4 = List.replicate 12 0 → false = true) : ¬ t.nice := fun hn => by have := h (.inr hn.2.2.1); cases this
theorem not_nice_d {t : Tup} (h : t.u = true ∨ t.d.drop 4 = List.replicate 12 0 → false = true) : ¬ t.nice := fun hn => by have := h (.inr hn.2.2.2.1); cases this
theorem tright_ret {w w' : World} {t : Tup} (b : Bool) (h : b = false → ¬ t.nice) (hb : Below w.heap.size w w') : TuplePost w t (.returned (.bool b)) w' := ⟨b, ⟨rfl, fun hn => by cases b; exact (h rfl hn).elim; rfl⟩, hb⟩

set_option maxHeartbeats 1000000 in
set_option maxRecDepth 100000 in
theorem tright_true (t : Tup) (cs : Array Value) (hv : t.v = true) (hu : t.u = true) (w : World) (H0 : Aside0 (RT w t (w.alloc (.cells cs 33)))) (HO : Aside0 t.Ok) : Calls Try.prog 21 #[.agg cs] w (TuplePost w t) := by
  have c0 := H0.out.at_.c0
  have c17 := H0.out.at_.c17
  have HS := Aside0.mk (fun W => aright_any t.v t.s HO.out.s W)
  have HD := Aside0.mk (fun W => aright_any t.u t.d HO.out.d W)
  have l1 : (addrC t.v t.s).length = 17 := addrC_len HO.out.s.len
  have l2 : (addrC t.u t.d).length = 17 := addrC_len HO.out.d.len
  rw [hv] at c0
  rw [hu] at c17
  have HV := Aside0.mk (And.intro hv hu)
  clear hv hu
  generalize hA : addrC t.v t.s = A1 at *
  generalize hB : addrC t.u t.d = A2 at *
  have S1 := hA ▸ H0.out.at_.src
  go_enter Try.func21, Try.ntmps21
  go_wp2_with (refine wpList_load_midG (by rfl) 31 _ rfl w.heap.size 0 rfl A1 _ S1 Try.underlying31 rfl (by rw [l1]; exact size31) ?_)
  refine (HS.out _).mono ?_
  rintro e w1 ⟨⟨b1, rfl, hb1⟩, hl1⟩
  have H1 := Aside0.mk (H0.out.call hl1)
  have HB1 := Aside0.mk hb1
  clear hl1 hb1 S1 c0 c17
  have S2 := hB ▸ H1.out.at_.dst
  cases b1
  · go_wp2_with fail
    go_ret
    exact tright_ret false (fun _ => not_nice_s HB1.out) H1.out.bl
  clear HB1
  go_wp2_with (refine wpList_load_midG (by rfl) 31 _ rfl w.heap.size 17 rfl A2 _ S2 Try.underlying31 rfl (by rw [l2]; exact size31) ?_)
  refine (HD.out _).mono ?_
  rintro e w2 ⟨⟨b2, rfl, hb2⟩, hl2⟩
  have H2 := Aside0.mk (H1.out.call hl2)
  have HB2 := Aside0.mk hb2
  clear hl2 hb2 S2
  cases b2
  · go_wp2_with fail
    go_ret
    exact tright_ret false (fun _ => not_nice_d HB2.out) H2.out.bl
  clear HB2
  have c34 := H2.out.at_.c34
  have c35 := H2.out.at_.c35
  have c36 := H2.out.at_.c36
  generalize hP : t.p = P at c34
  generalize hSP : t.sp = SP at c35
  generalize hDP : t.dp = DP at c36
  have HP := Aside0.mk (And.intro hP (And.intro hSP hDP))
  clear hP hSP hDP
  by_cases h1 : 0 ≤ SP ∧ SP ≤ 65535
  · have q1 := port_any SP w2
    rw [decide_eq_true h1] at q1
    have HH1 := Aside0.mk h1
    clear h1
    by_cases h2 : 0 ≤ DP ∧ DP ≤ 65535
    · have q2 := port_any DP w2
      rw [decide_eq_true h2] at q2
      have HH2 := Aside0.mk h2
      clear h2
      by_cases h6 : P = 6
      · subst h6
        go_wp2_with (first | ((refine q1.mono ?_); rintro e w3 ⟨rfl, rfl⟩; clear q1) | ((refine q2.mono ?_); rintro e w3 ⟨rfl, rfl⟩; clear q2))
        go_ret
        exact tright_ret true (fun h => by cases h) H2.out.bl
      · by_cases h17 : P = 17
        · subst h17
          go_wp2_with (first | ((refine q1.mono ?_); rintro e w3 ⟨rfl, rfl⟩; clear q1) | ((refine q2.mono ?_); rintro e w3 ⟨rfl, rfl⟩; clear q2))
          go_ret
          exact tright_ret true (fun h => by cases h) H2.out.bl
        · go_wp2_with (first | ((refine q1.mono ?_); rintro e w3 ⟨rfl, rfl⟩; clear q1) | ((refine q2.mono ?_); rintro e w3 ⟨rfl, rfl⟩; clear q2))
          go_ret
          exact tright_ret _ (fun _ hn => by have := hn.2.2.2.2.1; rw [HP.out.1] at this; omega) H2.out.bl
    · have q2 := port_any DP w2
      rw [decide_eq_false h2] at q2
      have HH2 := Aside0.mk h2
      clear h2
      go_wp2_with (first | ((refine q1.mono ?_); rintro e w3 ⟨rfl, rfl⟩; clear q1) | ((refine q2.mono ?_); rintro e w3 ⟨rfl, rfl⟩; clear q2))
      go_ret
      exact tright_ret false (fun _ hn => by have := hn.2.2.2.2.2.2; rw [HP.out.2.2] at this; exact HH2.out this) H2.out.bl
  · have q1 := port_any SP w2
    rw [decide_eq_false h1] at q1
    have HH1 := Aside0.mk h1
    clear h1
    go_wp2_with ((refine q1.mono ?_); rintro e w3 ⟨rfl, rfl⟩; clear q1)
    go_ret
    exact tright_ret false (fun _ hn => by have := hn.2.2.2.2.2.1; rw [HP.out.2.1] at this; exact HH1.out this) H2.out.bl
set_option maxHeartbeats 1000000 in
set_option maxRecDepth 100000 in
theorem tright_false (t : Tup) (cs : Array Value) (hv : t.v = false) (hu : t.u = false) (w : World) (H0 : Aside0 (RT w t (w.alloc (.cells cs 33)))) (HO : Aside0 t.Ok) : Calls Try.prog 21 #[.agg cs] w (TuplePost w t) := by
  have c0 := H0.out.at_.c0
  have c17 := H0.out.at_.c17
  have HS := Aside0.mk (fun W => aright_any t.v t.s HO.out.s W)
  have HD := Aside0.mk (fun W => aright_any t.u t.d HO.out.d W)
  have l1 : (addrC t.v t.s).length = 17 := addrC_len HO.out.s.len
  have l2 : (addrC t.u t.d).length = 17 := addrC_len HO.out.d.len
  rw [hv] at c0
  rw [hu] at c17
  have HV := Aside0.mk (And.intro hv hu)
  clear hv hu
  generalize hA : addrC t.v t.s = A1 at *
  generalize hB : addrC t.u t.d = A2 at *
  have S1 := hA ▸ H0.out.at_.src
  go_enter Try.func21, Try.ntmps21
  go_wp2_with (refine wpList_load_midG (by rfl) 31 _ rfl w.heap.size 0 rfl A1 _ S1 Try.underlying31 rfl (by rw [l1]; exact size31) ?_)
  refine (HS.out _).mono ?_
  rintro e w1 ⟨⟨b1, rfl, hb1⟩, hl1⟩
  have H1 := Aside0.mk (H0.out.call hl1)
  have HB1 := Aside0.mk hb1
  clear hl1 hb1 S1 c0 c17
  have S2 := hB ▸ H1.out.at_.dst
  cases b1
  · go_wp2_with fail
    go_ret
    exact tright_ret false (fun _ => not_nice_s HB1.out) H1.out.bl
  clear HB1
  go_wp2_with (refine wpList_load_midG (by rfl) 31 _ rfl w.heap.size 17 rfl A2 _ S2 Try.underlying31 rfl (by rw [l2]; exact size31) ?_)
  refine (HD.out _).mono ?_
  rintro e w2 ⟨⟨b2, rfl, hb2⟩, hl2⟩
  have H2 := Aside0.mk (H1.out.call hl2)
  have HB2 := Aside0.mk hb2
  clear hl2 hb2 S2
  cases b2
  · go_wp2_with fail
    go_ret
    exact tright_ret false (fun _ => not_nice_d HB2.out) H2.out.bl
  clear HB2
  have c34 := H2.out.at_.c34
  have c35 := H2.out.at_.c35
  have c36 := H2.out.at_.c36
  generalize hP : t.p = P at c34
  generalize hSP : t.sp = SP at c35
  generalize hDP : t.dp = DP at c36
  have HP := Aside0.mk (And.intro hP (And.intro hSP hDP))
  clear hP hSP hDP
  by_cases h1 : 0 ≤ SP ∧ SP ≤ 65535
  · have q1 := port_any SP w2
    rw [decide_eq_true h1] at q1
    have HH1 := Aside0.mk h1
    clear h1
    by_cases h2 : 0 ≤ DP ∧ DP ≤ 65535
    · have q2 := port_any DP w2
      rw [decide_eq_true h2] at q2
      have HH2 := Aside0.mk h2
      clear h2
      by_cases h6 : P = 6
      · subst h6
        go_wp2_with (first | ((refine q1.mono ?_); rintro e w3 ⟨rfl, rfl⟩; clear q1) | ((refine q2.mono ?_); rintro e w3 ⟨rfl, rfl⟩; clear q2))
        go_ret
        exact tright_ret true (fun h => by cases h) H2.out.bl
      · by_cases h17 : P = 17
        · subst h17
          go_wp2_with (first | ((refine q1.mono ?_); rintro e w3 ⟨rfl, rfl⟩; clear q1) | ((refine q2.mono ?_); rintro e w3 ⟨rfl, rfl⟩; clear q2))
          go_ret
          exact tright_ret true (fun h => by cases h) H2.out.bl
        · go_wp2_with (first | ((refine q1.mono ?_); rintro e w3 ⟨rfl, rfl⟩; clear q1) | ((refine q2.mono ?_); rintro e w3 ⟨rfl, rfl⟩; clear q2))
          go_ret
          exact tright_ret _ (fun _ hn => by have := hn.2.2.2.2.1; rw [HP.out.1] at this; omega) H2.out.bl
    · have q2 := port_any DP w2
      rw [decide_eq_false h2] at q2
      have HH2 := Aside0.mk h2
      clear h2
      go_wp2_with (first | ((refine q1.mono ?_); rintro e w3 ⟨rfl, rfl⟩; clear q1) | ((refine q2.mono ?_); rintro e w3 ⟨rfl, rfl⟩; clear q2))
      go_ret
      exact tright_ret false (fun _ hn => by have := hn.2.2.2.2.2.2; rw [HP.out.2.2] at this; exact HH2.out this) H2.out.bl
  · have q1 := port_any SP w2
    rw [decide_eq_false h1] at q1
    have HH1 := Aside0.mk h1
    clear h1
    go_wp2_with ((refine q1.mono ?_); rintro e w3 ⟨rfl, rfl⟩; clear q1)
    go_ret
    exact tright_ret false (fun _ hn => by have := hn.2.2.2.2.2.1; rw [HP.out.2.1] at this; exact HH1.out this) H2.out.bl
set_option maxHeartbeats 1000000 in
set_option maxRecDepth 100000 in
theorem tright_no (t : Tup) (cs : Array Value) (a b : Bool) (hv : t.v = a) (hu : t.u = b) (hab : a ≠ b) (w : World) (H0 : Aside0 (RT w t (w.alloc (.cells cs 33)))) : Calls Try.prog 21 #[.agg cs] w (TuplePost w t) := by
  have c0 := H0.out.at_.c0
  have c17 := H0.out.at_.c17
  rw [hv] at c0
  rw [hu] at c17
  have HV := Aside0.mk (And.intro hv hu)
  clear hv hu
  cases a <;> cases b
  · exact (hab rfl).elim
  · clear hab
    go_enter Try.func21, Try.ntmps21
    go_wp2_with fail
    go_ret
    exact tright_ret false (fun _ hn => by have := hn.2.1; rw [HV.out.2] at this; cases this) H0.out.bl
  · clear hab
    go_enter Try.func21, Try.ntmps21
    go_wp2_with fail
    go_ret
    exact tright_ret false (fun _ hn => by have := hn.1; rw [HV.out.1] at this; cases this) H0.out.bl
  · exact (hab rfl).elim
theorem tright_any (t : Tup) (h : t.Ok) (w : World) : Calls Try.prog 21 #[.agg t.cells.toArray] w (TuplePost w t) := by
  have H0 := Aside0.mk (RT.start w h)
  by_cases hvu : t.v = t.u
  · cases hv : t.v
    · exact tright_false t _ hv (hvu ▸ hv) w H0 ⟨h⟩
    · exact tright_true t _ hv (hvu ▸ hv) w H0 ⟨h⟩
  · exact tright_no t _ _ _ rfl rfl hvu w H0
end Go.Proofs.Ytinfafnpbalihaa
