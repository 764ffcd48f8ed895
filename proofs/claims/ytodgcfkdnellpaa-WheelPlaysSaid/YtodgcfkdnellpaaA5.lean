/- Wheel: slices.DeleteFunc. -/
import Derived.Test.YtodgcfkdnellpaaA4
set_option linter.unusedSimpArgs false
set_option linter.unusedVariables false
namespace Go.Proofs.Ytodgcfkdnellpaa
open Go.RowKit Go.Proofs.YtodgcfkdnellpaaW.PrintWords
def zeros (n : Nat) : List Value := (Builtin.zeroCells (Value.agg #[(.int .i64 0), (.int .i64 0)]).cells n).toList
theorem zeros_length (n : Nat) : (zeros n).length = n * 2 := by
  unfold zeros
  rw [Array.length_toList, size_zeroCells]
  rfl
theorem zeros_one (n : Nat) : ∀ u ∈ zeros n, u.oneCell' = true := by
  intro u hu
  unfold zeros at hu
  simp only [Builtin.zeroCells, Value.cells, Array.toList_map, List.mem_map] at hu
  obtain ⟨i, _, rfl⟩ := hu
  have hi : i % 2 < 2 := Nat.mod_lt _ (by decide)
  show (#[Value.int .i64 0, Value.int .i64 0][i % 2]!).oneCell' = true
  rcases (by omega : i % 2 = 0 ∨ i % 2 = 1) with e | e <;> rw [e] <;> rfl
theorem clear_run (w : World) (b o n c : Nat) (hn : 0 < n) (hc : ∀ j, j < n * 2 → (w.cell? ⟨b, o + j, none⟩).isSome = true) (hf : ∀ j, j < n * 2 → w.frozen? ⟨b, o + j, none⟩ = false) : ∀ ty, (Builtin.clear_ #[29] ty #[.slice (some ⟨b, o, none⟩) n c]).run Try.prog w = .ok (.tuple #[]) (w.setCells b o (zeros n)) := by
  intro ty
  have hst := run_storeCells_cells (P := Try.prog) b o (zeros n) 0 w (by rw [zeros_length]; simpa using hc) (by rw [zeros_length]; simpa using hf) (zeros_one n)
  simp only [Nat.add_zero] at hst
  unfold zeros at hst ⊢
  obtain ⟨m, rfl⟩ : ∃ m, n = m + 1 := ⟨n - 1, by omega⟩
  simp [Builtin.clear_, run_underlying Try.underlying29, Try.zeroValue33, hst]
section
variable {w wr : World} {b off c i j : Nat} {d : Du} {l : List Du}
theorem DelInv.done (h : DelInv w wr b off c d l i l.length) : i < l.length ∧ (∀ t, t < (l.length - i) * 2 → (wr.cell? ⟨b, off + i * 2 + t, none⟩).isSome = true) ∧ (∀ t, t < (l.length - i) * 2 → wr.frozen? ⟨b, off + i * 2 + t, none⟩ = false) := by
  obtain ⟨P, M, rest, h1, h2, h3, h4, h5⟩ := h.row
  have hkl := cellsL_length ((l.take l.length).filter (keepD d))
  have hlen := h.len
  have e0 : cellsL (l.drop l.length) = [] := by rw [List.drop_length]; rfl
  rw [e0] at h1
  refine ⟨h.lt, fun t ht => ?_, fun t _ => blk_frozen h1 _⟩
  have := h.lt
  have hsz : (P ++ (cellsL ((l.take l.length).filter (keepD d)) ++ (M ++ ([] ++ rest)))).length = off + (l.length * 2 + rest.length) := by simp only [List.length_append, List.length_nil, hkl]; omega
  rw [blk_cell h1, List.getElem?_toArray, List.getElem?_eq_getElem (by rw [hsz]; omega)]
  rfl
theorem DelInv.finish (hlc : l.length ≤ c) (hcm : c ≤ maxLen) (h : DelInv w wr b off c d l i l.length) :
    Fr (fun k => k = b) w (wr.setCells b (off + i * 2) (zeros (l.length - i))) ∧ ORow (wr.setCells b (off + i * 2) (zeros (l.length - i))) (.slice (some ⟨b, off, none⟩) (l.filter (keepD d)).length c) (l.filter (keepD d)) := by
  obtain ⟨P, M, rest, h1, h2, h3, h4, h5⟩ := h.row
  have hlen := h.len
  rw [List.take_length] at h1 h3 hlen
  have hkl := cellsL_length (l.filter (keepD d))
  have hi := h.lt
  have hzl := zeros_length (l.length - i)
  have e0 : cellsL (l.drop l.length) = [] := by rw [List.drop_length]; rfl
  rw [e0] at h1
  have hsz : (P ++ (cellsL (l.filter (keepD d)) ++ (M ++ ([] ++ rest)))).length = off + (l.length * 2 + rest.length) := by simp only [List.length_append, List.length_nil, hkl]; omega
  obtain ⟨cur', g1, g2, g3⟩ := setCells_row (zeros (l.length - i)) (off + i * 2) wr _ h1 (by rw [List.size_toArray, hsz, hzl]; omega)
  obtain ⟨s1, s2, s3, s4⟩ := setCells_same b (zeros (l.length - i)) (off + i * 2) wr
  refine ⟨⟨s1.trans h.fr.os, s2.trans h.fr.tape, s3.trans h.fr.output, by rw [s4]; exact h.fr.size, fun k hk hn => ?_⟩, .inr ⟨b, off, c, cur', rfl, g1, by omega, hcm, by rw [g2, List.size_toArray, hsz]; omega, ?_⟩⟩
  · rw [setCells_far _ _ k hn]; exact h.fr.block k hk hn
  · have e1 : off + i * 2 = (P ++ cellsL (l.filter (keepD d))).length := by rw [List.length_append, h2, hkl, hlen]
    have e2 : (P ++ (cellsL (l.filter (keepD d)) ++ (M ++ ([] ++ rest)))).toArray.toList = (P ++ cellsL (l.filter (keepD d))) ++ (M ++ rest) := by simp
    rw [g3, e2, e1, List.take_left, ← hkl, ← h2, List.append_assoc, List.append_assoc, List.drop_left, List.take_left]
theorem DelInv.start {cur : Array Value} {k : Nat} (hb : w.heap[b]? = some (.cells cur 33 (0, 0))) (h1 : l.length ≤ c) (h3 : off + c * 2 ≤ cur.size) (hx : (cur.toList.drop off).take (l.length * 2) = cellsL l) (hk : k < l.length) (h0 : keepD d l[k] = false) (hmin : ∀ j (hj : j < k), keepD d (l[j]'(by omega)) = true) {w' : World} (hf : Fr SNo w w') : DelInv w w' b off c d l k (k + 1) := by
  have hfil : (l.take k).filter (keepD d) = l.take k := List.filter_eq_self.2 (fun x hx => by
    obtain ⟨j, hj, rfl⟩ := List.mem_iff_getElem.1 hx
    rw [List.getElem_take]
    simp at hj
    exact hmin j (by omega))
  have ht : (l.take (k + 1)).filter (keepD d) = l.take k := by rw [take_keep hk, hfil]; simp [h0]
  have hl := cellsL_length l
  refine ⟨hf.mono (fun _ _ h => h.elim), ⟨cur.toList.take off, [Value.int .i64 l[k].id, Value.int .i64 l[k].at_], cur.toList.drop (off + l.length * 2), ?_, by simp; omega, by rw [ht]; simp; omega, by simp, by simp; omega⟩, by rw [ht]; simp; omega⟩
  rw [hf.blk hb (fun h => h), ht]
  congr 2
  apply Array.toList_inj.1
  have e1 : cur.toList = cur.toList.take off ++ (cellsL l ++ cur.toList.drop (off + l.length * 2)) := by
    rw [← hx]
    conv => lhs; rw [← List.take_append_drop off cur.toList, ← List.take_append_drop (l.length * 2) (cur.toList.drop off)]
    rw [List.drop_drop]
  have e2 : cellsL l = cellsL (l.take k) ++ ([Value.int .i64 l[k].id, Value.int .i64 l[k].at_] ++ cellsL (l.drop (k + 1))) := by
    conv => lhs; rw [← List.take_append_drop k l, cellsL_append, List.drop_eq_getElem_cons hk, cellsL_cons]
    rfl
  conv => lhs; rw [e1, e2]
  simp only [List.append_assoc]
end
def DelRel (w : World) (b off c : Nat) (d : Du) (l : List Du) (s5 s6 : Value) (wr : World) : Prop := ∃ i j : Nat, s5 = .int .i64 i ∧ s6 = .int .i64 j ∧ j ≤ l.length ∧ DelInv w wr b off c d l i j
def DelPost (w : World) (b off c : Nat) (d : Du) (l : List Du) (e : Ending) (w' : World) : Prop := e = .returned (.slice (some ⟨b, off, none⟩) (l.filter (keepD d)).length c) ∧ Fr (fun k => k = b) w w' ∧ ORow w' (.slice (some ⟨b, off, none⟩) (l.filter (keepD d)).length c) (l.filter (keepD d))
theorem Fr.cellAt {S : Nat → Prop} {w w1 : World} (h : Fr S w w1) {p : Addr} {v : Value} (hp : p.block < w.heap.size) (hn : ¬ S p.block) (hc : w.cell? p = some v) : w1.cell? p = some v := by
  have hb := h.block p.block hp hn
  rw [← hc]
  exact World.cell?_of_block hb
set_option maxHeartbeats 2000000 in
theorem delete_any (w : World) (b off c k : Nat) (d : Du) (l : List Du) (h : ORow w (.slice (some ⟨b, off, none⟩) l.length c) l) (h0 : 0 < l.length) (h64 : l.length ≤ 4096) (hk : k < w.heap.size) (hbk : k ≠ b) (hk0 : w.cell? ⟨k, 0, none⟩ = some (.int .i64 d.id)) (hk1 : w.cell? ⟨k, 1, none⟩ = some (.int .i64 d.at_)) :
    Calls Try.prog 40 #[.slice (some ⟨b, off, none⟩) l.length c, .func (.func 39) #[] #[.pointer (some ⟨k, 0, none⟩)]] w (DelPost w b off c d l) := by
  have hcon := index_del w b off c k d l h hk hk0 hk1
  have HC := Aside0.mk hcon; clear hcon
  obtain ⟨cur, hb, h1, h2, h3, hx⟩ : ∃ cur, w.heap[b]? = some (.cells cur 33 (0, 0)) ∧ l.length ≤ c ∧ c ≤ maxLen ∧ off + c * 2 ≤ cur.size ∧ (cur.toList.drop off).take (l.length * 2) = cellsL l := by
    rcases h with ⟨h, _⟩ | ⟨b', off', c', cur, he, hb, h1, h2, h3, h4⟩
    · cases h
    · injection he with he _ e3
      injection he with he
      injection he with e1 e2 _
      subst e1; subst e2; subst e3
      exact ⟨cur, hb, h1, h2, h3, h4⟩
  have HH := Aside0.mk h; clear h
  have HB := Aside0.mk (And.intro hb hx); clear hb hx
  have HM := Aside0.mk h2; clear h2
  have HK := Aside0.mk (And.intro hk (And.intro hbk (And.intro hk0 hk1))); clear hk hbk hk0 hk1
  go_enter Try.func40, Try.ntmps40
  go_wp2_with fail
  refine HC.out.mono ?_
  rintro e w1 ⟨r, rfl, hbw, hr⟩
  have hfw : Fr SNo w w1 := Fr.of_below hbw _
  clear hbw
  rcases hr with ⟨rfl, hno⟩ | ⟨m, hm, rfl, hm0, hmin⟩
  · have HN := Aside0.mk hno; have HF := Aside0.mk hfw; clear hno hfw
    go_wp2
    go_ret
    have hf : l.filter (keepD d) = l := List.filter_eq_self.2 HN.out
    unfold DelPost
    rw [hf]
    exact ⟨rfl, HF.out.mono (fun _ _ h => h.elim), HH.out.frame HF.out (fun _ _ h => h.elim)⟩
  · have hne1 : ((m : Int) == -1) = false := beq_eq_false_iff_ne.2 (by omega)
    have HK2 := Aside0.mk (And.intro hm0 hmin); have HF := Aside0.mk hfw; clear hm0 hmin hfw
    go_wp2_with fail
    go_loopg [5, 6, 7] l.length (fun gg s5 s6 _ wr => DelRel w b off c d l s5 s6 wr ∧ l.length - (intOf s6).toNat ≤ gg)
    case atStart => exact ⟨⟨m, m + 1, rfl, by go_num, by omega, DelInv.start HB.out.1 h1 h3 HB.out.2 hm HK2.out.1 HK2.out.2 HF.out⟩, by omega⟩
    case round =>
      obtain ⟨⟨i, j, rfl, rfl, hjn, hI⟩, hgg⟩ := hrel
      have hij := hI.lt
      have HI := Aside0.mk hI
      simp only [intOf] at hgg
      by_cases hlt : j < l.length
      · have hltz : (j : Int) < (l.length : Int) := by omega
        obtain ⟨cj0, cj1⟩ := hI.cell hlt
        obtain ⟨dj, hdj⟩ : ∃ x, x = l[j] := ⟨_, rfl⟩
        rw [← hdj] at cj0 cj1
        obtain ⟨xi, hxi⟩ : ∃ x, x = dj.id := ⟨_, rfl⟩
        obtain ⟨xa, hxa⟩ : ∃ x, x = dj.at_ := ⟨_, rfl⟩
        rw [← hxi] at cj0
        rw [← hxa] at cj1
        have HD := Aside0.mk (And.intro hdj (And.intro hxi hxa)); clear hdj hxi hxa
        clear hI
        go_wp2_with fail
        have hw1 : Fr SNo wr (wr.alloc (.cells #[.int .i64 xi, .int .i64 xa] 33)) := (Fr.refl SNo wr).alloc _
        have hI1 := HI.out.grow hw1
        have hkw := HK.out
        have hk0 := hI1.fr.cellAt (p := ⟨k, 0, none⟩) hkw.1 hkw.2.1 hkw.2.2.1
        have hk1 := hI1.fr.cellAt (p := ⟨k, 1, none⟩) hkw.1 hkw.2.1 hkw.2.2.2
        have hcall := take1_any dj d k _ (Nat.lt_of_lt_of_le hkw.1 hI1.fr.size) hk0 hk1
        have hpv := blk_cell (heap_alloc_new wr (.cells #[.int .i64 xi, .int .i64 xa] 33)) 0
        have hpv1 := blk_cell (heap_alloc_new wr (.cells #[.int .i64 xi, .int .i64 xa] 33)) 1
        unfold due at hcall
        rw [← HD.out.2.1, ← HD.out.2.2] at hcall
        have H1 := Aside0.mk hI1
        have hlw : wr.heap.size < (wr.alloc (.cells #[.int .i64 xi, .int .i64 xa] 33)).heap.size := blk_lt (heap_alloc_new wr _)
        have HP := Aside0.mk (And.intro hpv (And.intro hpv1 hlw))
        clear hI1 hk0 hk1 hkw hw1 hpv hpv1 hlw
        generalize wr.alloc (.cells #[.int .i64 xi, .int .i64 xa] 33) = wa at *
        by_cases hz : isDu d dj = true
        · rw [hz] at hcall
          have HZ := Aside0.mk hz; clear hz
          refine hcall.mono ?_
          rintro e w2 ⟨rfl, hg⟩
          have H2 := Aside0.mk (H1.out.grow (hg.fr SNo)); clear hg
          go_wp2_with fail
          go_roundg (l.length - (j + 1))
          case measure => omega
          case rel => exact ⟨⟨i, j + 1, rfl, by go_num, by omega, H2.out.skip hlt (by rw [← HD.out.1]; unfold keepD; rw [HZ.out]; rfl)⟩, by simp [intOf]⟩
        · have hz : isDu d dj = false := by simpa using hz
          rw [hz] at hcall
          have HZ := Aside0.mk hz; clear hz
          refine hcall.mono ?_
          rintro e w2 ⟨rfl, hg⟩
          have q0 : w2.cell? ⟨wr.heap.size, 0, none⟩ = some (.int .i64 xi) := (hg.fr SNo).cellAt HP.out.2.2 (fun h => h) HP.out.1
          have q1 : w2.cell? ⟨wr.heap.size, 1, none⟩ = some (.int .i64 xa) := (hg.fr SNo).cellAt HP.out.2.2 (fun h => h) HP.out.2.1
          have H2 := Aside0.mk (H1.out.grow (hg.fr SNo)); clear hg
          obtain ⟨m0, f0⟩ := Option.isSome_iff_exists.1 (H2.out.cell_i 0 (by omega))
          obtain ⟨m1, f1⟩ := Option.isSome_iff_exists.1 (H2.out.cell_i 1 (by omega))
          have z0 : w2.frozen? ⟨b, off + i * 2, none⟩ = false := by obtain ⟨_, _, _, hr, _⟩ := H2.out.row; exact blk_frozen hr _
          have z1 : w2.frozen? ⟨b, off + i * 2 + 1, none⟩ = false := by obtain ⟨_, _, _, hr, _⟩ := H2.out.row; exact blk_frozen hr _
          simp only [Nat.add_zero] at f0
          go_wp2_with fail
          have hk := H2.out.keep hlt (by rw [← HD.out.1]; unfold keepD; rw [HZ.out]; rfl)
          rw [show l[j].cells = [.int .i64 xi, .int .i64 xa] from by rw [← HD.out.1]; unfold Du.cells; rw [← HD.out.2.1, ← HD.out.2.2]] at hk
          have H3 := Aside0.mk hk; clear hk
          go_roundg (l.length - (j + 1))
          case measure => omega
          case rel => exact ⟨⟨i + 1, j + 1, by go_num, by go_num, by omega, H3.out⟩, by simp [intOf]⟩
      · obtain rfl : j = l.length := by omega
        have hltz : ¬ (l.length : Int) < (l.length : Int) := by omega
        obtain ⟨hd1, hd2, hd3⟩ := hI.done
        have hcl := clear_run wr b (off + i * 2) (l.length - i) (c - i) (by omega) hd2 hd3
        clear hd2 hd3 hI
        go_wp2
        go_ret
        obtain ⟨hf1, hf2⟩ := HI.out.finish h1 HM.out
        have hi : (l.filter (keepD d)).length = i := by have := HI.out.len; rw [List.take_length] at this; exact this.symm
        unfold DelPost
        exact ⟨by rw [hi]; rfl, hf1, hf2⟩
end Go.Proofs.Ytodgcfkdnellpaa
