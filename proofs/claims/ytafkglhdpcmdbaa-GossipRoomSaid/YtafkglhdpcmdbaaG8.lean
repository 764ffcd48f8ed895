/- Gossip: what is told no more goes: slices.DeleteFunc with pick's closure. -/
import Derived.Test.YtafkglhdpcmdbaaG7
import Derived.Lib.SliceRun
import Derived.Deep.LoopGhost
set_option linter.unusedSimpArgs false
set_option linter.unusedVariables false
namespace Go.Proofs.Ytafkglhdpcmdbaa
open Go.RowKit Go.Proofs.YtafkglhdpcmdbaaW.PrintWords
theorem eg38 : ∀ args w, (callFunc 38 args).run Try.prog w = .ok (.enter 38 args) w := enters_of Try.func38 (by kernel_rfl) rfl
theorem index_del (w : World) (g : Nat) (most : Int) (b c : Nat) (ps : List PI) (hq : RawQ w g most (.slice (some ⟨b, 0, none⟩) ps.length c) ps) (h0 : 0 < ps.length) (h64 : ps.length ≤ 4096) (hc : ∀ j (hj : j < ps.length), w.cell? ⟨b, j, none⟩ = some (ptr ps[j].p)) :
    Calls Try.prog 39 #[.slice (some ⟨b, 0, none⟩) ps.length c, .func (.func 38) #[] #[]] w fun e w' => ∃ r : Int, e = .returned (.int .i64 r) ∧ (∃ q, w' = w.drewN q) ∧ ((r = -1 ∧ ∀ x ∈ ps, x.it.left ≠ 0) ∨ ∃ k, ∃ h : k < ps.length, r = k ∧ ps[k].it.left = 0 ∧ ∀ j (hj : j < k), (ps[j]'(by omega)).it.left ≠ 0) := by
  letI : Inhabited (Fin ps.length) := ⟨⟨0, by omega⟩⟩
  have hz : ∀ j (hj : j < ps.length), (List.finRange ps.length)[j]! = ⟨j, hj⟩ := fun j hj => by
    rw [getElem!_pos _ j (by simpa using hj)]; simp
  have hcon := AnyE.slices_IndexFunc Try.indexL (fun i : Fin ps.length => ptr ps[i].p) (fun i => decide (ps[i].it.left = 0)) 38 #[] eg38 b 0 ps.length c (List.finRange ps.length) w
    (fun W x hB => by
      have hx := (hq.its ps[x] (List.getElem_mem _)).blk
      have hx0 : W.cell? ⟨ps[x].p, 2, none⟩ = some (.int .i64 ps[x].it.left) := (hB.cell (p := ⟨ps[x].p, 2, none⟩) (blk_lt hx)).trans (blk_cell hx 2)
      exact pick2 ps[x].p ps[x].it.left W hx0)
    (by simp) (by omega) (fun j hj => by
      have hj' : j < ps.length := by simpa using hj
      rw [hz j hj', Nat.zero_add]; exact hc j hj')
  refine hcon.mono fun e w' ⟨he, hw⟩ => ⟨_, he, hw, ?_⟩
  rw [List.take_of_length_le (by simp)]
  rcases idxByFrom_spec (fun _ y : Fin ps.length => decide (ps[y].it.left = 0)) default (List.finRange ps.length) 0 with ⟨e1, hall⟩ | ⟨k, hk, e1, ht, hall⟩
  · refine .inl ⟨e1, fun x hx => ?_⟩
    obtain ⟨j, hj, rfl⟩ := List.mem_iff_getElem.1 hx
    have := hall j (by simpa using hj)
    rw [hz j hj] at this
    simpa using this
  · have hk' : k < ps.length := by simpa using hk
    rw [hz k hk'] at ht
    refine .inr ⟨k, hk', by rw [show Lib.idxBy (fun _ y : Fin ps.length => decide (ps[y].it.left = 0)) (List.finRange ps.length) default = _ from e1]; simp, by simpa using ht, fun j hj => ?_⟩
    have := hall j hj
    rw [hz j (by omega)] at this
    simpa using this
def keepB (x : PI) : Bool := !decide (x.it.left = 0)
structure DelInv (w wr : World) (b c : Nat) (ps : List PI) (i j : Nat) : Prop where
  fr : Fr (fun k => k = b) w wr
  row : ∃ m M rest, wr.heap[b]? = some (.cells (((ps.take j).filter keepB).map (fun x : PI => ptr x.p) ++ (m :: M ++ ((ps.drop j).map (fun x : PI => ptr x.p) ++ rest))).toArray 69 (0, 0)) ∧ ((ps.take j).filter keepB).length + M.length + 1 = j ∧ ps.length + rest.length = c
  len : i = ((ps.take j).filter keepB).length
theorem DelInv.drewN {w wr : World} {b c i j : Nat} {ps : List PI} (h : DelInv w wr b c ps i j) (q : Nat) : DelInv w (wr.drewN q) b c ps i j := ⟨h.fr.drewN q, h.row, h.len⟩
theorem DelInv.lt {w wr : World} {b c i j : Nat} {ps : List PI} (h : DelInv w wr b c ps i j) : i < j := by
  obtain ⟨_, M, _, _, h2, _⟩ := h.row
  have := h.len
  omega
theorem take_keep {ps : List PI} {j : Nat} (hj : j < ps.length) : (ps.take (j + 1)).filter keepB = (ps.take j).filter keepB ++ (if keepB ps[j] = true then [ps[j]] else []) := by
  rw [List.take_succ_eq_append_getElem hj, List.filter_append]
  congr 1
  cases h : keepB ps[j] <;> simp [h]
theorem DelInv.cell {w wr : World} {b c i j : Nat} {ps : List PI} (h : DelInv w wr b c ps i j) (hj : j < ps.length) : wr.cell? ⟨b, j, none⟩ = some (ptr ps[j].p) := by
  obtain ⟨m, M, rest, h1, h2, _⟩ := h.row
  rw [blk_cell h1 j, List.getElem?_toArray, List.getElem?_append_right (by simp; omega), List.getElem?_append_right (by simp; omega), List.getElem?_append_left (by simp; omega)]
  rw [List.getElem?_map, List.getElem?_drop]
  have : j + (j - ((ps.take j).filter keepB).length - (M.length + 1)) = j := by omega
  simp only [List.length_map, List.length_cons, this, List.getElem?_eq_getElem hj, Option.map_some]
theorem DelInv.cell_i {w wr : World} {b c i j : Nat} {ps : List PI} (h : DelInv w wr b c ps i j) : ∃ m, wr.cell? ⟨b, i, none⟩ = some m := by
  obtain ⟨m, M, rest, h1, h2, _⟩ := h.row
  refine ⟨m, ?_⟩
  rw [blk_cell h1 i, List.getElem?_toArray, List.getElem?_append_right (by simp [h.len]), List.length_map, ← h.len, Nat.sub_self]
  rfl
theorem DelInv.skip {w wr : World} {b c i j : Nat} {ps : List PI} (h : DelInv w wr b c ps i j) (hj : j < ps.length) (hk : ps[j].it.left = 0) : DelInv w wr b c ps i (j + 1) := by
  obtain ⟨m, M, rest, h1, h2, h3⟩ := h.row
  have hb : keepB ps[j] = false := by simp [keepB, hk]
  have ht : (ps.take (j + 1)).filter keepB = (ps.take j).filter keepB := by rw [take_keep hj, hb]; simp
  refine ⟨h.fr, ⟨m, M ++ [ptr ps[j].p], rest, ?_, by rw [ht]; simp; omega, h3⟩, by rw [ht]; exact h.len⟩
  have hd : (ps.drop j).map (fun x : PI => ptr x.p) = ptr ps[j].p :: (ps.drop (j + 1)).map (fun x : PI => ptr x.p) := by rw [List.drop_eq_getElem_cons hj]; rfl
  rw [h1, ht, hd]
  simp only [List.append_assoc, List.cons_append, List.nil_append]
theorem DelInv.keep {w wr : World} {b c i j : Nat} {ps : List PI} (h : DelInv w wr b c ps i j) (hj : j < ps.length) (hk : ps[j].it.left ≠ 0) : DelInv w (wr.setCell ⟨b, i, none⟩ (ptr ps[j].p)) b c ps (i + 1) (j + 1) := by
  obtain ⟨m, M, rest, h1, h2, h3⟩ := h.row
  have hb : keepB ps[j] = true := by simp [keepB, hk]
  have ht : (ps.take (j + 1)).filter keepB = (ps.take j).filter keepB ++ [ps[j]] := by rw [take_keep hj, hb]; simp
  have hs := blk_set h1 i (ptr ps[j].p)
  have e : ∀ (K : List Value) (m u : Value) (R : List Value), (K ++ (m :: R)).toArray.setIfInBounds K.length u = (K ++ (u :: R)).toArray := fun K m u R => by
    simp
  have hl : i = (((ps.take j).filter keepB).map (fun x : PI => ptr x.p)).length := by rw [List.length_map]; exact h.len
  rw [List.cons_append] at hs
  rw [show (⟨b, i, none⟩ : Addr) = ⟨b, (((ps.take j).filter keepB).map (fun x : PI => ptr x.p)).length, none⟩ from by rw [← hl]] at hs ⊢
  rw [← hl] at hs ⊢
  rw [hl, e, ← hl] at hs
  refine ⟨h.fr.setCell (.inl rfl) _, ?_, by rw [ht]; simp; exact h.len⟩
  rw [List.drop_eq_getElem_cons hj, List.map_cons] at hs
  cases M with
  | nil => exact ⟨ptr ps[j].p, [], rest, by rw [hs, ht]; simp, by rw [ht]; simp at h2 ⊢; omega, h3⟩
  | cons m' M' => exact ⟨m', M' ++ [ptr ps[j].p], rest, by rw [hs, ht]; simp, by rw [ht]; simp at h2 ⊢; omega, h3⟩
theorem DelInv.done {w wr : World} {b c i : Nat} {ps : List PI} (h : DelInv w wr b c ps i ps.length) : i < ps.length ∧ (∀ t, t < ps.length - i → (wr.cell? ⟨b, i + t, none⟩).isSome = true) ∧ (∀ t, t < ps.length - i → wr.frozen? ⟨b, i + t, none⟩ = false) := by
  obtain ⟨m, M, rest, h1, h2, h3⟩ := h.row
  have hlen := h.len
  rw [List.take_length] at h1 h2 hlen
  refine ⟨h.lt, fun t ht => ?_, fun t _ => blk_frozen h1 _⟩
  rw [blk_cell h1, List.getElem?_toArray, List.getElem?_eq_getElem (by simp; omega)]
  rfl
theorem DelInv.finish {w wr : World} {g b c i : Nat} {most : Int} {ps : List PI} (hq : RawQ w g most (.slice (some ⟨b, 0, none⟩) ps.length c) ps) (hcm : c ≤ maxLen) (h : DelInv w wr b c ps i ps.length) :
    Fr (fun k => k = b) w (wr.setCells b i (List.replicate (ps.length - i) (.pointer none))) ∧ (wr.setCells b i (List.replicate (ps.length - i) (.pointer none))).ownsRow 0 69 1 (.slice (some ⟨b, 0, none⟩) i c) i ((ps.filter keepB).map (fun x : PI => ptr x.p)) := by
  obtain ⟨m, M, rest, h1, h2, h3⟩ := h.row
  have hlen := h.len
  rw [List.take_length] at h1 h2 hlen
  have hi := h.lt
  obtain ⟨cur', g1, g2, g3⟩ := setCells_row (List.replicate (ps.length - i) (.pointer none)) i wr _ h1 (by simp; omega)
  obtain ⟨s1, s2, s3, s4⟩ := setCells_same b (List.replicate (ps.length - i) (.pointer none)) i wr
  refine ⟨⟨s1.trans h.fr.os, s2.trans h.fr.tape, s3.trans h.fr.output, by rw [s4]; exact h.fr.size, fun k hk hn => ?_⟩, ?_⟩
  · rw [setCells_far _ _ k hn]; exact h.fr.block k hk hn
  · refine ⟨by simp [hlen], .inr ⟨b, c, cur', rfl, Nat.zero_le _, g1, by omega, hcm, by rw [g2]; simp; omega, ?_⟩⟩
    rw [g3, Nat.mul_one, List.append_assoc, List.take_append_of_le_length (by simp; omega), List.take_take, Nat.min_self]
    show List.take i (_ ++ _) = _
    rw [List.take_append_of_le_length (by simp; omega), List.take_of_length_le (by simp; omega)]
theorem DelInv.start {w : World} {b c k : Nat} {ps : List PI} {cur : Array Value} (hb : w.heap[b]? = some (.cells cur 69 (0, 0))) (h1 : ps.length ≤ c) (h3 : cur.size = c) (hc : ∀ j (hj : j < ps.length), w.cell? ⟨b, j, none⟩ = some (ptr ps[j].p)) (hk : k < ps.length) (h0 : ps[k].it.left = 0) (hmin : ∀ j (hj : j < k), (ps[j]'(by omega)).it.left ≠ 0) (q : Nat) : DelInv w (w.drewN q) b c ps k (k + 1) := by
  have hf : (ps.take k).filter keepB = ps.take k := List.filter_eq_self.2 (fun x hx => by
    obtain ⟨j, hj, rfl⟩ := List.mem_iff_getElem.1 hx
    rw [List.getElem_take]
    simp at hj
    simp [keepB, hmin j (by omega)])
  have ht : (ps.take (k + 1)).filter keepB = ps.take k := by rw [take_keep hk, hf]; simp [keepB, h0]
  have hrow : cur.toList = ps.map (fun x : PI => ptr x.p) ++ cur.toList.drop ps.length := by
    apply List.ext_getElem?
    intro i
    by_cases hi : i < ps.length
    · rw [List.getElem?_append_left (by simpa using hi), List.getElem?_map, List.getElem?_eq_getElem hi, Array.getElem?_toList, ← blk_cell hb i, hc i hi]
      rfl
    · rw [List.getElem?_append_right (by simp; omega), List.getElem?_drop]
      simp only [List.length_map]
      rw [show ps.length + (i - ps.length) = i by omega]
  refine ⟨(Fr.refl _ _).drewN q, ⟨ptr ps[k].p, [], cur.toList.drop ps.length, ?_, by rw [ht]; simp; omega, by simp; omega⟩, by rw [ht]; simp; omega⟩
  show w.heap[b]? = _
  rw [hb, ht]
  congr 2
  apply Array.toList_inj.1
  have h5 : ps.map (fun x : PI => ptr x.p) = (ps.take k).map (fun x : PI => ptr x.p) ++ ptr ps[k].p :: (ps.drop (k + 1)).map (fun x : PI => ptr x.p) := by
    conv => lhs; rw [← List.take_append_drop k ps, List.drop_eq_getElem_cons hk]
    rw [List.map_append, List.map_cons]
  conv => lhs; rw [hrow, h5]
  simp only [List.append_assoc, List.cons_append, List.nil_append]
def DelRel (w : World) (b c : Nat) (ps : List PI) (s5 s6 : Value) (wr : World) : Prop := ∃ i j : Nat, s5 = .int .i64 i ∧ s6 = .int .i64 j ∧ j ≤ ps.length ∧ DelInv w wr b c ps i j
def DelPost (w : World) (g : Nat) (most : Int) (b c : Nat) (ps : List PI) (e : Ending) (w' : World) : Prop := e = .returned (.slice (some ⟨b, 0, none⟩) (ps.filter keepB).length c) ∧ Fr (fun k => k = b) w w' ∧ w'.ownsRow 0 69 1 (.slice (some ⟨b, 0, none⟩) (ps.filter keepB).length c) (ps.filter keepB).length ((ps.filter keepB).map (fun x : PI => ptr x.p))
theorem clear_run (w : World) (b i n c : Nat) (h0 : 0 < n) (hc : ∀ t, t < n → (w.cell? ⟨b, i + t, none⟩).isSome = true) (hf : ∀ t, t < n → w.frozen? ⟨b, i + t, none⟩ = false) : ∀ ty, (Builtin.clear_ #[59] ty #[.slice (some ⟨b, i, none⟩) n c]).run Try.prog w = .ok (.tuple #[]) (w.setCells b i (List.replicate n (.pointer none))) :=
  fun ty => Lib.run_clear_slice w 59 69 ty (.pointer none) Try.underlying59 Try.zeroValue69 rfl rfl b i n c h0 hc hf
set_option maxHeartbeats 2000000 in
theorem delete_any (w : World) (g : Nat) (most : Int) (b c : Nat) (cur : Array Value) (ps : List PI) (hq : RawQ w g most (.slice (some ⟨b, 0, none⟩) ps.length c) ps) (h0 : 0 < ps.length) (h64 : ps.length ≤ 4096) (hb : w.heap[b]? = some (.cells cur 69 (0, 0))) (h1 : ps.length ≤ c) (h2 : c ≤ maxLen) (h3 : cur.size = c) (hc : ∀ j (hj : j < ps.length), w.cell? ⟨b, j, none⟩ = some (ptr ps[j].p)) :
    Calls Try.prog 37 #[.slice (some ⟨b, 0, none⟩) ps.length c, .func (.func 38) #[] #[]] w (DelPost w g most b c ps) := by
  have hcon := index_del w g most b c ps hq h0 h64 hc
  have HC := Aside0.mk hcon; clear hcon
  have HQ := Aside0.mk hq; clear hq
  have HH := Aside0.mk hc; clear hc
  have HB := Aside0.mk hb; clear hb
  have HM := Aside0.mk h2; clear h2
  go_enter Try.func37, Try.ntmps37
  go_wp2_with fail
  refine HC.out.mono ?_
  rintro e w1 ⟨r, rfl, ⟨q, rfl⟩, hr⟩
  rcases hr with ⟨rfl, hno⟩ | ⟨k, hk, rfl, hk0, hmin⟩
  · have HN := Aside0.mk hno; clear hno
    go_wp2
    go_ret
    have hf : ps.filter keepB = ps := List.filter_eq_self.2 (fun x hx => by simp [keepB, HN.out x hx])
    unfold DelPost
    rw [hf]
    exact ⟨rfl, (Fr.refl _ _).drewN q, HQ.out.row⟩
  · have hne1 : ((k : Int) == -1) = false := beq_eq_false_iff_ne.2 (by omega)
    have HK := Aside0.mk (And.intro hk0 hmin); clear hk0 hmin
    go_wp2_with fail
    have eg38' := eg38
    go_loopg [5, 6, 7] ps.length (fun gg s5 s6 _ wr => DelRel w b c ps s5 s6 wr ∧ ps.length - (intOf s6).toNat ≤ gg)
    case atStart => exact ⟨⟨k, k + 1, rfl, by go_num, by omega, DelInv.start HB.out h1 h3 HH.out hk HK.out.1 HK.out.2 q⟩, by omega⟩
    case round =>
      obtain ⟨⟨i, j, rfl, rfl, hjn, hI⟩, hgg⟩ := hrel
      have hij := hI.lt
      have HI := Aside0.mk hI
      simp only [intOf] at hgg
      by_cases hlt : j < ps.length
      · have hltz : (j : Int) < (ps.length : Int) := by omega
        have cj := hI.cell hlt
        obtain ⟨m, ci⟩ := hI.cell_i
        have fi : wr.frozen? ⟨b, i, none⟩ = false := by obtain ⟨_, _, _, hr, _⟩ := hI.row; exact blk_frozen hr i
        have hx := hI.fr.blk (HQ.out.its ps[j] (List.getElem_mem _)).blk (fun h => (HQ.out.it_apart (List.getElem_mem hlt)).1 (.inr (by simp [Value.ownBlock]; exact h.symm)))
        have hcall := pick2 ps[j].p ps[j].it.left wr (blk_cell hx 2)
        have HJ := Aside0.mk (show ps[j].p = ps[j].p ∧ ps[j].it.left = ps[j].it.left from ⟨rfl, rfl⟩)
        obtain ⟨pj, hpj⟩ : ∃ p, p = ps[j].p := ⟨_, rfl⟩
        obtain ⟨lj, hlj⟩ : ∃ l, l = ps[j].it.left := ⟨_, rfl⟩
        rw [← hpj] at cj hcall
        rw [← hlj] at hcall
        unfold ptr at cj
        have HPJ := Aside0.mk hpj; have HLJ := Aside0.mk hlj
        clear hpj hlj hx hI
        by_cases hz : lj = 0
        · have hcall2 : Calls Try.prog 38 #[.pointer (some ⟨pj, 0, none⟩)] wr fun e w' => e = .returned (.bool true) ∧ ∃ q, w' = wr.drewN q := by
            simpa [hz] using hcall
          have HD := Aside0.mk hcall2; clear hcall hcall2
          have HZ := Aside0.mk hz; clear hz
          go_wp2_with (first | (go_at_call 38; (with_reducible refine HD.out.mono ?_); rintro e w' ⟨rfl, qq, rfl⟩))
          go_roundg (ps.length - (j + 1))
          case measure => omega
          case rel => exact ⟨⟨i, j + 1, rfl, by go_num, by omega, (HI.out.skip hlt (by rw [← HLJ.out, HZ.out])).drewN qq⟩, by simp [intOf]⟩
        · have hcall2 : Calls Try.prog 38 #[.pointer (some ⟨pj, 0, none⟩)] wr fun e w' => e = .returned (.bool false) ∧ ∃ q, w' = wr.drewN q := by
            simpa [hz] using hcall
          have HD := Aside0.mk hcall2; clear hcall hcall2
          have HZ := Aside0.mk hz; clear hz
          go_wp2_with (first | (go_at_call 38; (with_reducible refine HD.out.mono ?_); rintro e w' ⟨rfl, qq, rfl⟩))
          go_roundg (ps.length - (j + 1))
          case measure => omega
          case rel => exact ⟨⟨i + 1, j + 1, by go_num, by go_num, by omega, by rw [HPJ.out]; exact (HI.out.drewN qq).keep hlt (by rw [← HLJ.out]; exact HZ.out)⟩, by simp [intOf]⟩
      · obtain rfl : j = ps.length := by omega
        have hltz : ¬ (ps.length : Int) < (ps.length : Int) := by omega
        obtain ⟨hd1, hd2, hd3⟩ := hI.done
        have hcl := clear_run wr b i (ps.length - i) (c - i) (by omega) hd2 hd3
        clear hd2 hd3 hI
        go_wp2
        go_ret
        obtain ⟨hf1, hf2⟩ := HI.out.finish HQ.out HM.out
        have hi : (ps.filter keepB).length = i := by have := HI.out.len; rw [List.take_length] at this; exact this.symm
        unfold DelPost
        rw [hi]
        exact ⟨rfl, hf1, hf2⟩
end Go.Proofs.Ytafkglhdpcmdbaa
