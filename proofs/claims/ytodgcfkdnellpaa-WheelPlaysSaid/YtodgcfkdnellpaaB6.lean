/- Wheel: Advance's search: how many are due up tk a tick. -/
import Derived.Test.YtodgcfkdnellpaaB4
set_option linter.unusedSimpArgs false
set_option linter.unusedVariables false
namespace Go.Proofs.Ytodgcfkdnellpaa
open Go.RowKit Go.Proofs.YtodgcfkdnellpaaW.PrintWords
def upTo (tk : Int) (d : Du) : Bool := decide (d.at_ ≤ tk)
set_option maxHeartbeats 1000000 in
theorem adv1_yes (d : Du) (tk : Int) (W : World) (h : d.at_ ≤ tk) : Calls Try.prog 28 #[due d, .int .i64 tk] W fun e w' => e = .returned (.int .i64 (-1)) ∧ Gr W w' := by
  unfold due
  generalize d.id = xi at *
  generalize d.at_ = xa at *
  go_enter Try.func28, Try.ntmps28
  go_wp2
  go_ret
  exact ⟨rfl, (Gr.refl W).alloc _⟩
set_option maxHeartbeats 1000000 in
theorem adv1_no (d : Du) (tk : Int) (W : World) (h : ¬ d.at_ ≤ tk) : Calls Try.prog 28 #[due d, .int .i64 tk] W fun e w' => e = .returned (.int .i64 1) ∧ Gr W w' := by
  unfold due
  generalize d.id = xi at *
  generalize d.at_ = xa at *
  go_enter Try.func28, Try.ntmps28
  go_wp2
  go_ret
  exact ⟨rfl, (Gr.refl W).alloc _⟩
def BtRel (w : World) (tk : Int) (l : List Du) (s9 s10 : Value) (wr : World) (kx : Nat) : Prop := ∃ lo hi : Nat, s9 = .int .i64 lo ∧ s10 = .int .i64 hi ∧ lo ≤ hi ∧ hi ≤ l.length ∧ hi - lo ≤ kx ∧ Aside0 (Gr w wr) ∧ Aside0 ((∀ i (h : i < l.length), i < lo → upTo tk l[i] = true) ∧ (∀ i (h : i < l.length), hi ≤ i → upTo tk l[i] = false))
set_option maxHeartbeats 4000000 in
set_option maxRecDepth 100000 in
theorem upto_any (w : World) (b off c : Nat) (l : List Du) (tk : Int) (h : ORow w (.slice (some ⟨b, off, none⟩) l.length c) l) (hs : l.Pairwise (fun x y => before x y = true)) (hl : l.length ≤ 4096) :
    Calls Try.prog 27 #[.slice (some ⟨b, off, none⟩) l.length c, .int .i64 tk, .func (.func 28) #[] #[]] w (BsPost w (l.countP (upTo tk))) := by
  have hbl := h.lt b rfl
  have hcell : ∀ i (hi : i < l.length), w.cell? ⟨b, off + i * 2, none⟩ = some (.int .i64 l[i].id) ∧ w.cell? ⟨b, off + i * 2 + 1, none⟩ = some (.int .i64 l[i].at_) := fun i hi => h.cellsAt i hi
  have hmono : ∀ i j (hi : i < l.length) (hj : j < l.length), i ≤ j → upTo tk l[j] = true → upTo tk l[i] = true := fun i j hi hj hij hb => by
    rcases Nat.lt_or_eq_of_le hij with hlt | rfl
    · have := List.pairwise_iff_getElem.1 hs i j hi hj hlt
      unfold before at this; unfold upTo at *; simp at *; omega
    · exact hb
  obtain ⟨cnt, hcnt⟩ : ∃ n, n = l.countP (upTo tk) := ⟨_, rfl⟩
  rw [← hcnt]
  have HL := Aside0.mk (And.intro hbl (And.intro hcell (And.intro hmono hcnt)))
  clear hbl hcell hmono hcnt h hs
  go_enter Try.func27, Try.ntmps27
  go_wp2_with fail
  go_loopg [9, 10] l.length (fun kx s9 s10 wr => BtRel w tk l s9 s10 wr kx)
  case atStart => exact ⟨0, l.length, rfl, rfl, Nat.zero_le _, Nat.le_refl _, by omega, ⟨Gr.refl _⟩, ⟨fun i hi h => by omega, fun i hi h => by omega⟩⟩
  case round =>
    obtain ⟨lo, hi, rfl, rfl, hlh, hin, hgm, HG, HI⟩ := hrel
    by_cases hlt : lo < hi
    · obtain ⟨h, hh⟩ : ∃ h, h = (lo + hi) / 2 := ⟨_, rfl⟩
      have hmid : ((lo : Int) + (hi : Int)) / 2 = (h : Int) := by omega
      have hltz : (lo : Int) < (hi : Int) := by omega
      have hlz : (h : Int) < (l.length : Int) := by omega
      have hhl : h < l.length := by omega
      obtain ⟨y, hy⟩ : ∃ y, y = l[h] := ⟨_, rfl⟩
      have hcy := HL.out.2.1 h hhl
      rw [← hy] at hcy
      have hc0 : wr.cell? ⟨b, off + h * 2, none⟩ = some (.int .i64 y.id) := HG.out.cell (p := ⟨b, off + h * 2, none⟩) HL.out.1 hcy.1
      have hc1 : wr.cell? ⟨b, off + h * 2 + 1, none⟩ = some (.int .i64 y.at_) := HG.out.cell (p := ⟨b, off + h * 2 + 1, none⟩) HL.out.1 hcy.2
      have HY := Aside0.mk (And.intro hh hy)
      clear hh hy hcy
      by_cases hneg : y.at_ ≤ tk
      · have hcall := adv1_yes y tk wr hneg
        unfold due at hcall
        have HC := Aside0.mk hcall; clear hcall
        have HNEG := Aside0.mk hneg; clear hneg
        go_wp2_with fail
        refine HC.out.mono ?_
        rintro e w2 ⟨rfl, hg2⟩
        have HG2 := Aside0.mk hg2; clear hg2
        go_wp2_with fail
        go_roundg (hi - (h + 1))
        case measure => have := HY.out.1; omega
        case rel =>
          have hyo := HY.out.2
          exact ⟨h + 1, hi, by go_num, rfl, by have := HY.out.1; omega, hin, by omega, ⟨HG.out.trans HG2.out⟩, ⟨fun i hi hih => HL.out.2.2.1 i h hi hhl (by omega) (by rw [← hyo]; unfold upTo; simpa using HNEG.out), HI.out.2⟩⟩
      · have hcall := adv1_no y tk wr hneg
        unfold due at hcall
        have HC := Aside0.mk hcall; clear hcall
        have HNEG := Aside0.mk hneg; clear hneg
        go_wp2_with fail
        refine HC.out.mono ?_
        rintro e w2 ⟨rfl, hg2⟩
        have HG2 := Aside0.mk hg2; clear hg2
        go_wp2_with fail
        go_roundg (h - lo)
        case measure => have := HY.out.1; omega
        case rel =>
          have hyo := HY.out.2
          exact ⟨lo, h, rfl, by go_num, by have := HY.out.1; omega, by omega, by omega, ⟨HG.out.trans HG2.out⟩, ⟨HI.out.1, fun i hi hih => by
            cases hq : upTo tk l[i] with
            | false => rfl
            | true =>
              have := HL.out.2.2.1 h i hhl hi hih hq
              rw [← hyo] at this
              unfold upTo at this
              have h9 : y.at_ ≤ tk := by simpa using this
              have := HNEG.out; omega⟩⟩
    · obtain rfl : hi = lo := by omega
      have ecnt : cnt = hi := by
        rw [HL.out.2.2.2]
        exact countP_edge _ l hi hin (fun i hi h => HI.out.1 i hi h) (fun i hi h => HI.out.2 i hi h)
      subst ecnt
      by_cases hn : cnt < l.length
      · have hnz : (cnt : Int) < (l.length : Int) := by omega
        obtain ⟨y, hy⟩ : ∃ y, y = l[cnt] := ⟨_, rfl⟩
        have hcy := HL.out.2.1 cnt hn
        rw [← hy] at hcy
        have hc0 : wr.cell? ⟨b, off + cnt * 2, none⟩ = some (.int .i64 y.id) := HG.out.cell (p := ⟨b, off + cnt * 2, none⟩) HL.out.1 hcy.1
        have hc1 : wr.cell? ⟨b, off + cnt * 2 + 1, none⟩ = some (.int .i64 y.at_) := HG.out.cell (p := ⟨b, off + cnt * 2 + 1, none⟩) HL.out.1 hcy.2
        clear hy hcy
        have hcall : ∃ r : Int, Calls Try.prog 28 #[.agg #[.int .i64 y.id, .int .i64 y.at_], .int .i64 tk] wr fun e w' => e = .returned (.int .i64 r) ∧ Gr wr w' := by
          by_cases hneg : y.at_ ≤ tk
          · exact ⟨-1, adv1_yes y tk wr hneg⟩
          · exact ⟨1, adv1_no y tk wr hneg⟩
        obtain ⟨r, hcall⟩ := hcall
        have HC := Aside0.mk hcall
        clear hcall
        go_wp2_with fail
        refine HC.out.mono ?_
        rintro e w2 ⟨rfl, hg2⟩
        have HG2 := Aside0.mk hg2; clear hg2
        go_wp2_with fail
        go_ret2
        exact ⟨_, rfl, HG.out.trans HG2.out⟩
      · have hnz : ¬ (cnt : Int) < (l.length : Int) := by omega
        go_wp2_with fail
        go_ret2
        exact ⟨_, rfl, HG.out⟩
set_option maxHeartbeats 4000000 in
set_option maxRecDepth 100000 in
theorem upto_nil (w : World) (tk : Int) : Calls Try.prog 27 #[.slice none 0 0, .int .i64 tk, .func (.func 28) #[] #[]] w (BsPost w 0) := by
  go_enter Try.func27, Try.ntmps27
  go_wp2_with fail
  refine wp_loop_rounds 1 ?_
  rw [rounds_succ]
  go_wp2_with fail
  go_ret2
  exact ⟨_, rfl, Gr.refl _⟩
theorem upto_all (w : World) (v : Value) (l : List Du) (tk : Int) (h : ORow w v l) (hs : l.Pairwise (fun x y => before x y = true)) (hl : l.length ≤ 4096) :
    Calls Try.prog 27 #[v, .int .i64 tk, .func (.func 28) #[] #[]] w (BsPost w (l.countP (upTo tk))) := by
  have hh := h
  rcases h with ⟨rfl, rfl⟩ | ⟨b, off, c, cur, rfl, _⟩
  · exact upto_nil w tk
  · exact upto_any w b off c l tk hh hs hl
end Go.Proofs.Ytodgcfkdnellpaa
