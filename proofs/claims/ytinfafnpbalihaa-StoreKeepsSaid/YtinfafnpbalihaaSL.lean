/- Store: StoreQuiet's plain part. -/
import Derived.Test.YtinfafnpbalihaaSK
import Derived.Test.YtinfafnpbalihaaSJ
set_option linter.unusedSimpArgs false
set_option linter.unusedVariables false
namespace Go.Proofs.Ytinfafnpbalihaa
open Go.RowKit Go.Maps Go.WideMaps Go.Proofs.YtinfafnpbalihaaW.PrintWords
theorem live_back {x : Pn} {n n' : Int} (h : x.live n' = true) (h1 : x.l ≤ n) (h2 : n ≤ n') : x.live n = true := by
  unfold Pn.live fLive at *
  simp only [Bool.and_eq_true, decide_eq_true_eq] at *
  exact ⟨h.1, h1, by omega⟩
theorem cnt_pos {M : List Pn} {b g n : Int} : 0 < cntS M b g n ↔ ∃ x ∈ M, x.live n = true ∧ x.b = b ∧ x.g = g := by
  unfold cntS
  rw [List.length_pos_iff_exists_mem]
  constructor
  · rintro ⟨x, hx⟩
    obtain ⟨h1, h2⟩ := List.mem_filter.1 hx
    simp only [Bool.and_eq_true, toPd, decide_eq_true_eq] at h2
    exact ⟨x, h1, h2.1, h2.2.1, h2.2.2⟩
  · rintro ⟨x, h1, h2, h3, h4⟩
    exact ⟨x, List.mem_filter.2 ⟨h1, by simp [h2, toPd, h3, h4]⟩⟩
theorem quiet_iff {M : List Pn} {U : Int → Int → Option Int} {b g n : Int} : busyS M U b g n = false ↔ (∀ x ∈ M, x.live n = true → ¬ (x.b = b ∧ x.g = g)) ∧ ((U b g).isSome = true → (U b g).getD 0 < n) := by
  unfold busyS
  rw [Bool.or_eq_false_iff, Bool.and_eq_false_iff, decide_eq_false_iff_not, decide_eq_false_iff_not, cnt_pos]
  constructor
  · rintro ⟨h1, h2⟩
    exact ⟨fun x hx hl he => h2 ⟨x, hx, hl, he.1, he.2⟩, fun hs => by rcases h1 with h1 | h1; rw [h1] at hs; cases hs; omega⟩
  · rintro ⟨h1, h2⟩
    refine ⟨?_, fun ⟨x, hx, hl, e1, e2⟩ => h1 x hx hl ⟨e1, e2⟩⟩
    cases hs : (U b g).isSome with
    | false => exact .inl rfl
    | true => exact .inr (by have := h2 hs; omega)
theorem quiet_step {M M' : List Pn} {U U' : Int → Int → Option Int} {b g n n' : Int} (h : busyS M U b g n = false) (hl : ∀ x ∈ M, x.l ≤ n) (hn : n ≤ n') (hM : ∀ x ∈ M', x ∈ M ∨ ¬ (x.b = b ∧ x.g = g)) (hU : U' b g = U b g) : busyS M' U' b g n' = false := by
  obtain ⟨h1, h2⟩ := quiet_iff.1 h
  refine quiet_iff.2 ⟨fun x hx hv he => ?_, fun hs => ?_⟩
  · rcases hM x hx with hm | hm
    · exact h1 x hm (live_back hv (hl x hm) hn) he
    · exact hm he
  · rw [hU] at hs ⊢
    have := h2 hs
    omega
theorem stepQ_ok {p s l f n : Int} (h : (stepQ p s l f n).2.2.2 = 0) : (stepQ p s l f n).2.2.1 = n ∧ (stepQ p s l f n).1 = p := by
  unfold stepQ at *
  split at h
  · cases h
  · rename_i h1
    rw [if_neg h1]
    split at h
    · cases h
    · rename_i h2
      rw [if_neg h2]
      split at h
      · cases h
      · rename_i h3
        rw [if_neg h3]
        exact ⟨rfl, rfl⟩
theorem pkt_cases (M : List Pn) (t : Tup) (f n u : Int) (rt : Bool) : (pktRes M t f n u rt).2.2 = none ∨ ∃ x ∈ M, x.live n = true ∧ x.t = t ∧ ∃ p s, (pktRes M t f n u rt).2.2 = some (x.flow p s n) := by
  unfold pktRes
  split
  · exact .inl rfl
  · cases hg : getS M t n with
    | none => exact .inl rfl
    | some x =>
      dsimp only
      split
      · exact .inl rfl
      · rename_i h0
        have h0 : (stepQ x.p x.s x.l f n).2.2.2 = 0 := Decidable.not_not.1 h0
        have h1 := (stepQ_ok h0).1
        unfold getS at hg
        obtain ⟨h2, h3⟩ := Option.filter_eq_some_iff.1 hg
        obtain ⟨h4, h5⟩ := findP_some h2
        exact .inr ⟨x, h4, h3, h5, _, _, by rw [h1]; rfl⟩
theorem begQ_ok {p f n : Int} (h : (begQ p f n).2.2.2 = 0) : (begQ p f n).2.2.1 = n := by
  unfold begQ at *
  split at h
  · cases h
  · rename_i h1
    rw [if_neg h1]
    split at h
    · cases h
    · rename_i h2
      rw [if_neg h2]
      split at h
      · cases h
      · rename_i h3
        rw [if_neg h3]
theorem beg_cases (M : List Pn) (most : Int) (t : Tup) (f n u b g : Int) (rt : Bool) : ((begRes M most t f n u b g rt).2.2 = none ∧ (begRes M most t f n u b g rt).2.1 ≠ 0) ∨ ∃ p s, begRes M most t f n u b g rt = (⟨t, b, g, p, s, n⟩, 0, some ⟨t, b, g, p, s, n⟩) := by
  unfold begRes
  split
  · exact .inl ⟨rfl, by decide⟩
  · split
    · exact .inl ⟨rfl, by decide⟩
    · split
      · rename_i h; exact .inl ⟨rfl, h⟩
      · rename_i h0
        have h0 : (begQ t.p f n).2.2.2 = 0 := Decidable.not_not.1 h0
        split
        · exact .inl ⟨rfl, by decide⟩
        · exact .inr ⟨_, _, by rw [begQ_ok h0]⟩
theorem PinsIs.ok {w : World} {bm c : Nat} {M : List Pn} (h : PinsIs w bm c M) : ∀ x ∈ M, x.t.Ok := by obtain ⟨D, _, hD⟩ := h; exact hD.ok
theorem pkt_ok {M : List Pn} {t : Tup} {f n u : Int} {rt : Bool} (h : ∀ x ∈ M, x.t.Ok) : (pktRes M t f n u rt).1.t.Ok := by
  unfold pktRes
  split
  · exact tz_ok
  · cases hg : getS M t n with
    | none => exact tz_ok
    | some x =>
      dsimp only
      split
      · exact tz_ok
      · exact h x (get_mem hg)
theorem beg_ok {M : List Pn} {most : Int} {t : Tup} {f n u b g : Int} {rt : Bool} (h : t.Ok) : (begRes M most t f n u b g rt).1.t.Ok := by
  unfold begRes
  split
  · exact tz_ok
  · split
    · exact tz_ok
    · split
      · exact tz_ok
      · split
        · exact tz_ok
        · exact h
def QS (w : World) (b g : Int) (c : Nat) (now : Int) (q : Bool) (W : World) : Prop :=
  ∃ M U, IsS W (w.heap.size + 2) w.heap.size (w.heap.size + 1) 8 c M U ∧ (∀ x ∈ M, x.l ≤ now) ∧ WfM M ∧ busyS M U b g now = q ∧ Below w.heap.size w W
theorem QS.below {w W W1 : World} {b g now : Int} {c : Nat} {q : Bool} (h : QS w b g c now q W) (hb : Below W.heap.size W W1) : QS w b g c now q W1 := by
  obtain ⟨M, U, hs, h1, h2, h3, h4⟩ := h
  exact ⟨M, U, hs.below hb, h1, h2, h3, h4.trans (hb.mono h4.size)⟩
def QPost (w W : World) (b g : Int) (c : Nat) (now : Int) (q : Bool) (R : Int → Bool → Prop) (e : Ending) (w' : World) : Prop :=
  ∃ (C : List Value) (k : Int) (q' : Bool), (C.length = 42 ∧ ∀ v ∈ C, v.oneCell' = true) ∧ e = .returned (.tuple #[.agg C.toArray, .int .i64 k]) ∧ R k q' ∧ QS w b g c now q' w' ∧ Fr (Maps2 w.heap.size (w.heap.size + 1)) W w'
theorem putU_ne {U : Int → Int → Option Int} {b g b' g' v : Int} (h : ¬ (b' = b ∧ g' = g)) : putU U b g v b' g' = U b' g' := by unfold putU; rw [if_neg h]
theorem q_packet {w W : World} {b g now now' : Int} {c : Nat} {q : Bool} (h : QS w b g c now q W) (hn : now ≤ now') {t : Tup} {f u : Int} (ht : t.Ok) (hu : wf64 u) (hc : c < 999990) :
    Calls Try.prog 11 #[.pointer (some ⟨w.heap.size + 2, 0, none⟩), .agg t.cells.toArray, .int .i64 f, .int .i64 now', .int .i64 u] W (QPost w W b g (c + 2) now' q (fun k q' => q = false → q' = false)) := by
  obtain ⟨M, U, hs, hl, hw, hq, hb⟩ := h
  refine (packet_any W _ _ _ 8 c M U t f now' u hs hw ht hu hc).mono ?_
  rintro e w' ⟨rt, _, he, hs', hf⟩
  have hb' := hb.trans (maps_below hf (Nat.le_refl _) (by omega) hb.size)
  have hOk := fun x hx => (hs.pins.ok x hx)
  rcases pkt_cases M t f now' u rt with h0 | ⟨x, hx, hv, hxt, p, s, h0⟩
  · rw [h0] at hs'
    have hz := pkt_ok (rt := rt) (t := t) (f := f) (n := now') (u := u) hOk
    refine ⟨_, _, _, ⟨Pn.len hz, Pn.one⟩, he, ?_, ⟨M, U, hs', fun y hy => Int.le_trans (hl y hy) hn, hw, rfl, hb'⟩, hf⟩
    intro hqf
    subst hqf
    exact quiet_step hq hl hn (fun y hy => .inl hy) rfl
  · rw [h0] at hs'
    have hz := pkt_ok (rt := rt) (t := t) (f := f) (n := now') (u := u) hOk
    refine ⟨_, _, _, ⟨Pn.len hz, Pn.one⟩, he, ?_, ⟨_, _, hs', fun y hy => ?_, fun y hy => ?_, rfl, hb'⟩, hf⟩
    · intro hqf
      subst hqf
      have hnb : ¬ (x.b = b ∧ x.g = g) := fun e => (quiet_iff.1 hq).1 x hx (live_back hv (hl x hx) hn) e
      refine quiet_step hq hl hn (fun y hy => ?_) (putU_ne (fun e => hnb ⟨e.1.symm, e.2.symm⟩))
      rcases List.mem_cons.1 hy with rfl | hy
      · exact .inr hnb
      · exact .inl (List.mem_filter.1 hy).1
    · rcases List.mem_cons.1 hy with rfl | hy
      · exact Int.le_refl _
      · exact Int.le_trans (hl y (List.mem_filter.1 hy).1) hn
    · rcases List.mem_cons.1 hy with rfl | hy
      · exact hw x hx
      · exact hw y (List.mem_filter.1 hy).1
theorem q_begin {w W : World} {b g now now' : Int} {c : Nat} {q : Bool} (h : QS w b g c now q W) (hn : now ≤ now') {t : Tup} {f u bk gn : Int} (ht : t.Ok) (hbk : wf64 bk) (hgn : wf64 gn) (hu : wf64 u) (hc : c < 999990) :
    Calls Try.prog 10 #[.pointer (some ⟨w.heap.size + 2, 0, none⟩), .agg t.cells.toArray, .int .i64 f, .int .i64 now', .int .i64 u, .int .i64 bk, .int .i64 gn] W (QPost w W b g (c + 2) now' q (fun k q' => q = false → q' = true → k = 0 ∧ bk = b ∧ gn = g)) := by
  obtain ⟨M, U, hs, hl, hw, hq, hb⟩ := h
  refine (begin_any' W _ _ _ 8 c M U t f now' u bk gn hs ht hbk hgn hu hc).mono ?_
  rintro e w' ⟨rt, _, he, hs', hf⟩
  have hb' := hb.trans (maps_below hf (Nat.le_refl _) (by omega) hb.size)
  have hz := beg_ok (rt := rt) (M := M) (most := 8) (f := f) (n := now') (u := u) (b := bk) (g := gn) ht
  rcases beg_cases M 8 t f now' u bk gn rt with ⟨h0, h1⟩ | ⟨p, s, h0⟩
  · rw [h0] at hs'
    refine ⟨_, _, _, ⟨Pn.len hz, Pn.one⟩, he, ?_, ⟨M, U, hs', fun y hy => Int.le_trans (hl y hy) hn, hw, rfl, hb'⟩, hf⟩
    intro hqf hq'
    subst hqf
    rw [quiet_step hq hl hn (fun y hy => .inl hy) rfl] at hq'
    cases hq'
  · rw [h0] at hs' he
    refine ⟨_, _, _, ⟨Pn.len (x := ⟨t, bk, gn, p, s, now'⟩) ht, Pn.one⟩, he, ?_, ⟨_, _, hs', fun y hy => ?_, fun y hy => ?_, rfl, hb'⟩, hf⟩
    · intro hqf hq'
      subst hqf
      refine ⟨rfl, Decidable.byContradiction (fun hne => ?_)⟩
      have := quiet_step (M' := putM (liveM M now') ⟨t, bk, gn, p, s, now'⟩) (U' := putU U bk gn (mx ((U bk gn).getD 0) u)) hq hl hn (fun y hy => by
        rcases List.mem_cons.1 hy with rfl | hy
        · exact .inr hne
        · exact .inl (List.mem_filter.1 (List.mem_filter.1 hy).1).1) (putU_ne (fun e => hne ⟨e.1.symm, e.2.symm⟩))
      exact absurd (hq'.symm.trans this) (by decide)
    · rcases List.mem_cons.1 hy with rfl | hy
      · exact Int.le_refl _
      · exact Int.le_trans (hl y (List.mem_filter.1 (List.mem_filter.1 hy).1).1) hn
    · rcases List.mem_cons.1 hy with rfl | hy
      · exact ⟨hbk, hgn⟩
      · exact hw y (List.mem_filter.1 (List.mem_filter.1 hy).1).1
end Go.Proofs.Ytinfafnpbalihaa
