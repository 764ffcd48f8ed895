/- Store: StoreKeeps' plain part. -/
import Derived.Test.YtinfafnpbalihaaSL
set_option linter.unusedSimpArgs false
set_option linter.unusedVariables false
namespace Go.Proofs.Ytinfafnpbalihaa
open Go.RowKit Go.Maps Go.WideMaps Go.Proofs.YtinfafnpbalihaaW.PrintWords
theorem equal33 {t t' : Tup} (ht : t.Ok) (ht' : t'.Ok) (w : World) : ∃ r : Bool, (Op.equalIn 10000 33 (.agg t.cells.toArray) (.agg t'.cells.toArray)).run Try.prog w = .ok r w ∧ (r = true ↔ t = t') := by
  obtain ⟨m, hm, hk⟩ : ∃ m, m ≤ 10000 ∧ Try.prog.keyTypeAt m 33 = true := by
    have h := kt33
    unfold Program.keyType at h
    rw [types_sz] at h
    exact ⟨140, by omega, h⟩
  obtain ⟨r, h1, h2⟩ := run_equal_deep (P := Try.prog) w hm hk (by simp [Try.underlying33]) (key33 ht) (key33 ht')
  exact ⟨r, h1, h2.trans ⟨fun e => Tup.key_inj ht ht' e, fun e => by rw [e]⟩⟩
theorem find_filter1 {α : Type} {p q : α → Bool} {x : α} : ∀ {M : List α}, M.find? q = some x → p x = true → (M.filter p).find? q = some x
  | [], h, _ => by cases h
  | a :: r, h, hp => by
    rw [List.find?_cons] at h
    rw [List.filter_cons]
    cases hq : q a with
    | true =>
      rw [hq] at h
      have e : a = x := Option.some.inj h
      subst e
      rw [if_pos hp, List.find?_cons, hq]
    | false =>
      rw [hq] at h
      split
      · rw [List.find?_cons, hq]; exact find_filter1 h hp
      · exact find_filter1 h hp
theorem findP_put {M : List Pn} {x : Pn} {t : Tup} (h : x.t ≠ t) : findP (putM M x) t = findP M t := by
  unfold findP putM
  rw [List.find?_cons, decide_eq_false h]
  show (M.filter _).find? _ = _
  rw [List.find?_filter]
  congr 1
  funext y
  by_cases hy : y.t = t
  · have : y.t ≠ x.t := fun e => h (e.symm.trans hy)
    simp [hy, Ne.symm h]
  · simp [hy]
theorem findP_same {M : List Pn} {x : Pn} : findP (putM M x) x.t = some x := by
  unfold findP putM
  rw [List.find?_cons, decide_eq_true rfl]
theorem findP_live {M : List Pn} {x : Pn} {t : Tup} {n : Int} (h : findP M t = some x) (hv : x.live n = true) : findP (liveM M n) t = some x := by
  exact find_filter1 h hv
def kt : Tup := tupK 60001
def kp (bk l : Int) : Pn := ⟨kt, bk, 7, 6, 1, l⟩
theorem kt_ok : kt.Ok := tupK_ok (by decide)
theorem kp_live {bk l n : Int} (h0 : 0 ≤ l) (h1 : l ≤ n) (h2 : n ≤ l + 60) (h3 : l ≤ 10000) : (kp bk l).live n = true := by
  show fLive 6 1 l n = true
  have hr : fRight 6 1 l = true := by unfold fRight clkB mostS; simp; omega
  have he : fEnd 6 1 l = l + 61 := by unfold fEnd; rw [hr]; simp [fIdle]; omega
  unfold fLive; rw [hr, he]; simp; omega
def KS (w : World) (bk : Int) (c : Nat) (l : Int) (W : World) : Prop :=
  ∃ M U, IsS W (w.heap.size + 2) w.heap.size (w.heap.size + 1) 256 c M U ∧ WfM M ∧ findP M kt = some (kp bk l) ∧ Below w.heap.size w W
theorem KS.below {w W W1 : World} {bk l : Int} {c : Nat} (h : KS w bk c l W) (hb : Below W.heap.size W W1) : KS w bk c l W1 := by
  obtain ⟨M, U, hs, h1, h2, h4⟩ := h
  exact ⟨M, U, hs.below hb, h1, h2, h4.trans (hb.mono h4.size)⟩
def KPost (w W : World) (bk : Int) (c : Nat) (l : Int) (x : Option Pn) (e : Ending) (w' : World) : Prop :=
  ∃ (C : List Value) (k : Int), (C.length = 42 ∧ ∀ v ∈ C, v.oneCell' = true) ∧ e = .returned (.tuple #[.agg C.toArray, .int .i64 k]) ∧ (∀ y, x = some y → C = y.cells ∧ k = 0) ∧ KS w bk c l w' ∧ Fr (Maps2 w.heap.size (w.heap.size + 1)) W w'
theorem k_packet {w W : World} {bk l now : Int} {c : Nat} (h : KS w bk c l W) {t : Tup} {f : Int} (ht : t.Ok) (hne : t ≠ kt) (hn : 0 ≤ now ∧ now ≤ 10000) (hc : c < 999990) :
    Calls Try.prog 11 #[.pointer (some ⟨w.heap.size + 2, 0, none⟩), .agg t.cells.toArray, .int .i64 f, .int .i64 now, .int .i64 now] W (KPost w W bk (c + 2) l none) := by
  obtain ⟨M, U, hs, hw, hk, hb⟩ := h
  refine (packet_any W _ _ _ 256 c M U t f now now hs hw ht (wf64_of (by omega)) hc).mono ?_
  rintro e w' ⟨rt, _, he, hs', hf⟩
  have hb' := hb.trans (maps_below hf (Nat.le_refl _) (by omega) hb.size)
  have hz := pkt_ok (rt := rt) (t := t) (f := f) (n := now) (u := now) hs.pins.ok
  refine ⟨_, _, ⟨Pn.len hz, Pn.one⟩, he, (by intro y hy; cases hy), ?_, hf⟩
  rcases pkt_cases M t f now now rt with h0 | ⟨x, hx, hv, hxt, p, s, h0⟩
  · rw [h0] at hs'
    exact ⟨M, U, hs', hw, hk, hb'⟩
  · rw [h0] at hs'
    refine ⟨_, _, hs', fun y hy => ?_, (findP_put (by rw [show (x.flow p s now).t = x.t from rfl, hxt]; exact hne)).trans hk, hb'⟩
    rcases List.mem_cons.1 hy with rfl | hy
    · exact hw x hx
    · exact hw y (List.mem_filter.1 hy).1
theorem k_begin {w W : World} {bk l now : Int} {c : Nat} (h : KS w bk c l W) {t : Tup} {f b g : Int} (ht : t.Ok) (hne : t ≠ kt) (hbk : wf64 b) (hgn : wf64 g) (hl : 0 ≤ l ∧ l ≤ now ∧ now ≤ l + 60 ∧ now ≤ 10000) (hc : c < 999990) :
    Calls Try.prog 10 #[.pointer (some ⟨w.heap.size + 2, 0, none⟩), .agg t.cells.toArray, .int .i64 f, .int .i64 now, .int .i64 now, .int .i64 b, .int .i64 g] W (KPost w W bk (c + 2) l none) := by
  obtain ⟨M, U, hs, hw, hk, hb⟩ := h
  refine (begin_any' W _ _ _ 256 c M U t f now now b g hs ht hbk hgn (wf64_of (by omega)) hc).mono ?_
  rintro e w' ⟨rt, _, he, hs', hf⟩
  have hb' := hb.trans (maps_below hf (Nat.le_refl _) (by omega) hb.size)
  have hz := beg_ok (rt := rt) (M := M) (most := 256) (f := f) (n := now) (u := now) (b := b) (g := g) ht
  refine ⟨_, _, ⟨Pn.len hz, Pn.one⟩, he, (by intro y hy; cases hy), ?_, hf⟩
  rcases beg_cases M 256 t f now now b g rt with ⟨h0, h1⟩ | ⟨p, s, h0⟩
  · rw [h0] at hs'
    exact ⟨M, U, hs', hw, hk, hb'⟩
  · rw [h0] at hs'
    refine ⟨_, _, hs', fun y hy => ?_, (findP_put (x := ⟨t, b, g, p, s, now⟩) hne).trans (findP_live hk (kp_live hl.1 hl.2.1 hl.2.2.1 (by omega))), hb'⟩
    rcases List.mem_cons.1 hy with rfl | hy
    · exact ⟨hbk, hgn⟩
    · exact hw y (List.mem_filter.1 (List.mem_filter.1 hy).1).1
theorem kq {l n : Int} (h0 : 0 ≤ l) (h1 : l ≤ n) (h2 : n ≤ l + 60) (h3 : n ≤ 10000) : stepQ 6 1 l 16 n = (6, 1, n, 0) := by
  have hr : fRight 6 1 l = true := by unfold fRight clkB mostS; simp; omega
  have hw : fWrong (flagsOf 6) 16 n = false := by unfold fWrong clkB flagsOf; simp; omega
  have hv : fLive 6 1 l n = true := kp_live (bk := 0) h0 h1 h2 (by omega)
  have hs : nextS 6 1 16 = 1 := by decide
  unfold stepQ
  rw [hr, hw, hv, hs]
  simp; omega
theorem k_mine {w W : World} {bk l now : Int} {c : Nat} (h : KS w bk c l W) (hb0 : wf64 bk) (hl : 0 ≤ l ∧ l ≤ now ∧ now ≤ l + 60 ∧ now ≤ 10000) (hc : c < 999990) :
    Calls Try.prog 11 #[.pointer (some ⟨w.heap.size + 2, 0, none⟩), .agg kt.cells.toArray, .int .i64 16, .int .i64 now, .int .i64 now] W (KPost w W bk (c + 2) now (some (kp bk now))) := by
  obtain ⟨M, U, hs, hw, hk, hb⟩ := h
  refine (packet_any W _ _ _ 256 c M U kt 16 now now hs hw kt_ok (wf64_of (by omega)) hc).mono ?_
  rintro e w' ⟨rt, hrt, he, hs', hf⟩
  have := hrt (tupK_nice (by omega))
  subst this
  have hb' := hb.trans (maps_below hf (Nat.le_refl _) (by omega) hb.size)
  have hg : getS M kt now = some (kp bk l) := by unfold getS; rw [hk, Option.filter_some, if_pos (kp_live hl.1 hl.2.1 hl.2.2.1 (by omega))]
  have hcl : clkB now = true := clkB_t (by omega) (by omega)
  have hp := pkt_step (f := 16) (u := now) hcl hg (show stepQ (kp bk l).p (kp bk l).s (kp bk l).l 16 now = (6, 1, now, 0) from kq hl.1 hl.2.1 hl.2.2.1 hl.2.2.2)
  rw [if_neg (fun h => h rfl)] at hp
  rw [hp] at he hs'
  refine ⟨_, _, ⟨Pn.len (x := kp bk now) kt_ok, Pn.one⟩, he, fun y hy => ?_, ⟨_, _, hs', fun y hy => ?_, findP_same (x := kp bk now), hb'⟩, hf⟩
  · have := Option.some.inj hy
    subst this
    exact ⟨rfl, rfl⟩
  · rcases List.mem_cons.1 hy with rfl | hy
    · exact ⟨hb0, by show wf64 7; decide⟩
    · exact hw y (List.mem_filter.1 hy).1
theorem k_first {w W : World} {bk : Int} (hs : IsS W (w.heap.size + 2) w.heap.size (w.heap.size + 1) 256 0 [] (fun _ _ => none)) (hb : Below w.heap.size w W) (hbk : 0 ≤ bk ∧ bk < 32) :
    Calls Try.prog 10 #[.pointer (some ⟨w.heap.size + 2, 0, none⟩), .agg kt.cells.toArray, .int .i64 2, .int .i64 0, .int .i64 0, .int .i64 bk, .int .i64 7] W (KPost w W bk 2 0 (some (kp bk 0))) := by
  have hw : wf64 bk := wf64_of (by omega)
  refine (begin_any' W _ _ _ 256 0 [] _ kt 2 0 0 bk 7 hs kt_ok hw (by decide) (by decide) (by omega)).mono ?_
  rintro e w' ⟨rt, hrt, he, hs', hf⟩
  have := hrt (tupK_nice (by omega))
  subst this
  have hb' := hb.trans (maps_below hf (Nat.le_refl _) (by omega) hb.size)
  have hp : begRes [] 256 kt 2 0 0 bk 7 true = (kp bk 0, 0, some (kp bk 0)) := by
    unfold begRes
    rw [argsB_ok (by omega) hbk (by omega), show getS [] kt 0 = none from rfl, show kt.p = 6 from rfl, bq 0 (by omega), show lenS [] 0 = 0 from rfl]
    rfl
  rw [hp] at he hs'
  refine ⟨_, _, ⟨Pn.len (x := kp bk 0) kt_ok, Pn.one⟩, he, fun y hy => ?_, ⟨_, _, hs', fun y hy => ?_, findP_same (x := kp bk 0), hb'⟩, hf⟩
  · have := Option.some.inj hy
    subst this
    exact ⟨rfl, rfl⟩
  · rcases List.mem_cons.1 hy with rfl | hy
    · exact ⟨hw, by show wf64 7; decide⟩
    · exact (List.not_mem_nil (List.mem_filter.1 (List.mem_filter.1 hy).1).1).elim
theorem k_busy {w W : World} {bk now : Int} {c : Nat} (h : KS w bk c now W) (hb0 : wf64 bk) (hn : 0 ≤ now ∧ now ≤ 10000) (hc : c < 999990) :
    Calls Try.prog 12 #[.pointer (some ⟨w.heap.size + 2, 0, none⟩), .int .i64 bk, .int .i64 7, .int .i64 now] W fun e w' => e = .returned (.bool true) ∧ Below W.heap.size W w' := by
  obtain ⟨M, U, hs, hw, hk, hb⟩ := h
  have hq : busyS M U bk 7 now = true := by
    unfold busyS
    have : 0 < cntS M bk 7 now := cnt_pos.2 ⟨kp bk now, (findP_some hk).1, kp_live hn.1 (Int.le_refl _) (by omega) hn.2, rfl, rfl⟩
    rw [decide_eq_true this, Bool.or_true]
  have := busy_any W _ _ _ 256 c M U bk 7 now hs (by omega) hb0 (by decide)
  rwa [hq] at this
end Go.Proofs.Ytinfafnpbalihaa
