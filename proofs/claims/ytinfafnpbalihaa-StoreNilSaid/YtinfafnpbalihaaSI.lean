/- Store: StoreFull's plain part. -/
import Derived.Test.YtinfafnpbalihaaSH
set_option linter.unusedSimpArgs false
set_option linter.unusedVariables false
namespace Go.Proofs.Ytinfafnpbalihaa
open Go.RowKit Go.Maps Go.WideMaps Go.Proofs.YtinfafnpbalihaaW.PrintWords
def Cnt8 (w : World) (n : Int) (e : Ending) (w' : World) : Prop := ∃ r : Int, 0 ≤ r ∧ r < n ∧ e = .returned (.int .i64 r) ∧ w = w'
set_option maxHeartbeats 2000000 in
theorem count8 (a n : Int) (w : World) (h : 1 ≤ n) (h2 : n ≤ 1000) : Calls Try.prog 8 #[.int .i64 a, .int .i64 n] w (Cnt8 w n) := by
  have hlo : -n < a.tmod n := by have := Int.lt_tmod_of_pos a (show 0 < n by omega); exact this
  have hhi : a.tmod n < n := Int.tmod_lt_of_pos a (by omega)
  have hn : ¬ n = 0 := by omega
  have hn1 : ¬ n < 1 := by omega
  by_cases hneg : a.tmod n < 0
  · go_enter Try.func8, Try.ntmps8
    have hw : IntKind.i64.wrap (a.tmod n + n) = a.tmod n + n := IntWalk.i64_in _ (by omega)
    go_wp2
    go_ret
    exact ⟨a.tmod n + n, by omega, by omega, by first | rfl | (simp [hw]), rfl⟩
  · go_enter Try.func8, Try.ntmps8
    go_wp2
    go_ret
    exact ⟨a.tmod n, by omega, hhi, by first | rfl | simp, rfl⟩
def Xf (i : Nat) : Pn := ⟨tupK (1 + i), 2, 1, 6, 1, 1⟩
def Mf : Nat → List Pn
  | 0 => []
  | i + 1 => Xf i :: Mf i
theorem mem_Mf {x : Pn} : ∀ {m : Nat}, x ∈ Mf m → ∃ i, i < m ∧ x = Xf i
  | m + 1, h => by
    rcases List.mem_cons.1 h with rfl | h
    · exact ⟨m, by omega, rfl⟩
    · obtain ⟨i, hi, rfl⟩ := mem_Mf h
      exact ⟨i, by omega, rfl⟩
theorem Mf_len : ∀ m, (Mf m).length = m
  | 0 => rfl
  | m + 1 => by show (Mf m).length + 1 = m + 1; rw [Mf_len m]
theorem tupK_ne {a b : Int} (h : a ≠ b) : tupK a ≠ tupK b := fun e => h (congrArg Tup.sp e)
theorem findP_no {M : List Pn} {t : Tup} (h : ∀ x ∈ M, x.t ≠ t) : findP M t = none := List.find?_eq_none.2 (fun x hx => by simpa using h x hx)
theorem getS_no {M : List Pn} {t : Tup} {n : Int} (h : ∀ x ∈ M, x.t ≠ t) : getS M t n = none := by unfold getS; rw [findP_no h]; rfl
theorem all_live {M : List Pn} {n : Int} (h : ∀ x ∈ M, x.live n = true) : liveM M n = M := List.filter_eq_self.2 h
theorem len_live {M : List Pn} {n : Int} (h : ∀ x ∈ M, x.live n = true) : lenS M n = M.length := by show (liveM M n).length = _; rw [all_live h]
theorem putM_new {M : List Pn} {x : Pn} (h : ∀ y ∈ M, y.t ≠ x.t) : putM M x = x :: M := by unfold putM; rw [List.filter_eq_self.2 (fun y hy => by simpa using h y hy)]
theorem Xf_live (i : Nat) (n : Int) (h1 : 1 ≤ n) (h2 : n ≤ 61) : (Xf i).live n = true := by
  show fLive 6 1 1 n = true
  have h3 : fRight 6 1 1 = true := by decide
  have h4 : fEnd 6 1 1 = 62 := by unfold fEnd; rw [h3]; rfl
  unfold fLive; rw [h3, h4]; simp; omega
theorem bq (n : Int) (h : 0 ≤ n ∧ n ≤ 1000) : begQ 6 2 n = (6, 1, n, 0) := by
  have h1 : fWrong (flagsOf 6) 2 n = false := by unfold fWrong clkB flagsOf; simp; omega
  have h2 : nextS 6 1 2 = 1 := by decide
  unfold begQ; rw [h1, h2]; simp
def StPost (w : World) (g bm bu : Nat) (most : Int) (c : Nat) (M : List Pn) (k : Int) (e : Ending) (w' : World) : Prop :=
  ∃ (C : List Value) (U : Int → Int → Option Int), (C.length = 42 ∧ ∀ v ∈ C, v.oneCell' = true) ∧ e = .returned (.tuple #[.agg C.toArray, .int .i64 k]) ∧ IsS w' g bm bu most c M U ∧ Fr (Maps2 bm bu) w w'
theorem tz_ok : (Pn.zero).t.Ok := ⟨zero16, zero16, by decide, by decide, by decide⟩
section
variable {w : World} {g bm bu : Nat} {most : Int} {c : Nat} {M : List Pn} {U : Int → Int → Option Int}
theorem st_begin {j f n u b t : Int} {M' : List Pn} {k : Int} {x : Pn} {o : Option Pn} (h : IsS w g bm bu most c M U) (hj : 0 ≤ j ∧ j ≤ 65535) (hb : wf64 b) (ht : wf64 t) (hu : wf64 u) (hc : c < 999990)
    (hr : begRes M most (tupK j) f n u b t true = (x, k, o)) (hx : x.t.Ok) (hM : (if o.isSome then optM (liveM M n) o else M) = M') :
    Calls Try.prog 10 #[.pointer (some ⟨g, 0, none⟩), .agg (tupK j).cells.toArray, .int .i64 f, .int .i64 n, .int .i64 u, .int .i64 b, .int .i64 t] w (StPost w g bm bu most (c + 2) M' k) :=
  (begin_any' w g bm bu most c M U (tupK j) f n u b t h (tupK_ok (wf64_of (by omega))) hb ht hu hc).mono (fun e w' ⟨rt, hrt, he, hs, hf⟩ => by
    have := hrt (tupK_nice hj)
    subst this
    rw [hr] at he hs
    rw [hM] at hs
    exact ⟨x.cells, _, ⟨Pn.len hx, Pn.one⟩, he, hs, hf⟩)
theorem st_packet {j f n u : Int} {M' : List Pn} {k : Int} {x : Pn} {o : Option Pn} (h : IsS w g bm bu most c M U) (hm : WfM M) (hj : 0 ≤ j ∧ j ≤ 65535) (hu : wf64 u) (hc : c < 999990)
    (hr : pktRes M (tupK j) f n u true = (x, k, o)) (hx : x.t.Ok) (hM : optM M o = M') :
    Calls Try.prog 11 #[.pointer (some ⟨g, 0, none⟩), .agg (tupK j).cells.toArray, .int .i64 f, .int .i64 n, .int .i64 u] w (StPost w g bm bu most (c + 2) M' k) :=
  (packet_any w g bm bu most c M U (tupK j) f n u h hm (tupK_ok (wf64_of (by omega))) hu hc).mono (fun e w' ⟨rt, hrt, he, hs, hf⟩ => by
    have := hrt (tupK_nice hj)
    subst this
    rw [hr] at he hs
    rw [hM] at hs
    exact ⟨x.cells, _, ⟨Pn.len hx, Pn.one⟩, he, hs, hf⟩)
end
theorem argsB_ok {u b g : Int} (hu : 0 ≤ u ∧ u ≤ 1000) (hb : 0 ≤ b ∧ b < 32) (hg : 1 ≤ g ∧ g ≤ 1000) : argsB u b g = true := by
  unfold argsB clkB
  simp; omega
theorem full_b1 {m i : Nat} (hi : i < m) : begRes (Mf i) m (tupK (1 + i)) 2 1 1 2 1 true = (Xf i, 0, some (Xf i)) ∧ (if (some (Xf i)).isSome then optM (liveM (Mf i) 1) (some (Xf i)) else Mf i) = Mf (i + 1) := by
  have hne : ∀ x ∈ Mf i, x.t ≠ tupK (1 + i) := fun x hx => by obtain ⟨j, hj, rfl⟩ := mem_Mf hx; exact tupK_ne (by omega)
  have hlv : ∀ x ∈ Mf i, x.live 1 = true := fun x hx => by obtain ⟨j, hj, rfl⟩ := mem_Mf hx; exact Xf_live j 1 (by omega) (by omega)
  constructor
  · unfold begRes
    rw [argsB_ok (by omega) (by omega) (by omega), getS_no hne, len_live hlv, Mf_len, show (tupK (1 + i)).p = 6 from rfl, bq 1 (by omega)]
    simp only [Bool.and_self, Bool.true_eq_false, if_false, Option.isSome_none, Bool.false_eq_true, ne_eq, not_true_eq_false]
    rw [if_neg (by omega)]
    rfl
  · show putM (liveM (Mf i) 1) (Xf i) = _
    rw [all_live hlv, putM_new hne]; rfl
theorem full_b2 (m : Nat) : begRes (Mf m) m (tupK (1 + m)) 2 2 2 2 1 true = (Pn.zero, 4, none) := by
  have hne : ∀ x ∈ Mf m, x.t ≠ tupK (1 + m) := fun x hx => by obtain ⟨j, hj, rfl⟩ := mem_Mf hx; exact tupK_ne (by omega)
  have hlv : ∀ x ∈ Mf m, x.live 2 = true := fun x hx => by obtain ⟨j, hj, rfl⟩ := mem_Mf hx; exact Xf_live j 2 (by omega) (by omega)
  unfold begRes
  rw [argsB_ok (by omega) (by omega) (by omega), getS_no hne, len_live hlv, Mf_len, show (tupK (1 + m)).p = 6 from rfl, bq 2 (by omega)]
  simp
theorem Mf_nodup : ∀ m, ((Mf m).map (·.t)).Nodup
  | 0 => List.nodup_nil
  | m + 1 => by
    show ((Xf m).t :: (Mf m).map (·.t)).Nodup
    rw [List.nodup_cons]
    refine ⟨fun h => ?_, Mf_nodup m⟩
    obtain ⟨x, hx, he⟩ := List.mem_map.1 h
    obtain ⟨i, hi, rfl⟩ := mem_Mf hx
    exact tupK_ne (show (1 : Int) + i ≠ 1 + m by omega) he
theorem Mf_find {r : Nat} : ∀ {m : Nat}, r < m → findP (Mf m) (tupK (1 + r)) = some (Xf r)
  | m + 1, h => by
    show (Xf m :: Mf m).find? _ = _
    rw [List.find?_cons]
    by_cases hr : r = m
    · subst hr
      have : decide ((Xf r).t = tupK (1 + r)) = true := decide_eq_true rfl
      rw [this]
    · have : decide ((Xf m).t = tupK (1 + r)) = false := decide_eq_false (tupK_ne (by omega))
      rw [this]
      exact Mf_find (by omega)
def Yf (r : Nat) : Pn := ⟨tupK (1 + r), 2, 1, 6, 3, 3⟩
def Zf (m : Nat) : Pn := ⟨tupK (1 + m), 2, 1, 6, 1, 4⟩
def Rf (m r : Nat) : List Pn := (Mf m).filter (fun y => decide (y.t ≠ tupK (1 + r)))
theorem sq : stepQ 6 1 1 4 3 = (6, 3, 3, 0) := by kernel_rfl
theorem full_p {m r : Nat} (h : r < m) : pktRes (Mf m) (tupK (1 + r)) 4 3 3 true = (Yf r, 0, some (Yf r)) := by
  have hg : getS (Mf m) (tupK (1 + r)) 3 = some (Xf r) := by
    unfold getS; rw [Mf_find h, Option.filter_some, if_pos (Xf_live r 3 (by omega) (by omega))]
  have hc : clkB 3 = true := by decide
  have := pkt_step (f := 4) (u := 3) hc hg (show stepQ (Xf r).p (Xf r).s (Xf r).l 4 3 = (6, 3, 3, 0) from sq)
  rw [this, if_neg (by simp)]
  rfl
theorem Yf_dead (r : Nat) : (Yf r).live 4 = false := by show fLive 6 3 3 4 = false; kernel_rfl
theorem Zf_live (m : Nat) : (Zf m).live 4 = true := by show fLive 6 1 4 4 = true; kernel_rfl
theorem Rf_mem {m r : Nat} {x : Pn} (h : x ∈ Rf m r) : ∃ i, i < m ∧ x = Xf i := mem_Mf (List.mem_filter.1 h).1
theorem Rf_len {m r : Nat} (h : r < m) : (Rf m r).length = m - 1 := by
  unfold Rf; rw [filter_len (Mf_nodup m), Mf_find h, Mf_len]; rfl
theorem live_M' (m r : Nat) : liveM (putM (Mf m) (Yf r)) 4 = Rf m r := by
  show (Yf r :: Rf m r).filter _ = _
  rw [List.filter_cons, if_neg (by rw [Yf_dead]; simp)]
  exact all_live (fun x hx => by obtain ⟨i, hi, rfl⟩ := Rf_mem hx; exact Xf_live i 4 (by omega) (by omega))
theorem full_b3 {m r : Nat} (h : r < m) : begRes (putM (Mf m) (Yf r)) m (tupK (1 + m)) 2 4 4 2 1 true = (Zf m, 0, some (Zf m)) ∧ (if (some (Zf m)).isSome then optM (liveM (putM (Mf m) (Yf r)) 4) (some (Zf m)) else putM (Mf m) (Yf r)) = Zf m :: Rf m r := by
  have hne : ∀ x ∈ putM (Mf m) (Yf r), x.t ≠ tupK (1 + m) := fun x hx => by
    rcases List.mem_cons.1 hx with rfl | hx
    · exact tupK_ne (by omega)
    · obtain ⟨j, hj, rfl⟩ := mem_Mf (List.mem_filter.1 hx).1; exact tupK_ne (by omega)
  have hl : lenS (putM (Mf m) (Yf r)) 4 = m - 1 := by show (liveM _ 4).length = _; rw [live_M', Rf_len h]
  constructor
  · unfold begRes
    rw [argsB_ok (by omega) (by omega) (by omega), getS_no hne, hl, show (tupK (1 + m)).p = 6 from rfl, bq 4 (by omega)]
    simp only [Bool.and_self, Bool.true_eq_false, if_false, Option.isSome_none, Bool.false_eq_true, ne_eq, not_true_eq_false]
    rw [if_neg (by omega)]
    rfl
  · show putM (liveM _ 4) (Zf m) = _
    rw [live_M', putM_new (fun y hy => by obtain ⟨j, hj, rfl⟩ := Rf_mem hy; exact tupK_ne (by omega))]
theorem last_live {m r : Nat} : ∀ x ∈ Zf m :: Rf m r, x.live 4 = true ∧ toPd 2 1 x = true := fun x hx => by
  rcases List.mem_cons.1 hx with rfl | hx
  · exact ⟨Zf_live m, rfl⟩
  · obtain ⟨j, hj, rfl⟩ := Rf_mem hx; exact ⟨Xf_live j 4 (by omega) (by omega), rfl⟩
theorem last_len {m r : Nat} (h : r < m) : lenS (Zf m :: Rf m r) 4 = m := by
  rw [len_live (fun x hx => (last_live x hx).1)]; show (Rf m r).length + 1 = m; rw [Rf_len h]; omega
theorem last_cnt {m r : Nat} (h : r < m) : cntS (Zf m :: Rf m r) 2 1 4 = m := by
  unfold cntS
  rw [List.filter_eq_self.2 (fun x hx => by rw [(last_live x hx).1, (last_live x hx).2]; rfl)]
  show (Rf m r).length + 1 = m; rw [Rf_len h]; omega
theorem Mf_wf (m : Nat) : WfM (Mf m) := fun x hx => by obtain ⟨j, hj, rfl⟩ := mem_Mf hx; exact ⟨by show wf64 2; decide, by show wf64 1; decide⟩
end Go.Proofs.Ytinfafnpbalihaa
