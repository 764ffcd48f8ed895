/- Wheel: Advance, walked. -/
import Derived.Test.YtodgcfkdnellpaaC2
import Derived.Test.YtodgcfkdnellpaaPlan2
set_option linter.unusedSimpArgs false
set_option linter.unusedVariables false
namespace Go.Proofs.Ytodgcfkdnellpaa
open Go.RowKit Go.Maps Go.Proofs.YtodgcfkdnellpaaW.PrintWords
def AdvPost (w : World) (F : Nat → Prop) (g : Nat) (tk : Int) (L : List Du) (e : Ending) (w' : World) : Prop := ∃ v F', e = .returned (.tuple #[v, .int .i64 0]) ∧ ORow w' v (L.filter (upTo tk)) ∧ (∀ b, v.ownBlock = some b → w.heap.size ≤ b ∧ ¬ F' b) ∧ IsW w' F' g tk (L.filter (fun d => !upTo tk d)) ∧ TurnW w w' F F'
theorem orow_head {w : World} {A : Option Addr} {n c k : Nat} {l : List Du} (h : ORow w (.slice A n c) l) (hk : k ≤ l.length) : ORow w (.slice A k c) (l.take k) := by
  rcases h with ⟨he, rfl⟩ | ⟨b, off, c', cur, he, hb, h1, h2, h3, h4⟩
  · injection he with e1 e2 e3
    subst e1; subst e3
    obtain rfl : k = 0 := by simpa using hk
    exact .inl ⟨rfl, rfl⟩
  · have h0 := he
    injection he with e1 e2 e3
    subst e1; subst e2; subst e3
    exact ORow.head (.inr ⟨b, off, c, cur, rfl, hb, h1, h2, h3, h4⟩) k hk
theorem orow_tail {w : World} {A : Option Addr} {n c k : Nat} {l : List Du} (h : ORow w (.slice A n c) l) (hk : k ≤ l.length) : ORow w (.slice (A.map (fun x => x.add (k * 2))) (n - k) (c - k)) (l.drop k) := by
  rcases h with ⟨he, rfl⟩ | ⟨b, off, c', cur, he, hb, h1, h2, h3, h4⟩
  · injection he with e1 e2 e3
    subst e1; subst e2; subst e3
    obtain rfl : k = 0 := by simpa using hk
    exact .inl ⟨rfl, rfl⟩
  · have h0 := he
    injection he with e1 e2 e3
    subst e1; subst e2; subst e3
    have := ORow.tail (.inr ⟨b, off, c, cur, rfl, hb, h1, h2, h3, h4⟩) k hk
    rwa [Option.map_some, Addr.add_lit]
theorem orow_end {w : World} {A : Option Addr} {n c k : Nat} {l : List Du} (h : ORow w (.slice A n c) l) (hk : k = l.length) : ORow w (.slice A 0 0) (l.drop k) := by
  subst hk
  rw [List.drop_length]
  rcases h with ⟨he, rfl⟩ | ⟨b, off, c', cur, he, hb, h1, h2, h3, h4⟩
  · injection he with e1 e2 e3
    subst e1
    exact .inl ⟨rfl, rfl⟩
  · injection he with e1 e2 e3
    subst e1; subst e2; subst e3
    exact .inr ⟨b, off, 0, cur, rfl, hb, Nat.zero_le _, by decide, by omega, rfl⟩
theorem adv_apart {w wr : World} {F : Nat → Prop} {g bm : Nat} {now : Int} {C : Nat → List Du} {n : Nat} {v6 vf : Value} {R' : Nat → Value} (hI : AdvI w wr F g bm now C n v6) (hraw : Raw wr F g bm now R' (spC now C n)) (hlt : ∀ k, F k → k < w.heap.size) (hvf : R' 64 = vf) {k : Nat} (hk : vf.ownBlock = some k) (he : v6.ownBlock = some k) : False := by
  have h1 := hlt k (hraw.fr 64 k (by omega) (by rw [hvf]; exact hk))
  have h2 := hI.own k he
  omega
/-- between the spokes and the end: what is taken lies in v; the rows are C4 -/
structure Adv2 (w W : World) (F F4 : Nat → Prop) (g bm : Nat) (tk : Int) (C4 : Nat → List Du) (v : Value) (acc : List Du) (L : List Du) : Prop where
  acc : ORow W v acc
  own : ∀ b, v.ownBlock = some b → w.heap.size ≤ b ∧ ¬ F4 b
  raw : ∃ R', Raw W F4 g bm tk R' C4
  fr : Fr F w W
  new : ∀ k, F4 k → F k ∨ w.heap.size ≤ k
  map : MapIs W bm L
theorem adv2_start {w wr w2 w3 w4 : World} {F : Nat → Prop} {g bm : Nat} {now tk : Int} {C : Nat → List Du} {n : Nat} {v6 v3 v4 : Value} {T D L : List Du} {R' : Nat → Value} (hI : AdvI w wr F g bm now C n v6) (hraw : Raw wr F g bm now R' (spC now C n)) (hlt : ∀ k, F k → k < w.heap.size) (hbm : g ≠ bm) (hm : MapIs w bm L) (hg2 : Gr wr w2) (ho3 : ORow w3 v3 (spA now C n ++ T)) (hf3 : Fr (fun k => v6.ownBlock = some k) w2 w3) (hl3 : v3.ownBlock = v6.ownBlock ∨ ∃ b, v3.ownBlock = some b ∧ w2.heap.size ≤ b)
    (ho4 : ORow w4 v4 D) (hb4 : Below w3.heap.size w3 w4) (hn4 : ∀ b, v4.ownBlock = some b → w3.heap.size ≤ b) : ∃ F4, Adv2 w ((w4.setCell ⟨g, 66, none⟩ v4).setCell ⟨g, 0, none⟩ (.int .i64 tk)) F F4 g bm tk (upd (spC now C n) 64 D) v3 (spA now C n ++ T) L := by
  have hno : ∀ k, F k → ¬ v6.ownBlock = some k := fun k hk e => by have := hI.own k e; have := hlt k hk; omega
  have hf2 : Fr SNo wr w2 := hg2.fr SNo
  have hf23 : Fr (fun k => v6.ownBlock = some k) wr w3 := (hf2.mono (fun _ _ h => h.elim)).trans hf3 (fun k h => .inl h)
  have hr3 := hraw.frame hf23 hno
  have hf4 : Fr SNo w3 w4 := Fr.of_below hb4 _
  have hp := hr3.put 64 (by omega) (hf4) (fun k _ h => h.elim) v4 D ho4 (fun b hb => .inr (hn4 b hb))
  have hc := hp.clock tk
  have hfw3 : Fr (fun k => F k ∧ k ≠ bm) w w3 := hI.fr.trans hf23 (fun k h => .inr (hI.own k h))
  have hfw4 : Fr (fun k => F k ∧ k ≠ bm) w w4 := hfw3.trans hf4 (fun k h => h.elim)
  have hfw : Fr (fun k => F k ∧ k ≠ bm) w ((w4.setCell ⟨g, 66, none⟩ v4).setCell ⟨g, 0, none⟩ (.int .i64 tk)) := Fr.setCell (p := ⟨g, 0, none⟩) (Fr.setCell (p := ⟨g, 66, none⟩) hfw4 (.inl ⟨hraw.fg, hbm⟩) _) (.inl ⟨hraw.fg, hbm⟩) _
  have h3own : ∀ b, v3.ownBlock = some b → w.heap.size ≤ b ∧ b < w3.heap.size := fun b hb => by
    refine ⟨?_, ho3.lt b hb⟩
    rcases hl3 with e | ⟨b', e, hle⟩
    · exact hI.own b (by rw [← e]; exact hb)
    · rw [hb] at e; injection e with e; subst e; have := hI.fr.size; have := hf2.size; omega
  have hgs : Fr (fun k => k = g) w4 ((w4.setCell ⟨g, 66, none⟩ v4).setCell ⟨g, 0, none⟩ (.int .i64 tk)) := Fr.setCell (p := ⟨g, 0, none⟩) (Fr.setCell (S := fun k => k = g) (p := ⟨g, 66, none⟩) (Fr.refl _ w4) (.inl rfl) _) (.inl rfl) _
  refine ⟨_, (ho3.frame hf4 (fun _ _ h => h)).frame hgs (fun k hk e => ?_), fun b hb => ⟨(h3own b hb).1, fun hF => ?_⟩, ⟨_, hc⟩, hfw.mono (fun _ _ h => h.1), fun k hk => ?_, hm.frame hfw (fun h => h.2 rfl)⟩
  · have := h3own k hk; have := hlt g hraw.fg; omega
  · have h5 := h3own b hb
    rcases hF with hF | hF
    · have := hlt b hF; omega
    · omega
  · rcases hk with hk | hk
    · exact .inl hk
    · exact .inr (Nat.le_trans hfw3.size hk.1)
theorem mvC_len (D : List Du) (C : Nat → List Du) (k : Nat) (hk : k ≠ 64) : ∀ m, (mvC D C m k).length ≤ (C k).length + m
  | 0 => Nat.le_refl _
  | m + 1 => by
    have ih := mvC_len D C k hk m
    unfold mvC
    rw [upd_ne _ _ hk]
    by_cases e : k = ((D.getD m default).at_ % 64).toNat
    · rw [← e, upd_same]; simp; omega
    · rw [upd_ne _ _ e]; omega
theorem adv2_move {w wr w5 w6 : World} {F F' F'' : Nat → Prop} {g bm : Nat} {tk : Int} {D acc L : List Du} {C4 : Nat → List Du} {m k : Nat} {v vt : Value} {d : Du} {R3 : Nat → Value} (h2 : Adv2 w wr F F' g bm tk (mvC D C4 m) v acc L) (h5 : Fr SNo wr w5) (h5s : w5.heap.size = wr.heap.size) (hFg : F g) (hfg : F' g) (hgb : g ≠ bm) (hq : Raw w6 F'' g bm tk R3 (upd (mvC D C4 m) k (mvC D C4 m k ++ [d]))) (ht : Turn w5 w6 F' F'' bm) (hd : D.getD m default = d) (hk : k = (d.at_ % 64).toNat)
    (ho : ORow w6 vt (D.drop (m + 1))) (hv : ∀ b, vt.ownBlock = some b → (R3 64).ownBlock = some b) : ∃ F3, Adv2 w (w6.setCell ⟨g, 66, none⟩ vt) F F3 g bm tk (mvC D C4 (m + 1)) v acc L := by
  have hp := hq.put 64 (by omega) (Fr.refl SNo w6) (fun k _ h => h.elim) vt _ ho (fun b hb => .inl (hv b hb))
  have hf6 : Fr (fun k => F' k ∧ k ≠ bm) wr w6 := (h5.mono (fun _ _ h => h.elim)).trans ht.fr (fun k h => .inl h)
  have hgs : Fr (fun k => k = g) w6 (w6.setCell ⟨g, 66, none⟩ vt) := Fr.setCell (S := fun k => k = g) (p := ⟨g, 66, none⟩) (Fr.refl _ w6) (.inl rfl) _
  have hfa : Fr (fun k => F' k ∧ k ≠ bm) wr (w6.setCell ⟨g, 66, none⟩ vt) := Fr.setCell (p := ⟨g, 66, none⟩) hf6 (.inl ⟨hfg, hgb⟩) _
  have hraw : ∃ R', Raw (w6.setCell ⟨g, 66, none⟩ vt) (fun j => F'' j ∨ (w6.heap.size ≤ j ∧ j < w6.heap.size)) g bm tk R' (mvC D C4 (m + 1)) := by
    have e : mvC D C4 (m + 1) = upd (upd (mvC D C4 m) ((D.getD m default).at_ % 64).toNat (mvC D C4 m ((D.getD m default).at_ % 64).toNat ++ [D.getD m default])) 64 (D.drop (m + 1)) := rfl
    rw [e, hd, ← hk]
    exact ⟨_, hp⟩
  refine ⟨(fun j => F'' j ∨ (w6.heap.size ≤ j ∧ j < w6.heap.size)), h2.acc.frame hfa (fun k hk h => (h2.own k hk).2 h.1), fun b hb => ⟨(h2.own b hb).1, fun hF => ?_⟩, hraw, h2.fr.trans hfa (fun k h => h2.new k h.1), fun j hj => ?_, h2.map.frame hfa (fun h => h.2 rfl)⟩
  · have hlt := h2.acc.lt b hb
    rcases hF with hF | hF
    · rcases ht.new b hF with h | h
      · exact (h2.own b hb).2 h
      · omega
    · omega
  · rcases hj with hj | hj
    · rcases ht.new j hj with h | h
      · exact h2.new j h
      · rw [h5s] at h; exact .inr (Nat.le_trans h2.fr.size h)
    · omega
def farLen (g : Nat) (w : World) : Nat := match w.cell? ⟨g, 66, none⟩ with | some (.slice _ n _) => n | _ => 0
def AdvB (w : World) (F : Nat → Prop) (g bm : Nat) (tk : Int) (D : List Du) (C4 : Nat → List Du) (v : Value) (acc L : List Du) (wr : World) : Prop := ∃ (m : Nat) (F' : Nat → Prop), m ≤ D.length ∧ (∀ i (h : i < D.length), i < m → D[i].at_ - tk < 64) ∧ Adv2 w wr F F' g bm tk (mvC D C4 m) v acc L
theorem adv_farLen {w W : World} {F F' : Nat → Prop} {g bm : Nat} {tk : Int} {D acc L : List Du} {C4 : Nat → List Du} {m : Nat} {v : Value} (h : Adv2 w W F F' g bm tk (mvC D C4 m) v acc L) (hC : C4 64 = D) : farLen g W = D.length - m := by
  obtain ⟨R', hr⟩ := h.raw
  have h1 := hr.cellR 64 (by omega)
  have h2 := hr.row 64 (by omega)
  rw [mvC_far D C4 hC m] at h2
  obtain ⟨A, c, hv, _, _⟩ := h2.len
  rw [hv] at h1
  unfold farLen
  have h3 : W.cell? ⟨g, 66, none⟩ = _ := h1
  rw [h3]
  simp
theorem getD_drop {D E' : List Du} {m : Nat} {d : Du} (h : d :: E' = D.drop m) : D.getD m default = d ∧ m < D.length ∧ E' = D.drop (m + 1) := by
  have h1 : m < D.length := by
    apply Classical.byContradiction
    intro hn
    rw [List.drop_eq_nil_of_le (by omega)] at h
    cases h
  rw [List.drop_eq_getElem_cons h1] at h
  injection h with e1 e2
  exact ⟨by rw [List.getD_eq_getElem?_getD, List.getElem?_eq_getElem h1, e1]; rfl, h1, e2⟩
theorem near_step {D : List Du} {m : Nat} {tk da : Int} {d : Du} (hnear : ∀ i (h : i < D.length), i < m → D[i].at_ - tk < 64) (hd : D.getD m default = d) (hm : m < D.length) (hda : da = d.at_) (hn : da - tk < 64) : ∀ i (h : i < D.length), i < m + 1 → D[i].at_ - tk < 64 := by
  intro i h hi
  rcases Nat.lt_or_eq_of_le (Nat.le_of_lt_succ hi) with h1 | h1
  · exact hnear i h h1
  · subst h1
    rw [List.getD_eq_getElem?_getD, List.getElem?_eq_getElem h] at hd
    have hd : D[i] = d := hd
    rw [hd, ← hda]; exact hn
theorem adv2_del {w wr wa w8 : World} {F F' : Nat → Prop} {g bm : Nat} {tk : Int} {C5 : Nat → List Du} {v : Value} {S L1 L2 : List Du} (h : Adv2 w wr F F' g bm tk C5 v S L1) (hf : Fr SNo wr wa) (hm : MapIs w8 bm L2) (h8 : Fr (fun k => k = bm) wa.drew w8) : Adv2 w w8 F F' g bm tk C5 v S L2 := by
  obtain ⟨R', hr⟩ := h.raw
  have hb := hr.map_ne h.map
  have hf' : Fr (fun k => k = bm) wr w8 := ((hf.drew).mono (fun _ _ h => h.elim)).trans h8 (fun k h => .inl h)
  obtain ⟨cs, hbk, hrest⟩ := hr.blk
  refine ⟨h.acc.frame hf' (fun k hk e => (h.own k hk).2 (by rw [e]; exact hr.fm)), h.own, ⟨R', ⟨cs, hf'.blk hbk (fun e => hb.1 e), hrest⟩, fun i hi => (hr.row i hi).frame hf' (fun k hk e => hb.2 i hi (by rw [hk, e])), hr.apart, hr.fg, hr.fm, hr.fr, fun k hk => Nat.lt_of_lt_of_le (hr.lt k hk) hf'.size⟩, h.fr.trans hf' (fun k e => by rw [e]; exact h.new bm hr.fm), h.new, hm⟩
theorem dels_succ {L S : List Du} {i : Nat} (hi : i < S.length) : dels L (S.take (i + 1)) = dropL (dels L (S.take i)) S[i].id := by
  unfold dels
  rw [List.take_succ_eq_append_getElem hi, List.foldl_append]
  rfl
def AdvJ (w : World) (F F' : Nat → Prop) (g bm : Nat) (tk : Int) (C5 : Nat → List Du) (v : Value) (S L : List Du) (v140 v12 : Value) (wr : World) : Prop := ∃ i : Nat, v140 = .int .i64 i ∧ i ≤ S.length ∧ Adv2 w wr F F' g bm tk C5 v S (dels L (S.take i))
theorem adv2_sort {w wr w7 : World} {F F' : Nat → Prop} {g bm : Nat} {tk : Int} {C5 : Nat → List Du} {v : Value} {acc S L : List Du} (h : Adv2 w wr F F' g bm tk C5 v acc L) (hf : Fr (fun k => v.ownBlock = some k) wr.drew w7) (ho : ORow w7 v S) : Adv2 w w7 F F' g bm tk C5 v S L := by
  have hf' : Fr (fun k => v.ownBlock = some k) wr w7 := (((Fr.refl (fun k => v.ownBlock = some k) wr).drew)).trans hf (fun k h => .inl h)
  obtain ⟨R', hr⟩ := h.raw
  have hno : ∀ k, F' k → ¬ v.ownBlock = some k := fun k hk e => (h.own k e).2 hk
  exact ⟨ho, h.own, ⟨R', hr.frame hf' hno⟩, h.fr.trans hf' (fun k e => .inr (h.own k e).1), h.new, h.map.frame hf' (hno bm hr.fm)⟩
theorem adv_done {w wr : World} {F F' : Nat → Prop} {g bm : Nat} {tk : Int} {C5 : Nat → List Du} {v : Value} {S L : List Du} {i : Nat} (h : Adv2 w wr F F' g bm tk C5 v S (dels L (S.take i))) (hi : i = S.length) (hS : S = L.filter (upTo tk)) (hinv : Inv tk C5 (L.filter (fun d => !upTo tk d))) (hn : (L.map (·.id)).Nodup) : AdvPost w F g tk L (.returned (.tuple #[v, .int .i64 0])) wr := by
  obtain ⟨R', hr⟩ := h.raw
  have hm := h.map
  rw [hi, List.take_length, hS, dels_all hn] at hm
  exact ⟨v, F', rfl, by rw [← hS]; exact h.acc, h.own, ⟨bm, R', C5, hr, hm, hinv⟩, h.fr, h.new⟩
theorem adv_far {D E E' : List Du} {d : Du} {m : Nat} {tk da : Int} (hs : D.Pairwise (fun a b => before a b = true)) (h1 : E = d :: E') (h2 : E = D.drop m) (h3 : da = d.at_) (h4 : ¬ da - tk < 64) : ∀ x ∈ D.drop m, 64 ≤ x.at_ - tk := by
  intro x hx
  have hp : (d :: E').Pairwise (fun a b => before a b = true) := by rw [← h1, h2]; exact hs.sublist (List.drop_sublist ..)
  rw [← h2, h1] at hx
  rcases List.mem_cons.1 hx with rfl | hx
  · omega
  · have := (List.pairwise_cons.1 hp).1 x hx
    unfold before at this
    simp at this
    omega
set_option maxHeartbeats 40000000 in
set_option maxRecDepth 100000 in
theorem adv_ok (w : World) (F : Nat → Prop) (g : Nat) (now : Int) (L : List Du) (tk : Int) (h : IsW w F g now L) (h1 : now ≤ tk) (h2 : tk ≤ 1099511627776) : Calls Try.prog 12 #[.pointer (some ⟨g, 0, none⟩), .int .i64 tk] w (AdvPost w F g tk L) := by
  obtain ⟨bm, R, C, hr, hm, hi⟩ := h
  have hbm := hr.map_ne hm
  have hn0 := hi.now0
  have c0 := hr.cell0
  have HR := Aside0.mk (And.intro hr (And.intro hm (And.intro hi hbm)))
  obtain ⟨N, hN⟩ : ∃ N : Nat, (N : Int) = min (tk - now) 63 := ⟨(min (tk - now) 63).toNat, by omega⟩
  have hlt := hr.lt
  clear hr hm hi
  go_enter Try.func12, Try.ntmps12
  go_wp2_with fail
  go_loopw [6, 7, 8] (fun v6 v7 v8 wr => AdvA w F g bm now C N v6 v7 v8 wr) (fun v6 v7 v8 _ => N - (intOf v7 - now - 1).toNat)
  case atStart => exact ⟨0, Nat.zero_le _, by go_num, AdvI.start HR.out.1⟩
  case round =>
    obtain ⟨n, hn, rfl, hI⟩ := hrel
    obtain ⟨R', hraw⟩ := hI.raw
    have c0' := hraw.cell0
    obtain ⟨k, hk⟩ : ∃ k, k = tick now n := ⟨_, rfl⟩
    have hk64 : k < 64 := by rw [hk]; exact tick_lt now n
    have hkz : (k : Int) < 64 := by omega
    obtain ⟨A6, c6, hv6, hc6, hc6m⟩ := hI.acc.len
    have hs1 : IntKind.i64.wrap (now + 64) = now + 64 := IntWalk.i64_in _ (by omega)
    have hs2 : IntKind.i64.wrap (now + 64 - 1) = now + 64 - 1 := IntWalk.i64_in _ (by omega)
    have hs3 : IntKind.i64.wrap (now + 1 + (n : Int) + 1) = now + 1 + (n : Int) + 1 := IntWalk.i64_in _ (by omega)
    by_cases hlast : n < N
    · have hdm : (now + 1 + (n : Int)).tmod 64 = (k : Int) := by rw [Int.tmod_eq_emod_of_nonneg (by omega), hk]; unfold tick; omega
      have hle1 : now + 1 + (n : Int) ≤ min tk (now + 64 - 1) := by omega
      have ck := hraw.cellR k (by omega)
      have fzk := hraw.free (2 + k)
      have hrow := hraw.row k (by omega)
      obtain ⟨As, cs, hvs, _, _⟩ := hrow.len
      rw [hvs] at ck hrow
      have hgw : g < wr.heap.size := hraw.lt g hraw.fg
      have hno : ¬ u6.ownBlock = some g := fun e => by have := hI.own g e; have := hlt g HR.out.1.fg; omega
      have hlen : ((spA now C n).length + (spC now C n k).length) * 16 ≤ 140737488355328 := by
        have h5 := spA_len HR.out.2.2.1 n (by omega)
        have h6 : (spC now C n k).length ≤ 4096 := by rw [(spC_perm HR.out.2.2.1 n (by omega) k hk64).length_eq]; exact Nat.le_trans (List.length_filter_le _ _) HR.out.2.2.1.few
        omega
      have HI := Aside0.mk (And.intro hI (And.intro hraw hrow))
      have HK := Aside0.mk (And.intro hk (And.intro hlen hno)); clear hk hlen hno hI hraw hrow hvs
      subst hv6
      clear hc6 hc6m
      go_wp2_with (first | (at_builtin; refine wp_app rfl (.slice A6 (spA now C n).length c6) (.slice As (spC now C n k).length cs) (spA now C n) (spC now C n k) _ HI.out.1.acc rfl (src_orow HI.out.2.2) HK.out.2.1 rfl rfl rfl ?_; intro v1 w1 ho hf hl; have ck1 := hf.cellAt (p := ⟨g, 2 + k, none⟩) hgw HK.out.2.2 ck; have fz1 := hf.frozen fzk hgw HK.out.2.2))
      have HA := Aside0.mk (And.intro ho (And.intro hf hl)); clear ho hf hl ck1 fz1
      go_roundw
      case measure => simp [intOf]; omega
      case rel =>
        have hk := HK.out.1
        subst hk
        exact ⟨n + 1, by omega, by push_cast; go_num, HI.out.1.step hlt hbm.1 HI.out.2.1 HA.out.1 HA.out.2.1 HA.out.2.2⟩
    · obtain rfl : n = N := by omega
      have hle1 : ¬ now + 1 + (n : Int) ≤ min tk (now + 64 - 1) := by omega
      have HN := Aside0.mk hN; clear hN
      have ck := hraw.cellR 64 (by omega)
      have fzk := hraw.free 66
      have hrow := hraw.row 64 (by omega)
      rw [spC_far] at hrow
      have hso : (C 64).Pairwise (fun x y => before x y = true) := by rw [HR.out.2.2.1.far]; exact HR.out.2.2.1.sorted.filter _
      have hfew : (C 64).length ≤ 4096 := row_few HR.out.2.2.1 (by omega)
      obtain ⟨Af, cf, hvf, hcf, hcfm⟩ := hrow.len
      rw [hvf] at ck hrow
      have HVF := Aside0.mk hvf
      have hup := upto_all wr _ (C 64) tk hrow hso hfew
      obtain ⟨cnt, hcnt⟩ : ∃ n, n = (C 64).countP (upTo tk) := ⟨_, rfl⟩
      rw [← hcnt] at hup
      have hcl : cnt ≤ (C 64).length := by rw [hcnt]; exact List.countP_le_length
      have hclz : (cnt : Int) ≤ (cf : Int) := by omega
      have hgw : g < wr.heap.size := hraw.lt g hraw.fg
      have HI := Aside0.mk (And.intro hI (And.intro hraw (And.intro hrow (And.intro hso (And.intro hfew (And.intro hcnt hk))))))
      have HU := Aside0.mk hup
      clear hI hraw hrow hso hcnt hup hk hvf
      subst hv6
      clear hc6 hc6m
      go_wp2_with fail
      refine HU.out.mono ?_
      rintro e w2 ⟨fb, rfl, hg2⟩
      have ck2 := hg2.cell (p := ⟨g, 66, none⟩) hgw ck
      have fz2 := (hg2.fr SNo).frozen fzk hgw (fun h => h)
      have HG2 := Aside0.mk hg2; clear hg2 ck fzk
      have hro := HI.out.2.2.1.frame (HG2.out.fr SNo) (fun _ _ h => h)
      have hacc2 := HI.out.1.acc.frame (HG2.out.fr SNo) (fun _ _ h => h)
      have hhead := orow_head hro hcl
      have hhl : ((C 64).take cnt).length = cnt := by rw [List.length_take]; omega
      have hsrc := src_orow hhead
      rw [hhl] at hsrc
      have hlen : ((spA now C n).length + ((C 64).take cnt).length) * 16 ≤ 140737488355328 := by
        have h5 := spA_len HR.out.2.2.1 n (by have := HN.out; omega)
        omega
      have hgw2 : g < w2.heap.size := Nat.lt_of_lt_of_le hgw (HG2.out.fr SNo).size
      have hno : ¬ (Value.slice A6 (spA now C n).length c6).ownBlock = some g := fun e => by have := HI.out.1.own g e; have := hlt g HR.out.1.fg; omega
      have HS := Aside0.mk (And.intro hro (And.intro hacc2 (And.intro hsrc (And.intro hlen (And.intro hhl hno))))); clear hro hacc2 hhead hhl hsrc hlen hno
      obtain ⟨T, hT⟩ : ∃ T, T = (C 64).take cnt := ⟨_, rfl⟩
      obtain ⟨D, hD⟩ : ∃ D, D = (C 64).drop cnt := ⟨_, rfl⟩
      rw [← hT] at HS
      have HD := Aside0.mk (And.intro hT (And.intro hD HI.out.2.2.2.2.2.1)); clear hT hD
      have HDL := Aside0.mk (show D.length ≤ 4096 by rw [HD.out.2.1, List.length_drop]; omega)
      have hw0 : g < w.heap.size := hlt g HR.out.1.fg
      have c0w := HI.out.2.1.cell0
      have f0w := HI.out.2.1.free 0
      have c0g := HG2.out.cell (p := ⟨g, 0, none⟩) hgw c0w
      have f0g := (HG2.out.fr SNo).frozen (p := ⟨g, 0, none⟩) f0w hgw (fun h => h)
      clear c0w f0w c0'
      rcases Classical.em (cf = cnt) with hce | hce
      case' inl =>
        subst hce
        go_wp2_with (first | (at_builtin; refine wp_app rfl (.slice A6 (spA now C n).length c6) (.slice Af cf cf) (spA now C n) T cf HS.out.2.1 HS.out.2.2.2.2.1 HS.out.2.2.1 HS.out.2.2.2.1 rfl rfl rfl ?_; intro v3 w3 ho3 hf3 hl3; have ck3 := hf3.cellAt (p := ⟨g, 66, none⟩) hgw2 HS.out.2.2.2.2.2 ck2; have fz3 := hf3.frozen fz2 hgw2 HS.out.2.2.2.2.2))
        have hro3 : ORow w3 (.slice Af (C 64).length cf) (C 64) := HS.out.1.frame hf3 (fun k hk e => adv_apart HI.out.1 HI.out.2.1 hlt HVF.out hk e)
        have hcon := clone_any w3 _ D (by rw [HD.out.2.1]; exact orow_end hro3 (by have := HI.out.2.2.1; omega)) HDL.out
        refine hcon.mono ?_
      case' inr =>
        go_wp2_with (first | (at_builtin; refine wp_app rfl (.slice A6 (spA now C n).length c6) (.slice Af cnt cf) (spA now C n) T cnt HS.out.2.1 HS.out.2.2.2.2.1 HS.out.2.2.1 HS.out.2.2.2.1 rfl rfl rfl ?_; intro v3 w3 ho3 hf3 hl3; have ck3 := hf3.cellAt (p := ⟨g, 66, none⟩) hgw2 HS.out.2.2.2.2.2 ck2; have fz3 := hf3.frozen fz2 hgw2 HS.out.2.2.2.2.2))
        have hro3 : ORow w3 (.slice Af (C 64).length cf) (C 64) := HS.out.1.frame hf3 (fun k hk e => adv_apart HI.out.1 HI.out.2.1 hlt HVF.out hk e)
        have hcon := clone_any w3 _ D (by rw [HD.out.2.1]; exact orow_tail hro3 hcl) HDL.out
        refine hcon.mono ?_
      all_goals
        rintro e w4 ⟨v4, rfl, ho4, hb4, hn4⟩
        obtain ⟨A4, c4, rfl, _, _⟩ := ho4.len
        have hgw3 : g < w3.heap.size := Nat.lt_of_lt_of_le hgw2 hf3.size
        have hf4 : Fr SNo w3 w4 := Fr.of_below hb4 _
        have c04 := hf4.cellAt (p := ⟨g, 0, none⟩) hgw3 (fun h => h) (hf3.cellAt (p := ⟨g, 0, none⟩) hgw2 HS.out.2.2.2.2.2 c0g)
        have f04 := hf4.frozen (p := ⟨g, 0, none⟩) (hf3.frozen f0g hgw2 HS.out.2.2.2.2.2) hgw3 (fun h => h)
        have ck4 := hf4.cellAt (p := ⟨g, 66, none⟩) hgw3 (fun h => h) ck3
        have fz4 := hf4.frozen fz3 hgw3 (fun h => h)
        have hadv := adv2_start (tk := tk) HI.out.1 HI.out.2.1 hlt hbm.1 HR.out.2.1 HG2.out ho3 hf3 hl3 ho4 hb4 hn4
        obtain ⟨acc, hacc⟩ : ∃ a, a = spA now C n ++ T := ⟨_, rfl⟩
        obtain ⟨C4, hC4⟩ : ∃ c, c = upd (spC now C n) 64 D := ⟨_, rfl⟩
        rw [← hacc, ← hC4] at hadv
        have HJ := Aside0.mk (And.intro hadv (And.intro hacc hC4))
        clear hf4 hadv hacc hC4 ho3 hf3 hl3 ho4 hb4 hn4 hro3 hcon ck3 fz3 ck2 fz2 c0g f0g
        obtain ⟨A3, c3, hv3, _, _⟩ := (show ∃ A c, v3 = .slice A acc.length c ∧ True ∧ True by
          obtain ⟨F4, h4⟩ := HJ.out.1
          obtain ⟨A, c, h, _, _⟩ := h4.acc.len
          exact ⟨A, c, h, trivial, trivial⟩)
        subst hv3
        go_wp2_with fail
        generalize (w4.setCell ⟨g, 66, none⟩ (.slice A4 D.length c4)).setCell ⟨g, 0, none⟩ (.int .i64 tk) = W at *
        go_loopw [114] (fun _ wr => AdvB w F g bm tk D C4 (.slice A3 acc.length c3) acc L wr) (fun _ wr => farLen g wr)
        case atStart =>
          obtain ⟨F4, h4⟩ := HJ.out.1
          exact ⟨0, F4, Nat.zero_le _, fun i _ hi => by omega, h4⟩
        case round =>
          obtain ⟨m, F', hm, hnear, h2⟩ := hrel
          obtain ⟨R2, hraw2⟩ := h2.raw
          have hf64 : mvC D C4 m 64 = D.drop m := mvC_far D C4 (by rw [HJ.out.2.2, upd_same]) m
          have hrow := hraw2.row 64 (by omega)
          have ck := hraw2.cellR 64 (by omega)
          have fz := hraw2.free 66
          have ct := hraw2.cell0
          rw [hf64] at hrow
          obtain ⟨E, hE⟩ : ∃ E, E = D.drop m := ⟨_, rfl⟩
          rw [← hE] at hrow
          obtain ⟨Ae, ce, hve, hce1, _⟩ := hrow.len
          rw [hve] at ck hrow
          have hbm2 := hraw2.map_ne h2.map
          have H2 := Aside0.mk (And.intro h2 (And.intro hraw2 (And.intro hbm2 (And.intro hrow (And.intro hE (And.intro hve (And.intro hnear hm)))))))
          clear h2 hraw2 hbm2 hf64 hnear hm hve
          cases E with
          | nil =>
            have hK0 : wr.drew.cell? ⟨g, 66, none⟩ = some (.slice Ae 0 ce) := ck
            clear hrow hE
            go_wp2_with fail
            refine Plan2.region 1000 (fun w' => w'.cell? ⟨g, 66, none⟩ = some (.slice Ae 0 ce)) [(0, 0), (1, 0), (2, 0), (3, 0), (4, 1), (5, 0), (6, 0), (7, 0), (8, 0), (9, 0), (10, 0), (11, 0), (12, 1), (13, 0), (14, 0), (15, 1), (16, 0), (17, 0), (18, 0), (19, 1), (20, 0), (21, 0), (22, 0)] (by kernel_rfl) (by kernel_rfl) (fun _ _ d _ _ h => by cases d <;> exact h) ?_ ?_
            focus exact hK0
            (refine' Plan2.pure (N := (some 92)) rfl (by rfl) rfl ?_ ?_ ?_; rotate_left 2; (focus (intro w'; go_simp; exact Plan2.isV)); (focus (simp only [Act.put, List.setIfInBounds_toArray, List.set_cons_zero, List.set_cons_succ]; rfl)))
            (refine' Plan2.pure (N := (some 93)) rfl (by rfl) rfl ?_ ?_ ?_; rotate_left 2; (focus (intro w'; go_simp; exact Plan2.isV)); (focus (simp only [Act.put, List.setIfInBounds_toArray, List.set_cons_zero, List.set_cons_succ]; rfl)))
            (refine' Plan2.pure (N := (some 94)) rfl (by rfl) rfl ?_ ?_ ?_; rotate_left 2; (focus (intro w'; go_simp; exact Plan2.isV)); (focus (simp only [Act.put, List.setIfInBounds_toArray, List.set_cons_zero, List.set_cons_succ]; rfl)))
            (refine' Plan2.pure (N := (some 95)) rfl (by rfl) rfl ?_ ?_ ?_; rotate_left 2; (focus (intro w'; go_simp; exact Plan2.isV)); (focus (simp only [Act.put, List.setIfInBounds_toArray, List.set_cons_zero, List.set_cons_succ]; rfl)))
            (refine' Plan2.load (N := (some 96)) rfl (by rfl) rfl ?_ ?_ ?_; rotate_left 2; (focus (intro w' hS; (try dsimp only at hS); go_simp; exact Plan2.isV)); (focus (simp only [Act.put, List.setIfInBounds_toArray, List.set_cons_zero, List.set_cons_succ]; rfl)))
            (refine' Plan2.pure (N := (some 97)) rfl (by rfl) rfl ?_ ?_ ?_; rotate_left 2; (focus (intro w'; go_simp; exact Plan2.isV)); (focus (simp only [Act.put, List.setIfInBounds_toArray, List.set_cons_zero, List.set_cons_succ]; rfl)))
            (refine' Plan2.pure (N := (some 98)) rfl (by rfl) rfl ?_ ?_ ?_; rotate_left 2; (focus (intro w'; go_simp; exact Plan2.isV)); (focus (simp only [Act.put, List.setIfInBounds_toArray, List.set_cons_zero, List.set_cons_succ]; rfl)))
            (refine' Plan2.pure (N := (some 99)) rfl (by rfl) rfl ?_ ?_ ?_; rotate_left 2; (focus (intro w'; go_simp; exact Plan2.isV)); (focus (simp only [Act.put, List.setIfInBounds_toArray, List.set_cons_zero, List.set_cons_succ]; rfl)))
            (first | (refine' Plan2.off (N := (some 100)) rfl (by rfl) rfl ?_ ?_; rotate_left 1; (focus (simp only [Act.put, List.setIfInBounds_toArray, List.set_cons_zero, List.set_cons_succ]; rfl))) | (refine' Plan2.pure (N := (some 100)) rfl (by rfl) rfl ?_ ?_ ?_; rotate_left 2; (focus (intro w'; go_simp; exact Plan2.isV)); (focus (simp only [Act.put, List.setIfInBounds_toArray, List.set_cons_zero, List.set_cons_succ]; rfl))))
            (first | (refine' Plan2.off (N := (some 101)) rfl (by rfl) rfl ?_ ?_; rotate_left 1; (focus (simp only [Act.put, List.setIfInBounds_toArray, List.set_cons_zero, List.set_cons_succ]; rfl))) | (refine' Plan2.pure (N := (some 101)) rfl (by rfl) rfl ?_ ?_ ?_; rotate_left 2; (focus (intro w'; go_simp; exact Plan2.isV)); (focus (simp only [Act.put, List.setIfInBounds_toArray, List.set_cons_zero, List.set_cons_succ]; rfl))))
            (first | (refine' Plan2.off (N := (some 102)) rfl (by rfl) rfl ?_ ?_; rotate_left 1; (focus (simp only [Act.put, List.setIfInBounds_toArray, List.set_cons_zero, List.set_cons_succ]; rfl))) | (refine' Plan2.pure (N := (some 102)) rfl (by rfl) rfl ?_ ?_ ?_; rotate_left 2; (focus (intro w'; go_simp; exact Plan2.isV)); (focus (simp only [Act.put, List.setIfInBounds_toArray, List.set_cons_zero, List.set_cons_succ]; rfl))))
            (first | (refine' Plan2.off (N := (some 103)) rfl (by rfl) rfl ?_ ?_; rotate_left 1; (focus (simp only [Act.put, List.setIfInBounds_toArray, List.set_cons_zero, List.set_cons_succ]; rfl))) | (refine' Plan2.pure (N := (some 103)) rfl (by rfl) rfl ?_ ?_ ?_; rotate_left 2; (focus (intro w'; go_simp; exact Plan2.isV)); (focus (simp only [Act.put, List.setIfInBounds_toArray, List.set_cons_zero, List.set_cons_succ]; rfl))))
            (first | (refine' Plan2.off (N := (some 104)) rfl (by rfl) rfl ?_ ?_; rotate_left 1; (focus (simp only [Act.put, List.setIfInBounds_toArray, List.set_cons_zero, List.set_cons_succ]; rfl))) | (refine' Plan2.load (N := (some 104)) rfl (by rfl) rfl ?_ ?_ ?_; rotate_left 2; (focus (intro w' hS; (try dsimp only at hS); go_simp; exact Plan2.isV)); (focus (simp only [Act.put, List.setIfInBounds_toArray, List.set_cons_zero, List.set_cons_succ]; rfl))))
            (first | (refine' Plan2.off (N := (some 105)) rfl (by rfl) rfl ?_ ?_; rotate_left 1; (focus (simp only [Act.put, List.setIfInBounds_toArray, List.set_cons_zero, List.set_cons_succ]; rfl))) | (refine' Plan2.pure (N := (some 105)) rfl (by rfl) rfl ?_ ?_ ?_; rotate_left 2; (focus (intro w'; go_simp; exact Plan2.isV)); (focus (simp only [Act.put, List.setIfInBounds_toArray, List.set_cons_zero, List.set_cons_succ]; rfl))))
            (first | (refine' Plan2.off (N := (some 106)) rfl (by rfl) rfl ?_ ?_; rotate_left 1; (focus (simp only [Act.put, List.setIfInBounds_toArray, List.set_cons_zero, List.set_cons_succ]; rfl))) | (refine' Plan2.pure (N := (some 106)) rfl (by rfl) rfl ?_ ?_ ?_; rotate_left 2; (focus (intro w'; go_simp; exact Plan2.isV)); (focus (simp only [Act.put, List.setIfInBounds_toArray, List.set_cons_zero, List.set_cons_succ]; rfl))))
            (first | (refine' Plan2.off (N := (some 107)) rfl (by rfl) rfl ?_ ?_; rotate_left 1; (focus (simp only [Act.put, List.setIfInBounds_toArray, List.set_cons_zero, List.set_cons_succ]; rfl))) | (refine' Plan2.load (N := (some 107)) rfl (by rfl) rfl ?_ ?_ ?_; rotate_left 2; (focus (intro w' hS; (try dsimp only at hS); go_simp; exact Plan2.isV)); (focus (simp only [Act.put, List.setIfInBounds_toArray, List.set_cons_zero, List.set_cons_succ]; rfl))))
            (first | (refine' Plan2.off (N := (some 108)) rfl (by rfl) rfl ?_ ?_; rotate_left 1; (focus (simp only [Act.put, List.setIfInBounds_toArray, List.set_cons_zero, List.set_cons_succ]; rfl))) | (refine' Plan2.pure (N := (some 108)) rfl (by rfl) rfl ?_ ?_ ?_; rotate_left 2; (focus (intro w'; go_simp; exact Plan2.isV)); (focus (simp only [Act.put, List.setIfInBounds_toArray, List.set_cons_zero, List.set_cons_succ]; rfl))))
            (first | (refine' Plan2.off (N := (some 109)) rfl (by rfl) rfl ?_ ?_; rotate_left 1; (focus (simp only [Act.put, List.setIfInBounds_toArray, List.set_cons_zero, List.set_cons_succ]; rfl))) | (refine' Plan2.pure (N := (some 109)) rfl (by rfl) rfl ?_ ?_ ?_; rotate_left 2; (focus (intro w'; go_simp; exact Plan2.isV)); (focus (simp only [Act.put, List.setIfInBounds_toArray, List.set_cons_zero, List.set_cons_succ]; rfl))))
            (first | (refine' Plan2.off (N := (some 110)) rfl (by rfl) rfl ?_ ?_; rotate_left 1; (focus (simp only [Act.put, List.setIfInBounds_toArray, List.set_cons_zero, List.set_cons_succ]; rfl))) | (refine' Plan2.pure (N := (some 110)) rfl (by rfl) rfl ?_ ?_ ?_; rotate_left 2; (focus (intro w'; go_simp; exact Plan2.isV)); (focus (simp only [Act.put, List.setIfInBounds_toArray, List.set_cons_zero, List.set_cons_succ]; rfl))))
            (first | (refine' Plan2.off (N := (some 111)) rfl (by rfl) rfl ?_ ?_; rotate_left 1; (focus (simp only [Act.put, List.setIfInBounds_toArray, List.set_cons_zero, List.set_cons_succ]; rfl))) | (refine' Plan2.load (N := (some 111)) rfl (by rfl) rfl ?_ ?_ ?_; rotate_left 2; (focus (intro w' hS; (try dsimp only at hS); go_simp; exact Plan2.isV)); (focus (simp only [Act.put, List.setIfInBounds_toArray, List.set_cons_zero, List.set_cons_succ]; rfl))))
            (first | (refine' Plan2.off (N := (some 112)) rfl (by rfl) rfl ?_ ?_; rotate_left 1; (focus (simp only [Act.put, List.setIfInBounds_toArray, List.set_cons_zero, List.set_cons_succ]; rfl))) | (refine' Plan2.pure (N := (some 112)) rfl (by rfl) rfl ?_ ?_ ?_; rotate_left 2; (focus (intro w'; go_simp; exact Plan2.isV)); (focus (simp only [Act.put, List.setIfInBounds_toArray, List.set_cons_zero, List.set_cons_succ]; rfl))))
            (first | (refine' Plan2.off (N := (some 113)) rfl (by rfl) rfl ?_ ?_; rotate_left 1; (focus (simp only [Act.put, List.setIfInBounds_toArray, List.set_cons_zero, List.set_cons_succ]; rfl))) | (refine' Plan2.pure (N := (some 113)) rfl (by rfl) rfl ?_ ?_ ?_; rotate_left 2; (focus (intro w'; go_simp; exact Plan2.isV)); (focus (simp only [Act.put, List.setIfInBounds_toArray, List.set_cons_zero, List.set_cons_succ]; rfl))))
            (refine' Plan2.pure (N := (some 114)) rfl (by rfl) rfl ?_ ?_ ?_; rotate_left 2; (focus (intro w'; go_simp; exact Plan2.isV)); (focus (simp only [Act.put, List.setIfInBounds_toArray, List.set_cons_zero, List.set_cons_succ]; rfl)))
            refine Plan2.done ?_
            have HFAR := Aside0.mk (show ∀ x ∈ D.drop m, 64 ≤ x.at_ - tk by rw [← H2.out.2.2.2.2.1]; intro x hx; cases hx)
            
            go_wp2_with fail
            obtain ⟨hinv, hperm⟩ := adv_inv HR.out.2.2.1 h1 h2 HN.out HD.out.2.2 HD.out.2.1 H2.out.2.2.2.2.2.2.2 H2.out.2.2.2.2.2.2.1 HFAR.out
            obtain ⟨S, hS⟩ : ∃ S, S = L.filter (upTo tk) := ⟨_, rfl⟩
            have hperm2 : acc.Perm (L.filter (upTo tk)) := by rw [HJ.out.2.1, HD.out.1]; exact hperm
            have hSS : sortL acc = S := by rw [hS]; exact sortL_eq hperm2 (HR.out.2.2.1.sorted.filter _) (HR.out.2.2.1.ids.sublist (List.filter_sublist.map _))
            have hSl : S.length = acc.length := by rw [hS, hperm2.length_eq]
            have hlen7 : acc.length ≤ 8192 := by rw [hperm2.length_eq]; have h5 := List.length_filter_le (upTo tk) L; have h6 := HR.out.2.2.1.few; omega
            have hsort := sort_any wr.drew (.slice A3 acc.length c3) acc (H2.out.1.acc.frame ((Fr.refl SNo wr).drew) (fun _ _ h => h)) hlen7
            rw [show SortPost wr.drew (.slice A3 acc.length c3) acc = fun e w' => e = .returned (.tuple #[]) ∧ ORow w' (.slice A3 acc.length c3) S ∧ Fr (fun k => (Value.slice A3 acc.length c3).ownBlock = some k) wr.drew w' from by unfold SortPost; rw [hSS]] at hsort
            have HSO := Aside0.mk (And.intro hinv (And.intro hS hSl))
            have HSR := Aside0.mk hsort
            clear hinv hperm hperm2 hSS hsort hS
            refine HSR.out.mono ?_
            rintro e w7 ⟨rfl, ho7, hf7⟩
            have h7 := adv2_sort H2.out.1 hf7 ho7
            have H7 := Aside0.mk h7; clear h7 ho7 hf7 hSl
            go_wp2_with fail
            go_loopw [140, 12] (fun v140 v12 wr => AdvJ w F F' g bm tk (mvC D C4 m) (.slice A3 acc.length c3) S L v140 v12 wr) (fun v140 _ _ => acc.length - (intOf v140).toNat)
            case atStart => exact ⟨0, rfl, Nat.zero_le _, H7.out⟩
            case round =>
              clear ck fz ct hK0
              obtain ⟨i, rfl, hi, hj⟩ := hrel
              have hSl := HSO.out.2.2
              by_cases hlt : i < acc.length
              · have hltz : (i : Int) < (acc.length : Int) := by omega
                obtain ⟨R8, hr8⟩ := hj.raw
                have c1 := hr8.cell1
                obtain ⟨bs, offs, cs', he⟩ := orow_some hj.acc (by omega)
                injection he with he hl1 hl2
                subst he
                clear hl1 hl2
                have hiS : i < S.length := by omega
                have hcells := hj.acc.cellsAt i hiS
                obtain ⟨x, hx⟩ : ∃ x, x = S[i] := ⟨_, rfl⟩
                rw [← hx] at hcells
                obtain ⟨e0, e1⟩ := hcells
                obtain ⟨xi, hxi⟩ : ∃ z, z = x.id := ⟨_, rfl⟩
                obtain ⟨xa, hxa⟩ : ∃ z, z = x.at_ := ⟨_, rfl⟩
                rw [← hxi] at e0
                rw [← hxa] at e1
                have hwf : (Lit.int .i64 xi).wf = true := by
                  have h5 : x ∈ L := by have h6 : x ∈ S := by rw [hx]; exact List.getElem_mem _
                                        rw [HSO.out.2.1] at h6
                                        exact (List.mem_filter.1 h6).1
                  rw [hxi]; exact HR.out.2.2.1.wf x h5
                have HX := Aside0.mk (And.intro hwf (And.intro hx (And.intro hxi hxa))); clear hwf hx hxi hxa
                have HJJ := Aside0.mk (And.intro hj (And.intro hr8 (And.intro hi hSl))); clear hj hr8 hi hSl
                go_wp2_with fail
                obtain ⟨nb, hnb⟩ : ∃ n, n = wr.heap.size := ⟨_, rfl⟩
                have hnew := heap_alloc_new wr (.cells #[.int .i64 xi, .int .i64 xa] 33)
                have hfa : Fr SNo wr (wr.alloc (.cells #[.int .i64 xi, .int .i64 xa] 33)) := (Fr.refl _ _).alloc _
                rw [← hnb] at hnew ⊢
                generalize wr.alloc (.cells #[.int .i64 xi, .int .i64 xa] 33) = wa at *
                have hmapa : MapIs wa.drew bm (dels L (S.take i)) := HJJ.out.1.map.frame hfa.drew (fun h => h)
                have hnd : ((dels L (S.take i)).map (·.id)).Nodup := HR.out.2.2.1.ids.sublist ((dels_sub _ _).map _)
                have c1a : wa.drew.cell? ⟨g, 1, none⟩ = some (.map (some bm)) := hfa.cellAt (p := ⟨g, 1, none⟩) (HJJ.out.2.1.lt g HJJ.out.2.1.fg) (fun h => h) c1
                have hK0 : wa.drew.cell? ⟨g, 1, none⟩ = some (.map (some bm)) ∧ wa.drew.cell? ⟨nb, 0, none⟩ = some (.int .i64 xi) := ⟨c1a, blk_cell (w := wa) hnew 0⟩
                have HXX := Aside0.mk (And.intro HX.out.1 (And.intro hmapa (And.intro hnd hfa)))
                clear hnew hmapa hnd hfa hnb c1a
            
                refine Plan2.region 6 (fun w' => w'.cell? ⟨g, 1, none⟩ = some (.map (some bm)) ∧ w'.cell? ⟨nb, 0, none⟩ = some (.int .i64 xi)) [(0, 0), (1, 0), (2, 0), (3, 1), (4, 0), (5, 1), (6, 2)] (by kernel_rfl) (by kernel_rfl) (fun _ _ d _ _ h => by cases d <;> exact h) ?_ ?_
                focus exact hK0
                (refine' Plan2.pure (N := (some 144)) rfl (by rfl) rfl ?_ ?_ ?_; rotate_left 2; (focus (intro w'; go_simp; exact Plan2.isV)); (focus (simp only [Act.put, List.setIfInBounds_toArray, List.set_cons_zero, List.set_cons_succ]; rfl)))
                (refine' Plan2.pure (N := (some 145)) rfl (by rfl) rfl ?_ ?_ ?_; rotate_left 2; (focus (intro w'; go_simp; exact Plan2.isV)); (focus (simp only [Act.put, List.setIfInBounds_toArray, List.set_cons_zero, List.set_cons_succ]; rfl)))
                (refine' Plan2.pure (N := (some 146)) rfl (by rfl) rfl ?_ ?_ ?_; rotate_left 2; (focus (intro w'; go_simp; exact Plan2.isV)); (focus (simp only [Act.put, List.setIfInBounds_toArray, List.set_cons_zero, List.set_cons_succ]; rfl)))
                (refine' Plan2.load (N := (some 147)) rfl (by rfl) rfl ?_ ?_ ?_; rotate_left 2; (focus (intro w' hS; (try dsimp only at hS); go_simp; exact Plan2.isV)); (focus (simp only [Act.put, List.setIfInBounds_toArray, List.set_cons_zero, List.set_cons_succ]; rfl)))
                (refine' Plan2.pure (N := (some 148)) rfl (by rfl) rfl ?_ ?_ ?_; rotate_left 2; (focus (intro w'; go_simp; exact Plan2.isV)); (focus (simp only [Act.put, List.setIfInBounds_toArray, List.set_cons_zero, List.set_cons_succ]; rfl)))
                (refine' Plan2.load (N := (some 149)) rfl (by rfl) rfl ?_ ?_ ?_; rotate_left 2; (focus (intro w' hS; (try dsimp only at hS); go_simp; exact Plan2.isV)); (focus (simp only [Act.put, List.setIfInBounds_toArray, List.set_cons_zero, List.set_cons_succ]; rfl)))
                (refine' Plan2.acts (past' := true) rfl (by rfl) rfl (fun K hK => ?_); (refine del_step (bm := bm) (L := dels L (S.take i)) (id := xi) rfl rfl rfl HXX.out.1 HXX.out.2.1 HXX.out.2.2.1 ?_); intro w8 hm8 hf8; have H8 := Aside0.mk (And.intro hm8 hf8); clear hm8 hf8; (refine hK.out _ _ (fun hp => ?_) (fun hS => ?_)); (focus (cases hp)))
                refine Plan2.done ?_
                go_wp2_with fail
                go_roundw
                case measure => simp [intOf]; omega
                case rel => exact ⟨i + 1, by go_num, by omega, adv2_del HJJ.out.1 HXX.out.2.2.2 (by rw [dels_succ hiS, ← HX.out.2.1, ← HX.out.2.2.1]; exact H8.out.1) H8.out.2⟩
              · have hie : i = S.length := by omega
                have hnz : ¬ ((i : Int) < (acc.length : Int)) := by omega
                have HJJ := Aside0.mk (And.intro hj hie); clear hj hi hSl hie hlt
                go_wp2_with fail
                refine bodyPost_ret (v := .tuple #[.slice A3 acc.length c3, .int .i64 0]) (by simp [results, Try.results12, go_sem]) rfl ?_
                exact adv_done HJJ.out.1 HJJ.out.2 HSO.out.2.1 (by rw [HJ.out.2.2]; exact HSO.out.1) HR.out.2.2.1.ids
          | cons d E' =>
            obtain ⟨b, off, c', he⟩ := orow_some hrow (by simp)
            injection he with he _ _
            subst he
            have hcells := hrow.cellsAt 0 (by simp)
            simp only [Nat.zero_mul, Nat.add_zero, List.getElem_cons_zero] at hcells
            obtain ⟨cd0, cd1⟩ := hcells
            obtain ⟨di, hdi⟩ : ∃ x, x = d.id := ⟨_, rfl⟩
            obtain ⟨da, hda⟩ : ∃ x, x = d.at_ := ⟨_, rfl⟩
            rw [← hdi] at cd0
            rw [← hda] at cd1
            have hdL : d ∈ L := by
              have h5 : d ∈ D := by have h6 := H2.out.2.2.2.2.1; exact List.mem_of_mem_drop (i := m) (by rw [← h6]; exact List.mem_cons_self ..)
              rw [HD.out.2.1] at h5
              have h7 := List.mem_of_mem_drop h5
              rw [HR.out.2.2.1.far] at h7
              exact (List.mem_filter.1 h7).1
            have hlate := HR.out.2.2.1.late d hdL
            rw [← hda] at hlate
            have hs4 : IntKind.i64.wrap (da - tk) = da - tk := IntWalk.i64_in _ (by omega)
            obtain ⟨E, hEE⟩ : ∃ E, E = d :: E' := ⟨_, rfl⟩
            rw [← hEE] at ck hrow H2 hE hce1
            obtain ⟨q, hq⟩ : ∃ q, q = E.length := ⟨_, rfl⟩
            have hposn : 0 < q := by rw [hq, hEE]; simp
            have hpos : (0 : Int) < (q : Int) := by omega
            rw [← hq] at ck
            have HQL := Aside0.mk hq; clear hq
            have hK0 : wr.drew.cell? ⟨g, 66, none⟩ = some (.slice (some ⟨b, off, none⟩) q ce) ∧ wr.drew.cell? ⟨g, 0, none⟩ = some (.int .i64 tk) ∧ wr.drew.cell? ⟨b, off + 1, none⟩ = some (.int .i64 da) := ⟨ck, ct, cd1⟩
            have HE := Aside0.mk (And.intro hEE (And.intro hE (And.intro hdi (And.intro hda hdL)))); clear hEE hE hdi hda hdL
            by_cases hnr : da - tk < 64
            · go_wp2_with fail
              refine Plan2.region 1000 (fun w' => w'.cell? ⟨g, 66, none⟩ = some (.slice (some ⟨b, off, none⟩) q ce) ∧ w'.cell? ⟨g, 0, none⟩ = some (.int .i64 tk) ∧ w'.cell? ⟨b, off + 1, none⟩ = some (.int .i64 da)) [(0, 0), (1, 0), (2, 0), (3, 0), (4, 1), (5, 0), (6, 0), (7, 0), (8, 0), (9, 0), (10, 0), (11, 0), (12, 1), (13, 0), (14, 0), (15, 1), (16, 0), (17, 0), (18, 0), (19, 1), (20, 0), (21, 0), (22, 0)] (by kernel_rfl) (by kernel_rfl) (fun _ _ d _ _ h => by cases d <;> exact h) ?_ ?_
              focus exact hK0
              (refine' Plan2.pure (N := (some 92)) rfl (by rfl) rfl ?_ ?_ ?_; rotate_left 2; (focus (intro w'; go_simp; exact Plan2.isV)); (focus (simp only [Act.put, List.setIfInBounds_toArray, List.set_cons_zero, List.set_cons_succ]; rfl)))
              (refine' Plan2.pure (N := (some 93)) rfl (by rfl) rfl ?_ ?_ ?_; rotate_left 2; (focus (intro w'; go_simp; exact Plan2.isV)); (focus (simp only [Act.put, List.setIfInBounds_toArray, List.set_cons_zero, List.set_cons_succ]; rfl)))
              (refine' Plan2.pure (N := (some 94)) rfl (by rfl) rfl ?_ ?_ ?_; rotate_left 2; (focus (intro w'; go_simp; exact Plan2.isV)); (focus (simp only [Act.put, List.setIfInBounds_toArray, List.set_cons_zero, List.set_cons_succ]; rfl)))
              (refine' Plan2.pure (N := (some 95)) rfl (by rfl) rfl ?_ ?_ ?_; rotate_left 2; (focus (intro w'; go_simp; exact Plan2.isV)); (focus (simp only [Act.put, List.setIfInBounds_toArray, List.set_cons_zero, List.set_cons_succ]; rfl)))
              (refine' Plan2.load (N := (some 96)) rfl (by rfl) rfl ?_ ?_ ?_; rotate_left 2; (focus (intro w' hS; (try dsimp only at hS); go_simp; exact Plan2.isV)); (focus (simp only [Act.put, List.setIfInBounds_toArray, List.set_cons_zero, List.set_cons_succ]; rfl)))
              (refine' Plan2.pure (N := (some 97)) rfl (by rfl) rfl ?_ ?_ ?_; rotate_left 2; (focus (intro w'; go_simp; exact Plan2.isV)); (focus (simp only [Act.put, List.setIfInBounds_toArray, List.set_cons_zero, List.set_cons_succ]; rfl)))
              (refine' Plan2.pure (N := (some 98)) rfl (by rfl) rfl ?_ ?_ ?_; rotate_left 2; (focus (intro w'; go_simp; exact Plan2.isV)); (focus (simp only [Act.put, List.setIfInBounds_toArray, List.set_cons_zero, List.set_cons_succ]; rfl)))
              (refine' Plan2.pure (N := (some 99)) rfl (by rfl) rfl ?_ ?_ ?_; rotate_left 2; (focus (intro w'; go_simp; exact Plan2.isV)); (focus (simp only [Act.put, List.setIfInBounds_toArray, List.set_cons_zero, List.set_cons_succ]; rfl)))
              (first | (refine' Plan2.off (N := (some 100)) rfl (by rfl) rfl ?_ ?_; rotate_left 1; (focus (simp only [Act.put, List.setIfInBounds_toArray, List.set_cons_zero, List.set_cons_succ]; rfl))) | (refine' Plan2.pure (N := (some 100)) rfl (by rfl) rfl ?_ ?_ ?_; rotate_left 2; (focus (intro w'; go_simp; exact Plan2.isV)); (focus (simp only [Act.put, List.setIfInBounds_toArray, List.set_cons_zero, List.set_cons_succ]; rfl))))
              (first | (refine' Plan2.off (N := (some 101)) rfl (by rfl) rfl ?_ ?_; rotate_left 1; (focus (simp only [Act.put, List.setIfInBounds_toArray, List.set_cons_zero, List.set_cons_succ]; rfl))) | (refine' Plan2.pure (N := (some 101)) rfl (by rfl) rfl ?_ ?_ ?_; rotate_left 2; (focus (intro w'; go_simp; exact Plan2.isV)); (focus (simp only [Act.put, List.setIfInBounds_toArray, List.set_cons_zero, List.set_cons_succ]; rfl))))
              (first | (refine' Plan2.off (N := (some 102)) rfl (by rfl) rfl ?_ ?_; rotate_left 1; (focus (simp only [Act.put, List.setIfInBounds_toArray, List.set_cons_zero, List.set_cons_succ]; rfl))) | (refine' Plan2.pure (N := (some 102)) rfl (by rfl) rfl ?_ ?_ ?_; rotate_left 2; (focus (intro w'; go_simp; exact Plan2.isV)); (focus (simp only [Act.put, List.setIfInBounds_toArray, List.set_cons_zero, List.set_cons_succ]; rfl))))
              (first | (refine' Plan2.off (N := (some 103)) rfl (by rfl) rfl ?_ ?_; rotate_left 1; (focus (simp only [Act.put, List.setIfInBounds_toArray, List.set_cons_zero, List.set_cons_succ]; rfl))) | (refine' Plan2.pure (N := (some 103)) rfl (by rfl) rfl ?_ ?_ ?_; rotate_left 2; (focus (intro w'; go_simp; exact Plan2.isV)); (focus (simp only [Act.put, List.setIfInBounds_toArray, List.set_cons_zero, List.set_cons_succ]; rfl))))
              (first | (refine' Plan2.off (N := (some 104)) rfl (by rfl) rfl ?_ ?_; rotate_left 1; (focus (simp only [Act.put, List.setIfInBounds_toArray, List.set_cons_zero, List.set_cons_succ]; rfl))) | (refine' Plan2.load (N := (some 104)) rfl (by rfl) rfl ?_ ?_ ?_; rotate_left 2; (focus (intro w' hS; (try dsimp only at hS); go_simp; exact Plan2.isV)); (focus (simp only [Act.put, List.setIfInBounds_toArray, List.set_cons_zero, List.set_cons_succ]; rfl))))
              (first | (refine' Plan2.off (N := (some 105)) rfl (by rfl) rfl ?_ ?_; rotate_left 1; (focus (simp only [Act.put, List.setIfInBounds_toArray, List.set_cons_zero, List.set_cons_succ]; rfl))) | (refine' Plan2.pure (N := (some 105)) rfl (by rfl) rfl ?_ ?_ ?_; rotate_left 2; (focus (intro w'; go_simp; exact Plan2.isV)); (focus (simp only [Act.put, List.setIfInBounds_toArray, List.set_cons_zero, List.set_cons_succ]; rfl))))
              (first | (refine' Plan2.off (N := (some 106)) rfl (by rfl) rfl ?_ ?_; rotate_left 1; (focus (simp only [Act.put, List.setIfInBounds_toArray, List.set_cons_zero, List.set_cons_succ]; rfl))) | (refine' Plan2.pure (N := (some 106)) rfl (by rfl) rfl ?_ ?_ ?_; rotate_left 2; (focus (intro w'; go_simp; exact Plan2.isV)); (focus (simp only [Act.put, List.setIfInBounds_toArray, List.set_cons_zero, List.set_cons_succ]; rfl))))
              (first | (refine' Plan2.off (N := (some 107)) rfl (by rfl) rfl ?_ ?_; rotate_left 1; (focus (simp only [Act.put, List.setIfInBounds_toArray, List.set_cons_zero, List.set_cons_succ]; rfl))) | (refine' Plan2.load (N := (some 107)) rfl (by rfl) rfl ?_ ?_ ?_; rotate_left 2; (focus (intro w' hS; (try dsimp only at hS); go_simp; exact Plan2.isV)); (focus (simp only [Act.put, List.setIfInBounds_toArray, List.set_cons_zero, List.set_cons_succ]; rfl))))
              (first | (refine' Plan2.off (N := (some 108)) rfl (by rfl) rfl ?_ ?_; rotate_left 1; (focus (simp only [Act.put, List.setIfInBounds_toArray, List.set_cons_zero, List.set_cons_succ]; rfl))) | (refine' Plan2.pure (N := (some 108)) rfl (by rfl) rfl ?_ ?_ ?_; rotate_left 2; (focus (intro w'; go_simp; exact Plan2.isV)); (focus (simp only [Act.put, List.setIfInBounds_toArray, List.set_cons_zero, List.set_cons_succ]; rfl))))
              (first | (refine' Plan2.off (N := (some 109)) rfl (by rfl) rfl ?_ ?_; rotate_left 1; (focus (simp only [Act.put, List.setIfInBounds_toArray, List.set_cons_zero, List.set_cons_succ]; rfl))) | (refine' Plan2.pure (N := (some 109)) rfl (by rfl) rfl ?_ ?_ ?_; rotate_left 2; (focus (intro w'; go_simp; exact Plan2.isV)); (focus (simp only [Act.put, List.setIfInBounds_toArray, List.set_cons_zero, List.set_cons_succ]; rfl))))
              (first | (refine' Plan2.off (N := (some 110)) rfl (by rfl) rfl ?_ ?_; rotate_left 1; (focus (simp only [Act.put, List.setIfInBounds_toArray, List.set_cons_zero, List.set_cons_succ]; rfl))) | (refine' Plan2.pure (N := (some 110)) rfl (by rfl) rfl ?_ ?_ ?_; rotate_left 2; (focus (intro w'; go_simp; exact Plan2.isV)); (focus (simp only [Act.put, List.setIfInBounds_toArray, List.set_cons_zero, List.set_cons_succ]; rfl))))
              (first | (refine' Plan2.off (N := (some 111)) rfl (by rfl) rfl ?_ ?_; rotate_left 1; (focus (simp only [Act.put, List.setIfInBounds_toArray, List.set_cons_zero, List.set_cons_succ]; rfl))) | (refine' Plan2.load (N := (some 111)) rfl (by rfl) rfl ?_ ?_ ?_; rotate_left 2; (focus (intro w' hS; (try dsimp only at hS); go_simp; exact Plan2.isV)); (focus (simp only [Act.put, List.setIfInBounds_toArray, List.set_cons_zero, List.set_cons_succ]; rfl))))
              (first | (refine' Plan2.off (N := (some 112)) rfl (by rfl) rfl ?_ ?_; rotate_left 1; (focus (simp only [Act.put, List.setIfInBounds_toArray, List.set_cons_zero, List.set_cons_succ]; rfl))) | (refine' Plan2.pure (N := (some 112)) rfl (by rfl) rfl ?_ ?_ ?_; rotate_left 2; (focus (intro w'; go_simp; exact Plan2.isV)); (focus (simp only [Act.put, List.setIfInBounds_toArray, List.set_cons_zero, List.set_cons_succ]; rfl))))
              (first | (refine' Plan2.off (N := (some 113)) rfl (by rfl) rfl ?_ ?_; rotate_left 1; (focus (simp only [Act.put, List.setIfInBounds_toArray, List.set_cons_zero, List.set_cons_succ]; rfl))) | (refine' Plan2.pure (N := (some 113)) rfl (by rfl) rfl ?_ ?_ ?_; rotate_left 2; (focus (intro w'; go_simp; exact Plan2.isV)); (focus (simp only [Act.put, List.setIfInBounds_toArray, List.set_cons_zero, List.set_cons_succ]; rfl))))
              (refine' Plan2.pure (N := (some 114)) rfl (by rfl) rfl ?_ ?_ ?_; rotate_left 2; (focus (intro w'; go_simp; exact Plan2.isV)); (focus (simp only [Act.put, List.setIfInBounds_toArray, List.set_cons_zero, List.set_cons_succ]; rfl)))
              refine Plan2.done ?_
              go_wp2_with fail
              obtain ⟨k, hk⟩ : ∃ k : Nat, k = (da % 64).toNat := ⟨_, rfl⟩
              have hr5 : Raw wr.drew.drew F' g bm tk R2 (mvC D C4 m) := H2.out.2.1.frame (((Fr.refl SNo wr).drew).drew) (fun _ _ h => h)
              have hlen5 : (mvC D C4 m k).length ≤ 100000 := by
                have h5 := mvC_len D C4 k (by omega) m
                have h6 : (C4 k).length ≤ 4096 := by
                  rw [HJ.out.2.2, upd_ne _ _ (show k ≠ 64 by omega), (spC_perm HR.out.2.2.1 n (by have := HN.out; omega) k (by omega)).length_eq]
                  exact Nat.le_trans (List.length_filter_le _ _) HR.out.2.2.1.few
                have h7 := H2.out.2.2.2.2.2.2.2
                have h8 := HDL.out
                omega
              have hput := put_big wr.drew.drew F' g bm tk R2 (mvC D C4 m) d k hr5 H2.out.2.2.1 (by omega) (by rw [← HE.out.2.2.2.1]; omega) (by rw [← HE.out.2.2.2.1]; omega) hlen5
              rw [show due d = .agg #[.int .i64 di, .int .i64 da] from by unfold due; rw [HE.out.2.2.1, HE.out.2.2.2.1]] at hput
              have HP := Aside0.mk hput
              have HKk := Aside0.mk hk
              have ck5 : wr.drew.drew.cell? ⟨g, 66, none⟩ = some (.slice (some ⟨b, off, none⟩) q ce) := ck
              have cd05 : wr.drew.drew.cell? ⟨b, off, none⟩ = some (.int .i64 di) := cd0
              have cd15 : wr.drew.drew.cell? ⟨b, off + 1, none⟩ = some (.int .i64 da) := cd1
              clear hr5 hlen5 hput hk
              refine Plan2.region 1000 (fun _ => True) [(0, 0), (1, 0), (2, 0), (3, 0), (4, 0), (5, 0), (6, 0), (7, 2), (8, 0), (9, 2), (10, 2)] (by kernel_rfl) (by kernel_rfl) (fun _ _ d _ _ h => by cases d <;> exact h) ?_ ?_
              focus exact trivial
              (refine' Plan2.pure (N := (some 115)) rfl (by rfl) rfl ?_ ?_ ?_; rotate_left 2; (focus (intro w'; go_simp; exact Plan2.isV)); (focus (simp only [Act.put, List.setIfInBounds_toArray, List.set_cons_zero, List.set_cons_succ]; rfl)))
              (refine' Plan2.pure (N := (some 116)) rfl (by rfl) rfl ?_ ?_ ?_; rotate_left 2; (focus (intro w'; go_simp; exact Plan2.isV)); (focus (simp only [Act.put, List.setIfInBounds_toArray, List.set_cons_zero, List.set_cons_succ]; rfl)))
              (refine' Plan2.pure (N := (some 117)) rfl (by rfl) rfl ?_ ?_ ?_; rotate_left 2; (focus (intro w'; go_simp; exact Plan2.isV)); (focus (simp only [Act.put, List.setIfInBounds_toArray, List.set_cons_zero, List.set_cons_succ]; rfl)))
              (refine' Plan2.pure (N := (some 118)) rfl (by rfl) rfl ?_ ?_ ?_; rotate_left 2; (focus (intro w'; go_simp; exact Plan2.isV)); (focus (simp only [Act.put, List.setIfInBounds_toArray, List.set_cons_zero, List.set_cons_succ]; rfl)))
              (refine' Plan2.pure (N := (some 119)) rfl (by rfl) rfl ?_ ?_ ?_; rotate_left 2; (focus (intro w'; go_simp; exact Plan2.isV)); (focus (simp only [Act.put, List.setIfInBounds_toArray, List.set_cons_zero, List.set_cons_succ]; rfl)))
              (refine' Plan2.pure (N := (some 120)) rfl (by rfl) rfl ?_ ?_ ?_; rotate_left 2; (focus (intro w'; go_simp; exact Plan2.isV)); (focus (simp only [Act.put, List.setIfInBounds_toArray, List.set_cons_zero, List.set_cons_succ]; rfl)))
              (refine' Plan2.pure (N := (some 121)) rfl (by rfl) rfl ?_ ?_ ?_; rotate_left 2; (focus (intro w'; go_simp; exact Plan2.isV)); (focus (simp only [Act.put, List.setIfInBounds_toArray, List.set_cons_zero, List.set_cons_succ]; rfl)))
              (refine' Plan2.acts (past' := false) rfl (by rfl) rfl (fun K hK => ?_); go_simp; (refine hK.out _ _ (fun hp => ?_) (fun hS => ?_)); (focus (clear hp; exact trivial)))
              (refine' Plan2.pure (N := (some 123)) rfl (by rfl) rfl ?_ ?_ ?_; rotate_left 2; (focus (intro w'; go_simp; exact Plan2.isV)); (focus (simp only [Act.put, List.setIfInBounds_toArray, List.set_cons_zero, List.set_cons_succ]; rfl)))
              (refine' Plan2.acts (past' := false) rfl (by rfl) rfl (fun K hK => ?_); go_simp; (refine hK.out _ _ (fun hp => ?_) (fun hS => ?_)); (focus (clear hp; exact trivial)))
              (refine' Plan2.acts (past' := false) rfl (by rfl) rfl (fun K hK => ?_); go_simp; (refine (HP.out).mono ?_); rintro e w6 ⟨rfl, hput⟩; have HQ := Aside0.mk hput; clear hput; (refine hK.out _ _ (fun hp => ?_) (fun hS => ?_)); (focus (clear hp; exact trivial)))
              refine Plan2.done ?_
              obtain ⟨F2, R3, hr6, ht6⟩ := HQ.out
              have row6 := hr6.row 64 (by omega)
              have ck6 := hr6.cellR 64 (by omega)
              have fz6 := hr6.free 66
              have hk64 : (64 : Nat) ≠ k := by have := HKk.out; omega
              rw [upd_ne _ _ hk64, mvC_far D C4 (by rw [HJ.out.2.2, upd_same]) m, ← HE.out.2.1] at row6
              have hqE := HQL.out
              obtain ⟨b6, off6, c6, hv6⟩ := orow_some row6 (by omega)
              rw [hv6] at ck6 row6
              have H6 := Aside0.mk (And.intro hr6 (And.intro ht6 (And.intro row6 hv6)))
              rw [← hqE] at ck6
              have hc6 : q ≤ c6 := by
                obtain ⟨_, _, e, h5, _⟩ := row6.len
                injection e with _ _ e
                omega
              clear hr6 ht6 row6 hqE hv6 HQ
              by_cases hc1 : c6 = 1
              · subst hc1
                have hq1 : q = 1 := by omega
                go_wp2_with fail
                obtain ⟨hD1, hD2, hD3⟩ := getD_drop (D := D) (m := m) (d := d) (E' := E') (by rw [← HE.out.1]; exact HE.out.2.1)
                have hC64 : C4 64 = D := by rw [HJ.out.2.2, upd_same]
                obtain ⟨F3, hadv⟩ := adv2_move H2.out.1 (((Fr.refl SNo wr).drew).drew) rfl HR.out.1.fg H2.out.2.1.fg H2.out.2.2.1.1 H6.out.1 H6.out.2.1 hD1 (by rw [← HE.out.2.2.2.1]; exact HKk.out) (vt := .slice (some ⟨b6, off6, none⟩) 0 0) (by rw [← hD3]; have hh := orow_end H6.out.2.2.1 (k := 1) (by have := HQL.out; omega); rw [HE.out.1] at hh; exact hh) (fun bb hbb => by rw [H6.out.2.2.2]; exact hbb)
                have HADV := Aside0.mk hadv
                have hfl := adv_farLen hadv hC64
                have hfl0 := adv_farLen H2.out.1 hC64
                have HFL := Aside0.mk (And.intro hfl (And.intro hfl0 hD2))
                have HD1 := Aside0.mk (And.intro hD1 hD2)
                clear hD1 hD2 hD3 hC64 hadv hfl hfl0
                go_roundw
                case measure => rw [HFL.out.1, HFL.out.2.1]; have := HFL.out.2.2; omega
                case rel => exact ⟨m + 1, F3, HD1.out.2, near_step H2.out.2.2.2.2.2.2.1 HD1.out.1 HD1.out.2 HE.out.2.2.2.1 hnr, HADV.out⟩
              · have hcz : ¬ ((c6 : Int) = 1) := by omega
                go_wp2_with fail
                obtain ⟨hD1, hD2, hD3⟩ := getD_drop (D := D) (m := m) (d := d) (E' := E') (by rw [← HE.out.1]; exact HE.out.2.1)
                have hC64 : C4 64 = D := by rw [HJ.out.2.2, upd_same]
                obtain ⟨F3, hadv⟩ := adv2_move H2.out.1 (((Fr.refl SNo wr).drew).drew) rfl HR.out.1.fg H2.out.2.1.fg H2.out.2.2.1.1 H6.out.1 H6.out.2.1 hD1 (by rw [← HE.out.2.2.2.1]; exact HKk.out) (vt := .slice (some ⟨b6, off6 + 2, none⟩) (q - 1) (c6 - 1)) (by rw [← hD3]; have hh := orow_tail H6.out.2.2.1 (k := 1) (by have := HQL.out; omega); rw [Option.map_some, Addr.add_lit, ← HQL.out, HE.out.1] at hh; exact hh) (fun bb hbb => by rw [H6.out.2.2.2]; exact hbb)
                have HADV := Aside0.mk hadv
                have hfl := adv_farLen hadv hC64
                have hfl0 := adv_farLen H2.out.1 hC64
                have HFL := Aside0.mk (And.intro hfl (And.intro hfl0 hD2))
                have HD1 := Aside0.mk (And.intro hD1 hD2)
                clear hD1 hD2 hD3 hC64 hadv hfl hfl0
                go_roundw
                case measure => rw [HFL.out.1, HFL.out.2.1]; have := HFL.out.2.2; omega
                case rel => exact ⟨m + 1, F3, HD1.out.2, near_step H2.out.2.2.2.2.2.2.1 HD1.out.1 HD1.out.2 HE.out.2.2.2.1 hnr, HADV.out⟩
            · go_wp2_with fail
              refine Plan2.region 1000 (fun w' => w'.cell? ⟨g, 66, none⟩ = some (.slice (some ⟨b, off, none⟩) q ce) ∧ w'.cell? ⟨g, 0, none⟩ = some (.int .i64 tk) ∧ w'.cell? ⟨b, off + 1, none⟩ = some (.int .i64 da)) [(0, 0), (1, 0), (2, 0), (3, 0), (4, 1), (5, 0), (6, 0), (7, 0), (8, 0), (9, 0), (10, 0), (11, 0), (12, 1), (13, 0), (14, 0), (15, 1), (16, 0), (17, 0), (18, 0), (19, 1), (20, 0), (21, 0), (22, 0)] (by kernel_rfl) (by kernel_rfl) (fun _ _ d _ _ h => by cases d <;> exact h) ?_ ?_
              focus exact hK0
              (refine' Plan2.pure (N := (some 92)) rfl (by rfl) rfl ?_ ?_ ?_; rotate_left 2; (focus (intro w'; go_simp; exact Plan2.isV)); (focus (simp only [Act.put, List.setIfInBounds_toArray, List.set_cons_zero, List.set_cons_succ]; rfl)))
              (refine' Plan2.pure (N := (some 93)) rfl (by rfl) rfl ?_ ?_ ?_; rotate_left 2; (focus (intro w'; go_simp; exact Plan2.isV)); (focus (simp only [Act.put, List.setIfInBounds_toArray, List.set_cons_zero, List.set_cons_succ]; rfl)))
              (refine' Plan2.pure (N := (some 94)) rfl (by rfl) rfl ?_ ?_ ?_; rotate_left 2; (focus (intro w'; go_simp; exact Plan2.isV)); (focus (simp only [Act.put, List.setIfInBounds_toArray, List.set_cons_zero, List.set_cons_succ]; rfl)))
              (refine' Plan2.pure (N := (some 95)) rfl (by rfl) rfl ?_ ?_ ?_; rotate_left 2; (focus (intro w'; go_simp; exact Plan2.isV)); (focus (simp only [Act.put, List.setIfInBounds_toArray, List.set_cons_zero, List.set_cons_succ]; rfl)))
              (refine' Plan2.load (N := (some 96)) rfl (by rfl) rfl ?_ ?_ ?_; rotate_left 2; (focus (intro w' hS; (try dsimp only at hS); go_simp; exact Plan2.isV)); (focus (simp only [Act.put, List.setIfInBounds_toArray, List.set_cons_zero, List.set_cons_succ]; rfl)))
              (refine' Plan2.pure (N := (some 97)) rfl (by rfl) rfl ?_ ?_ ?_; rotate_left 2; (focus (intro w'; go_simp; exact Plan2.isV)); (focus (simp only [Act.put, List.setIfInBounds_toArray, List.set_cons_zero, List.set_cons_succ]; rfl)))
              (refine' Plan2.pure (N := (some 98)) rfl (by rfl) rfl ?_ ?_ ?_; rotate_left 2; (focus (intro w'; go_simp; exact Plan2.isV)); (focus (simp only [Act.put, List.setIfInBounds_toArray, List.set_cons_zero, List.set_cons_succ]; rfl)))
              (refine' Plan2.pure (N := (some 99)) rfl (by rfl) rfl ?_ ?_ ?_; rotate_left 2; (focus (intro w'; go_simp; exact Plan2.isV)); (focus (simp only [Act.put, List.setIfInBounds_toArray, List.set_cons_zero, List.set_cons_succ]; rfl)))
              (first | (refine' Plan2.off (N := (some 100)) rfl (by rfl) rfl ?_ ?_; rotate_left 1; (focus (simp only [Act.put, List.setIfInBounds_toArray, List.set_cons_zero, List.set_cons_succ]; rfl))) | (refine' Plan2.pure (N := (some 100)) rfl (by rfl) rfl ?_ ?_ ?_; rotate_left 2; (focus (intro w'; go_simp; exact Plan2.isV)); (focus (simp only [Act.put, List.setIfInBounds_toArray, List.set_cons_zero, List.set_cons_succ]; rfl))))
              (first | (refine' Plan2.off (N := (some 101)) rfl (by rfl) rfl ?_ ?_; rotate_left 1; (focus (simp only [Act.put, List.setIfInBounds_toArray, List.set_cons_zero, List.set_cons_succ]; rfl))) | (refine' Plan2.pure (N := (some 101)) rfl (by rfl) rfl ?_ ?_ ?_; rotate_left 2; (focus (intro w'; go_simp; exact Plan2.isV)); (focus (simp only [Act.put, List.setIfInBounds_toArray, List.set_cons_zero, List.set_cons_succ]; rfl))))
              (first | (refine' Plan2.off (N := (some 102)) rfl (by rfl) rfl ?_ ?_; rotate_left 1; (focus (simp only [Act.put, List.setIfInBounds_toArray, List.set_cons_zero, List.set_cons_succ]; rfl))) | (refine' Plan2.pure (N := (some 102)) rfl (by rfl) rfl ?_ ?_ ?_; rotate_left 2; (focus (intro w'; go_simp; exact Plan2.isV)); (focus (simp only [Act.put, List.setIfInBounds_toArray, List.set_cons_zero, List.set_cons_succ]; rfl))))
              (first | (refine' Plan2.off (N := (some 103)) rfl (by rfl) rfl ?_ ?_; rotate_left 1; (focus (simp only [Act.put, List.setIfInBounds_toArray, List.set_cons_zero, List.set_cons_succ]; rfl))) | (refine' Plan2.pure (N := (some 103)) rfl (by rfl) rfl ?_ ?_ ?_; rotate_left 2; (focus (intro w'; go_simp; exact Plan2.isV)); (focus (simp only [Act.put, List.setIfInBounds_toArray, List.set_cons_zero, List.set_cons_succ]; rfl))))
              (first | (refine' Plan2.off (N := (some 104)) rfl (by rfl) rfl ?_ ?_; rotate_left 1; (focus (simp only [Act.put, List.setIfInBounds_toArray, List.set_cons_zero, List.set_cons_succ]; rfl))) | (refine' Plan2.load (N := (some 104)) rfl (by rfl) rfl ?_ ?_ ?_; rotate_left 2; (focus (intro w' hS; (try dsimp only at hS); go_simp; exact Plan2.isV)); (focus (simp only [Act.put, List.setIfInBounds_toArray, List.set_cons_zero, List.set_cons_succ]; rfl))))
              (first | (refine' Plan2.off (N := (some 105)) rfl (by rfl) rfl ?_ ?_; rotate_left 1; (focus (simp only [Act.put, List.setIfInBounds_toArray, List.set_cons_zero, List.set_cons_succ]; rfl))) | (refine' Plan2.pure (N := (some 105)) rfl (by rfl) rfl ?_ ?_ ?_; rotate_left 2; (focus (intro w'; go_simp; exact Plan2.isV)); (focus (simp only [Act.put, List.setIfInBounds_toArray, List.set_cons_zero, List.set_cons_succ]; rfl))))
              (first | (refine' Plan2.off (N := (some 106)) rfl (by rfl) rfl ?_ ?_; rotate_left 1; (focus (simp only [Act.put, List.setIfInBounds_toArray, List.set_cons_zero, List.set_cons_succ]; rfl))) | (refine' Plan2.pure (N := (some 106)) rfl (by rfl) rfl ?_ ?_ ?_; rotate_left 2; (focus (intro w'; go_simp; exact Plan2.isV)); (focus (simp only [Act.put, List.setIfInBounds_toArray, List.set_cons_zero, List.set_cons_succ]; rfl))))
              (first | (refine' Plan2.off (N := (some 107)) rfl (by rfl) rfl ?_ ?_; rotate_left 1; (focus (simp only [Act.put, List.setIfInBounds_toArray, List.set_cons_zero, List.set_cons_succ]; rfl))) | (refine' Plan2.load (N := (some 107)) rfl (by rfl) rfl ?_ ?_ ?_; rotate_left 2; (focus (intro w' hS; (try dsimp only at hS); go_simp; exact Plan2.isV)); (focus (simp only [Act.put, List.setIfInBounds_toArray, List.set_cons_zero, List.set_cons_succ]; rfl))))
              (first | (refine' Plan2.off (N := (some 108)) rfl (by rfl) rfl ?_ ?_; rotate_left 1; (focus (simp only [Act.put, List.setIfInBounds_toArray, List.set_cons_zero, List.set_cons_succ]; rfl))) | (refine' Plan2.pure (N := (some 108)) rfl (by rfl) rfl ?_ ?_ ?_; rotate_left 2; (focus (intro w'; go_simp; exact Plan2.isV)); (focus (simp only [Act.put, List.setIfInBounds_toArray, List.set_cons_zero, List.set_cons_succ]; rfl))))
              (first | (refine' Plan2.off (N := (some 109)) rfl (by rfl) rfl ?_ ?_; rotate_left 1; (focus (simp only [Act.put, List.setIfInBounds_toArray, List.set_cons_zero, List.set_cons_succ]; rfl))) | (refine' Plan2.pure (N := (some 109)) rfl (by rfl) rfl ?_ ?_ ?_; rotate_left 2; (focus (intro w'; go_simp; exact Plan2.isV)); (focus (simp only [Act.put, List.setIfInBounds_toArray, List.set_cons_zero, List.set_cons_succ]; rfl))))
              (first | (refine' Plan2.off (N := (some 110)) rfl (by rfl) rfl ?_ ?_; rotate_left 1; (focus (simp only [Act.put, List.setIfInBounds_toArray, List.set_cons_zero, List.set_cons_succ]; rfl))) | (refine' Plan2.pure (N := (some 110)) rfl (by rfl) rfl ?_ ?_ ?_; rotate_left 2; (focus (intro w'; go_simp; exact Plan2.isV)); (focus (simp only [Act.put, List.setIfInBounds_toArray, List.set_cons_zero, List.set_cons_succ]; rfl))))
              (first | (refine' Plan2.off (N := (some 111)) rfl (by rfl) rfl ?_ ?_; rotate_left 1; (focus (simp only [Act.put, List.setIfInBounds_toArray, List.set_cons_zero, List.set_cons_succ]; rfl))) | (refine' Plan2.load (N := (some 111)) rfl (by rfl) rfl ?_ ?_ ?_; rotate_left 2; (focus (intro w' hS; (try dsimp only at hS); go_simp; exact Plan2.isV)); (focus (simp only [Act.put, List.setIfInBounds_toArray, List.set_cons_zero, List.set_cons_succ]; rfl))))
              (first | (refine' Plan2.off (N := (some 112)) rfl (by rfl) rfl ?_ ?_; rotate_left 1; (focus (simp only [Act.put, List.setIfInBounds_toArray, List.set_cons_zero, List.set_cons_succ]; rfl))) | (refine' Plan2.pure (N := (some 112)) rfl (by rfl) rfl ?_ ?_ ?_; rotate_left 2; (focus (intro w'; go_simp; exact Plan2.isV)); (focus (simp only [Act.put, List.setIfInBounds_toArray, List.set_cons_zero, List.set_cons_succ]; rfl))))
              (first | (refine' Plan2.off (N := (some 113)) rfl (by rfl) rfl ?_ ?_; rotate_left 1; (focus (simp only [Act.put, List.setIfInBounds_toArray, List.set_cons_zero, List.set_cons_succ]; rfl))) | (refine' Plan2.pure (N := (some 113)) rfl (by rfl) rfl ?_ ?_ ?_; rotate_left 2; (focus (intro w'; go_simp; exact Plan2.isV)); (focus (simp only [Act.put, List.setIfInBounds_toArray, List.set_cons_zero, List.set_cons_succ]; rfl))))
              (refine' Plan2.pure (N := (some 114)) rfl (by rfl) rfl ?_ ?_ ?_; rotate_left 2; (focus (intro w'; go_simp; exact Plan2.isV)); (focus (simp only [Act.put, List.setIfInBounds_toArray, List.set_cons_zero, List.set_cons_succ]; rfl)))
              refine Plan2.done ?_
              have HFAR := Aside0.mk (adv_far (tk := tk) (by rw [HD.out.2.1]; exact HI.out.2.2.2.1.sublist (List.drop_sublist ..)) HE.out.1 HE.out.2.1 HE.out.2.2.2.1 (by omega))
              clear hrow hs4
              
              go_wp2_with fail
              clear hnr
              obtain ⟨hinv, hperm⟩ := adv_inv HR.out.2.2.1 h1 h2 HN.out HD.out.2.2 HD.out.2.1 H2.out.2.2.2.2.2.2.2 H2.out.2.2.2.2.2.2.1 HFAR.out
              obtain ⟨S, hS⟩ : ∃ S, S = L.filter (upTo tk) := ⟨_, rfl⟩
              have hperm2 : acc.Perm (L.filter (upTo tk)) := by rw [HJ.out.2.1, HD.out.1]; exact hperm
              have hSS : sortL acc = S := by rw [hS]; exact sortL_eq hperm2 (HR.out.2.2.1.sorted.filter _) (HR.out.2.2.1.ids.sublist (List.filter_sublist.map _))
              have hSl : S.length = acc.length := by rw [hS, hperm2.length_eq]
              have hlen7 : acc.length ≤ 8192 := by rw [hperm2.length_eq]; have h5 := List.length_filter_le (upTo tk) L; have h6 := HR.out.2.2.1.few; omega
              have hsort := sort_any wr.drew (.slice A3 acc.length c3) acc (H2.out.1.acc.frame ((Fr.refl SNo wr).drew) (fun _ _ h => h)) hlen7
              rw [show SortPost wr.drew (.slice A3 acc.length c3) acc = fun e w' => e = .returned (.tuple #[]) ∧ ORow w' (.slice A3 acc.length c3) S ∧ Fr (fun k => (Value.slice A3 acc.length c3).ownBlock = some k) wr.drew w' from by unfold SortPost; rw [hSS]] at hsort
              have HSO := Aside0.mk (And.intro hinv (And.intro hS hSl))
              have HSR := Aside0.mk hsort
              clear hinv hperm hperm2 hSS hsort hS
              refine HSR.out.mono ?_
              rintro e w7 ⟨rfl, ho7, hf7⟩
              have h7 := adv2_sort H2.out.1 hf7 ho7
              have H7 := Aside0.mk h7; clear h7 ho7 hf7 hSl
              go_wp2_with fail
              go_loopw [140, 12] (fun v140 v12 wr => AdvJ w F F' g bm tk (mvC D C4 m) (.slice A3 acc.length c3) S L v140 v12 wr) (fun v140 _ _ => acc.length - (intOf v140).toNat)
              case atStart => exact ⟨0, rfl, Nat.zero_le _, H7.out⟩
              case round =>
                clear ck fz ct hK0
                obtain ⟨i, rfl, hi, hj⟩ := hrel
                have hSl := HSO.out.2.2
                by_cases hlt : i < acc.length
                · have hltz : (i : Int) < (acc.length : Int) := by omega
                  obtain ⟨R8, hr8⟩ := hj.raw
                  have c1 := hr8.cell1
                  obtain ⟨bs, offs, cs', he⟩ := orow_some hj.acc (by omega)
                  injection he with he hl1 hl2
                  subst he
                  clear hl1 hl2
                  have hiS : i < S.length := by omega
                  have hcells := hj.acc.cellsAt i hiS
                  obtain ⟨x, hx⟩ : ∃ x, x = S[i] := ⟨_, rfl⟩
                  rw [← hx] at hcells
                  obtain ⟨e0, e1⟩ := hcells
                  obtain ⟨xi, hxi⟩ : ∃ z, z = x.id := ⟨_, rfl⟩
                  obtain ⟨xa, hxa⟩ : ∃ z, z = x.at_ := ⟨_, rfl⟩
                  rw [← hxi] at e0
                  rw [← hxa] at e1
                  have hwf : (Lit.int .i64 xi).wf = true := by
                    have h5 : x ∈ L := by have h6 : x ∈ S := by rw [hx]; exact List.getElem_mem _
                                          rw [HSO.out.2.1] at h6
                                          exact (List.mem_filter.1 h6).1
                    rw [hxi]; exact HR.out.2.2.1.wf x h5
                  have HX := Aside0.mk (And.intro hwf (And.intro hx (And.intro hxi hxa))); clear hwf hx hxi hxa
                  have HJJ := Aside0.mk (And.intro hj (And.intro hr8 (And.intro hi hSl))); clear hj hr8 hi hSl
                  go_wp2_with fail
                  obtain ⟨nb, hnb⟩ : ∃ n, n = wr.heap.size := ⟨_, rfl⟩
                  have hnew := heap_alloc_new wr (.cells #[.int .i64 xi, .int .i64 xa] 33)
                  have hfa : Fr SNo wr (wr.alloc (.cells #[.int .i64 xi, .int .i64 xa] 33)) := (Fr.refl _ _).alloc _
                  rw [← hnb] at hnew ⊢
                  generalize wr.alloc (.cells #[.int .i64 xi, .int .i64 xa] 33) = wa at *
                  have hmapa : MapIs wa.drew bm (dels L (S.take i)) := HJJ.out.1.map.frame hfa.drew (fun h => h)
                  have hnd : ((dels L (S.take i)).map (·.id)).Nodup := HR.out.2.2.1.ids.sublist ((dels_sub _ _).map _)
                  have c1a : wa.drew.cell? ⟨g, 1, none⟩ = some (.map (some bm)) := hfa.cellAt (p := ⟨g, 1, none⟩) (HJJ.out.2.1.lt g HJJ.out.2.1.fg) (fun h => h) c1
                  have hK0 : wa.drew.cell? ⟨g, 1, none⟩ = some (.map (some bm)) ∧ wa.drew.cell? ⟨nb, 0, none⟩ = some (.int .i64 xi) := ⟨c1a, blk_cell (w := wa) hnew 0⟩
                  have HXX := Aside0.mk (And.intro HX.out.1 (And.intro hmapa (And.intro hnd hfa)))
                  clear hnew hmapa hnd hfa hnb c1a
              
                  refine Plan2.region 6 (fun w' => w'.cell? ⟨g, 1, none⟩ = some (.map (some bm)) ∧ w'.cell? ⟨nb, 0, none⟩ = some (.int .i64 xi)) [(0, 0), (1, 0), (2, 0), (3, 1), (4, 0), (5, 1), (6, 2)] (by kernel_rfl) (by kernel_rfl) (fun _ _ d _ _ h => by cases d <;> exact h) ?_ ?_
                  focus exact hK0
                  (refine' Plan2.pure (N := (some 144)) rfl (by rfl) rfl ?_ ?_ ?_; rotate_left 2; (focus (intro w'; go_simp; exact Plan2.isV)); (focus (simp only [Act.put, List.setIfInBounds_toArray, List.set_cons_zero, List.set_cons_succ]; rfl)))
                  (refine' Plan2.pure (N := (some 145)) rfl (by rfl) rfl ?_ ?_ ?_; rotate_left 2; (focus (intro w'; go_simp; exact Plan2.isV)); (focus (simp only [Act.put, List.setIfInBounds_toArray, List.set_cons_zero, List.set_cons_succ]; rfl)))
                  (refine' Plan2.pure (N := (some 146)) rfl (by rfl) rfl ?_ ?_ ?_; rotate_left 2; (focus (intro w'; go_simp; exact Plan2.isV)); (focus (simp only [Act.put, List.setIfInBounds_toArray, List.set_cons_zero, List.set_cons_succ]; rfl)))
                  (refine' Plan2.load (N := (some 147)) rfl (by rfl) rfl ?_ ?_ ?_; rotate_left 2; (focus (intro w' hS; (try dsimp only at hS); go_simp; exact Plan2.isV)); (focus (simp only [Act.put, List.setIfInBounds_toArray, List.set_cons_zero, List.set_cons_succ]; rfl)))
                  (refine' Plan2.pure (N := (some 148)) rfl (by rfl) rfl ?_ ?_ ?_; rotate_left 2; (focus (intro w'; go_simp; exact Plan2.isV)); (focus (simp only [Act.put, List.setIfInBounds_toArray, List.set_cons_zero, List.set_cons_succ]; rfl)))
                  (refine' Plan2.load (N := (some 149)) rfl (by rfl) rfl ?_ ?_ ?_; rotate_left 2; (focus (intro w' hS; (try dsimp only at hS); go_simp; exact Plan2.isV)); (focus (simp only [Act.put, List.setIfInBounds_toArray, List.set_cons_zero, List.set_cons_succ]; rfl)))
                  (refine' Plan2.acts (past' := true) rfl (by rfl) rfl (fun K hK => ?_); (refine del_step (bm := bm) (L := dels L (S.take i)) (id := xi) rfl rfl rfl HXX.out.1 HXX.out.2.1 HXX.out.2.2.1 ?_); intro w8 hm8 hf8; have H8 := Aside0.mk (And.intro hm8 hf8); clear hm8 hf8; (refine hK.out _ _ (fun hp => ?_) (fun hS => ?_)); (focus (cases hp)))
                  refine Plan2.done ?_
                  go_wp2_with fail
                  go_roundw
                  case measure => simp [intOf]; omega
                  case rel => exact ⟨i + 1, by go_num, by omega, adv2_del HJJ.out.1 HXX.out.2.2.2 (by rw [dels_succ hiS, ← HX.out.2.1, ← HX.out.2.2.1]; exact H8.out.1) H8.out.2⟩
                · have hie : i = S.length := by omega
                  have hnz : ¬ ((i : Int) < (acc.length : Int)) := by omega
                  have HJJ := Aside0.mk (And.intro hj hie); clear hj hi hSl hie hlt
                  go_wp2_with fail
                  refine bodyPost_ret (v := .tuple #[.slice A3 acc.length c3, .int .i64 0]) (by simp [results, Try.results12, go_sem]) rfl ?_
                  exact adv_done HJJ.out.1 HJJ.out.2 HSO.out.2.1 (by rw [HJ.out.2.2]; exact HSO.out.1) HR.out.2.2.1.ids
end Go.Proofs.Ytodgcfkdnellpaa
