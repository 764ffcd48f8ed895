/- Gossip: put at a key that is there; Put; Left. -/
import Derived.Test.YtafkglhdpcmdbaaG4
set_option linter.unusedSimpArgs false
set_option linter.unusedVariables false
namespace Go.Proofs.Ytafkglhdpcmdbaa
open Go.RowKit Go.Proofs.YtafkglhdpcmdbaaW.PrintWords
theorem First.uniq {ps : List PI} {key : Int} {k j : Nat} (h : First ps key k) (h2 : First ps key j) : k = j := by
  obtain ⟨hk, hkk, hmin⟩ := h
  obtain ⟨hj, hjj, hmin2⟩ := h2
  rcases Nat.lt_trichotomy k j with hlt | he | hlt
  · exact absurd hkk (hmin2 k hlt)
  · exact he
  · exact absurd hjj (hmin j hlt)
theorem nodup_p {ps : List PI} (h : (ps.map (·.p)).Nodup) {i j : Nat} (hi : i < ps.length) (hj : j < ps.length) (he : ps[i].p = ps[j].p) : i = j := by
  have := (List.getElem_inj (xs := ps.map (·.p)) (i := i) (j := j) (h₀ := by simpa using hi) (h₁ := by simpa using hj) h).1 (by simpa using he)
  exact this
theorem put_close2 {w w1 w5 : World} {g k : Nat} {most key times : Int} {v v5 : Value} {ps : List PI} {data : List Int} (hq : RawQ w g most v ps) (hk : k < ps.length) (hkey : ps[k].it.key = key) (hb1 : Below w.heap.size w w1) (hv5 : w5.ownsRow w1.heap.size 5 1 v5 data.length (nums .u8 data)) (hb5 : Below w1.heap.size w1 w5) :
    PutTo w ((w5.setCell ⟨ps[k].p, 1, none⟩ v5).setCell ⟨ps[k].p, 2, none⟩ (.int .i64 times)) g most v ps v (ps.set k ⟨ps[k].p, v5, ⟨key, data, times⟩⟩) := by
  have hq5 := (hq.below hb1).below hb5
  have hx := hq5.its ps[k] (List.getElem_mem _)
  have hF : Fr (fun j => j = ps[k].p) w ((w5.setCell ⟨ps[k].p, 1, none⟩ v5).setCell ⟨ps[k].p, 2, none⟩ (.int .i64 times)) := (((Fr.of_below hb1 (fun j => j = ps[k].p)).trans (Fr.of_below hb5 SNo) (fun _ h => h.elim)).setCell (p := ⟨ps[k].p, 1, none⟩) (.inl rfl) v5).setCell (p := ⟨ps[k].p, 2, none⟩) (.inl rfl) (.int .i64 times)
  have hF5 : Fr (fun j => j = ps[k].p) w5 ((w5.setCell ⟨ps[k].p, 1, none⟩ v5).setCell ⟨ps[k].p, 2, none⟩ (.int .i64 times)) := ((Fr.refl (fun j => j = ps[k].p) _).setCell (p := ⟨ps[k].p, 1, none⟩) (.inl rfl) v5).setCell (p := ⟨ps[k].p, 2, none⟩) (.inl rfl) (.int .i64 times)
  have hap := hq5.it_apart (List.getElem_mem hk)
  have h5 := own_less hv5 (Nat.zero_le _)
  have hP6 := blk_set (blk_set hx.blk 1 v5) 2 (.int .i64 times)
  have hV6 := own_setCell (own_setCell h5 (p := ⟨ps[k].p, 1, none⟩) (own_ne h5 hx.blk (by decide)) v5) (p := ⟨ps[k].p, 2, none⟩) (own_ne h5 hx.blk (by decide)) (.int .i64 times)
  have hmap : (ps.set k ⟨ps[k].p, v5, ⟨key, data, times⟩⟩).map (·.p) = ps.map (·.p) := by
    rw [List.map_set]
    apply List.ext_getElem (by simp)
    intro n h1 h2
    rw [List.getElem_set]
    split
    · subst_vars; simp
    · rfl
  refine ⟨⟨hF5.blk hq5.blk (fun h => hap.1 (.inl h.symm)), ?_, ?_, by rw [hmap]; exact hq.nodup⟩, hF.mono (fun j _ h => .inr (.inr ⟨ps[k], List.getElem_mem _, h⟩)), ?_⟩
  · have := hF5.own hq5.row (fun j hj he => hap.1 (.inr (by rw [← he]; exact hj)))
    rw [List.length_set]
    have h2 : (ps.set k ⟨ps[k].p, v5, ⟨key, data, times⟩⟩).map (fun x => ptr x.p) = ps.map (fun x => ptr x.p) := by
      have := congrArg (List.map ptr) hmap
      simpa [List.map_map, Function.comp_def] using this
    rw [h2]
    exact this
  · intro y hy
    obtain ⟨n, hn, rfl⟩ := List.mem_iff_getElem.1 hy
    rw [List.length_set] at hn
    rw [List.getElem_set]
    split
    · rename_i he
      subst he
      exact ⟨by simpa [hkey] using hP6, hV6⟩
    · rename_i he
      refine (hq5.its ps[n] (List.getElem_mem _)).frame hF5 (fun h => he (nodup_p hq.nodup hn hk h).symm) (fun j hj h => ?_)
      subst h
      exact own_ne (hq5.its ps[n] (List.getElem_mem _)).row hx.blk (by decide) hj.symm
  · intro j hj
    have hmem : ∀ x, x ∈ ps.set k ⟨ps[k].p, v5, ⟨key, data, times⟩⟩ → x ∈ ps ∨ x = ⟨ps[k].p, v5, ⟨key, data, times⟩⟩ := fun x hx => List.mem_or_eq_of_mem_set hx
    rcases hj with (rfl | hj | ⟨x, hx, rfl⟩) | ⟨x, hx, hj⟩
    · exact .inl (.inl (.inl rfl))
    · exact .inl (.inl (.inr (.inl hj)))
    · rcases hmem x hx with hx | rfl
      · exact .inl (.inl (.inr (.inr ⟨x, hx, rfl⟩)))
      · exact .inl (.inl (.inr (.inr ⟨ps[k], List.getElem_mem _, rfl⟩)))
    · rcases hmem x hx with hx | rfl
      · exact .inl (.inr ⟨x, hx, hj⟩)
      · have := own_base hv5 j hj
        have := hb1.size
        exact .inr (by omega)
set_option maxHeartbeats 1000000 in
theorem put_old (w : World) (g : Nat) (most : Int) (v : Value) (ps : List PI) (key : Int) (A : Option Addr) (c : Nat) (data : List Int) (times : Int) (k : Nat) (hk : k < ps.length) (hq : RawQ w g most v ps) (hf : First ps key k)
    (hd : ∀ W, Fr (QW g v ps) w W → ReadsInt W .u8 A data.length data) (h0 : 0 < data.length) (hl : data.length ≤ 140737488351232) :
    Calls Try.prog 26 #[.pointer (some ⟨g, 0, none⟩), .int .i64 key, .slice A data.length c, .int .i64 times] w fun e w' => e = .returned (.int .i64 0) ∧ ∃ x, x.it = ⟨key, data, times⟩ ∧ PutTo w w' g most v ps v (ps.set k x) := by
  have hcon := find_any w g most key v ps hq
  have HC := Aside0.mk hcon; clear hcon
  have HQ := Aside0.mk hq; clear hq
  have HN := Aside0.mk hf; clear hf
  have HD := Aside0.mk hd; clear hd
  go_enter Try.func26, Try.ntmps26
  go_wp2_with fail
  refine HC.out.mono ?_
  rintro e w1 ⟨P, rfl, hA, hb⟩
  obtain rfl : P = some ⟨ps[k].p, 0, none⟩ := by
    rcases hA with ⟨_, hno⟩ | ⟨k', hk', hP, hf⟩
    · obtain ⟨hk, hkk, _⟩ := HN.out
      exact absurd hkk (hno _ (List.getElem_mem _))
    · have := HN.out.uniq hf
      subst this
      exact hP
  clear hA
  have hr : ReadsInt w1 .u8 A data.length data := HD.out w1 (Fr.of_below hb _)
  have HR := Aside0.mk hr; clear hr
  have HB := Aside0.mk hb; clear hb
  have HX := Aside0.mk ((HQ.out.below HB.out).its ps[k] (List.getElem_mem _)).blk
  obtain ⟨p, hp⟩ : ∃ p, p = ps[k].p := ⟨_, rfl⟩
  have HP := Aside0.mk hp
  rw [← hp] at HX ⊢
  clear hp
  go_wp2_with fail
  refine (clone_any w1 A c data HR.out h0 hl).mono ?_
  rintro e w5 ⟨v5, rfl, hv5, hb5⟩
  obtain ⟨A5, c5, rfl⟩ := own_slice hv5
  have P5 := Aside0.mk ((Fr.of_below hb5 SNo).blk HX.out (fun h => h))
  obtain ⟨k5, d5, f5⟩ := cells_of_blk P5.out
  obtain ⟨V, hsh⟩ : ∃ V, V = ps[k].v := ⟨_, rfl⟩
  have d51 := d5 1 V (by rw [hsh]; rfl)
  have d52 := d5 2 (.int .i64 ps[k].it.left) rfl
  obtain ⟨L, hL⟩ : ∃ L, L = ps[k].it.left := ⟨_, rfl⟩
  rw [← hL] at d52
  have f51 := f5 1
  have f52 := f5 2
  have V5 := Aside0.mk (And.intro hv5 hb5)
  clear d5 f5 hv5 hb5 hsh hL
  go_wp2
  go_ret
  refine ⟨rfl, ⟨ps[k].p, .slice A5 data.length c5, ⟨key, data, times⟩⟩, rfl, ?_⟩
  rw [HP.out]
  exact put_close2 HQ.out hk HN.out.2.1 HB.out V5.out.1 V5.out.2
theorem putL_new : ∀ (l : List It) (x : It), (∀ y ∈ l, y.key ≠ x.key) → putL l x = l ++ [x]
  | [], _, _ => rfl
  | y :: r, x, h => by
    have h1 : y.key ≠ x.key := h y (by simp)
    simp only [putL, if_neg h1, putL_new r x (fun z hz => h z (by simp [hz])), List.cons_append]
theorem putL_set : ∀ (ps : List PI) (k : Nat) (x : PI), First ps x.it.key k → putL (ps.map (·.it)) x.it = (ps.set k x).map (·.it)
  | [], k, x, h => by obtain ⟨h, _⟩ := h; exact absurd h (Nat.not_lt_zero _)
  | y :: r, 0, x, h => by
    obtain ⟨_, h, _⟩ := h
    have h1 : y.it.key = x.it.key := h
    simp [putL, h1]
  | y :: r, k + 1, x, h => by
    obtain ⟨hk, hkk, hm⟩ := h
    have h1 : y.it.key ≠ x.it.key := hm 0 (by omega)
    have ih := putL_set r k x ⟨by simpa using hk, by simpa using hkk, fun j hj => by have := hm (j + 1) (by omega); simpa using this⟩
    simp [putL, h1, ih]
theorem hasKey_no {ps : List PI} {key : Int} : NoKey ps key ↔ hasKey (ps.map (·.it)) key = false := by
  unfold NoKey hasKey
  simp
theorem first_or (ps : List PI) (key : Int) : NoKey ps key ∨ ∃ k, ∃ h : k < ps.length, First ps key k := by
  by_cases hex : ∃ k, ∃ h : k < ps.length, ps[k].it.key = key
  · refine .inr ?_
    obtain ⟨k, hk⟩ := hex
    induction k using Nat.strongRecOn with
    | _ k ih =>
      by_cases hj : ∃ j, ∃ h : j < k, (ps[j]'(by obtain ⟨h, _⟩ := hk; omega)).it.key = key
      · obtain ⟨j, hj, hjk⟩ := hj
        exact ih j hj ⟨by obtain ⟨h, _⟩ := hk; omega, hjk⟩
      · obtain ⟨h, hkk⟩ := hk
        exact ⟨k, h, h, hkk, fun j hj' he => hj ⟨j, hj', he⟩⟩
  · refine .inl fun x hx he => ?_
    obtain ⟨k, hk, rfl⟩ := List.mem_iff_getElem.1 hx
    exact hex ⟨k, hk, he⟩
theorem First.has {ps : List PI} {key : Int} {k : Nat} (h : First ps key k) : hasKey (ps.map (·.it)) key = true := by
  obtain ⟨hk, hkk, _⟩ := h
  unfold hasKey
  rw [List.any_eq_true]
  exact ⟨ps[k].it, List.mem_map.2 ⟨ps[k], List.getElem_mem _, rfl⟩, by simpa using hkk⟩
theorem RawQ.bound {w : World} {g : Nat} {most : Int} {v : Value} {ps : List PI} (h : RawQ w g most v ps) (k : Nat) (hk : QF g v ps k) : k < w.heap.size := by
  rcases hk with (rfl | hk | ⟨x, hx, rfl⟩) | ⟨x, hx, hk⟩
  · exact blk_lt h.blk
  · exact own_lt h.row k hk
  · exact (h.its x hx).lt
  · exact own_lt (h.its x hx).row k hk
/-- A queue at block g, in the blocks F. -/
structure IsQ (w : World) (F : Nat → Prop) (g : Nat) (most : Int) (l : List It) : Prop where
  ex : ∃ v ps, RawQ w g most v ps ∧ ps.map (·.it) = l ∧ ∀ k, QF g v ps k → F k
/-- What a call that may write F makes of it: F'. -/
structure Turn (w w' : World) (F F' : Nat → Prop) : Prop where
  fr : Fr F w w'
  new : ∀ k, F' k → (F k ∨ w.heap.size ≤ k) ∧ k < w'.heap.size
def putQ (most : Int) (l : List It) (key : Int) (data : List Int) (times : Int) : Int × List It :=
  if times < 1 ∨ 1000 < times ∨ data.length = 0 then (1, l) else if hasKey l key = true then (0, putL l ⟨key, data, times⟩) else if (l.length : Int) = most then (4, l) else (0, putL l ⟨key, data, times⟩)
def PutPost (w : World) (F : Nat → Prop) (g : Nat) (most : Int) (r : Int × List It) (e : Ending) (w' : World) : Prop := e = .returned (.int .i64 r.1) ∧ ∃ F', IsQ w' F' g most r.2 ∧ Turn w w' F F'
theorem IsQ.below {w w' : World} {F : Nat → Prop} {g : Nat} {most : Int} {l : List It} (h : IsQ w F g most l) (hb : Below w.heap.size w w') : IsQ w' F g most l := by
  obtain ⟨v, ps, h1, h2, h3⟩ := h
  exact ⟨v, ps, h1.below hb, h2, h3⟩
theorem IsQ.frame {w w' : World} {S F : Nat → Prop} {g : Nat} {most : Int} {l : List It} (h : IsQ w F g most l) (hf : Fr S w w') (hd : ∀ k, F k → ¬ S k) : IsQ w' F g most l := by
  obtain ⟨v, ps, h1, h2, h3⟩ := h
  exact ⟨v, ps, h1.frame hf (fun k hk => hd k (h3 k hk)), h2, h3⟩
theorem put_any (w : World) (F : Nat → Prop) (g : Nat) (most : Int) (l : List It) (key : Int) (A : Option Addr) (c : Nat) (data : List Int) (times : Int) (hq : IsQ w F g most l) (h64 : l.length ≤ 4096)
    (hd : ∀ W, Fr F w W → ReadsInt W .u8 A data.length data) (h0 : 0 < data.length) (hl : data.length ≤ 140737488351232) (h1 : 1 ≤ times) (h2 : times ≤ 1000) :
    Calls Try.prog 26 #[.pointer (some ⟨g, 0, none⟩), .int .i64 key, .slice A data.length c, .int .i64 times] w (PutPost w F g most (putQ most l key data times)) := by
  obtain ⟨v, ps, hr, rfl, hF⟩ := hq
  have hlen : (ps.map (·.it)).length = ps.length := List.length_map ..
  rw [hlen] at h64
  have hQW : ∀ k, QW g v ps k → F k := fun k hk => hF k (.inl hk)
  have hd' : ∀ W, Fr (QW g v ps) w W → ReadsInt W .u8 A data.length data := fun W hW => hd W (hW.mono (fun k _ hk => hQW k hk))
  have hcond : ¬ (times < 1 ∨ 1000 < times ∨ data.length = 0) := by omega
  rcases first_or ps key with hno | ⟨k, hk, hf⟩
  · have hh := hasKey_no.1 hno
    by_cases hfull : (ps.length : Int) = most
    · refine (put_full w g most v ps key _ times hr hno hfull h64).mono fun e w' ⟨he, hb⟩ => ?_
      unfold PutPost putQ
      rw [if_neg hcond, hh, hlen, if_neg (by simp), if_pos hfull]
      exact ⟨he, QF g v ps, ⟨v, ps, hr.below hb, rfl, fun _ h => h⟩, Fr.of_below hb _, fun k hk => ⟨.inl (hF k hk), (hr.below hb).bound k hk⟩⟩
    · refine (put_new w g most v ps key A c data times hr hno hfull h64 hd' h0 hl).mono fun e w' ⟨he, v', x, hx, hp⟩ => ?_
      unfold PutPost putQ
      rw [if_neg hcond, hh, hlen, if_neg (by simp), if_neg hfull]
      refine ⟨he, QF g v' (ps ++ [x]), ⟨v', _, hp.raw, ?_, fun _ h => h⟩, hp.fr.mono (fun k _ hk => hQW k hk), fun k hk => ⟨(hp.new k hk).imp (hF k) id, hp.raw.bound k hk⟩⟩
      rw [putL_new _ _ (fun y hy => by obtain ⟨z, hz, rfl⟩ := List.mem_map.1 hy; exact hno z hz), List.map_append, ← hx]
      rfl
  · refine (put_old w g most v ps key A c data times k hk hr hf hd' h0 hl).mono fun e w' ⟨he, x, hx, hp⟩ => ?_
    unfold PutPost putQ
    rw [if_neg hcond, hf.has, if_pos rfl]
    refine ⟨he, QF g v (ps.set k x), ⟨v, _, hp.raw, ?_, fun _ h => h⟩, hp.fr.mono (fun k _ hk => hQW k hk), fun k hk => ⟨(hp.new k hk).imp (hF k) id, hp.raw.bound k hk⟩⟩
    rw [← hx]
    exact (putL_set ps k x (by rw [hx]; exact hf)).symm
set_option maxHeartbeats 1000000 in
theorem Put_arg (w : World) (g : Nat) (key : Int) (A : Option Addr) (n c : Nat) (times : Int) (h : times < 1 ∨ 1000 < times ∨ n = 0) :
    Calls Try.prog 12 #[.pointer (some ⟨g, 0, none⟩), .int .i64 key, .slice A n c, .int .i64 times] w fun e w' => e = .returned (.int .i64 1) ∧ w = w' := by
  by_cases h1 : times < 1
  · clear h
    go_enter Try.func12, Try.ntmps12
    go_wp2
    go_ret
    exact ⟨rfl, rfl⟩
  · by_cases h2 : 1000 < times
    · clear h
      go_enter Try.func12, Try.ntmps12
      go_wp2
      go_ret
      exact ⟨rfl, rfl⟩
    · obtain rfl : n = 0 := by omega
      clear h
      go_enter Try.func12, Try.ntmps12
      go_wp2
      go_ret
      exact ⟨rfl, rfl⟩
set_option maxHeartbeats 1000000 in
theorem Put_nil (w : World) (key : Int) (A : Option Addr) (n c : Nat) (times : Int) :
    Calls Try.prog 12 #[.pointer none, .int .i64 key, .slice A n c, .int .i64 times] w fun e w' => e = .returned (.int .i64 2) ∧ w = w' := by
  go_enter Try.func12, Try.ntmps12
  go_wp2
  go_ret
  exact ⟨rfl, rfl⟩
set_option maxHeartbeats 1000000 in
theorem Put_any (w : World) (F : Nat → Prop) (g : Nat) (most : Int) (l : List It) (key : Int) (A : Option Addr) (c : Nat) (data : List Int) (times : Int) (hq : IsQ w F g most l) (h64 : l.length ≤ 4096)
    (hd : ∀ W, Fr F w W → ReadsInt W .u8 A data.length data) (hl : data.length ≤ 140737488351232) :
    Calls Try.prog 12 #[.pointer (some ⟨g, 0, none⟩), .int .i64 key, .slice A data.length c, .int .i64 times] w (PutPost w F g most (putQ most l key data times)) := by
  by_cases h : times < 1 ∨ 1000 < times ∨ data.length = 0
  · refine (Put_arg w g key A _ c times h).mono fun e w' ⟨he, hw⟩ => ?_
    subst hw
    unfold PutPost putQ
    rw [if_pos h]
    obtain ⟨v, ps, hr, rfl, hF⟩ := hq
    exact ⟨he, QF g v ps, ⟨v, ps, hr, rfl, fun _ h => h⟩, Fr.refl _ _, fun k hk => ⟨.inl (hF k hk), hr.bound k hk⟩⟩
  · have h1 : ¬ times < 1 := fun h1 => h (.inl h1)
    have h2 : ¬ 1000 < times := fun h1 => h (.inr (.inl h1))
    have h3 : ¬ data.length = 0 := fun h1 => h (.inr (.inr h1))
    have hcon := put_any w F g most l key A c data times hq h64 hd (by omega) hl (by omega) (by omega)
    have h3' : ((data.length : Int) == 0) = false := by rw [beq_eq_false_iff_ne]; omega
    have HC := Aside0.mk hcon; clear hcon hq hd h
    go_enter Try.func12, Try.ntmps12
    go_wp2_with fail
    refine HC.out.mono ?_
    rintro e w' ⟨rfl, h⟩
    have HP := Aside0.mk h; clear h
    go_wp2
    go_ret
    exact ⟨rfl, HP.out⟩
/-- how often one is told still -/
def leftQ : List It → Int → Int
  | [], _ => 0
  | y :: r, key => if y.key = key then y.left else leftQ r key
theorem leftQ_no : ∀ (l : List It) (key : Int), (∀ y ∈ l, y.key ≠ key) → leftQ l key = 0
  | [], _, _ => rfl
  | y :: r, key, h => by simp only [leftQ, if_neg (h y (by simp)), leftQ_no r key (fun z hz => h z (by simp [hz]))]
theorem leftQ_at : ∀ (ps : List PI) (key : Int) (k : Nat), (h : First ps key k) → leftQ (ps.map (·.it)) key = (ps[k]'h.1).it.left
  | [], key, k, h => absurd h.1 (Nat.not_lt_zero _)
  | y :: r, key, 0, h => by
    have h1 : y.it.key = key := h.2.1
    simp [leftQ, h1]
  | y :: r, key, k + 1, h => by
    have h1 : y.it.key ≠ key := h.2.2 0 (by omega)
    have ih := leftQ_at r key k ⟨by simpa using h.1, by simpa using h.2.1, fun j hj => by have := h.2.2 (j + 1) (by omega); simpa using this⟩
    simp [leftQ, h1, ih]
set_option maxHeartbeats 1000000 in
theorem Left_nil (w : World) (key : Int) : Calls Try.prog 24 #[.pointer none, .int .i64 key] w fun e w' => e = .returned (.int .i64 0) ∧ w = w' := by
  go_enter Try.func24, Try.ntmps24
  go_wp2
  go_ret
  exact ⟨rfl, rfl⟩
set_option maxHeartbeats 1000000 in
theorem Left_any (w : World) (F : Nat → Prop) (g : Nat) (most key : Int) (l : List It) (hq : IsQ w F g most l) :
    Calls Try.prog 24 #[.pointer (some ⟨g, 0, none⟩), .int .i64 key] w fun e w' => e = .returned (.int .i64 (leftQ l key)) ∧ Below w.heap.size w w' := by
  obtain ⟨v, ps, hr, rfl, hF⟩ := hq
  have hcon := find_any w g most key v ps hr
  have HC := Aside0.mk hcon; clear hcon
  have HQ := Aside0.mk hr; clear hr
  obtain ⟨r, hr⟩ : ∃ r, r = leftQ (ps.map (·.it)) key := ⟨_, rfl⟩
  rw [← hr]
  have HR := Aside0.mk hr; clear hr
  go_enter Try.func24, Try.ntmps24
  go_wp2_with fail
  refine HC.out.mono ?_
  rintro e w1 ⟨A, rfl, hA, hb⟩
  rcases hA with ⟨rfl, hno⟩ | ⟨k, hk, rfl, hf⟩
  · obtain rfl : r = 0 := by rw [HR.out]; exact leftQ_no _ _ (fun y hy => by obtain ⟨z, hz, rfl⟩ := List.mem_map.1 hy; exact hno z hz)
    have HB := Aside0.mk hb; clear hb hno
    go_wp2
    go_ret
    exact ⟨rfl, HB.out⟩
  · have he := leftQ_at ps key k hf
    have hx := ((HQ.out.below hb).its ps[k] (List.getElem_mem _)).blk
    obtain ⟨k5, d5, f5⟩ := cells_of_blk hx
    have d2 := d5 2 (.int .i64 r) (by rw [HR.out, he]; rfl)
    obtain ⟨p, hp⟩ : ∃ p, p = ps[k].p := ⟨_, rfl⟩
    rw [← hp] at d2 ⊢
    have HB := Aside0.mk hb; clear hb hf he hx k5 d5 f5 hp
    go_wp2
    go_ret
    exact ⟨rfl, HB.out⟩
set_option maxHeartbeats 1000000 in
theorem Len_any (w : World) (F : Nat → Prop) (g : Nat) (most : Int) (l : List It) (hq : IsQ w F g most l) :
    Calls Try.prog 14 #[.pointer (some ⟨g, 0, none⟩)] w fun e w' => e = .returned (.int .i64 l.length) ∧ w = w' := by
  obtain ⟨v, ps, hr, rfl, hF⟩ := hq
  obtain ⟨A, c, rfl, _, _, _, _⟩ := hr.facts
  rw [List.length_map]
  exact len_ok g most A ps.length c w hr.blk
end Go.Proofs.Ytafkglhdpcmdbaa
