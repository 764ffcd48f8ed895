/- Gossip: the queue as it lies in memory; find. -/
import Derived.Test.YtafkglhdpcmdbaaG2
import Derived.Test.YtafkglhdpcmdbaaH
set_option linter.unusedSimpArgs false
set_option linter.unusedVariables false
namespace Go.Proofs.Ytafkglhdpcmdbaa
open Go.RowKit Go.Proofs.YtafkglhdpcmdbaaW.PrintWords
/-- News that wait. -/
structure It where
  key : Int
  data : List Int
  left : Int
/-- .. at a block p, the bytes told by v. -/
structure PI where
  p : Nat
  v : Value
  it : It
def ptr (b : Nat) : Value := .pointer (some ⟨b, 0, none⟩)
structure PI.Is (w : World) (x : PI) : Prop where
  blk : w.heap[x.p]? = some (.cells #[.int .i64 x.it.key, x.v, .int .i64 x.it.left] 72 (0, 0))
  row : w.ownsRow 0 5 1 x.v x.it.data.length (nums .u8 x.it.data)
structure RawQ (w : World) (g : Nat) (most : Int) (v : Value) (ps : List PI) : Prop where
  blk : w.heap[g]? = some (.cells #[.int .i64 most, v] 63 (0, 0))
  row : w.ownsRow 0 69 1 v ps.length (ps.map fun x => ptr x.p)
  its : ∀ x ∈ ps, x.Is w
  nodup : (ps.map (·.p)).Nodup
/-- what a queue's calls may write -/
def QW (g : Nat) (v : Value) (ps : List PI) (k : Nat) : Prop := k = g ∨ v.ownBlock = some k ∨ ∃ x ∈ ps, k = x.p
/-- what it leads to -/
def QF (g : Nat) (v : Value) (ps : List PI) (k : Nat) : Prop := QW g v ps k ∨ ∃ x ∈ ps, x.v.ownBlock = some k
theorem PI.Is.frame {w w1 : World} {S : Nat → Prop} {x : PI} (h : x.Is w) (hf : Fr S w w1) (h1 : ¬ S x.p) (h2 : ∀ k, x.v.ownBlock = some k → ¬ S k) : x.Is w1 := ⟨hf.blk h.blk h1, hf.own h.row h2⟩
theorem RawQ.frame {w w1 : World} {S : Nat → Prop} {g : Nat} {most : Int} {v : Value} {ps : List PI} (h : RawQ w g most v ps) (hf : Fr S w w1) (hs : ∀ k, QF g v ps k → ¬ S k) : RawQ w1 g most v ps :=
  ⟨hf.blk h.blk (hs _ (.inl (.inl rfl))), hf.own h.row (fun k hk => hs k (.inl (.inr (.inl hk)))), fun x hx => (h.its x hx).frame hf (hs _ (.inl (.inr (.inr ⟨x, hx, rfl⟩)))) (fun k hk => hs k (.inr ⟨x, hx, hk⟩)), h.nodup⟩
theorem RawQ.below {w w1 : World} {g : Nat} {most : Int} {v : Value} {ps : List PI} (h : RawQ w g most v ps) (hb : Below w.heap.size w w1) : RawQ w1 g most v ps := h.frame (Fr.of_below hb SNo) (fun _ _ h => h)
theorem PI.Is.lt {w : World} {x : PI} (h : x.Is w) : x.p < w.heap.size := blk_lt h.blk
/-- the row's shape -/
theorem RawQ.shape {w : World} {g : Nat} {most : Int} {v : Value} {ps : List PI} (h : RawQ w g most v ps) : (v = .slice none 0 0 ∧ ps = []) ∨ ∃ b c cur, v = .slice (some ⟨b, 0, none⟩) ps.length c ∧ w.heap[b]? = some (.cells cur 69 (0, 0)) ∧ ps.length ≤ c ∧ c ≤ maxLen ∧ cur.size = c ∧ (∀ j (hj : j < ps.length), w.cell? ⟨b, j, none⟩ = some (ptr ps[j].p)) := by
  rcases h.row.2 with ⟨hv, hn⟩ | ⟨b, c, cur, hv, _, hb, h1, h2, h3, h4⟩
  · exact .inl ⟨hv, List.eq_nil_of_length_eq_zero hn⟩
  · refine .inr ⟨b, c, cur, hv, hb, h1, h2, by omega, fun j hj => ?_⟩
    rw [blk_cell hb j]
    have h5 : (cur.toList.take (ps.length * 1))[j]? = (ps.map fun x => ptr x.p)[j]? := by rw [h4]
    rw [List.getElem?_take, if_pos (by omega), Array.getElem?_toList, List.getElem?_map, List.getElem?_eq_getElem hj] at h5
    exact h5
theorem eg40 : ∀ args w, (callFunc 40 args).run Try.prog w = .ok (.enter 40 args) w := enters_of Try.func40 (by kernel_rfl) rfl
/-- the library's IndexFunc with find's closure: -1, or the first place -/
theorem index_any (w : World) (g : Nat) (most key : Int) (v : Value) (ps : List PI) (kb : Nat) (hq : RawQ w g most v ps) (hk : w.cell? ⟨kb, 0, none⟩ = some (.int .i64 key)) :
    Calls Try.prog 39 #[v, .func (.func 40) #[] #[.pointer (some ⟨kb, 0, none⟩)]] w fun e w' => ∃ r : Int, e = .returned (.int .i64 r) ∧ (∃ q, w' = w.drewN q) ∧ ((r = -1 ∧ ∀ x ∈ ps, x.it.key ≠ key) ∨ ∃ k, ∃ h : k < ps.length, r = k ∧ ps[k].it.key = key ∧ ∀ j (hj : j < k), (ps[j]'(by omega)).it.key ≠ key) := by
  rcases hq.shape with ⟨rfl, rfl⟩ | ⟨b, c, cur, rfl, hb, h1, h2, h3, hc⟩
  · exact (AnyE.slices_IndexFunc_empty Try.indexL none 0 _ w).mono fun e w' ⟨he, hw⟩ => ⟨-1, he, ⟨0, hw⟩, .inl ⟨rfl, fun x hx => by simp at hx⟩⟩
  · by_cases h0 : ps.length = 0
    · obtain rfl := List.eq_nil_of_length_eq_zero h0
      exact (AnyE.slices_IndexFunc_empty Try.indexL _ c _ w).mono fun e w' ⟨he, hw⟩ => ⟨-1, he, ⟨0, hw⟩, .inl ⟨rfl, fun x hx => by simp at hx⟩⟩
    · letI : Inhabited (Fin ps.length) := ⟨⟨0, by omega⟩⟩
      have hz : ∀ j (hj : j < ps.length), (List.finRange ps.length)[j]! = ⟨j, hj⟩ := fun j hj => by
        rw [getElem!_pos _ j (by simpa using hj)]; simp
      have hcon := AnyE.slices_IndexFunc Try.indexL (fun i : Fin ps.length => ptr ps[i].p) (fun i => decide (ps[i].it.key = key)) 40 #[.pointer (some ⟨kb, 0, none⟩)] eg40 b 0 ps.length c (List.finRange ps.length) w
        (fun W x hB => by
          have hx := (hq.its ps[x] (List.getElem_mem _)).blk
          have hx0 : W.cell? ⟨ps[x].p, 0, none⟩ = some (.int .i64 ps[x].it.key) := (hB.cell (p := ⟨ps[x].p, 0, none⟩) (blk_lt hx)).trans (blk_cell hx 0)
          exact find1 kb ps[x].p key ps[x].it.key W ((hB.cell (p := ⟨kb, 0, none⟩) (World.block_lt_of_cell? w _ hk)).trans hk) hx0)
        (by simp) (by unfold maxLen at h2; omega) (fun j hj => by
          have hj' : j < ps.length := by simpa using hj
          rw [hz j hj', Nat.zero_add]; exact hc j hj')
      refine hcon.mono fun e w' ⟨he, hw⟩ => ⟨_, he, hw, ?_⟩
      rw [List.take_of_length_le (by simp)]
      by_cases hex : ∃ k, ∃ h : k < ps.length, ps[k].it.key = key
      · obtain ⟨k, hk, hkk, hmin⟩ : ∃ k, ∃ h : k < ps.length, ps[k].it.key = key ∧ ∀ j (hj : j < k), (ps[j]'(by omega)).it.key ≠ key := by
          obtain ⟨k, hk⟩ := hex
          induction k using Nat.strongRecOn with
          | _ k ih =>
            by_cases hj : ∃ j, ∃ h : j < k, (ps[j]'(by obtain ⟨h, _⟩ := hk; omega)).it.key = key
            · obtain ⟨j, hj, hjk⟩ := hj
              exact ih j hj ⟨by obtain ⟨h, _⟩ := hk; omega, hjk⟩
            · obtain ⟨h, hkk⟩ := hk
              exact ⟨k, h, hkk, fun j hj' he => hj ⟨j, hj', he⟩⟩
        refine .inr ⟨k, hk, ?_, hkk, hmin⟩
        have := Lib.idxBy_hit (fun _ y : Fin ps.length => decide (ps[y].it.key = key)) (List.finRange ps.length) ps.length k default hk (by simp) (by rw [hz k hk]; simpa using hkk) (fun j hj => by rw [hz j (by omega)]; simpa using hmin j hj)
        rwa [List.take_of_length_le (by simp)] at this
      · have hno : ∀ k (h : k < ps.length), ps[k].it.key ≠ key := fun k h he => hex ⟨k, h, he⟩
        refine .inl ⟨?_, fun x hx => by obtain ⟨k, h, rfl⟩ := List.mem_iff_getElem.1 hx; exact hno k h⟩
        exact Lib.idxByFrom_miss _ _ _ _ (fun j hj => by have hj' : j < ps.length := (by simpa using hj); rw [hz j hj']; simpa using hno j hj')
/-- the first item under a key -/
def First (ps : List PI) (key : Int) (k : Nat) : Prop := ∃ h : k < ps.length, ps[k].it.key = key ∧ ∀ j (hj : j < k), (ps[j]'(by omega)).it.key ≠ key
def NoKey (ps : List PI) (key : Int) : Prop := ∀ x ∈ ps, x.it.key ≠ key
def Found (ps : List PI) (key : Int) (A : Option Addr) : Prop := (A = none ∧ NoKey ps key) ∨ ∃ k, ∃ h : k < ps.length, A = some ⟨ps[k].p, 0, none⟩ ∧ First ps key k
set_option maxHeartbeats 1000000 in
theorem find_any (w : World) (g : Nat) (most key : Int) (v : Value) (ps : List PI) (hq : RawQ w g most v ps) :
    Calls Try.prog 32 #[.pointer (some ⟨g, 0, none⟩), .int .i64 key] w fun e w' => ∃ A, e = .returned (.pointer A) ∧ Found ps key A ∧ Below w.heap.size w w' := by
  obtain ⟨hg, hgc, hgf⟩ := cells_of_blk hq.blk
  have hc1 := hgc 1 v rfl
  clear hgc hgf
  have hcon := index_any (w.alloc (.cells #[.int .i64 key] 3)) g most key v ps w.heap.size (hq.below (below_alloc (Below.refl _ _) _)) (by simp)
  have HQ := Aside0.mk hq; clear hq
  have HC := Aside0.mk hcon; clear hcon
  go_enter Try.func32, Try.ntmps32
  go_wp2_with fail
  refine HC.out.mono ?_
  rintro e w' ⟨r, rfl, ⟨q, rfl⟩, hr⟩
  rcases hr with ⟨rfl, hno⟩ | ⟨k, hk, rfl, hkk, hmin⟩
  · have HN := Aside0.mk hno; clear hno
    go_wp2
    go_ret
    exact ⟨none, rfl, .inl ⟨rfl, HN.out⟩, pw_below_drewN ((Below.refl _ _).alloc (Nat.le_refl _) _) q⟩
  · have HF := Aside0.mk (show First ps key k from ⟨hk, hkk, hmin⟩); clear hkk hmin
    rcases HQ.out.shape with ⟨rfl, rfl⟩ | ⟨b, c, cur, rfl, hb, h1, h2, h3, hc⟩
    · exact absurd hk (Nat.not_lt_zero _)
    have hck := hc k hk
    clear hc
    obtain ⟨P, hP⟩ : ∃ P, P = ps[k].p := ⟨_, rfl⟩
    rw [← hP] at hck
    have HP := Aside0.mk hP; clear hP
    unfold ptr at hck
    unfold maxLen at h2
    have hbw := blk_lt hb
    clear hb
    go_wp2
    go_ret
    exact ⟨_, rfl, .inr ⟨k, hk, by rw [HP.out], HF.out⟩, pw_below_drewN ((Below.refl _ _).alloc (Nat.le_refl _) _) q⟩
end Go.Proofs.Ytafkglhdpcmdbaa
