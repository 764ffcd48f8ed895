/- Gossip: Pick. -/
import Derived.Test.YtafkglhdpcmdbaaG11
set_option linter.unusedSimpArgs false
set_option linter.unusedVariables false
namespace Go.Proofs.Ytafkglhdpcmdbaa
open Go.RowKit Go.Proofs.YtafkglhdpcmdbaaW.PrintWords
open T (S39 k39 k39_mkM)
def It.told (x : It) : It := ⟨x.key, x.data, x.left - 1⟩
/-- what is told of a list within a room, and what is left of it -/
def pickI : Int → List It → List S39 × List It
  | _, [] => ([], [])
  | room, x :: r => if tells room x then (⟨x.key, x.data⟩ :: (pickI (room - x.data.length) r).1, x.told :: (pickI (room - x.data.length) r).2) else ((pickI room r).1, x :: (pickI room r).2)
theorem pickP_I : ∀ (ps : List PI) (room : Int), (pickP room ps).1 = (pickI room (ps.map (·.it))).1 ∧ (pickP room ps).2.map (·.it) = (pickI room (ps.map (·.it))).2
  | [], _ => ⟨rfl, rfl⟩
  | x :: r, room => by
    by_cases h : tells room x.it
    · obtain ⟨h1, h2⟩ := pickP_I r (room - x.it.data.length)
      simp only [pickP, pickI, List.map_cons, if_pos h, h1, h2]
      exact ⟨trivial, rfl⟩
    · obtain ⟨h1, h2⟩ := pickP_I r room
      simp only [pickP, pickI, List.map_cons, if_neg h, h1, h2]
      exact ⟨trivial, trivial⟩
def keepI (x : It) : Bool := !decide (x.left = 0)
def pickQ (l : List It) (room : Int) : List S39 × List It := ((pickI room (sortQ l)).1, (pickI room (sortQ l)).2.filter keepI)
structure Good (l : List It) : Prop where
  keys : (l.map (·.key)).Nodup
  few : l.length ≤ 4096
  each : ∀ x ∈ l, 0 < x.data.length ∧ x.data.length ≤ 140737488351232 ∧ 1 ≤ x.left ∧ x.left ≤ 1000
def PickedPost (w : World) (F : Nat → Prop) (g : Nat) (most : Int) (r : List S39 × List It) (e : Ending) (w' : World) : Prop := ∃ v, e = .returned v ∧ k39.R 39 w' w.heap.size (fun k => w.heap.size ≤ k) v r.1 ∧ IsQ w' F g most r.2 ∧ Fr F w w'
set_option maxHeartbeats 1000000 in
theorem Pick_nil (w : World) (room : Int) : Calls Try.prog 15 #[.pointer none, .int .i64 room] w fun e w' => e = .returned (.slice none 0 0) ∧ w = w' := by
  go_enter Try.func15, Try.ntmps15
  go_wp2
  go_ret
  exact ⟨rfl, rfl⟩
set_option maxHeartbeats 1000000 in
theorem Pick_any (w : World) (F : Nat → Prop) (g : Nat) (most : Int) (l : List It) (room : Int) (hq : IsQ w F g most l) (hF : ∀ k, F k → k < w.heap.size) (hg : Good l) (hroom : room ≤ 9223372036854775807) :
    Calls Try.prog 15 #[.pointer (some ⟨g, 0, none⟩), .int .i64 room] w (PickedPost w F g most (pickQ l room)) := by
  obtain ⟨v, ps, hr, rfl, hFq⟩ := hq
  have hb : Below w.heap.size w (w.alloc (.cells #[.slice none 0 0] 36)) := below_alloc (Below.refl _ _) _
  have hcon := pick_any (w.alloc (.cells #[.slice none 0 0] 36)) w.heap.size w.heap.size g most v ps room (hr.below hb) (by have := hg.keys; rwa [List.map_map] at this) (by have := hg.few; rwa [List.length_map] at this) (fun x hx => hg.each x.it (List.mem_map.2 ⟨x, hx, rfl⟩)) (fun j hj => hr.bound j hj) (Nat.le_refl _) (heap_alloc_new w _) hroom
  have HC := Aside0.mk hcon; clear hcon
  have HQ := Aside0.mk hr; have HF := Aside0.mk hFq; have HG := Aside0.mk hg; clear hr hFq hg hF hb
  go_enter Try.func15, Try.ntmps15
  go_wp2_with fail
  refine HC.out.mono ?_
  rintro e w1 ⟨ps0, hperm, hsort, hpost⟩
  obtain ⟨rfl, v', vl, hr', hl', hn', hf', hs'⟩ := hpost
  obtain ⟨A1, c1, rfl⟩ : ∃ A c, vl = .slice A (pickP room ps0).1.length c := by
    obtain ⟨inner, ho⟩ := Kd.R_own hn'
    exact own_slice ho
  have c0 := blk_cell hl' 0
  have HP := Aside0.mk (And.intro hr' (And.intro hn' (And.intro hf' (And.intro hs' hsort)))); clear hr' hl' hn' hf' hs' hsort hperm
  go_wp2
  go_ret
  obtain ⟨hr', hn', hf', hs', hsort⟩ := HP.out
  obtain ⟨p1, p2⟩ := pickP_I ps0 room
  rw [hsort] at p1 p2
  refine ⟨_, rfl, ?_, ⟨v', _, hr', ?_, fun k hk => HF.out k (hs' k hk)⟩, ?_⟩
  · show k39.R 39 w1 w.heap.size _ _ (pickI room (sortQ (ps.map (·.it)))).1
    rw [← p1]
    exact Kd.R_mono hn' (fun k hk => hk.1)
  · show _ = (pickI room (sortQ (ps.map (·.it)))).2.filter keepI
    rw [← p2, List.filter_map]
    rfl
  · exact ((Fr.refl F w).alloc _).trans hf' (fun k hk => hk.elim (fun h => .inl (HF.out k (.inl h))) .inr)
end Go.Proofs.Ytafkglhdpcmdbaa
