/- Store: New, Sweep. -/
import Derived.Test.YtinfafnpbalihaaSB
set_option linter.unusedSimpArgs false
set_option linter.unusedVariables false
namespace Go.Proofs.Ytinfafnpbalihaa
open Go.RowKit Go.Maps Go.WideMaps Go.Proofs.YtinfafnpbalihaaW.PrintWords
def liveM (M : List Pn) (n : Int) : List Pn := M.filter (fun x => x.live n)
theorem SweepK.mk1 {w w1 : World} {g bm bu : Nat} {most : Int} {c : Nat} {M M' : List Pn} {U : Int → Int → Option Int} (h : IsS w g bm bu most c M U) (hp : PinsIs w1 bm c M') (hg : w.grownBy w1 (some bm)) : IsS w1 g bm bu most c M' U := by
  have hf : Fr (fun k => k = bm) w w1 := (Fr.of_grown hg).mono (fun k _ hk => (Option.some.inj hk).symm)
  exact ⟨hf.blk h.blk h.gm.1, hp, h.use.fr hf h.ne.symm, h.ne⟩
def SweepPost (w : World) (g bm bu : Nat) (most : Int) (c : Nat) (M : List Pn) (U : Int → Int → Option Int) (n : Int) (e : Ending) (w' : World) : Prop :=
  (∃ k : Int, e = .returned (.int .i64 k)) ∧ IsS w' g bm bu most c (liveM M n) U ∧ Fr (Maps2 bm bu) w w'
set_option maxHeartbeats 1000000 in
set_option maxRecDepth 100000 in
theorem sweep_any (w : World) (g bm bu : Nat) (most : Int) (c : Nat) (M : List Pn) (U : Int → Int → Option Int) (n : Int) (h : IsS w g bm bu most c M U) (hc : c < 1000000) :
    Calls Try.prog 19 #[.pointer (some ⟨g, 0, none⟩), .int .i64 n] w (SweepPost w g bm bu most c M U n) := by
  have b1 := below_alloc (Below.refl w.heap.size w) (.cells #[.int .i64 n] 2)
  have h1 := h.below b1
  have c1 := h1.c1
  obtain ⟨D, hown, hD⟩ := h1.pins
  have hne : w.heap.size ≠ bm := fun e => by have := h.pins.lt; omega
  have H := delete_any (w.alloc (.cells #[.int .i64 n] 2)) bm c w.heap.size M n h1.pins ((blk_cell (heap_alloc_new w _) 0).trans rfl) hne
  have h2 := h1.gm
  have HA := Aside0.mk (And.intro h1 (And.intro hc b1))
  have hk := hD.size
  have hs : Maps.size D ≤ c := hown.size_le
  clear h h1 hc hne b1 hD
  go_enter Try.func19, Try.ntmps19
  go_wp2_with (first
    | (at_len; refine wpList_len_own _ rfl _ 61 rfl 33 38 Try.underlying61 RP bm c D rfl hown ?_)
    | (refine H.mono ?_; rintro e w1 ⟨rfl, hp1, hg1⟩; have HS1 := Aside0.mk (SweepK.mk1 HA.out.1 hp1 hg1); have c1' := HS1.out.c1; (obtain ⟨D1, hown1, hD1⟩ := hp1); have hk1 := hD1.size; have hs1 : Maps.size D1 ≤ c := hown1.size_le; have hg1 := Aside0.mk hg1; clear H hown c1 hD1)
    | (at_len; refine wpList_len_own _ rfl _ 61 rfl 33 38 Try.underlying61 RP bm c D1 rfl hown1 ?_))
  go_ret
  exact ⟨⟨_, rfl⟩, HS1.out, (Fr.of_below HA.out.2.2 _).trans (S1 := fun k => k = bm) ((Fr.of_grown hg1.out).mono (fun k _ hk => (Option.some.inj hk).symm)) (fun k hk => .inl (.inl hk))⟩
theorem IsS.new (w : World) (n : Int) : IsS (((w.alloc (.map #[] 0)).alloc (.map #[] 0)).alloc (.cells #[.int .i64 n, .map (some w.heap.size), .map (some (w.heap.size + 1))] 64)) (w.heap.size + 2) w.heap.size (w.heap.size + 1) n 0 [] (fun _ _ => none) := by
  have e1 : (w.alloc (.map #[] 0)).heap.size = w.heap.size + 1 := size_alloc1 _ _
  have e2 : ((w.alloc (.map #[] 0)).alloc (.map #[] 0)).heap.size = w.heap.size + 2 := by rw [size_alloc1, e1]
  have h1 := World.ownsMap_made w Try.prog 33 RP
  have h2 := World.ownsMap_made (H := Nat) (w.alloc (.map #[] 0)) Try.prog 73 (plainElem Try.prog 2)
  rw [e1] at h2
  have h3 := heap_alloc_new ((w.alloc (.map #[] 0)).alloc (.map #[] 0)) (.cells #[.int .i64 n, .map (some w.heap.size), .map (some (w.heap.size + 1))] 64)
  rw [e2] at h3
  exact ⟨h3, ⟨_, (h1.alloc _).alloc _, rfl, fun kl hk => by simp [Maps.has] at hk, fun x hx => (List.not_mem_nil hx).elim, List.nodup_nil, fun x hx => (List.not_mem_nil hx).elim⟩, ⟨_, h2.alloc _, fun b g _ _ => rfl, fun b g _ _ => rfl⟩, by omega⟩
def NewPost (w : World) (n : Int) (e : Ending) (w' : World) : Prop := e = .returned (.tuple #[.pointer (some ⟨w.heap.size + 2, 0, none⟩), .int .i64 0]) ∧ IsS w' (w.heap.size + 2) w.heap.size (w.heap.size + 1) n 0 [] (fun _ _ => none) ∧ Below w.heap.size w w'
set_option maxHeartbeats 1000000 in
set_option maxRecDepth 100000 in
theorem new_any (w : World) (n : Int) (h1 : 1 ≤ n) (h2 : n ≤ 256) : Calls Try.prog 7 #[.int .i64 n] w (NewPost w n) := by
  have hmm := @run_makeMap Try.prog
  go_enter Try.func7, Try.ntmps7
  go_wp2
  refine bodyPost_ret (v := .tuple #[.pointer (some ⟨w.heap.size + 2, 0, none⟩), .int .i64 0]) (by simp [results, Try.results7, go_sem]) rfl ?_
  exact ⟨rfl, IsS.new w n, (((Below.refl _ _).alloc (Nat.le_refl _) _).alloc (by rw [size_alloc1]; omega) _).alloc (by rw [size_alloc1, size_alloc1]; omega) _⟩
end Go.Proofs.Ytinfafnpbalihaa
