/- Gossip: the queue sorted. -/
import Derived.Test.YtafkglhdpcmdbaaG6
set_option linter.unusedSimpArgs false
set_option linter.unusedVariables false
namespace Go.Proofs.Ytafkglhdpcmdbaa
open Go.RowKit Go.Proofs.YtafkglhdpcmdbaaW.PrintWords
open Go.Sort (SWO)
theorem sortWorld_fr {α : Type} [Inhabited α] (enc : α → Value) (w : World) (blk off m : Nat) (dk : Array α) (os : Array Obj) : Fr (fun k => k = blk) w (sortWorld enc w blk off m dk os) := by
  refine ⟨rfl, rfl, rfl, ?_, fun k hk hn => ?_⟩
  · show w.heap.size ≤ (w.heap.modify blk _ ++ os).size
    simp
  · show (w.heap.modify blk _ ++ os)[k]? = _
    rw [Array.getElem?_append, if_pos (by simpa using hk), Array.getElem?_modify, if_neg (fun h => hn h.symm)]
theorem sortWorld_row {α : Type} [Inhabited α] (enc : α → Value) (w : World) (blk m : Nat) (dk : Array α) (os : Array Obj) {cur : Array Value} {e : TypeId} {fr : Nat × Nat} (hb : w.heap[blk]? = some (.cells cur e fr)) :
    (sortWorld enc w blk 0 m dk os).heap[blk]? = some (.cells (Go.Sort.putCells enc 0 dk cur) e fr) := by
  show (w.heap.modify blk _ ++ os)[blk]? = _
  have hlt := blk_lt hb
  rw [Array.getElem?_append, if_pos (by simpa using hlt), Array.getElem?_modify, if_pos rfl, hb]
  rfl
theorem putCells_take {α : Type} [Inhabited α] (enc : α → Value) (dk : Array α) (cur : Array Value) (h : dk.size ≤ cur.size) : (Go.Sort.putCells enc 0 dk cur).toList.take dk.size = dk.toList.map enc := by
  apply List.ext_getElem?
  intro i
  rw [List.getElem?_take, List.getElem?_map]
  by_cases hi : i < dk.size
  · rw [if_pos hi, Array.getElem?_toList, Go.Sort.putCells, Array.getElem?_mapIdx, Array.getElem?_eq_getElem (by omega)]
    simp [hi]
  · rw [if_neg hi]
    simp [hi]
theorem cmpIt_lt (a b : It) : cmpIt a b < 0 ↔ b.left < a.left ∨ (b.left = a.left ∧ a.key < b.key) := by
  unfold cmpIt or2 cmpI
  by_cases h1 : b.left < a.left
  · simp [h1]
  · by_cases h2 : a.left < b.left
    · simp [h1, h2]; omega
    · have : b.left = a.left := by omega
      by_cases h3 : a.key < b.key
      · simp [h1, h2, h3, this]
      · by_cases h4 : b.key < a.key <;> simp [h1, h2, h3, h4, this]
/-- how they are told: more times first, then by key -/
def before (a b : It) : Bool := decide (b.left < a.left ∨ (b.left = a.left ∧ a.key < b.key))
theorem ltOf_cmpIt {α : Type} (f : α → It) (x y : α) : ltOf (fun x y => cmpIt (f x) (f y)) x y = before (f x) (f y) := by
  unfold ltOf before
  rw [decide_eq_decide]
  exact cmpIt_lt _ _
theorem swo_it {α : Type} (f : α → It) : SWO (ltOf (fun x y => cmpIt (f x) (f y))) where
  irrefl x := by rw [ltOf_cmpIt]; unfold before; simp
  trans x y z h1 h2 := by rw [ltOf_cmpIt] at *; unfold before at *; simp at *; omega
  ntrans x y z h1 h2 := by rw [ltOf_cmpIt] at *; unfold before at *; simp at *; omega
def sortQ (l : List It) : List It := l.mergeSort (fun x y => !before y x)
theorem eg34 : ∀ args w, (callFunc 34 args).run Try.prog w = .ok (.enter 34 args) w := enters_of Try.func34 (by kernel_rfl) rfl
theorem finRange_map {α : Type} (l : List α) : (List.finRange l.length).map (fun i => l[i]) = l := by
  apply List.ext_getElem (by simp)
  intro i h1 h2
  simp
theorem sort_any (w : World) (g : Nat) (most : Int) (v : Value) (ps : List PI) (hq : RawQ w g most v ps) (hk : (ps.map (·.it.key)).Nodup) (h64 : ps.length ≤ 4096) :
    Calls Try.prog 33 #[v, .func (.func 34) #[] #[]] w fun e w' => e = .returned (.tuple #[]) ∧ ∃ ps', ps'.Perm ps ∧ ps'.map (·.it) = sortQ (ps.map (·.it)) ∧ RawQ w' g most v ps' ∧ Fr (fun k => v.ownBlock = some k) w w' := by
  rcases hq.shape with ⟨rfl, rfl⟩ | ⟨b, c, cur, rfl, hb, h1, h2, h3, hc⟩
  · refine (AnyF.slices_SortFunc_none { Try.sortL with } none 0 _ w).mono fun e w' ⟨he, hw⟩ => ?_
    subst hw
    exact ⟨he, [], .refl _, by simp [sortQ], hq, Fr.refl _ _⟩
  · by_cases h0 : ps.length = 0
    · obtain rfl := List.eq_nil_of_length_eq_zero h0
      refine (AnyF.slices_SortFunc_none { Try.sortL with } _ c _ w).mono fun e w' ⟨he, hw⟩ => ?_
      subst hw
      exact ⟨he, [], .refl _, by simp [sortQ], hq, Fr.refl _ _⟩
    · letI : Inhabited (Fin ps.length) := ⟨⟨0, by omega⟩⟩
      have hz : ∀ j (hj : j < ps.length), (List.finRange ps.length).toArray[j]! = ⟨j, hj⟩ := fun j hj => by
        rw [getElem!_pos _ j (by simpa using hj)]; simp
      have hsz : (List.finRange ps.length).toArray.size = ps.length := by simp
      have hcon := Any.slices_SortFunc_total Try.sortL (fun i : Fin ps.length => ptr ps[i].p) (fun _ => rfl) (fun i j => cmpIt ps[i].it ps[j].it) (swo_it (fun i : Fin ps.length => ps[i].it)) 34 #[] b 0 c (List.finRange ps.length).toArray w eg34
        (fun m os dk hs x y => by
          have hf := sortWorld_fr (fun i : Fin ps.length => ptr ps[i].p) w b 0 m dk os
          have hap : ∀ i : Fin ps.length, ps[i].p ≠ b := fun i h => (hq.it_apart (List.getElem_mem i.2)).1 (.inr (by simp [Value.ownBlock]; exact h.symm))
          have hx := hf.blk (hq.its ps[x] (List.getElem_mem _)).blk (hap x)
          have hy := hf.blk (hq.its ps[y] (List.getElem_mem _)).blk (hap y)
          exact (pick1 ps[x] ps[y] _ (blk_cell hx 0) (blk_cell hx 2) (blk_cell hy 0) (blk_cell hy 2)).mono fun e w' ⟨he, hg⟩ => ⟨he, hg⟩)
        (fun j hj => by
          rw [hsz] at hj
          rw [hz j hj, Nat.zero_add]
          exact ⟨hc j hj, blk_frozen hb j⟩)
        (blk_lt hb) (by rw [hsz]; omega)
        (fun x y hx hy => by
          rw [ltOf_cmpIt (fun i : Fin ps.length => ps[i].it)] at hx hy
          unfold before at hx hy
          simp at hx hy
          have hkk : ps[x].it.key = ps[y].it.key := by simp; omega
          have := (List.getElem_inj (xs := ps.map (·.it.key)) (i := x) (j := y) (h₀ := by simp) (h₁ := by simp) hk).1 (by simpa using hkk)
          exact Fin.ext this)
      rw [hsz] at hcon
      refine hcon.mono fun e w' ⟨he, n, os, hw⟩ => ?_
      obtain ⟨D, hD⟩ : ∃ D, D = (List.finRange ps.length).mergeSort fun x y => !ltOf (fun i j : Fin ps.length => cmpIt ps[i].it ps[j].it) y x := ⟨_, rfl⟩
      rw [← hD] at hw
      have hperm : D.Perm (List.finRange ps.length) := by rw [hD]; exact List.mergeSort_perm _ _
      have hlen : D.length = ps.length := by rw [hperm.length_eq]; simp
      have hps : (D.map fun i => ps[i]).Perm ps := by
        have := hperm.map (fun i : Fin ps.length => ps[i])
        have h2 : (List.finRange ps.length).map (fun i => ps[i]) = ps := finRange_map ps
        rwa [h2] at this
      have hf := sortWorld_fr (fun i : Fin ps.length => ptr ps[i].p) w b 0 n D.toArray os
      have hrow := sortWorld_row (fun i : Fin ps.length => ptr ps[i].p) w b n D.toArray os hb
      have hbg : b ≠ g := blk_ne hb hq.blk (by decide)
      subst hw
      refine ⟨he, D.map fun i => ps[i], hps, ?_, ⟨hf.blk hq.blk (fun h => hbg h.symm), ?_, fun y hy => ?_, ?_⟩, hf.mono (fun k _ h => by subst h; simp [Value.ownBlock])⟩
      · rw [List.map_map]
        have h5 : (List.finRange ps.length).map (fun i : Fin ps.length => ps[i].it) = ps.map (·.it) := by
          have h2 : (List.finRange ps.length).map (fun i => ps[i]) = ps := finRange_map ps
          have := congrArg (List.map (·.it)) h2
          simpa [List.map_map, Function.comp_def] using this
        have h6 := List.map_mergeSort (r := fun x y => !ltOf (fun i j : Fin ps.length => cmpIt ps[i].it ps[j].it) y x) (s := fun x y => !before y x) (f := fun i : Fin ps.length => ps[i].it) (l := List.finRange ps.length) (fun a _ b _ => by rw [ltOf_cmpIt (fun i : Fin ps.length => ps[i].it)])
        rw [h5, ← hD] at h6
        exact h6
      · refine ⟨by simp [hlen], .inr ⟨b, c, _, by simp [hlen], Nat.zero_le _, hrow, by simp [hlen]; omega, h2, by simp [Go.Sort.putCells, h3], ?_⟩⟩
        have h7 := putCells_take (fun i : Fin ps.length => ptr ps[i].p) D.toArray cur (by simp [hlen]; omega)
        simp only [List.size_toArray] at h7
        rw [List.length_map, Nat.mul_one, h7, List.map_map]
        rfl
      · have hy' : y ∈ ps := hps.mem_iff.1 hy
        exact (hq.its y hy').frame hf (fun h => (hq.it_apart hy').1 (.inr (by simp [Value.ownBlock]; exact h.symm))) (fun k hk h => (hq.it_apart hy').2 k hk (.inr (by simp [Value.ownBlock]; exact h.symm)))
      · exact ((hps.map (·.p)).nodup_iff).2 hq.nodup
end Go.Proofs.Ytafkglhdpcmdbaa
