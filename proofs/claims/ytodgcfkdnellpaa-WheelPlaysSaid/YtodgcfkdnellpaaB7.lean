/- Wheel: slices.Clone and slices.SortFunc. -/
import Derived.Test.YtodgcfkdnellpaaB4
import Derived.Test.YtodgcfkdnellpaaA9
set_option linter.unusedSimpArgs false
set_option linter.unusedVariables false
namespace Go.Proofs.Ytodgcfkdnellpaa
open Go.RowKit Go.Proofs.YtodgcfkdnellpaaW.PrintWords
open Go.Sort (SWO flatK size_flatK)
theorem own_base' {w : World} {base n : Nat} {v : Value} {xs : List Value} (h : w.ownsRow base 33 2 v n xs) : ∀ b, v.ownBlock = some b → base ≤ b := fun b hb => (h.lt b hb).1
def ClonePost (w : World) (l : List Du) (e : Ending) (w' : World) : Prop := ∃ v', e = .returned v' ∧ ORow w' v' l ∧ Below w.heap.size w w' ∧ ∀ b, v'.ownBlock = some b → w.heap.size ≤ b
theorem clone_any (w : World) (v : Value) (l : List Du) (h : ORow w v l) (hl : l.length ≤ 4096) : Calls Try.prog 29 #[v] w (ClonePost w l) := by
  have hh := h
  rcases h with ⟨rfl, rfl⟩ | ⟨b, off, c, cur, rfl, hb, h1, h2, h3, h4⟩
  · refine (AnyE.slices_Clone_nil Try.cloneL 0 0 w).mono fun e w' ⟨he, hw⟩ => ?_
    subst hw
    exact ⟨_, he, ORow.nil _, Below.refl _ _, fun b hb => by cases hb⟩
  · obtain ⟨i0, hi, hzz⟩ := Option.map_eq_some_iff.1 info33
    simp only [Prod.mk.injEq] at hzz
    obtain ⟨hz0, hz1, hz2⟩ := hzz
    have hcon := AnyE.slices_Clone Try.cloneL i0 _ 2 16 hi hz0 hz1 hz2 rfl (by decide) Try.sizeOf33 b off l.length c (cellsL l) w (cellsL_length l) (by unfold maxLen; omega) (by omega) (fun j u hu => hh.cell j u hu) (cellsL_one l)
    exact hcon.mono fun e w' ⟨v', he, hown, _, hb⟩ => ⟨v', he, ORow.of (own_less hown (Nat.zero_le _)), hb, own_base' hown⟩
theorem sortK_fr {α : Type} [Inhabited α] (enc : α → List Value) (k : Nat) (w : World) (blk off m : Nat) (dk : Array α) (os : Array Obj) : Fr (fun k => k = blk) w (sortWorldK enc k w blk off m dk os) := by
  refine ⟨rfl, rfl, rfl, ?_, fun k hk hn => ?_⟩
  · show w.heap.size ≤ (w.heap.modify blk _ ++ os).size
    simp
  · show (w.heap.modify blk _ ++ os)[k]? = _
    rw [Array.getElem?_append, if_pos (by simpa using hk), Array.getElem?_modify, if_neg (fun h => hn h.symm)]
theorem sortK_row {α : Type} [Inhabited α] (enc : α → List Value) (k : Nat) (w : World) (blk off m : Nat) (dk : Array α) (os : Array Obj) {cur : Array Value} {e : TypeId} {fr : Nat × Nat} (hb : w.heap[blk]? = some (.cells cur e fr)) :
    (sortWorldK enc k w blk off m dk os).heap[blk]? = some (.cells (Go.Sort.putCells id off (flatK enc k dk) cur) e fr) := by
  show (w.heap.modify blk _ ++ os)[blk]? = _
  have hlt := blk_lt hb
  rw [Array.getElem?_append, if_pos (by simpa using hlt), Array.getElem?_modify, if_pos rfl, hb]
  rfl
theorem putCells_seg (off : Nat) (dk : Array Value) (cur : Array Value) (h : off + dk.size ≤ cur.size) : ((Go.Sort.putCells id off dk cur).toList.drop off).take dk.size = dk.toList := by
  apply List.ext_getElem?
  intro i
  rw [List.getElem?_take]
  by_cases hi : i < dk.size
  · rw [if_pos hi, List.getElem?_drop, Array.getElem?_toList, Go.Sort.putCells, Array.getElem?_mapIdx, Array.getElem?_eq_getElem (by omega)]
    simp [hi]
  · rw [if_neg hi]
    simp; omega
theorem flatK_cells (D : List Du) : (flatK Du.cells 2 D.toArray).toList = cellsL D := by
  apply List.ext_getElem?
  intro t
  by_cases ht : t < D.length * 2
  · have h1 : (flatK Du.cells 2 D.toArray).toList[t]? = some ((Du.cells (D.toArray[t / 2]!))[t % 2]!) := by
      unfold flatK
      simp [ht]
    have hd : t / 2 < D.length := by omega
    rw [h1, getElem!_pos D.toArray (t / 2) (by simpa using hd)]
    obtain ⟨g1, g2⟩ := cellsL_at D (t / 2) hd
    rcases (by omega : t % 2 = 0 ∨ t % 2 = 1) with e | e
    · rw [e]
      have : t = t / 2 * 2 := by omega
      conv => rhs; rw [this, g1]
      rfl
    · rw [e]
      have : t = t / 2 * 2 + 1 := by omega
      conv => rhs; rw [this, g2]
      rfl
  · rw [List.getElem?_eq_none (by rw [Array.length_toList, size_flatK]; simpa using ht), List.getElem?_eq_none (by rw [cellsL_length]; omega)]
theorem ltOf_cmpDu (x y : Du) : ltOf cmpDu x y = before x y := by
  unfold ltOf
  cases h : before x y with
  | true => simpa using (cmpDu_lt x y).2 h
  | false =>
    have : ¬ cmpDu x y < 0 := fun h2 => by rw [(cmpDu_lt x y).1 h2] at h; cases h
    simpa using this
theorem swo_du : SWO (ltOf cmpDu) where
  irrefl x := by rw [ltOf_cmpDu]; exact before_irrefl x
  trans x y z h1 h2 := by rw [ltOf_cmpDu] at *; exact before_trans h1 h2
  ntrans x y z h1 h2 := by rw [ltOf_cmpDu] at *; unfold before at *; simp at *; omega
theorem eg32 : ∀ args w, (callFunc 32 args).run Try.prog w = .ok (.enter 32 args) w := enters_of Try.func32 (by kernel_rfl) rfl
def sortL (l : List Du) : List Du := l.mergeSort (fun x y => !before y x)
def SortPost (w : World) (v : Value) (l : List Du) (e : Ending) (w' : World) : Prop := e = .returned (.tuple #[]) ∧ ORow w' v (sortL l) ∧ Fr (fun k => v.ownBlock = some k) w w'
theorem sort_any (w : World) (v : Value) (l : List Du) (h : ORow w v l) (hl : l.length ≤ 8192) : Calls Try.prog 31 #[v, .func (.func 32) #[] #[]] w (SortPost w v l) := by
  by_cases h0 : l.length = 0
  · obtain rfl := List.eq_nil_of_length_eq_zero h0
    obtain ⟨a, c, hv, _, _⟩ := h.len
    subst hv
    refine (AnyF.slices_SortFunc_none { Try.sortL with } a c _ w).mono fun e w' ⟨he, hw⟩ => ?_
    subst hw
    exact ⟨he, by simpa [sortL] using h, Fr.refl _ _⟩
  · have hh := h
    rcases h with ⟨rfl, rfl⟩ | ⟨b, off, c, cur, rfl, hb, h1, h2, h3, h4⟩
    · simp at h0
    · have hcon := AnyQ.slices_SortFunc_total Try.sortL 2 (fun w => by kernel_rfl) (fun w => by kernel_rfl) Du.cells (fun _ => rfl) (fun x v hv => by
          simp [Du.cells] at hv
          rcases hv with rfl | rfl <;> rfl) cmpDu swo_du 32 #[] b off c l.toArray w eg32
        (fun m os dk hs x y => (order_any x y _).mono fun e w' ⟨he, hg⟩ => ⟨he, hg⟩)
        (fun j hj => by
          have hj' : j < l.length * 2 := by simpa using hj
          have e1 : (flatK Du.cells 2 l.toArray)[j]! = (cellsL l)[j]'(by rw [cellsL_length]; exact hj') := by
            rw [getElem!_pos _ j (by simpa using hj')]
            have := flatK_cells l
            have h5 : (flatK Du.cells 2 l.toArray).toList[j]? = (cellsL l)[j]? := by rw [this]
            rw [Array.getElem?_toList, Array.getElem?_eq_getElem (by simpa using hj'), List.getElem?_eq_getElem (by rw [cellsL_length]; exact hj')] at h5
            injection h5
          refine ⟨?_, blk_frozen hb _⟩
          rw [e1]
          exact hh.cell j _ (List.getElem?_eq_getElem _))
        (blk_lt hb) (by simp; omega)
        (fun x y hx hy => by
          rw [ltOf_cmpDu] at hx hy
          unfold before at hx hy
          simp at hx hy
          cases x; cases y; simp at *; omega)
      have e2 : (l.toArray).size = l.length := by simp
      rw [e2] at hcon
      refine hcon.mono fun e w' ⟨he, n, os, hw⟩ => ?_
      have e3 : (l.toArray.toList.mergeSort fun x y => !ltOf cmpDu y x) = sortL l := by
        unfold sortL
        congr 1
        funext x y
        rw [ltOf_cmpDu]
      rw [e3] at hw
      have hsl : (sortL l).length = l.length := (List.mergeSort_perm _ _).length_eq
      have hf := sortK_fr Du.cells 2 w b off n (sortL l).toArray os
      have hrow := sortK_row Du.cells 2 w b off n (sortL l).toArray os hb
      subst hw
      have hfs : (flatK Du.cells 2 (sortL l).toArray).size = l.length * 2 := by simp [hsl]
      refine ⟨he, .inr ⟨b, off, c, _, by rw [hsl], hrow, by rw [hsl]; exact h1, h2, by simpa [Go.Sort.putCells] using h3, ?_⟩, hf.mono (fun k _ h => by subst h; rfl)⟩
      have h7 := putCells_seg off (flatK Du.cells 2 (sortL l).toArray) cur (by rw [hfs]; omega)
      rw [hfs] at h7
      rw [hsl, h7, flatK_cells]
end Go.Proofs.Ytodgcfkdnellpaa
