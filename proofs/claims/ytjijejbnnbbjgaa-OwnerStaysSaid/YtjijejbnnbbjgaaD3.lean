/- A row of claims of the call's own, ahead of the library's sort and behind it. -/
import Derived.Sort.OwnSortedInts
import Derived.Lib.Hide
import Derived.Laws.OwnMore
import Derived.Shelf.GgSortFunc.RowK
import Derived.Shelf.GgSortFunc.InsertionK
set_option linter.unusedSimpArgs false
set_option linter.unusedVariables false
namespace Go.Proofs.Ytjijejbnnbbjgaa
open Go.Sort Go.Proofs Go.ChangeShapes Go.WideShapes
def encC (x : Int × Int) : List Value := [.int .u64 x.1, .int .i64 x.2]
def flatC (l : List (Int × Int)) : List Value := l.flatMap encC
theorem flatC_cons (x : Int × Int) (l : List (Int × Int)) : flatC (x :: l) = .int .u64 x.1 :: .int .i64 x.2 :: flatC l := rfl
theorem flatC_len (l : List (Int × Int)) : (flatC l).length = l.length * 2 := by
  induction l with
  | nil => rfl
  | cons x r ih => rw [flatC_cons]; simp only [List.length_cons, ih]; omega
theorem flatC_at (l : List (Int × Int)) : ∀ k x, l[k]? = some x → (flatC l)[k * 2]? = some (.int .u64 x.1) ∧ (flatC l)[k * 2 + 1]? = some (.int .i64 x.2) := by
  induction l with
  | nil => intro k x h; simp at h
  | cons y r ih =>
    intro k x h
    cases k with
    | zero => simp at h; subst h; exact ⟨rfl, rfl⟩
    | succ k =>
      have h2 := ih k x (by simpa using h)
      have e : (k + 1) * 2 = k * 2 + 2 := by omega
      rw [e, flatC_cons]
      simpa using h2
theorem flatK_list (l : List (Int × Int)) : (flatK encC 2 l.toArray).toList = flatC l := by
  apply List.ext_getElem?
  intro t
  by_cases ht : t < l.length * 2
  · obtain ⟨q, r, hr, rfl⟩ : ∃ q r, r < 2 ∧ t = q * 2 + r := ⟨t / 2, t % 2, by omega, by omega⟩
    have hq : q < l.length := by omega
    have e2 : (q * 2 + r) / 2 = q := by omega
    have e3 : (q * 2 + r) % 2 = r := by omega
    have hs : q * 2 + r < (flatK encC 2 l.toArray).size := by rw [size_flatK]; simpa using ht
    have h1 := get_flatK encC 2 l.toArray (q * 2 + r) (by simpa using ht)
    have e1 : (l.toArray)[q]! = l[q] := by rw [getElem!_pos l.toArray q (by simpa using hq)]; simp
    rw [getElem!_pos (flatK encC 2 l.toArray) (q * 2 + r) hs, e2, e3, e1] at h1
    rw [Array.getElem?_toList, Array.getElem?_eq_getElem hs, h1]
    have h2 := flatC_at l q _ (List.getElem?_eq_getElem hq)
    rcases (by omega : r = 0 ∨ r = 1) with rfl | rfl
    · rw [Nat.add_zero, h2.1]; rfl
    · rw [h2.2]; rfl
  · rw [List.getElem?_eq_none (by simp; omega), List.getElem?_eq_none (by rw [flatC_len]; omega)]
theorem holds_id {w : World} {g : Nat} {cur : Array Value} {e : TypeId} {F : Array Value} (hb : w.heap[g]? = some (.cells cur e (0, 0))) (ht : cur.toList.take F.size = F.toList) : Holds id w g 0 F := by
  intro j hj
  refine ⟨?_, by simp [World.frozen?, hb]⟩
  have h1 : (cur.toList.take F.size)[j]? = F.toList[j]? := by rw [ht]
  rw [List.getElem?_take_of_lt hj] at h1
  simp only [World.cell?, hb, Nat.zero_add]
  simp only [Option.isSome_none, Bool.false_eq_true, if_false]
  rw [← Array.getElem?_toList, h1, Array.getElem?_toList, Array.getElem?_eq_getElem hj, getElem!_pos F j hj]
  rfl
theorem heap_sorted_id {w : World} {g n : Nat} {os : Array Obj} {cur : Array Value} {e : TypeId} {fr : Nat × Nat} (F : Array Value) (hb : w.heap[g]? = some (.cells cur e fr)) :
    (grow (putRow id (Sort.ahead w n) g 0 F) os).heap[g]? = some (.cells (putCells id 0 F cur) e fr) := by
  have hg : g < w.heap.size := (Array.getElem?_eq_some_iff.1 hb).1
  rw [heap_grow_old _ _ (by simpa using hg)]
  simp [putRow, mapBlock, Sort.ahead, Array.getElem?_modify, hb, onCells]
theorem grownBy_sorted_id {w : World} {g n : Nat} {os : Array Obj} (F : Array Value) : w.grownBy (grow (putRow id (Sort.ahead w n) g 0 F) os) (some g) := by
  refine ⟨rfl, rfl, rfl, by simp, fun k hk hne => ?_⟩
  rw [heap_grow_old _ _ (by simpa using hk)]
  have : g ≠ k := fun e => hne (by rw [e])
  simp [putRow, mapBlock, Sort.ahead, Array.getElem?_modify, this]
theorem take_putCells_id (cur F : Array Value) (h : F.size ≤ cur.size) : (putCells id 0 F cur).toList.take F.size = F.toList := by
  apply List.ext_getElem?
  intro j
  by_cases hj : j < F.size
  · rw [List.getElem?_take_of_lt hj, Array.getElem?_toList, Array.getElem?_toList]
    simp [putCells, hj, show j < cur.size by omega]
  · rw [List.getElem?_take_eq_none (by omega), List.getElem?_eq_none (by simp; omega)]
theorem holds_claims {w : World} {g : Nat} {cur : Array Value} {l : List (Int × Int)} (hb : w.heap[g]? = some (.cells cur 44 (0, 0))) (ht : cur.toList.take (l.length * 2) = flatC l) : HoldsK encC 2 w g 0 l.toArray := by
  refine holds_id hb ?_
  rw [flatK_list, size_flatK]; exact ht
/-- BEHIND THE SORT the same slice owns the sorted claims; nothing but its block has turned, and new blocks. -/
theorem owns_sorted {w : World} {base g cap n : Nat} {os : Array Obj} {cur : Array Value} {l m : List (Int × Int)} (hl : m.length = l.length) (hbase : base ≤ g) (hb : w.heap[g]? = some (.cells cur 44 (0, 0)))
    (h1 : l.length ≤ cap) (h2 : cap ≤ maxLen) (h3 : cur.size = cap * 2) :
    (sortWorldK encC 2 w g 0 n m.toArray os).ownsRow base 44 2 (.slice (some ⟨g, 0, none⟩) l.length cap) l.length (flatC m) ∧ w.grownBy (sortWorldK encC 2 w g 0 n m.toArray os) (some g) := by
  have hs : (flatK encC 2 m.toArray).size = l.length * 2 := by rw [size_flatK]; simp [hl]
  refine ⟨⟨by rw [flatC_len, hl], .inr ⟨g, cap, _, rfl, hbase, heap_sorted_id _ hb, h1, h2, by simp [putCells, h3], ?_⟩⟩, grownBy_sorted_id _⟩
  rw [← hs, take_putCells_id _ _ (by rw [hs, h3]; omega), flatK_list]
end Go.Proofs.Ytjijejbnnbbjgaa
