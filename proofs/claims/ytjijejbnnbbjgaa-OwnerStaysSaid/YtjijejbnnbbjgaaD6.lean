/- Plain: a row of claims, sorted by counting, is the sorted row. -/
import Derived.Test.YtjijejbnnbbjgaaD5
set_option linter.unusedSimpArgs false
set_option linter.unusedVariables false
namespace Go.Proofs.Ytjijejbnnbbjgaa
def leC (x y : Int × Int) : Bool := !(ltC y x)
theorem leC_trans (a b c : Int × Int) (h1 : leC a b = true) (h2 : leC b c = true) : leC a c = true := by
  unfold leC at *
  have a1 : ¬ ltC b a = true := by simpa using h1
  have a2 : ¬ ltC c b = true := by simpa using h2
  rw [ltC_iff] at a1 a2
  have : ¬ ltC c a = true := by rw [ltC_iff]; omega
  simpa using this
theorem leC_total (a b : Int × Int) : (leC a b || leC b a) = true := by
  unfold leC
  by_cases h : ltC b a = true
  · have h1 := (ltC_iff b a).1 h
    have : ¬ ltC a b = true := by rw [ltC_iff]; omega
    simp at this; simp [this]
  · simp at h; simp [h]
theorem ltC_of_ne {a b : Int × Int} (h : leC a b = true) (hne : a ≠ b) : ltC a b = true := by
  unfold leC at h
  have a1 : ¬ ltC b a = true := by simpa using h
  rw [ltC_iff] at a1 ⊢
  obtain ⟨a1', a2'⟩ := a; obtain ⟨b1', b2'⟩ := b
  simp at a1 hne ⊢
  by_cases e : a1' = b1'
  · have := hne e; omega
  · omega
theorem ltC_asymm {a b : Int × Int} (h : ltC a b = true) : ltC b a = false := by
  have h1 := (ltC_iff a b).1 h
  have : ¬ ltC b a = true := by rw [ltC_iff]; omega
  simpa using this
theorem ltC_irrefl (a : Int × Int) : ltC a a = false := by
  have : ¬ ltC a a = true := by rw [ltC_iff]; omega
  simpa using this
def sortC (cl : List (Int × Int)) : List (Int × Int) := cl.mergeSort fun x y => !(ltC y x)
theorem sortC_perm (cl : List (Int × Int)) : (sortC cl).Perm cl := List.mergeSort_perm _ _
theorem sortC_sorted (cl : List (Int × Int)) : (sortC cl).Pairwise (fun a b => leC a b = true) :=
  List.pairwise_mergeSort (le := leC) leC_trans leC_total cl
theorem sortC_strict {cl : List (Int × Int)} (hn : cl.Nodup) : (sortC cl).Pairwise (fun a b => ltC a b = true) := by
  have h1 := sortC_sorted cl
  have h2 : (sortC cl).Nodup := (sortC_perm cl).nodup_iff.mpr hn
  exact List.Pairwise.imp₂ (fun a b hab hne => ltC_of_ne hab hne) h1 h2
theorem strict_count {s : List (Int × Int)} (h : s.Pairwise (fun a b => ltC a b = true)) (p : Nat) (hp : p < s.length) : s.countP (fun z => ltC z s[p]) = p := by
  have e : s = s.take p ++ s[p] :: s.drop (p + 1) := by
    rw [← List.drop_eq_getElem_cons hp, List.take_append_drop]
  have hall := List.pairwise_iff_getElem.mp h
  have h1 : (s.take p).countP (fun z => ltC z s[p]) = p := by
    have hl : (s.take p).length = p := by simp; omega
    rw [List.countP_eq_length.mpr]
    · exact hl
    · intro z hz
      obtain ⟨i, hi, rfl⟩ := List.mem_iff_getElem.mp hz
      rw [List.getElem_take]
      exact hall i p (by omega) hp (by omega)
  have h2 : (s[p] :: s.drop (p + 1)).countP (fun z => ltC z s[p]) = 0 := by
    rw [List.countP_eq_zero]
    intro z hz
    rcases List.mem_cons.mp hz with rfl | hz
    · simp [ltC_irrefl]
    · obtain ⟨i, hi, rfl⟩ := List.mem_iff_getElem.mp hz
      rw [List.getElem_drop]
      have := hall p (p + 1 + i) hp (by simp at hi; omega) (by omega)
      simp [ltC_asymm this]
  have h3 : s.countP (fun z => ltC z s[p]) = (s.take p ++ s[p] :: s.drop (p + 1)).countP (fun z => ltC z s[p]) := by rw [← e]
  rw [h3, List.countP_append, h1, h2, Nat.add_zero]
theorem fold_set {cnt : Int × Int → Nat} {x : Int × Int} {p : Nat} (hx : cnt x = p) : ∀ (l : List (Int × Int)) (out : List Int), (∀ y ∈ l, cnt y = p → y = x) → p < out.length → (x ∈ l ∨ out[p]? = some x.2) →
    (l.foldl (fun o y => o.set (cnt y) y.2) out)[p]? = some x.2
  | [], out, _, _, h => by rcases h with h | h; (cases h); exact h
  | y :: r, out, hu, hp, h => by
    rw [List.foldl_cons]
    refine fold_set hx r _ (fun z hz => hu z (List.mem_cons_of_mem _ hz)) (by simpa using hp) ?_
    by_cases hy : cnt y = p
    · have := hu y List.mem_cons_self hy
      subst this
      right; rw [hy]; simp [hp]
    · rcases h with h | h
      · rcases List.mem_cons.mp h with rfl | h
        · exact absurd hx hy
        · exact .inl h
      · right; rw [List.getElem?_set_ne (by omega)]; exact h
theorem fold_len (cnt : Int × Int → Nat) : ∀ (l : List (Int × Int)) (out : List Int), (l.foldl (fun o y => o.set (cnt y) y.2) out).length = out.length
  | [], _ => rfl
  | y :: r, out => by rw [List.foldl_cons, fold_len cnt r]; simp
/-- By counting: each claim is laid at the number of those that stand ahead of it. -/
theorem counting {cl : List (Int × Int)} (hn : cl.Nodup) (out : List Int) (ho : out.length = cl.length) :
    cl.foldl (fun o y => o.set (cl.countP fun z => ltC z y) y.2) out = (sortC cl).map (·.2) := by
  have hp := sortC_perm cl
  have hs := sortC_strict hn
  have hc : ∀ q (hq : q < (sortC cl).length), cl.countP (fun z => ltC z (sortC cl)[q]) = q := fun q hq => by
    rw [← hp.countP_eq]; exact strict_count hs q hq
  apply List.ext_getElem?
  intro p
  by_cases h : p < cl.length
  · have hps : p < (sortC cl).length := by rw [hp.length_eq]; exact h
    rw [fold_set (cnt := fun y => cl.countP fun z => ltC z y) (x := (sortC cl)[p]) (p := p) (hc p hps) cl out ?_ (by omega) (.inl (hp.mem_iff.mp (List.getElem_mem hps)))]
    · rw [List.getElem?_map, List.getElem?_eq_getElem hps]; rfl
    · intro y hy hcy
      obtain ⟨q, hq, rfl⟩ := List.mem_iff_getElem.mp (hp.mem_iff.mpr hy)
      have := hc q hq
      have e : q = p := by omega
      subst e; rfl
  · rw [List.getElem?_eq_none (by rw [fold_len]; omega), List.getElem?_eq_none (by simp [hp.length_eq]; omega)]
theorem count_lt {cl : List (Int × Int)} {y : Int × Int} (hy : y ∈ cl) : cl.countP (fun z => ltC z y) < cl.length := by
  have h1 : cl.countP (fun z => ltC z y) ≤ cl.length := List.countP_le_length
  have h2 : cl.countP (fun z => ltC z y) ≠ cl.length := fun e => by
    have := List.countP_eq_length.mp e y hy
    rw [ltC_irrefl] at this; cases this
  omega
end Go.Proofs.Ytjijejbnnbbjgaa
