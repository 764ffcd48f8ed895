/- Gossip: what Room leans on, in plain lists. -/
import Derived.Test.YtafkglhdpcmdbaaR1
set_option linter.unusedSimpArgs false
set_option linter.unusedVariables false
namespace Go.Proofs.Ytafkglhdpcmdbaa
open Go.RowKit Go.Proofs.YtafkglhdpcmdbaaW.PrintWords
open T (S39)
theorem putL_keys : ∀ (l : List It) (x : It), hasKey l x.key = true → (putL l x).map (·.key) = l.map (·.key)
  | [], x, h => by simp [hasKey] at h
  | y :: r, x, h => by
    by_cases hy : y.key = x.key
    · simp [putL, hy]
    · have : hasKey r x.key = true := by simpa [hasKey, hy] using h
      simp [putL, hy, putL_keys r x this]
theorem putL_mem : ∀ (l : List It) (x y : It), y ∈ putL l x → y = x ∨ y ∈ l
  | [], x, y, h => by simp [putL] at h; exact .inl h
  | z :: r, x, y, h => by
    by_cases hz : z.key = x.key
    · simp only [putL, if_pos hz, List.mem_cons] at h
      exact h.imp id (fun h => List.mem_cons_of_mem _ h)
    · simp only [putL, if_neg hz, List.mem_cons] at h
      rcases h with rfl | h
      · exact .inr (by simp)
      · exact (putL_mem r x y h).imp id (fun h => List.mem_cons_of_mem _ h)
theorem hasKey_false {l : List It} {key : Int} (h : ¬ hasKey l key = true) : ∀ y ∈ l, y.key ≠ key := fun y hy he => h (by unfold hasKey; rw [List.any_eq_true]; exact ⟨y, hy, by simpa using he⟩)
theorem Good.put {l : List It} (h : Good l) (most key : Int) (data : List Int) (times : Int) (hl : data.length ≤ 140737488351232) (hn : l.length < 4096) : Good (putQ most l key data times).2 ∧ (putQ most l key data times).2.length ≤ l.length + 1 := by
  unfold putQ
  by_cases h1 : times < 1 ∨ 1000 < times ∨ data.length = 0
  · rw [if_pos h1]; exact ⟨h, Nat.le_succ _⟩
  · rw [if_neg h1]
    have hx : ∀ y ∈ putL l ⟨key, data, times⟩, 0 < y.data.length ∧ y.data.length ≤ 140737488351232 ∧ 1 ≤ y.left ∧ y.left ≤ 1000 := fun y hy => by
      rcases putL_mem _ _ _ hy with rfl | hy
      · simp only []; omega
      · exact h.each y hy
    by_cases h2 : hasKey l key = true
    · rw [if_pos h2]
      have hk := putL_keys l ⟨key, data, times⟩ h2
      have hlen : (putL l ⟨key, data, times⟩).length = l.length := by have := congrArg List.length hk; simpa using this
      exact ⟨⟨by rw [hk]; exact h.keys, by rw [hlen]; exact h.few, hx⟩, by rw [hlen]; exact Nat.le_succ _⟩
    · rw [if_neg h2]
      by_cases h3 : (l.length : Int) = most
      · rw [if_pos h3]; exact ⟨h, Nat.le_succ _⟩
      · rw [if_neg h3]
        have hno := hasKey_false h2
        have he := putL_new l ⟨key, data, times⟩ hno
        refine ⟨⟨?_, ?_, hx⟩, ?_⟩
        · rw [he, List.map_append, List.nodup_append]
          refine ⟨h.keys, by simp, fun a ha b hb => ?_⟩
          obtain ⟨y, hy, rfl⟩ := List.mem_map.1 ha
          simp at hb
          subst hb
          exact hno y hy
        · rw [he]; simp; omega
        · rw [he]; simp
theorem Good.nil : Good [] := ⟨by simp, by simp, fun x hx => by simp at hx⟩
/-- each fits into what is left of the room -/
def Fits : Int → List S39 → Prop
  | _, [] => True
  | room, t :: r => (t.f1.length : Int) ≤ room ∧ Fits (room - t.f1.length) r
theorem pickI_fits : ∀ (l : List It) (room : Int), Fits room (pickI room l).1 ∧ ((pickI room l).1.map (·.f0)).Sublist (l.map (·.key)) ∧ (room < 0 → (pickI room l).1 = [])
  | [], room => ⟨trivial, List.Sublist.refl _, fun _ => rfl⟩
  | x :: r, room => by
    by_cases h : tells room x
    · obtain ⟨h1, h2, _⟩ := pickI_fits r (room - x.data.length)
      simp only [pickI, if_pos h]
      refine ⟨⟨h, h1⟩, List.Sublist.cons_cons _ h2, fun hr => ?_⟩
      unfold tells at h
      omega
    · obtain ⟨h1, h2, h3⟩ := pickI_fits r room
      simp only [pickI, if_neg h]
      exact ⟨h1, List.Sublist.cons _ h2, h3⟩
theorem pickQ_fits {l : List It} (h : Good l) (room : Int) : Fits room (pickQ l room).1 ∧ ((pickQ l room).1.map (·.f0)).Nodup ∧ (pickQ l room).1.length ≤ l.length ∧ (room < 0 → (pickQ l room).1 = []) := by
  obtain ⟨h1, h2, h3⟩ := pickI_fits (sortQ l) room
  have hp := sortQ_perm l
  refine ⟨h1, h2.nodup ((hp.map _).nodup_iff.2 h.keys), ?_, h3⟩
  have := h2.length_le
  rw [List.length_map, List.length_map, hp.length_eq] at this
  exact this
/-- the room that is left behind the first k -/
def roomAt : Int → List S39 → Nat → Int
  | room, _, 0 => room
  | room, [], _ + 1 => room
  | room, t :: r, k + 1 => roomAt (room - t.f1.length) r k
theorem fits_at : ∀ (T : List S39) (room : Int) (k : Nat) (h : k < T.length), Fits room T → (T[k].f1.length : Int) ≤ roomAt room T k ∧ roomAt room T (k + 1) = roomAt room T k - T[k].f1.length
  | t :: r, room, 0, _, hf => ⟨hf.1, by cases r <;> rfl⟩
  | t :: r, room, k + 1, h, hf => by
    have := fits_at r (room - t.f1.length) k (by simpa using h) hf.2
    simpa [roomAt] using this
theorem roomAt_le : ∀ (T : List S39) (room : Int) (k : Nat), roomAt room T k ≤ room
  | [], room, 0 => Int.le_refl _
  | [], room, _ + 1 => Int.le_refl _
  | t :: r, room, 0 => Int.le_refl _
  | t :: r, room, k + 1 => by have := roomAt_le r (room - t.f1.length) k; simp only [roomAt]; omega
end Go.Proofs.Ytafkglhdpcmdbaa
