/- Gossip: pick: parts. -/
import Derived.Test.YtafkglhdpcmdbaaG9
set_option linter.unusedSimpArgs false
set_option linter.unusedVariables false
namespace Go.Proofs.Ytafkglhdpcmdbaa
open Go.RowKit Go.Proofs.YtafkglhdpcmdbaaW.PrintWords
open T (S39 k39 k39_mkM)
/-- a queue's blocks are of four types -/
theorem RawQ.types {w : World} {g : Nat} {most : Int} {v : Value} {ps : List PI} (h : RawQ w g most v ps) (k : Nat) (hk : QF g v ps k) : ∃ cs t, w.heap[k]? = some (.cells cs t (0, 0)) ∧ (t = 63 ∨ t = 69 ∨ t = 72 ∨ t = 5) := by
  rcases hk with (rfl | hk | ⟨x, hx, rfl⟩) | ⟨x, hx, hk⟩
  · exact ⟨_, _, h.blk, .inl rfl⟩
  · obtain ⟨cs, hc⟩ := own_typed h.row k hk; exact ⟨cs, _, hc, .inr (.inl rfl)⟩
  · exact ⟨_, _, (h.its x hx).blk, .inr (.inr (.inl rfl))⟩
  · obtain ⟨cs, hc⟩ := own_typed (h.its x hx).row k hk; exact ⟨cs, _, hc, .inr (.inr (.inr rfl))⟩
def PI.told (x : PI) : PI := ⟨x.p, x.v, ⟨x.it.key, x.it.data, x.it.left - 1⟩⟩
theorem RawQ.tell1 {w : World} {g : Nat} {most : Int} {v : Value} {ps : List PI} (hq : RawQ w g most v ps) {k : Nat} (hk : k < ps.length) : RawQ (w.setCell ⟨ps[k].p, 2, none⟩ (.int .i64 (ps[k].it.left - 1))) g most v (ps.set k ps[k].told) := by
  have hx := hq.its ps[k] (List.getElem_mem _)
  have hF : Fr (fun j => j = ps[k].p) w (w.setCell ⟨ps[k].p, 2, none⟩ (.int .i64 (ps[k].it.left - 1))) := (Fr.refl (fun j => j = ps[k].p) _).setCell (p := ⟨ps[k].p, 2, none⟩) (.inl rfl) _
  have hap := hq.it_apart (List.getElem_mem hk)
  have hP6 := blk_set hx.blk 2 (.int .i64 (ps[k].it.left - 1))
  have hV6 := own_setCell hx.row (p := ⟨ps[k].p, 2, none⟩) (own_ne hx.row hx.blk (by decide)) (.int .i64 (ps[k].it.left - 1))
  have hmap : (ps.set k ps[k].told).map (·.p) = ps.map (·.p) := by
    rw [List.map_set]
    apply List.ext_getElem (by simp)
    intro n h1 h2
    rw [List.getElem_set]
    split
    · subst_vars; simp [PI.told]
    · rfl
  refine ⟨hF.blk hq.blk (fun h => hap.1 (.inl h.symm)), ?_, ?_, by rw [hmap]; exact hq.nodup⟩
  · have := hF.own hq.row (fun j hj he => hap.1 (.inr (by rw [← he]; exact hj)))
    rw [List.length_set]
    have h2 : (ps.set k ps[k].told).map (fun x => ptr x.p) = ps.map (fun x => ptr x.p) := by
      have := congrArg (List.map ptr) hmap
      simpa [List.map_map, Function.comp_def] using this
    rw [h2]
    exact this
  · intro y hy
    obtain ⟨n, hn, rfl⟩ := List.mem_iff_getElem.1 hy
    rw [List.length_set] at hn
    rw [List.getElem_set]
    split
    · rename_i he
      subst he
      exact ⟨by simpa [PI.told] using hP6, hV6⟩
    · rename_i he
      refine (hq.its ps[n] (List.getElem_mem _)).frame hF (fun h => he (nodup_p hq.nodup hn hk h).symm) (fun j hj h => ?_)
      subst h
      exact own_ne (hq.its ps[n] (List.getElem_mem _)).row hx.blk (by decide) hj.symm
theorem QF_set {g : Nat} {v : Value} {ps : List PI} {k : Nat} (hk : k < ps.length) (j : Nat) (h : QF g v (ps.set k ps[k].told) j) : QF g v ps j := by
  have hmem : ∀ x, x ∈ ps.set k ps[k].told → ∃ y ∈ ps, x.p = y.p ∧ x.v = y.v := fun x hx => by
    rcases List.mem_or_eq_of_mem_set hx with h | rfl
    · exact ⟨x, h, rfl, rfl⟩
    · exact ⟨ps[k], List.getElem_mem _, rfl, rfl⟩
  rcases h with (rfl | h | ⟨x, hx, rfl⟩) | ⟨x, hx, h⟩
  · exact .inl (.inl rfl)
  · exact .inl (.inr (.inl h))
  · obtain ⟨y, hy, h1, _⟩ := hmem x hx; exact .inl (.inr (.inr ⟨y, hy, h1⟩))
  · obtain ⟨y, hy, _, h2⟩ := hmem x hx; exact .inr ⟨y, hy, by rw [← h2]; exact h⟩
def tells (room : Int) (x : It) : Prop := (x.data.length : Int) ≤ room
instance (room : Int) (x : It) : Decidable (tells room x) := by unfold tells; infer_instance
/-- what is told of a list within a room, and what is left of it -/
def pickP : Int → List PI → List S39 × List PI
  | _, [] => ([], [])
  | room, x :: r => if tells room x.it then (⟨x.it.key, x.it.data⟩ :: (pickP (room - x.it.data.length) r).1, x.told :: (pickP (room - x.it.data.length) r).2) else ((pickP room r).1, x :: (pickP room r).2)
/-- DeleteFunc, whatever the row -/
theorem delete_all (w : World) (g : Nat) (most : Int) (v : Value) (ps : List PI) (hq : RawQ w g most v ps) (h64 : ps.length ≤ 4096) :
    Calls Try.prog 37 #[v, .func (.func 38) #[] #[]] w fun e w' => ∃ v', e = .returned v' ∧ Fr (fun k => v.ownBlock = some k) w w' ∧ w'.ownsRow 0 69 1 v' (ps.filter keepB).length ((ps.filter keepB).map (fun x : PI => ptr x.p)) ∧ v'.ownBlock = v.ownBlock := by
  have hnone : ∀ (A : Option Addr) (c : Nat), Calls Try.prog 37 #[.slice A 0 c, .func (.func 38) #[] #[]] w fun e w' => e = .returned (.slice A 0 c) ∧ w = w' := fun A c => by
    have hcon := AnyE.slices_IndexFunc_empty Try.indexL A c (.func (.func 38) #[] #[]) w
    change Calls Try.prog 39 _ _ _ at hcon
    have HC := Aside0.mk hcon
    clear hcon hq
    go_enter Try.func37, Try.ntmps37
    go_wp2_with (first | (go_at_call 39; (with_reducible refine HC.out.mono ?_); rintro e w' ⟨rfl, rfl⟩))
    go_ret
    exact ⟨rfl, rfl⟩
  rcases hq.shape with ⟨rfl, rfl⟩ | ⟨b, c, cur, rfl, hb, h1, h2, h3, hc⟩
  · refine (hnone none 0).mono fun e w' ⟨he, hw⟩ => ?_
    subst hw
    exact ⟨_, he, Fr.refl _ _, hq.row, rfl⟩
  · by_cases h0 : ps.length = 0
    · obtain rfl := List.eq_nil_of_length_eq_zero h0
      refine (hnone _ c).mono fun e w' ⟨he, hw⟩ => ?_
      subst hw
      exact ⟨_, he, Fr.refl _ _, hq.row, rfl⟩
    · exact (delete_any w g most b c cur ps hq (by omega) h64 hb h1 h2 h3 hc).mono fun e w' ⟨he, hf, ho⟩ => ⟨_, he, hf.mono (fun k _ h => by subst h; simp [Value.ownBlock]), ho, by simp [Value.ownBlock]⟩
end Go.Proofs.Ytafkglhdpcmdbaa
