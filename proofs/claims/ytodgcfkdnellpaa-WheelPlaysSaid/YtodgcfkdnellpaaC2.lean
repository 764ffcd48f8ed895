/- Wheel: the last loop of an advance: what is told is struck from the map. -/
import Derived.Test.YtodgcfkdnellpaaC0
set_option linter.unusedSimpArgs false
set_option linter.unusedVariables false
namespace Go.Proofs.Ytodgcfkdnellpaa
open Go.RowKit Go.Maps Go.Proofs.YtodgcfkdnellpaaW.PrintWords
set_option maxRecDepth 100000 in
theorem del_step {Q : Exit → Act → World → Prop} {K : Act → World → Prop} {W : World} {o : Oper} {a : Act} {m x : Operand} {bm : Nat} {L : List Du} {id : Int} (ho : o.op = .call { callee := .builtin .delete, args := #[m, x], argTypes := #[60, 2] }) (hm : a.eval m = .map (some bm)) (hx : a.eval x = .int .i64 id) (hwf : (Lit.int .i64 id).wf = true) (hmap : MapIs W bm L) (hn : (L.map (·.id)).Nodup)
    (hK : ∀ w1, MapIs w1 bm (dropL L id) → Fr (fun k => k = bm) W w1 → K (a.put o.dst (.tuple #[])) w1) : Oper.wp Try.prog o a W K Q := by
  obtain ⟨D, h1, hsz, hh, ha⟩ := hmap
  have htd := h1.tidy law2
  obtain ⟨w1, hrun, ho1, ht⟩ := h1.drop law2 Try.underlying60 (keyOf_int_mk Try.underlying2 hwf) o.type
  have hf : Fr (fun k => k = bm) W w1 := (Fr.of_grown ht.grown).mono (fun k _ h => by injection h with h; exact h.symm)
  unfold Oper.wp
  simp [execOp, ho, resolve, invoke, builtin, hm, hx, hrun, Result.andThen]
  refine hK _ ?_ hf
  cases hany : L.any (fun d => d.id == id) with
  | true => exact mapis_drop htd hsz hh ha hn hany ho1
  | false =>
    rw [drop_none hany]
    rw [Maps.del_of_not_has (by rw [hh id, hany])] at ho1
    have h2 := tighten ho1
    rw [hsz] at h2
    exact ⟨D, h2, hsz, hh, ha⟩
def dels (L S : List Du) : List Du := S.foldl (fun L d => dropL L d.id) L
theorem dels_sub : ∀ (S L : List Du), (dels L S).Sublist L
  | [], L => List.Sublist.refl L
  | d :: S, L => (dels_sub S (dropL L d.id)).trans List.filter_sublist
theorem dels_eq : ∀ (S L : List Du), dels L S = L.filter (fun d => S.all (fun e => !(d.id == e.id)))
  | [], L => by show L = _; exact (List.filter_eq_self.2 (fun _ _ => rfl)).symm
  | d :: S, L => by
    show dels (dropL L d.id) S = _
    rw [dels_eq S]
    unfold dropL
    rw [List.filter_filter]
    refine List.filter_congr (fun x hx => ?_)
    rw [List.all_cons, Bool.and_comm]
theorem dels_all {L : List Du} (hn : (L.map (·.id)).Nodup) (p : Du → Bool) : dels L (L.filter p) = L.filter (fun d => !p d) := by
  rw [dels_eq]
  refine List.filter_congr (fun x hx => ?_)
  rw [Bool.eq_iff_iff, List.all_eq_true]
  constructor
  · intro h
    cases hp : p x with
    | false => rfl
    | true => have := h x (List.mem_filter.2 ⟨hx, hp⟩); simp at this
  · intro h e he
    obtain ⟨h1, h2⟩ := List.mem_filter.1 he
    have : x.id ≠ e.id := fun hid => by
      have := id_inj hn hx h1 hid
      subst this
      rw [h2] at h; cases h
    simpa using this
theorem sortL_eq {acc l : List Du} (hp : acc.Perm l) (hs : l.Pairwise (fun a b => before a b = true)) (hn : (l.map (·.id)).Nodup) : sortL acc = l := by
  have h1 : (sortL acc).Perm l := (List.mergeSort_perm _ _).trans hp
  have h2 : (sortL acc).Pairwise (fun a b => (!before b a) = true) := List.pairwise_mergeSort (fun a b c h1 h2 => by
      unfold before at *; simp at *; omega) (fun a b => by unfold before; simp; omega) acc
  have h3 : l.Pairwise (fun a b => (!before b a) = true) := hs.imp (fun {a b} h => by
      cases hq : before b a with
      | false => rfl
      | true => have := before_trans h hq; rw [before_irrefl] at this; cases this)
  refine List.Perm.eq_of_pairwise (fun a b ha hb h4 h5 => ?_) h2 h3 h1
  unfold before at h4 h5
  simp at h4 h5
  cases a; cases b; simp at *; omega
end Go.Proofs.Ytodgcfkdnellpaa
