/- Contracts of layer flow: Run of nothing; Run of a row of the call's own, and of an argument. -/
import Derived.Test.YthafkjjbnbanmaaFD
import Derived.Laws.OwnMore
set_option linter.unusedSimpArgs false
set_option linter.unusedVariables false
namespace Go.Proofs.Ythafkjjbnbanmaa
open Go.RowKit

def ZRel (w : World) (n i : Value) (wr : World) : Prop :=
  i = .int .i64 0 ∧ n = .int .i64 0 ∧ Hid (Below w.heap.size w wr) ∧ w.heap.size < wr.heap.size ∧ w.heap.size + 1 < wr.heap.size ∧
    (∀ o, wr.frozen? ⟨w.heap.size, o, none⟩ = false) ∧ wr.cell? ⟨w.heap.size, 0, none⟩ = some (.int .i64 0) ∧ wr.cell? ⟨w.heap.size, 1, none⟩ = some (.int .i64 0) ∧ wr.cell? ⟨w.heap.size, 2, none⟩ = some (.int .i64 0) ∧
    wr.cell? ⟨w.heap.size + 1, 0, none⟩ = some (.int .i64 0) ∧ wr.cell? ⟨w.heap.size + 1, 1, none⟩ = some (.int .i64 0) ∧ wr.cell? ⟨w.heap.size + 1, 2, none⟩ = some (.int .i64 0)

set_option maxHeartbeats 3200000 in
theorem run_zero (q : Int) (a : Option Addr) (cap : Nat) (w : World) : Calls Try.prog 20 #[.int .i64 q, .slice a 0 cap] w fun e w' => e = .returned (RV (0, 0, 0, 0, 0)) ∧ Below w.heap.size w w' := by
  have HB : Hid (Below w.heap.size w w) := Below.refl _ _
  go_enter Try.func20, Try.ntmps20
  go_wp2_with fail
  go_loopw [7, 16] (fun n i wr => ZRel w n i wr) (fun _ _ _ => 0)
  case atStart => exact ⟨rfl, rfl, (show Below w.heap.size w _ from (by repeat (first | (with_reducible exact HB.out) | (with_reducible refine Below.alloc ?_ (by first | exact Nat.le_refl _ | omega | (simp; done) | (simp; omega)) _) | (with_reducible refine Below.setCell ?_ (by first | exact Nat.le_refl _ | omega | (simp; done) | (simp; omega)) _) | (with_reducible refine Below.drew ?_) | (with_reducible refine below_drewN ?_ _)))), (by simp; try omega), (by simp; try omega), (by intro o; go_simp), (by go_simp), (by go_simp), (by go_simp), (by go_simp), (by go_simp), (by go_simp)⟩
  case round =>
    obtain ⟨rfl, rfl, HB, hz0, hz1, hgR, hkR_0, hkR_1, hkR_2, hkF_0, hkF_1, hkF_2⟩ := hrel
    go_wp2
    refine Plan.region (fun w' => w'.cell? ⟨w.heap.size + 1, 0, none⟩ = some (.int .i64 0) ∧ w'.cell? ⟨w.heap.size + 1, 1, none⟩ = some (.int .i64 0) ∧ w'.cell? ⟨w.heap.size + 1, 2, none⟩ = some (.int .i64 0)) [(0, false), (1, false), (2, false), (3, true), (4, false)] (by kernel_rfl) (by kernel_rfl) (fun _ _ d _ _ h => by cases d <;> exact h) ?_ (fun hS0 => ?_)
    focus (first | go_keep | (simp [*]; done) | (go_simp; done))
    all_goals (focus (first | (refine' Plan.free (N := (some 60)) rfl (by rfl) rfl ?_ ?_ ?_; rotate_left 2; (focus (intro w' hS; (try dsimp only at hS); go_simp; exact Plan.isV)); (focus (simp only [Act.put, List.setIfInBounds_toArray, List.set_cons_zero, List.set_cons_succ]; rfl)))))
    all_goals (focus (first | (refine' Plan.free (N := (some 61)) rfl (by rfl) rfl ?_ ?_ ?_; rotate_left 2; (focus (intro w' hS; (try dsimp only at hS); go_simp; exact Plan.isV)); (focus (simp only [Act.put, List.setIfInBounds_toArray, List.set_cons_zero, List.set_cons_succ]; rfl)))))
    all_goals (focus (first | (refine' Plan.free (N := (some 4)) rfl (by rfl) rfl ?_ ?_ ?_; rotate_left 2; (focus (intro w' hS; (try dsimp only at hS); go_simp; exact Plan.isV)); (focus (simp only [Act.put, List.setIfInBounds_toArray, List.set_cons_zero, List.set_cons_succ]; rfl)))))
    all_goals (focus (first | (refine' Plan.acts rfl (by rfl) (fun K hK => ?_); go_simp; (first | fail | skip); (all_goals (refine hK.out _ _ ?_ (fun hS => ?_); (focus (first | go_keep | (simp [*]; done) | (go_simp; done))))))))
    all_goals (focus (first | (refine' Plan.free (N := (some 6)) rfl (by rfl) rfl ?_ ?_ ?_; rotate_left 2; (focus (intro w' hS; (try dsimp only at hS); go_simp; exact Plan.isV)); (focus (simp only [Act.put, List.setIfInBounds_toArray, List.set_cons_zero, List.set_cons_succ]; rfl)))))
    all_goals (refine Plan.done ?_)
    go_wp2
    all_goals first
      | (refine bodyPost_ret (v := RV (0, 0, 0, 0, 0)) ?_ rfl ⟨?_, ?_⟩; (focus (simp [results, Try.results20, go_sem, RV, *]; done)); (focus (rfl; done)); exact (by repeat (first | (with_reducible exact HB.out) | (with_reducible refine Below.alloc ?_ (by first | exact Nat.le_refl _ | omega | (simp; done) | (simp; omega)) _) | (with_reducible refine Below.setCell ?_ (by first | exact Nat.le_refl _ | omega | (simp; done) | (simp; omega)) _) | (with_reducible refine Below.drew ?_) | (with_reducible refine below_drewN ?_ _))))
set_option maxHeartbeats 3200000 in
theorem rrun_zero (q : Int) (a : Option Addr) (cap : Nat) (w : World) : Calls Try.prog 21 #[.int .i64 q, .slice a 0 cap] w fun e w' => e = .returned (RV (0, 0, 0, 0, 0)) ∧ Below w.heap.size w w' := by
  have HB : Hid (Below w.heap.size w w) := Below.refl _ _
  go_enter Try.func21, Try.ntmps21
  go_wp2_with fail
  go_loopw [7, 9] (fun n i wr => ZRel w n i wr) (fun _ _ _ => 0)
  case atStart => exact ⟨rfl, rfl, (show Below w.heap.size w _ from (by repeat (first | (with_reducible exact HB.out) | (with_reducible refine Below.alloc ?_ (by first | exact Nat.le_refl _ | omega | (simp; done) | (simp; omega)) _) | (with_reducible refine Below.setCell ?_ (by first | exact Nat.le_refl _ | omega | (simp; done) | (simp; omega)) _) | (with_reducible refine Below.drew ?_) | (with_reducible refine below_drewN ?_ _)))), (by simp; try omega), (by simp; try omega), (by intro o; go_simp), (by go_simp), (by go_simp), (by go_simp), (by go_simp), (by go_simp), (by go_simp)⟩
  case round =>
    obtain ⟨rfl, rfl, HB, hz0, hz1, hgR, hkR_0, hkR_1, hkR_2, hkF_0, hkF_1, hkF_2⟩ := hrel
    go_wp2
    refine Plan.region (fun w' => w'.cell? ⟨w.heap.size + 1, 0, none⟩ = some (.int .i64 0) ∧ w'.cell? ⟨w.heap.size + 1, 1, none⟩ = some (.int .i64 0) ∧ w'.cell? ⟨w.heap.size + 1, 2, none⟩ = some (.int .i64 0)) [(0, false), (1, false), (2, false), (3, true), (4, false)] (by kernel_rfl) (by kernel_rfl) (fun _ _ d _ _ h => by cases d <;> exact h) ?_ (fun hS0 => ?_)
    focus (first | go_keep | (simp [*]; done) | (go_simp; done))
    all_goals (focus (first | (refine' Plan.free (N := (some 65)) rfl (by rfl) rfl ?_ ?_ ?_; rotate_left 2; (focus (intro w' hS; (try dsimp only at hS); go_simp; exact Plan.isV)); (focus (simp only [Act.put, List.setIfInBounds_toArray, List.set_cons_zero, List.set_cons_succ]; rfl)))))
    all_goals (focus (first | (refine' Plan.free (N := (some 66)) rfl (by rfl) rfl ?_ ?_ ?_; rotate_left 2; (focus (intro w' hS; (try dsimp only at hS); go_simp; exact Plan.isV)); (focus (simp only [Act.put, List.setIfInBounds_toArray, List.set_cons_zero, List.set_cons_succ]; rfl)))))
    all_goals (focus (first | (refine' Plan.free (N := (some 4)) rfl (by rfl) rfl ?_ ?_ ?_; rotate_left 2; (focus (intro w' hS; (try dsimp only at hS); go_simp; exact Plan.isV)); (focus (simp only [Act.put, List.setIfInBounds_toArray, List.set_cons_zero, List.set_cons_succ]; rfl)))))
    all_goals (focus (first | (refine' Plan.acts rfl (by rfl) (fun K hK => ?_); go_simp; (first | fail | skip); (all_goals (refine hK.out _ _ ?_ (fun hS => ?_); (focus (first | go_keep | (simp [*]; done) | (go_simp; done))))))))
    all_goals (focus (first | (refine' Plan.free (N := (some 6)) rfl (by rfl) rfl ?_ ?_ ?_; rotate_left 2; (focus (intro w' hS; (try dsimp only at hS); go_simp; exact Plan.isV)); (focus (simp only [Act.put, List.setIfInBounds_toArray, List.set_cons_zero, List.set_cons_succ]; rfl)))))
    all_goals (refine Plan.done ?_)
    go_wp2
    all_goals first
      | (refine bodyPost_ret (v := RV (0, 0, 0, 0, 0)) ?_ rfl ⟨?_, ?_⟩; (focus (simp [results, Try.results21, go_sem, RV, *]; done)); (focus (rfl; done)); exact (by repeat (first | (with_reducible exact HB.out) | (with_reducible refine Below.alloc ?_ (by first | exact Nat.le_refl _ | omega | (simp; done) | (simp; omega)) _) | (with_reducible refine Below.setCell ?_ (by first | exact Nat.le_refl _ | omega | (simp; done) | (simp; omega)) _) | (with_reducible refine Below.drew ?_) | (with_reducible refine below_drewN ?_ _))))

def flat2 (l : List (Int × Int)) : List Value := l.flatMap fun x => [.int .i64 x.1, .int .i64 x.2]
theorem flat2_len (l : List (Int × Int)) : (flat2 l).length = l.length * 2 := by
  induction l with
  | nil => rfl
  | cons x r ih => simp only [flat2, List.flatMap_cons, List.length_append, List.length_cons, List.length_nil] at ih ⊢; omega
theorem flat2_at (l : List (Int × Int)) : ∀ k, k < l.length → (flat2 l)[k * 2]? = some (.int .i64 (l.getD k (0, 0)).1) ∧ (flat2 l)[k * 2 + 1]? = some (.int .i64 (l.getD k (0, 0)).2) := by
  induction l with
  | nil => intro k h; simp at h
  | cons x r ih =>
    intro k h
    cases k with
    | zero => simp [flat2]
    | succ k =>
      have h2 := ih k (by simpa using h)
      have e1 : (k + 1) * 2 = k * 2 + 2 := by omega
      have e : flat2 (x :: r) = .int .i64 x.1 :: .int .i64 x.2 :: flat2 r := rfl
      rw [e1, e]
      simpa using h2
theorem run_own (q : Int) (l : List (Int × Int)) (v : Value) (B : Nat) (w : World) (hlen : l.length ≤ 4611686018427387904) (hown : w.ownsRow B 47 2 v l.length (flat2 l)) :
    Calls Try.prog 20 #[.int .i64 q, v] w fun e w' => e = .returned (RV (runS q l 0 0 0 0)) ∧ Below w.heap.size w w' := by
  rcases hown.2 with ⟨rfl, h0⟩ | ⟨g, cap, cur, rfl, _, hg, _, _, _, _⟩
  · have : l = [] := List.eq_nil_of_length_eq_zero h0
    subst this
    exact run_zero q none 0 w
  · have hlt : g < w.heap.size := (hown.lt g rfl).2
    refine run_any q l g 0 cap hlen w hlt (fun k hk => ?_) (fun k hk => ?_)
    · have := hown.cellAt (k * 2) (by omega)
      rw [(flat2_at l k hk).1] at this
      simpa using this
    · have := hown.cellAt (k * 2 + 1) (by omega)
      rw [(flat2_at l k hk).2] at this
      simpa using this
/-- An argument's row of packets. -/
def ArgRow (w : World) (a : Option Addr) (l : List (Int × Int)) : Prop :=
  l = [] ∨ ∃ b off, a = some ⟨b, off, none⟩ ∧ b < w.heap.size ∧ ∀ k, k < l.length → w.cell? ⟨b, off + k * 2, none⟩ = some (.int .i64 (l.getD k (0, 0)).1) ∧ w.cell? ⟨b, off + k * 2 + 1, none⟩ = some (.int .i64 (l.getD k (0, 0)).2)
def WfRow (l : List (Int × Int)) : Prop := ∀ k, k < l.length → -9223372036854775808 ≤ (l.getD k (0, 0)).1 ∧ (l.getD k (0, 0)).1 ≤ 9223372036854775807 ∧ (l.getD k (0, 0)).2 ≤ 9223372036854775807
theorem rrun_arg (q : Int) (l : List (Int × Int)) (a : Option Addr) (cap : Nat) (w : World) (hlen : l.length ≤ 4611686018427387904) (hwf : WfRow l) (h : ArgRow w a l) :
    Calls Try.prog 21 #[.int .i64 q, .slice a l.length cap] w fun e w' => e = .returned (RV (runS q l 0 0 0 0)) ∧ Below w.heap.size w w' := by
  rcases h with rfl | ⟨b, off, rfl, hb, hc⟩
  · exact rrun_zero q a cap w
  · exact rrun_any q l b off cap hlen w hb hwf (fun k hk => (hc k hk).1) (fun k hk => (hc k hk).2)
theorem ArgRow.below {w w' : World} {a : Option Addr} {l : List (Int × Int)} (h : ArgRow w a l) (hb : Below w.heap.size w w') : ArgRow w' a l := by
  rcases h with h | ⟨b, off, h1, h2, h3⟩
  · exact .inl h
  · refine .inr ⟨b, off, h1, Nat.lt_of_lt_of_le h2 hb.size, fun k hk => ?_⟩
    rw [hb.cell (p := ⟨b, off + k * 2, none⟩) h2, hb.cell (p := ⟨b, off + k * 2 + 1, none⟩) h2]
    exact h3 k hk

end Go.Proofs.Ythafkjjbnbanmaa
