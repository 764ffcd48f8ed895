/- A region that draws its order, walked along one plan: operations that yield in each world that meets S, and operations that act, one at a time. -/
import Derived.WalkKit
import Derived.OrdersHeld
import Derived.Deep.RegionHeld
import Derived.KernelRfl
namespace Go.Proofs.Ythafkjjbnbanmaa.Plan
variable {P : Program} {ops : Array Oper} {Q : Exit → Act → World → Prop} {md : Region.Mode} {S : World → Prop}

/-- The plan: each operation's number, and whether it acts. -/
def Wp (P : Program) (ops : Array Oper) (Q : Exit → Act → World → Prop) (S : World → Prop) : List (Nat × Bool) → Act → World → Prop
  | [], a, w => Q .normal a w
  | (i, eff) :: rest, a, w => ∃ o, ops[i]? = some o ∧
    (if Region.wanted o (yielded ops a.tmps) = true then
      (if eff = true then ∀ K : Act → World → Prop, Shut (∀ a' w', S w' → (S w' → Wp P ops Q S rest a' w') → K a' w') → Oper.wp P o a w K Q
      else ∃ v, (∀ w', S w' → (execOp a.eval o).run P w' = .ok (.value v) w') ∧ Wp P ops Q S rest (a.put o.dst v) w)
    else Wp P ops Q S rest (a.put o.dst undef) w)

def okB (md : Region.Mode) (ops : Array Oper) : List (Nat × Bool) → Array Bool → Bool
  | [], l => Region.ready md ops l == []
  | (i, eff) :: rest, l => (if eff then Region.ready md ops l == [i] else Region.free md ops l i && (Region.ready md ops l).contains i) && okB md ops rest (l.setIfInBounds i true)

theorem sound (hs : Region.noSelect ops = true) (hQ : ∀ c a d v w, Q (.panic c) (Act.put a d v) w → Q (.panic c) a w) :
    ∀ (plan : List (Nat × Bool)) (fuel : Nat) (l : Array Bool) (a : Act) (w : World), plan.length ≤ fuel → okB md ops plan l = true → S w → Wp P ops Q S plan a w → wpAnyH P md ops Q S fuel l a w
  | [], fuel, l, a, w, _, hok, _, h => wpAnyH_done (by simpa [okB] using hok) h fuel
  | (i, eff) :: rest, 0, l, a, w, hl, _, _, _ => absurd hl (by simp)
  | (i, eff) :: rest, fuel + 1, l, a, w, hl, hok, hS, h => by
    obtain ⟨o, ho, h⟩ := h
    have hl' : rest.length ≤ fuel := by simpa using hl
    simp only [okB, Bool.and_eq_true] at hok
    obtain ⟨hk, hrest⟩ := hok
    by_cases hw : Region.wanted o (yielded ops a.tmps) = true
    · rw [if_pos hw] at h
      cases eff with
      | true =>
        simp only [if_true, beq_iff_eq] at hk h
        refine wpAnyH_ready hk (by simp) (AllReadyH.cons ho (fun K hK => ?_) AllReadyH.nil)
        rw [if_pos hw]
        exact h K (fun a' w' hS' hW => hK a' w' hS' (fun hS'' => sound hs hQ rest fuel _ a' w' hl' hrest hS'' (hW hS'')))
      | false =>
        simp only [Bool.false_eq_true, if_false, Bool.and_eq_true] at hk h
        obtain ⟨v, hv, h⟩ := h
        exact wpAnyH_take ho hs hk.1 hk.2 (fun c a w => hQ c a _ _ w) (.inl ⟨hw, hv⟩) hS (sound hs hQ rest fuel _ _ w hl' hrest hS h)
    · rw [if_neg hw] at h
      have hw' : Region.wanted o (yielded ops a.tmps) = false := by simpa using hw
      cases eff with
      | true =>
        simp only [if_true, beq_iff_eq] at hk
        refine wpAnyH_ready hk (by simp) (AllReadyH.cons ho (fun K hK => ?_) AllReadyH.nil)
        rw [if_neg hw]
        exact hK _ _ hS (fun _ => sound hs hQ rest fuel _ _ w hl' hrest hS h)
      | false =>
        simp only [Bool.false_eq_true, if_false, Bool.and_eq_true] at hk
        exact wpAnyH_take ho hs hk.1 hk.2 (fun c a w => hQ c a _ _ w) (.inr ⟨hw', rfl⟩) hS (sound hs hQ rest fuel _ _ w hl' hrest hS h)

theorem region {id : Nat} {a : Act} {w : World} (S : World → Prop) (plan : List (Nat × Bool)) (hm : P.follows .mixedOrders = true)
    (hc : (Region.noSelect ops && (decide (plan.length ≤ ops.size) && okB .any ops plan (Array.replicate ops.size false))) = true)
    (hQ : ∀ c a d v w, Q (.panic c) (Act.put a d v) w → Q (.panic c) a w) (hS : S w.drew) (h : S w.drew → Wp P ops Q S plan a w.drew) : (Code.region id ops true).wp P Q a w := by
  simp only [Bool.and_eq_true, decide_eq_true_eq] at hc
  exact wp_region_held_drew (S := S) hm hS (fun hS => sound hc.1 hQ plan _ _ a _ hc.2.1 hc.2.2 hS (h hS))

/-- What an operation yields, in a form that the walk's simp does not turn. -/
def IsV (r : Result Next) (v : Value) (w : World) : Prop := r = .ok (.value v) w
theorem isV {v : Value} {w : World} : IsV (.ok (.value v) w) v w := rfl
def IsB (r : Result Next) (b : Bool) (w : World) : Prop := r = .ok (.value (.bool b)) w
theorem isB {b : Bool} {w : World} : IsB (.ok (.value (.bool b)) w) b w := rfl
variable {i : Nat} {eff : Bool} {rest : List (Nat × Bool)} {a : Act} {w : World}
theorem done (h : Q .normal a w) : Wp P ops Q S [] a w := h
theorem off {o : Oper} {N : Option Tmp} {a' : Act} (ho : ops[i]? = some o) (hw : Region.wanted o (yielded ops a.tmps) = false) (hN : o.dst = N) (ha : a.put N undef = a') (h : Wp P ops Q S rest a' w) : Wp P ops Q S ((i, eff) :: rest) a w := by
  subst hN; subst ha
  exact ⟨o, ho, by rw [if_neg (by simp [hw])]; exact h⟩
theorem free {o : Oper} {N : Option Tmp} {v : Value} {a' : Act} (ho : ops[i]? = some o) (hw : Region.wanted o (yielded ops a.tmps) = true) (hN : o.dst = N)
    (hv : ∀ w', S w' → IsV ((execOp a.eval o).run P w') v w') (ha : a.put N v = a') (h : Wp P ops Q S rest a' w) : Wp P ops Q S ((i, false) :: rest) a w := by
  subst hN; subst ha
  exact ⟨o, ho, by rw [if_pos hw]; exact ⟨v, hv, h⟩⟩
/-- An operation that yields a bool which is not known: both ways. -/
theorem freeB {o : Oper} {N : Option Tmp} {b : Bool} {at_ af : Act} (ho : ops[i]? = some o) (hw : Region.wanted o (yielded ops a.tmps) = true) (hN : o.dst = N)
    (hv : ∀ w', S w' → IsB ((execOp a.eval o).run P w') b w') (ht : a.put N (.bool true) = at_) (hf : a.put N (.bool false) = af)
    (h1 : b = true → Wp P ops Q S rest at_ w) (h2 : b = false → Wp P ops Q S rest af w) : Wp P ops Q S ((i, false) :: rest) a w := by
  subst hN; subst ht; subst hf
  refine ⟨o, ho, ?_⟩
  rw [if_pos hw]
  refine ⟨.bool b, hv, ?_⟩
  cases b
  · exact h2 rfl
  · exact h1 rfl
theorem acts {o : Oper} (ho : ops[i]? = some o) (hw : Region.wanted o (yielded ops a.tmps) = true)
    (h : ∀ K : Act → World → Prop, Shut (∀ a' w', S w' → (S w' → Wp P ops Q S rest a' w') → K a' w') → Oper.wp P o a w K Q) : Wp P ops Q S ((i, true) :: rest) a w :=
  ⟨o, ho, by rw [if_pos hw]; exact h⟩
end Go.Proofs.Ythafkjjbnbanmaa.Plan
