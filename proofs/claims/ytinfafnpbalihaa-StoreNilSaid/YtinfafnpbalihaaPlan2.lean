/- A region that draws its order, walked along one plan. Kinds of operations: 0 yields in every world; 1 yields in every world that meets S (a load, a call that leaves the world as it is), S being owed until operation m, which waits for it, is done; 2 acts. -/
import Derived.WalkKit
import Derived.OrdersHeld
import Derived.Deep.RegionHeld
import Derived.KernelRfl
namespace Go.Proofs.Ytinfafnpbalihaa.Plan2
variable {P : Program} {ops : Array Oper} {Q : Exit → Act → World → Prop} {md : Region.Mode} {S R : World → Prop} {m : Nat}

/-- In state a, in every world that meets R, o leaves v in its place and the world as it is; a call may be it. -/
def YX (P : Program) (ops : Array Oper) (R : World → Prop) (o : Oper) (v : Value) (a : Act) : Prop :=
  (Region.wanted o (yielded ops a.tmps) = true ∧ ∀ w, R w → ((execOp a.eval o).run P w = .ok (.value v) w ∨ ∃ f args, (execOp a.eval o).run P w = .ok (.enter f args) w ∧ Calls P f args w (fun e w'' => e = .returned v ∧ w'' = w))) ∨
  (Region.wanted o (yielded ops a.tmps) = false ∧ v = undef)

theorem YX.wpOp {i : Nat} {o : Oper} {v : Value} {a : Act} (hi : ops[i]? = some o) (hy : YX P ops R o v a) {K : Act → World → Prop} {w : World} (hR : R w) (h : K (a.put o.dst v) w) : wpOp P ops Q i K a w := by
  unfold Go.wpOp
  simp only [hi]
  rcases hy with ⟨hw, hv⟩ | ⟨hw, rfl⟩
  · rcases hv w hR with hv | ⟨f, args, hv, hc⟩
    · simp only [hw, if_true, Oper.wp, hv, Oper.upon]; exact .inl h
    · simp only [hw, if_true, Oper.wp, hv, Oper.upon]
      refine .inl (hc.mono fun e w'' ⟨he, hw''⟩ => ?_)
      subst he; subst hw''
      exact h
  · simp only [hw, Bool.false_eq_true, if_false]; exact h

theorem YX.of_same {o : Oper} {v : Value} {a a' : Act} (hy : YX P ops R o v a) (he : execOp a'.eval o = execOp a.eval o)
    (hw : Region.wanted o (yielded ops a'.tmps) = Region.wanted o (yielded ops a.tmps)) : YX P ops R o v a' := by
  unfold YX at *
  rw [he, hw]
  exact hy

theorem wpOp_putX {j : Nat} {oi oj : Oper} {v : Value} (hj : ops[j]? = some oj) (hap : oi.apart ops oj = true) (hsi : ∀ cs b, oi.op ≠ .select cs b) (hsj : ∀ cs b, oj.op ≠ .select cs b)
    (hQ : ∀ c a w, Q (.panic c) (a.put oi.dst v) w → Q (.panic c) a w) {K : Act → World → Prop} {a : Act} {w : World} (hy : YX P ops R oi v a) (h : wpOp P ops Q j K (a.put oi.dst v) w) :
    wpOp P ops Q j (fun a' w' => YX P ops R oi v a' ∧ K (a'.put oi.dst v) w') a w := by
  obtain ⟨h1, h2, h3⟩ := Oper.apart_spec hap
  have keep : ∀ (a : Act), YX P ops R oi v a → ∀ u, YX P ops R oi v (a.put oj.dst u) := fun a hy u => hy.of_same (execOp_put oi hsi a oj.dst u h3) (wanted_put oi a oj.dst u h3)
  have keepD : ∀ d, YX P ops R oi v { a with defers := d :: a.defers } := fun d => hy.of_same rfl rfl
  unfold wpOp at *
  simp only [hj] at *
  rw [wanted_put oj a oi.dst v h1] at h
  by_cases hw : Region.wanted oj (yielded ops a.tmps) = true
  · simp only [hw, if_true] at h ⊢
    rcases h with h | ⟨hasks, hlets⟩
    case inr => exact .inr ⟨by unfold Oper.asks at *; rw [execOp_put oj hsj a oi.dst v h1] at hasks; exact hasks, hlets⟩
    refine .inl ?_
    unfold Oper.wp at *
    rw [execOp_put oj hsj a oi.dst v h1] at h
    cases hr : (execOp a.eval oj).run P w with
    | ok n w' =>
      rw [hr] at h
      cases n <;> simp only [Oper.upon] at h ⊢
      case value u => exact ⟨keep a hy u, by rw [← Act.put_comm a v u h2]; exact h⟩
      case skip => exact ⟨keep a hy _, by rw [← Act.put_comm a v undef h2]; exact h⟩
      case defer d => exact ⟨keep _ (keepD d) _, by rw [← Act.put_comm _ v undef h2, ← Act.put_defers]; exact h⟩
      case enter f args =>
        refine Calls.mono h fun e w'' he => ?_
        cases e with
        | returned u => exact ⟨keep a hy u, by rw [← Act.put_comm a v u h2]; exact he⟩
        | panicked c => exact hQ _ _ _ he
        | outgrown => exact he
      case row row args => exact Rows.mono h fun u w'' he => ⟨keep a hy u, by rw [← Act.put_comm a v u h2]; exact he⟩
    | halt x w' =>
      rw [hr] at h
      cases x <;> simp only [Oper.upon] at h ⊢
      case panic u => exact hQ _ _ _ h
  · simp only [hw] at h ⊢
    exact ⟨keep a hy _, by rw [← Act.put_comm a v undef h2]; exact h⟩

/-- Whatever order is picked; S holds behind every operation until m is done. -/
def wpT (P : Program) (md : Region.Mode) (ops : Array Oper) (Q : Exit → Act → World → Prop) (m : Nat) (S : World → Prop) : Nat → Array Bool → Act → World → Prop
  | 0, l, a, w => Region.ready md ops l = [] ∧ Q .normal a w
  | n + 1, l, a, w => (Region.ready md ops l = [] → Q .normal a w) ∧
    ∀ i ∈ Region.ready md ops l, wpOp P ops Q i (fun a' w' => ((l.setIfInBounds i true).getD m false = false → S w') ∧ wpT P md ops Q m S n (l.setIfInBounds i true) a' w') a w
theorem wpAny_of_T : ∀ (n : Nat) (l : Array Bool) (a : Act) (w : World), wpT P md ops Q m S n l a w → wpAny P md ops Q n l a w
  | 0, _, _, _, h => h
  | n + 1, _, _, _, h => ⟨h.1, fun i hi => wpOp_mono (fun a' w' h' => wpAny_of_T n _ a' w' h'.2) (h.2 i hi)⟩
/-- m waits for i -/
def waits (md : Region.Mode) (ops : Array Oper) (m i : Nat) : Bool := decide (i ≠ m) && (match ops[m]? with | some om => om.after.any (fun e => Region.binds md e && e.on == i) | none => true)
theorem getD_set_other {l : Array Bool} {i k : Nat} (h : i ≠ k) (d : Bool) : (l.setIfInBounds i true).getD k d = l.getD k d := by
  simp only [Array.getD_eq_getD_getElem?, Array.getElem?_setIfInBounds, if_neg h]

theorem wpT_first {i : Nat} {oi : Oper} {v : Value} (hi : ops[i]? = some oi) (hsel : ∀ (j : Nat) (o : Oper) cs b, ops[j]? = some o → o.op ≠ .select cs b)
    (hQ : ∀ c a w, Q (.panic c) (a.put oi.dst v) w → Q (.panic c) a w) (hne : i ≠ m) (hcase : (∀ w, R w) ∨ ((∀ w, S w → R w) ∧ waits md ops m i = true)) :
    ∀ (fuel : Nat) (listed : Array Bool) (a : Act) (w : World),
      (∀ j oj, ops[j]? = some oj → j ≠ i → listed.getD j true = false → (∀ e ∈ oj.after, Region.binds md e = true → e.on ≠ i) → oi.apart ops oj = true) →
      i ∈ Region.ready md ops listed → YX P ops R oi v a → R w → ((∀ w, R w) ∨ listed.getD m false = false) → (listed.getD m false = false → S w) →
      wpT P md ops Q m S fuel (listed.setIfInBounds i true) (a.put oi.dst v) w → wpT P md ops Q m S (fuel + 1) listed a w := by
  intro fuel
  have hTi : ∀ (l : Array Bool), (l.setIfInBounds i true).getD m false = false → l.getD m false = false := fun l h => by
    by_cases him : i = m
    · subst him
      by_cases hlt : i < l.size
      · simp [Array.getD_eq_getD_getElem?, hlt] at h
      · simp [Array.getD_eq_getD_getElem?, hlt]
    · rwa [getD_set_other him] at h
  induction fuel with
  | zero =>
    intro listed a w _ hr hy hR _ hS H
    refine ⟨fun h => (by rw [h] at hr; cases hr), fun j hj => ?_⟩
    by_cases hji : j = i
    · subst hji; exact hy.wpOp hi hR ⟨fun h => hS (hTi listed h), H⟩
    · have := ready_mono hj hji
      rw [H.1] at this
      cases this
  | succ fuel ih =>
    intro listed a w hfree hr hy hR hm0 hS H
    refine ⟨fun h => (by rw [h] at hr; cases hr), fun j hj => ?_⟩
    by_cases hji : j = i
    · subst hji; exact hy.wpOp hi hR ⟨fun h => hS (hTi listed h), H⟩
    · have h1 := H.2 j (ready_mono hj hji)
      obtain ⟨hjun, oj, hoj, hall⟩ := mem_ready.1 hj
      have hnot : ∀ e ∈ oj.after, Region.binds md e = true → e.on ≠ i := fun e he hb heq => by
        have h1 := hall e he hb
        have h0 := (mem_ready.1 hr).1
        rw [heq] at h1
        rcases Nat.lt_or_ge i listed.size with h' | h'
        · simp [h'] at h0 h1; rw [h0] at h1; cases h1
        · simp [Array.getElem?_eq_none h'] at h1
      have h2 := wpOp_putX hoj (hfree j oj hoj hji hjun hnot) (fun cs b => hsel i oi cs b hi) (fun cs b => hsel j oj cs b hoj) hQ hy h1
      have hfree' : ∀ k ok, ops[k]? = some ok → k ≠ i → (listed.setIfInBounds j true).getD k true = false → (∀ e ∈ ok.after, Region.binds md e = true → e.on ≠ i) → oi.apart ops ok = true := fun k ok hk hki hun hno => by
        refine hfree k ok hk hki ?_ hno
        by_cases hjk : j = k
        · subst hjk; exact hjun
        · rw [getD_set_other hjk] at hun; exact hun
      -- j is not m, where i is owed to m
      have hjm : waits md ops m i = true → j ≠ m ∧ i ≠ m := fun hw => by
        unfold waits at hw
        simp only [Bool.and_eq_true, decide_eq_true_eq] at hw
        refine ⟨fun e => ?_, hw.1⟩
        subst e
        have hw2 := hw.2
        simp only [hoj] at hw2
        rw [Array.any_eq_true] at hw2
        obtain ⟨k, hk, hw2⟩ := hw2
        simp only [Bool.and_eq_true, beq_iff_eq] at hw2
        exact hnot _ (Array.getElem_mem hk) hw2.1 hw2.2
      refine wpOp_mono (fun a' w' h3 => ?_) h2
      obtain ⟨hy', hS', hW'⟩ := h3
      have hS2 : (listed.setIfInBounds j true).getD m false = false → ((listed.setIfInBounds i true).setIfInBounds j true).getD m false = false ∨ i = m := fun h => by
        by_cases him : i = m
        · exact .inr him
        · rw [Array.setIfInBounds_comm _ _ (Ne.symm hji), getD_set_other him]; exact .inl h
      rcases hcase with hall' | ⟨hSR, hw⟩
      · -- it yields in every world
        have hS3 : (listed.setIfInBounds j true).getD m false = false → S w' := fun h => hS' (by rw [Array.setIfInBounds_comm _ _ (Ne.symm hji), getD_set_other hne]; exact h)
        refine ⟨hS3, ih (listed.setIfInBounds j true) a' w' hfree' (ready_mono hr (Ne.symm hji)) hy' (hall' _) (.inl hall') hS3 ?_⟩
        rw [Array.setIfInBounds_comm _ _ hji]
        exact hW'
      · obtain ⟨hjm, him⟩ := hjm hw
        have hS3 : (listed.setIfInBounds j true).getD m false = false → S w' := fun h => hS' (by rw [Array.setIfInBounds_comm _ _ (Ne.symm hji), getD_set_other him]; exact h)
        rcases hm0 with hall' | hm0
        · refine ⟨hS3, ih (listed.setIfInBounds j true) a' w' hfree' (ready_mono hr (Ne.symm hji)) hy' (hall' _) (.inl hall') hS3 ?_⟩
          rw [Array.setIfInBounds_comm _ _ hji]
          exact hW'
        · have hlm : (listed.setIfInBounds j true).getD m false = false := by rw [getD_set_other hjm]; exact hm0
          refine ⟨hS3, ih (listed.setIfInBounds j true) a' w' hfree' (ready_mono hr (Ne.symm hji)) hy' (hSR _ (hS3 hlm)) (.inr hlm) hS3 ?_⟩
          rw [Array.setIfInBounds_comm _ _ hji]
          exact hW'

/-- The plan: each operation's number, and its kind; past: m is done. -/
def Wp (P : Program) (ops : Array Oper) (Q : Exit → Act → World → Prop) (m : Nat) (S : World → Prop) : Bool → List (Nat × Nat) → Act → World → Prop
  | _, [], a, w => Q .normal a w
  | past, (i, k) :: rest, a, w => ∃ o, ops[i]? = some o ∧
    (if Region.wanted o (yielded ops a.tmps) = true then
      (if k = 2 then ∀ K : Act → World → Prop, Shut (∀ a' w', ((past || decide (i = m)) = false → S w') → (((past || decide (i = m)) = false → S w') → Wp P ops Q m S (past || decide (i = m)) rest a' w') → K a' w') → Oper.wp P o a w K Q
      else ∃ v, (∀ w', (k = 1 → S w') → ((execOp a.eval o).run P w' = .ok (.value v) w' ∨ ∃ f args, (execOp a.eval o).run P w' = .ok (.enter f args) w' ∧ Calls P f args w' (fun e w'' => e = .returned v ∧ w'' = w'))) ∧ Wp P ops Q m S past rest (a.put o.dst v) w)
    else Wp P ops Q m S (past || decide (i = m)) rest (a.put o.dst undef) w)

def okB (md : Region.Mode) (ops : Array Oper) (m : Nat) : List (Nat × Nat) → Array Bool → Bool
  | [], l => Region.ready md ops l == []
  | (i, k) :: rest, l => (if k = 2 then Region.ready md ops l == [i] else decide (i ≠ m) && Region.free md ops l i && (Region.ready md ops l).contains i && (if k = 1 then waits md ops m i && !(l.getD m false) else true)) && okB md ops m rest (l.setIfInBounds i true)

theorem sound (hs : Region.noSelect ops = true) (hQ : ∀ c a d v w, Q (.panic c) (Act.put a d v) w → Q (.panic c) a w) :
    ∀ (plan : List (Nat × Nat)) (fuel : Nat) (l : Array Bool) (past : Bool) (a : Act) (w : World), l.size = ops.size → l.getD m false = past → plan.length ≤ fuel → okB md ops m plan l = true → (past = false → S w) → Wp P ops Q m S past plan a w → wpT P md ops Q m S fuel l a w
  | [], fuel, l, past, a, w, _, _, _, hok, _, h => by
    have hr : Region.ready md ops l = [] := by simpa [okB] using hok
    cases fuel with
    | zero => exact ⟨hr, h⟩
    | succ n => exact ⟨fun _ => h, by rw [hr]; simp⟩
  | (i, k) :: rest, 0, l, past, a, w, _, _, hl, _, _, _ => absurd hl (by simp)
  | (i, k) :: rest, fuel + 1, l, past, a, w, hsz, hp, hl, hok, hS, h => by
    obtain ⟨o, ho, h⟩ := h
    have hio : i < l.size := by rw [hsz]; exact (Array.getElem?_eq_some_iff.1 ho).1
    have hl' : rest.length ≤ fuel := by simpa using hl
    have hp' : (l.setIfInBounds i true).getD m false = (past || decide (i = m)) := by
      by_cases him : i = m
      · subst him; simp [Array.getD_eq_getD_getElem?, hio]
      · rw [getD_set_other him, hp]; simp [him]
    have hsz' : (l.setIfInBounds i true).size = ops.size := by simpa using hsz
    simp only [okB, Bool.and_eq_true] at hok
    obtain ⟨hk, hrest⟩ := hok
    by_cases hk2 : k = 2
    · subst hk2
      simp only [if_true, beq_iff_eq] at hk
      refine ⟨fun h0 => absurd (hk ▸ h0) (by simp), fun j hj => ?_⟩
      obtain rfl : j = i := by rw [hk] at hj; simpa using hj
      unfold wpOp
      simp only [ho]
      by_cases hw : Region.wanted o (yielded ops a.tmps) = true
      · rw [if_pos hw] at h ⊢
        simp only [if_true] at h
        refine .inl (h _ (fun a' w' hS' hW => ⟨fun h => hS' (by rw [← hp']; exact h), sound hs hQ rest fuel _ _ a' w' hsz' hp' hl' hrest hS' (hW hS')⟩))
      · rw [if_neg hw] at h ⊢
        exact ⟨fun h => hS (by rw [hp'] at h; simp only [Bool.or_eq_false_iff] at h; exact h.1), sound hs hQ rest fuel _ _ _ w hsz' hp' hl' hrest (fun h => hS (by simp only [Bool.or_eq_false_iff] at h; exact h.1)) h⟩
    · rw [if_neg hk2] at hk
      simp only [Bool.and_eq_true, decide_eq_true_eq] at hk
      obtain ⟨⟨⟨hne, hfree⟩, hready⟩, hk1⟩ := hk
      have hpe : (past || decide (i = m)) = past := by simp [hne]
      rw [hpe] at hp'
      have hS' : l.getD m false = false → S w := fun h => hS (by rw [← hp]; exact h)
      by_cases hw : Region.wanted o (yielded ops a.tmps) = true
      · rw [if_pos hw, if_neg hk2] at h
        obtain ⟨v, hv, h⟩ := h
        have hcont := sound hs hQ rest fuel _ _ _ w hsz' hp' hl' hrest hS h
        by_cases hk1' : k = 1
        · subst hk1'
          simp only [if_true, Bool.and_eq_true, Bool.not_eq_true'] at hk1
          exact wpT_first (R := S) ho (Region.noSelect_spec hs) (fun c a w => hQ c a _ _ w) hne (.inr ⟨fun _ h => h, hk1.1⟩) fuel l a w (Region.free_spec ho hfree) (by simpa using hready) (.inl ⟨hw, fun w' hS' => hv w' (fun _ => hS')⟩) (hS' hk1.2) (.inr hk1.2) hS' hcont
        · exact wpT_first (R := fun _ => True) ho (Region.noSelect_spec hs) (fun c a w => hQ c a _ _ w) hne (.inl fun _ => trivial) fuel l a w (Region.free_spec ho hfree) (by simpa using hready) (.inl ⟨hw, fun w' _ => hv w' (fun h => absurd h hk1')⟩) trivial (.inl fun _ => trivial) hS' hcont
      · rw [if_neg hw, hpe] at h
        exact wpT_first (R := fun _ => True) ho (Region.noSelect_spec hs) (fun c a w => hQ c a _ _ w) hne (.inl fun _ => trivial) fuel l a w (Region.free_spec ho hfree) (by simpa using hready) (.inr ⟨by simpa using hw, rfl⟩) trivial (.inl fun _ => trivial) hS' (sound hs hQ rest fuel _ _ _ w hsz' hp' hl' hrest hS h)

theorem region {id : Nat} {a : Act} {w : World} (m : Nat) (S : World → Prop) (plan : List (Nat × Nat)) (hm : P.follows .mixedOrders = true)
    (hc : (Region.noSelect ops && (decide (plan.length ≤ ops.size) && okB .any ops m plan (Array.replicate ops.size false))) = true)
    (hQ : ∀ c a d v w, Q (.panic c) (Act.put a d v) w → Q (.panic c) a w) (hS : S w.drew) (h : Wp P ops Q m S false plan a w.drew) : (Code.region id ops true).wp P Q a w := by
  simp only [Bool.and_eq_true, decide_eq_true_eq] at hc
  exact wp_region_any hm (wpAny_of_T _ _ _ _ (sound hc.1 hQ plan _ _ false a _ (by simp) (by simp [Array.getD_eq_getD_getElem?, Array.getElem?_replicate]; split <;> rfl) hc.2.1 hc.2.2 (fun _ => hS) h))

def IsV (r : Result Next) (v : Value) (w : World) : Prop := r = .ok (.value v) w
theorem isV {v : Value} {w : World} : IsV (.ok (.value v) w) v w := rfl
variable {i k : Nat} {past : Bool} {rest : List (Nat × Nat)} {a : Act} {w : World}
theorem done (h : Q .normal a w) : Wp P ops Q m S past [] a w := h
theorem off {o : Oper} {N : Option Tmp} {a' : Act} (ho : ops[i]? = some o) (hw : Region.wanted o (yielded ops a.tmps) = false) (hN : o.dst = N) (ha : a.put N undef = a') (h : Wp P ops Q m S (past || decide (i = m)) rest a' w) : Wp P ops Q m S past ((i, k) :: rest) a w := by
  subst hN; subst ha
  exact ⟨o, ho, by rw [if_neg (by simp [hw])]; exact h⟩
theorem pure {o : Oper} {N : Option Tmp} {v : Value} {a' : Act} (ho : ops[i]? = some o) (hw : Region.wanted o (yielded ops a.tmps) = true) (hN : o.dst = N)
    (hv : ∀ w', IsV ((execOp a.eval o).run P w') v w') (ha : a.put N v = a') (h : Wp P ops Q m S past rest a' w) : Wp P ops Q m S past ((i, 0) :: rest) a w := by
  subst hN; subst ha
  exact ⟨o, ho, by rw [if_pos hw, if_neg (by decide)]; exact ⟨v, fun w' _ => .inl (hv w'), h⟩⟩
theorem load {o : Oper} {N : Option Tmp} {v : Value} {a' : Act} (ho : ops[i]? = some o) (hw : Region.wanted o (yielded ops a.tmps) = true) (hN : o.dst = N)
    (hv : ∀ w', S w' → IsV ((execOp a.eval o).run P w') v w') (ha : a.put N v = a') (h : Wp P ops Q m S past rest a' w) : Wp P ops Q m S past ((i, 1) :: rest) a w := by
  subst hN; subst ha
  exact ⟨o, ho, by rw [if_pos hw, if_neg (by decide)]; exact ⟨v, fun w' hS => .inl (hv w' (hS rfl)), h⟩⟩
/-- a call that leaves the world as it is -/
theorem call {o : Oper} {N : Option Tmp} {v : Value} {a' : Act} (f : Nat) (args : Array Value) (ho : ops[i]? = some o) (hw : Region.wanted o (yielded ops a.tmps) = true) (hN : o.dst = N)
    (hv : ∀ w', (k = 1 → S w') → (execOp a.eval o).run P w' = .ok (.enter f args) w') (hc : ∀ w', (k = 1 → S w') → Calls P f args w' (fun e w'' => e = .returned v ∧ w'' = w')) (hk : k ≠ 2) (ha : a.put N v = a') (h : Wp P ops Q m S past rest a' w) : Wp P ops Q m S past ((i, k) :: rest) a w := by
  subst hN; subst ha
  exact ⟨o, ho, by rw [if_pos hw, if_neg hk]; exact ⟨v, fun w' hS => .inr ⟨f, args, hv w' hS, hc w' hS⟩, h⟩⟩
theorem acts {o : Oper} {past' : Bool} (ho : ops[i]? = some o) (hw : Region.wanted o (yielded ops a.tmps) = true) (hp : (past || decide (i = m)) = past')
    (h : ∀ K : Act → World → Prop, Shut (∀ a' w', (past' = false → S w') → ((past' = false → S w') → Wp P ops Q m S past' rest a' w') → K a' w') → Oper.wp P o a w K Q) : Wp P ops Q m S past ((i, 2) :: rest) a w := by
  subst hp
  exact ⟨o, ho, by rw [if_pos hw]; exact h⟩
end Go.Proofs.Ytinfafnpbalihaa.Plan2
