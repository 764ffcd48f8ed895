/- An argument that is a row of structs whose fields are one cell each, laid open at every index; Wheel's acts. -/
import Derived.Test.YtodgcfkdnellpaaC5
import Derived.Deep.Slices
import Derived.ProofKit
import Derived.SizedLaws
import Derived.OpenShut
set_option linter.unusedSimpArgs false
set_option linter.unusedVariables false
namespace Go.Proofs.Ytodgcfkdnellpaa
open Go.RowKit Go.ChangeShapes Go.WideShapes Go.Deep Go.Proofs.YtodgcfkdnellpaaW.PrintWords
theorem open_structs {H : Type} {enc : TypeId × Value → H} {P : Program} {w : World} {base : Nat} {spare : Nat → Bool} {held : Bool} {t e : TypeId} {fs : Array Field} {fuel : Nat} {cs : List Value} {x : DataW H × List MemPlace} (ht : P.underlying t = some (.slice e)) (he : P.underlying e = some (.struct fs))
    (ce : P.cellsOf e = fs.size) (hoff : ∀ (j : Nat) (f : Field), fs[j]? = some f → f.offset = j ∧ P.cellsOf f.type = 1) (h : DataW.trod enc P w base spare held fuel t cs = some x) :
    (cs = [.slice none 0 0] ∧ x = (.nil, [])) ∨
    ∃ (a : Addr) (len cap n : Nat) (sp : List (DataW H)) (V : Nat → Nat → Value) (D : Nat → List (DataW H)), cs = [.slice (some a) len cap] ∧ len ≤ cap ∧ cap ≤ maxLen ∧ x.1 = .slice ((List.range len).map fun i => .agg (D i)) sp ∧
      ∀ i, i < len → (D i).length = fs.size ∧ ∀ (j : Nat) (f : Field), fs[j]? = some f → w.cell? (a.add (i * fs.size + j)) = some (V i j) ∧ ∃ d p, (D i)[j]? = some d ∧ DataW.trod enc P w base spare held n f.type [V i j] = some (d, p) := by
  rcases open_slice ht h with h0 | ⟨a, len, cap, m, n, D, Pl, rfl, hb, hl, hm, hmm, rfl, hx⟩
  · exact Or.inl h0
  right
  have hlm : len ≤ m := by rw [hmm]; split <;> omega
  have each : ∀ i, i < len → ∃ q : (List Value) × (List (DataW H × List MemPlace)), q.1.length = fs.size ∧ q.2.length = fs.size ∧ D i = .agg (q.2.map (·.1)) ∧ ∀ (j : Nat) (f : Field), fs[j]? = some f → w.cell? (a.add (i * fs.size + j)) = q.1[j]? ∧ DataW.trod enc P w base spare held (n - 1) f.type [q.1.getD j undef] = q.2[j]? := by
    intro i hi
    obtain ⟨cs', h1, h2⟩ := hx i (by omega)
    rw [ce] at h1
    obtain ⟨_, hlen, hcell⟩ := World.cells?_some h1
    obtain ⟨xs, k, hk, hxy, _, hxl, hf⟩ := DataW.trod_struct he h2
    have hk' : k = n - 1 := by omega
    subst hk'
    refine ⟨(cs', xs), hlen, hxl, by simpa using congrArg Prod.fst hxy, fun j f hj => ?_⟩
    obtain ⟨o1, o2⟩ := hoff j f hj
    have hjs : j < fs.size := (Array.getElem?_eq_some_iff.1 hj).1
    have hjc : j < cs'.length := by omega
    have e1 := hcell j hjs
    rw [Go.Proofs.YtodgcfkdnellpaaW.PrintWords.add_add] at e1
    have g := hf j f hj
    rw [o1, o2] at g
    have : (cs'.drop j).take 1 = [cs'.getD j undef] := by
      rw [List.drop_eq_getElem_cons hjc, List.take_succ_cons, List.take_zero, List.getD_eq_getElem?_getD, List.getElem?_eq_getElem hjc]; rfl
    rw [this] at g
    refine ⟨?_, g⟩
    rw [e1, List.getElem?_eq_getElem hjc]
  obtain ⟨q, hq⟩ := choose_lt each
  refine ⟨a, len, cap, n - 1, (List.range (m - len)).map (fun j => D (len + j)), fun i j => (q i).1.getD j undef, fun i => (q i).2.map (·.1), rfl, hl, hm, ?_, fun i hi => ⟨by rw [List.length_map]; exact (hq i hi).2.1, fun j f hj => ?_⟩⟩
  · show DataW.slice _ _ = _
    rw [List.map_congr_left (fun i hi => (hq i (List.mem_range.1 hi)).2.2.1)]
  · obtain ⟨h1, h2, h3, h4⟩ := hq i hi
    obtain ⟨g1, g2⟩ := h4 j f hj
    have hjs : j < fs.size := (Array.getElem?_eq_some_iff.1 hj).1
    have e1 : (q i).1[j]? = some ((q i).1.getD j undef) := by rw [List.getD_eq_getElem?_getD, List.getElem?_eq_getElem (by omega)]; rfl
    have e2 : (q i).2[j]? = some ((q i).2[j]'(by omega)) := List.getElem?_eq_getElem (by omega)
    refine ⟨by rw [g1, e1], ((q i).2[j]'(by omega)).1, ((q i).2[j]'(by omega)).2, by rw [List.getElem?_map, e2]; rfl, by rw [g2, e2]⟩
def numV : Value → Int | .int _ n => n | _ => 0
theorem cell_spot {w : World} {a : Addr} {v : Value} (h : w.cell? a = some v) : a.spot = none := by
  unfold World.cell? at h
  split at h
  · split at h
    · cases h
    · rename_i hs; simpa using hs
  · cases h
structure Ac where
  kind : Int
  id : Int
  at_ : Int
  deriving Inhabited
structure AcAt (w : World) (b off : Nat) (i : Nat) (x : Ac) : Prop where
  c0 : w.cell? ⟨b, off + i * 3, none⟩ = some (.int .i64 x.kind)
  c1 : w.cell? ⟨b, off + i * 3 + 1, none⟩ = some (.int .i64 x.id)
  c2 : w.cell? ⟨b, off + i * 3 + 2, none⟩ = some (.int .i64 x.at_)
  wf : (Lit.int .i64 x.kind).wf = true ∧ (Lit.int .i64 x.id).wf = true ∧ (Lit.int .i64 x.at_).wf = true
def AcsAt (w : World) (A : Option Addr) (l : List Ac) : Prop := l = [] ∨ ∃ b off, A = some ⟨b, off, none⟩ ∧ ∀ i (h : i < l.length), AcAt w b off i l[i]
theorem fields39 : ∃ f0 f1 f2, Try.prog.underlying 39 = some (.struct #[f0, f1, f2]) ∧ (f0.type = 3 ∧ f0.offset = 0) ∧ (f1.type = 2 ∧ f1.offset = 1) ∧ (f2.type = 2 ∧ f2.offset = 2) :=
  ⟨_, _, _, Try.underlying39, ⟨rfl, rfl⟩, ⟨rfl, rfl⟩, ⟨rfl, rfl⟩⟩
theorem acts_of {H : Type} {enc : TypeId × Value → H} {W : World} {a : Option Addr} {len cap : Nat} {d : DataW H} {p : List MemPlace} (h : DataW.Trod enc Try.prog W 0 (fun _ => true) true 37 (.slice a len cap) d p) :
    ∃ l : List Ac, l.length = len ∧ AcsAt W a l ∧ len ≤ maxLen := by
  obtain ⟨fuel, hf⟩ := h
  obtain ⟨f0, f1, f2, hu, ⟨t0, o0⟩, ⟨t1, o1⟩, ⟨t2, o2⟩⟩ := fields39
  have hc3 : Try.prog.cellsOf 3 = 1 := by kernel_rfl
  have hc2 : Try.prog.cellsOf 2 = 1 := by kernel_rfl
  have hoff : ∀ (j : Nat) (f : Field), #[f0, f1, f2][j]? = some f → f.offset = j ∧ Try.prog.cellsOf f.type = 1 := fun j f hj => by
    match j, hj with
    | 0, hj => obtain rfl : f0 = f := by simpa using hj
               exact ⟨o0, by rw [t0]; exact hc3⟩
    | 1, hj => obtain rfl : f1 = f := by simpa using hj
               exact ⟨o1, by rw [t1]; exact hc2⟩
    | 2, hj => obtain rfl : f2 = f := by simpa using hj
               exact ⟨o2, by rw [t2]; exact hc2⟩
    | j + 3, hj => simp at hj
  rcases open_structs Try.underlying37 hu (by kernel_rfl) hoff hf with ⟨hcs, _⟩ | ⟨x, ln, cp, n, sp, V, D, hcs, hl, hm, hx, hi⟩
  · simp [Value.cells] at hcs
    obtain ⟨rfl, rfl, rfl⟩ := hcs
    exact ⟨[], rfl, .inl rfl, by decide⟩
  · simp [Value.cells] at hcs
    obtain ⟨rfl, rfl, rfl⟩ := hcs
    have each : ∀ i, i < len → ∃ y : Ac, W.cell? (x.add (i * 3)) = some (.int .i64 y.kind) ∧ W.cell? (x.add (i * 3 + 1)) = some (.int .i64 y.id) ∧ W.cell? (x.add (i * 3 + 2)) = some (.int .i64 y.at_) ∧ (Lit.int .i64 y.kind).wf = true ∧ (Lit.int .i64 y.id).wf = true ∧ (Lit.int .i64 y.at_).wf = true := by
      intro i hlt
      obtain ⟨hDl, hj⟩ := hi i hlt
      obtain ⟨c0, d0, p0, e0, g0⟩ := hj 0 f0 rfl
      obtain ⟨c1, d1, p1, e1, g1⟩ := hj 1 f1 rfl
      obtain ⟨c2, d2, p2, e2, g2⟩ := hj 2 f2 rfl
      rw [t0] at g0; rw [t1] at g1; rw [t2] at g2
      obtain ⟨n0, q0, _, w0⟩ := DataW.trod_int Try.underlying3 g0
      obtain ⟨n1, q1, _, w1⟩ := DataW.trod_int Try.underlying2 g1
      obtain ⟨n2, q2, _, w2⟩ := DataW.trod_int Try.underlying2 g2
      simp at q0 q1 q2
      rw [q0] at c0; rw [q1] at c1; rw [q2] at c2
      have hcc : ∀ j : Nat, i * #[f0, f1, f2].size + j = i * 3 + j := fun _ => rfl
      rw [hcc] at c0 c1 c2
      exact ⟨⟨n0, n1, n2⟩, c0, c1, c2, w0, w1, w2⟩
    by_cases h0 : len = 0
    · exact ⟨[], h0.symm, .inl rfl, by omega⟩
    · obtain ⟨y, hy⟩ := choose_lt each
      have hs : x.spot = none := by
        have h1 := cell_spot (hy 0 (by omega)).1
        simpa [Addr.add] using h1
      have hadd : ∀ j, x.add j = ⟨x.block, x.off + j, none⟩ := fun j => by
        obtain ⟨b, o, s⟩ := x
        simp at hs
        subst hs
        unfold Addr.add
        split <;> simp_all
      refine ⟨(List.range len).map y, by simp, .inr ⟨x.block, x.off, by rw [← hs], fun i hi => ?_⟩, by omega⟩
      have hi' : i < len := by simpa using hi
      obtain ⟨h1, h2, h3, h5⟩ := hy i hi'
      simp only [hadd] at h1 h2 h3
      have e : ((List.range len).map y)[i] = y i := by simp
      rw [e]
      exact ⟨h1, h2, h3, h5⟩
end Go.Proofs.Ytodgcfkdnellpaa
