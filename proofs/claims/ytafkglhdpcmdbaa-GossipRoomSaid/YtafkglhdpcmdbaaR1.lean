/- An argument that is a row of structs whose fields are one cell each, laid open at every index; Gossip's acts. -/
import Derived.Test.YtafkglhdpcmdbaaLTold
import Derived.Deep.Slices
import Derived.ProofKit
import Derived.SizedLaws
import Derived.OpenShut
set_option linter.unusedSimpArgs false
set_option linter.unusedVariables false
namespace Go.Proofs.Ytafkglhdpcmdbaa
open Go.RowKit Go.ChangeShapes Go.WideShapes Go.Deep Go.Proofs.YtafkglhdpcmdbaaW.PrintWords
theorem open_structs {H : Type} {enc : TypeId × Value → H} {P : Program} {w : World} {base : Nat} {spare : Nat → Bool} {held : Bool} {t e : TypeId} {fs : Array Field} {fuel : Nat} {cs : List Value} {x : DataW H × List MemPlace} (ht : P.underlying t = some (.slice e)) (he : P.underlying e = some (.struct fs))
    (ce : P.cellsOf e = fs.size) (hoff : ∀ (j : Nat) (f : Field), fs[j]? = some f → f.offset = j ∧ P.cellsOf f.type = 1) (h : DataW.trod enc P w base spare held fuel t cs = some x) :
    (cs = [.slice none 0 0] ∧ x = (.nil, [])) ∨
    ∃ (a : Addr) (len cap n : Nat) (sp : List (DataW H)) (V : Nat → Nat → Value) (D : Nat → List (DataW H)), cs = [.slice (some a) len cap] ∧ len ≤ cap ∧ cap ≤ maxLen ∧ x.1 = .slice ((List.range len).map fun i => .agg (D i)) sp ∧
      ∀ i, i < len → (D i).length = fs.size ∧ ∀ (j : Nat) (f : Field), fs[j]? = some f → w.cell? (a.add (i * fs.size + j)) = some (V i j) ∧ ∃ d p, (D i)[j]? = some d ∧ DataW.trod enc P w base spare held n f.type [V i j] = some (d, p) := by
  rcases open_slice ht h with h0 | ⟨a, len, cap, m, n, D, Pl, rfl, hb, hl, hm, hmm, rfl, hx⟩
  · exact Or.inl h0
  right
  have hlm : len ≤ m := by rw [hmm]; split <;> omega
  have each : ∀ i, i < len → ∃ q : (List Value) × (List (DataW H × List MemPlace)), q.1.length = fs.size ∧ q.2.length = fs.size ∧ D i = .agg (q.2.map (·.1)) ∧ ∀ (j : Nat) (f : Field), fs[j]? = some f → w.cell? (a.add (i * fs.size + j)) = q.1[j]? ∧ DataW.trod enc P w base spare held (n - 1) f.type [q.1.getD j undef] = q.2[j]? := by
    intro i hi
    obtain ⟨cs', h1, h2⟩ := hx i (by omega)
    rw [ce] at h1
    obtain ⟨_, hlen, hcell⟩ := World.cells?_some h1
    obtain ⟨xs, k, hk, hxy, _, hxl, hf⟩ := DataW.trod_struct he h2
    have hk' : k = n - 1 := by omega
    subst hk'
    refine ⟨(cs', xs), hlen, hxl, by simpa using congrArg Prod.fst hxy, fun j f hj => ?_⟩
    obtain ⟨o1, o2⟩ := hoff j f hj
    have hjs : j < fs.size := (Array.getElem?_eq_some_iff.1 hj).1
    have hjc : j < cs'.length := by omega
    have e1 := hcell j hjs
    rw [Go.Proofs.YtafkglhdpcmdbaaW.PrintWords.add_add] at e1
    have g := hf j f hj
    rw [o1, o2] at g
    have : (cs'.drop j).take 1 = [cs'.getD j undef] := by
      rw [List.drop_eq_getElem_cons hjc, List.take_succ_cons, List.take_zero, List.getD_eq_getElem?_getD, List.getElem?_eq_getElem hjc]; rfl
    rw [this] at g
    refine ⟨?_, g⟩
    rw [e1, List.getElem?_eq_getElem hjc]
  obtain ⟨q, hq⟩ := choose_lt each
  refine ⟨a, len, cap, n - 1, (List.range (m - len)).map (fun j => D (len + j)), fun i j => (q i).1.getD j undef, fun i => (q i).2.map (·.1), rfl, hl, hm, ?_, fun i hi => ⟨by rw [List.length_map]; exact (hq i hi).2.1, fun j f hj => ?_⟩⟩
  · show DataW.slice _ _ = _
    rw [List.map_congr_left (fun i hi => (hq i (List.mem_range.1 hi)).2.2.1)]
  · obtain ⟨h1, h2, h3, h4⟩ := hq i hi
    obtain ⟨g1, g2⟩ := h4 j f hj
    have hjs : j < fs.size := (Array.getElem?_eq_some_iff.1 hj).1
    have e1 : (q i).1[j]? = some ((q i).1.getD j undef) := by rw [List.getD_eq_getElem?_getD, List.getElem?_eq_getElem (by omega)]; rfl
    have e2 : (q i).2[j]? = some ((q i).2[j]'(by omega)) := List.getElem?_eq_getElem (by omega)
    refine ⟨by rw [g1, e1], ((q i).2[j]'(by omega)).1, ((q i).2[j]'(by omega)).2, by rw [List.getElem?_map, e2]; rfl, by rw [g2, e2]⟩
theorem weights_all {H : Type} {P : Program} {e : TypeId} {n : Nat} {d : DataW H} : ∀ {l : List (DataW H)}, d ∈ l → n ∈ d.weights P e → n ∈ DataW.weightsAll P e l
  | x :: r, h, hn => by
    simp only [DataW.weightsAll, List.mem_append]
    rcases List.mem_cons.1 h with rfl | h
    · exact .inl hn
    · exact .inr (weights_all h hn)
/-- a slice inside an element of an argument's slice of structs: its reach -/
theorem sized_inner {H : Type} {P : Program} {ts : List TypeId} {ds : List (DataW H)} {fs : Array Field} {f : Field} {i k j : Nat} {t e tf ef : TypeId} {elems spare parts es sp : List (DataW H)} (h : (DataW.weightsEach P ts ds).all (· ≤ reachBytes) = true) (ht : ts[k]? = some t) (hd : ds[k]? = some (.slice elems spare)) (hu : P.underlying t = some (.slice e)) (he : P.underlying e = some (.struct fs))
    (hi : elems[i]? = some (.agg parts)) (hf : fs[j]? = some f) (hp : parts[j]? = some (.slice es sp)) (hft : f.type = tf) (hg : P.underlying tf = some (.slice ef)) : (es.length + sp.length) * P.bytesOf ef ≤ reachBytes := by
  have h1 : (es.length + sp.length) * P.bytesOf ef ∈ DataW.weights P tf (.slice es sp) := by simp [DataW.weights, hg]
  have h2 : (es.length + sp.length) * P.bytesOf ef ∈ DataW.weights P e (.agg parts) := by
    simp only [DataW.weights, he]
    exact DataW.weights_mem_each (j := j) (t := tf) (by rw [List.getElem?_map, Array.getElem?_toList, hf, ← hft]; rfl) hp _ h1
  have h3 : (es.length + sp.length) * P.bytesOf ef ∈ DataW.weights P t (.slice elems spare) := by
    simp only [DataW.weights, hu, List.mem_cons, List.mem_append]
    exact .inr (.inl (weights_all (List.mem_iff_getElem?.2 ⟨i, hi⟩) h2))
  have := List.all_eq_true.1 h _ (DataW.weights_mem_each ht hd _ h3)
  simpa using this
structure Act33 where
  kind : Int
  key : Int
  data : List Int
  times : Int
  deriving Inhabited
structure ActAt (w : World) (b off : Nat) (i : Nat) (x : Act33) : Prop where
  c0 : w.cell? ⟨b, off + i * 4, none⟩ = some (.int .i64 x.kind)
  c1 : w.cell? ⟨b, off + i * 4 + 1, none⟩ = some (.int .i64 x.key)
  c2 : ∃ A c, w.cell? ⟨b, off + i * 4 + 2, none⟩ = some (.slice A x.data.length c) ∧ ReadsInt w .u8 A x.data.length x.data
  c3 : w.cell? ⟨b, off + i * 4 + 3, none⟩ = some (.int .i64 x.times)
  few : x.data.length ≤ 140737488351232
  wf : (Lit.int .i64 x.kind).wf = true ∧ (Lit.int .i64 x.key).wf = true ∧ (Lit.int .i64 x.times).wf = true
def ActsAt (w : World) (A : Option Addr) (l : List Act33) : Prop := l = [] ∨ ∃ b off, A = some ⟨b, off, none⟩ ∧ ∀ i (h : i < l.length), ActAt w b off i l[i]
def numV : Value → Int | .int _ n => n | _ => 0
theorem cell_spot {w : World} {a : Addr} {v : Value} (h : w.cell? a = some v) : a.spot = none := by
  unfold World.cell? at h
  split at h
  · split at h
    · cases h
    · rename_i hs; simpa using hs
  · cases h
theorem fields33 : ∃ f0 f1 f2 f3, Try.prog.underlying 33 = some (.struct #[f0, f1, f2, f3]) ∧ (f0.type = 3 ∧ f0.offset = 0) ∧ (f1.type = 3 ∧ f1.offset = 1) ∧ (f2.type = 31 ∧ f2.offset = 2) ∧ (f3.type = 3 ∧ f3.offset = 3) :=
  ⟨_, _, _, _, Try.underlying33, ⟨rfl, rfl⟩, ⟨rfl, rfl⟩, ⟨rfl, rfl⟩, ⟨rfl, rfl⟩⟩
theorem acts_of {H : Type} {enc : TypeId × Value → H} {W : World} {ts : List TypeId} {ds : List (DataW H)} {k : Nat} {a : Option Addr} {len cap : Nat} {d : DataW H} {p : List MemPlace} (hsz : (DataW.weightsEach Try.prog ts ds).all (· ≤ reachBytes) = true) (hk : ts[k]? = some 25) (hd : ds[k]? = some d) (h : DataW.Trod enc Try.prog W 0 (fun _ => true) true 25 (.slice a len cap) d p) :
    ∃ l : List Act33, l.length = len ∧ ActsAt W a l ∧ len ≤ maxLen := by
  obtain ⟨fuel, hf⟩ := h
  obtain ⟨f0, f1, f2, f3, hu, ⟨t0, o0⟩, ⟨t1, o1⟩, ⟨t2, o2⟩, ⟨t3, o3⟩⟩ := fields33
  have hc3 : Try.prog.cellsOf 3 = 1 := by kernel_rfl
  have hc31 : Try.prog.cellsOf 31 = 1 := by kernel_rfl
  have hoff : ∀ (j : Nat) (f : Field), #[f0, f1, f2, f3][j]? = some f → f.offset = j ∧ Try.prog.cellsOf f.type = 1 := fun j f hj => by
    match j, hj with
    | 0, hj => obtain rfl : f0 = f := by simpa using hj
               exact ⟨o0, by rw [t0]; exact hc3⟩
    | 1, hj => obtain rfl : f1 = f := by simpa using hj
               exact ⟨o1, by rw [t1]; exact hc3⟩
    | 2, hj => obtain rfl : f2 = f := by simpa using hj
               exact ⟨o2, by rw [t2]; exact hc31⟩
    | 3, hj => obtain rfl : f3 = f := by simpa using hj
               exact ⟨o3, by rw [t3]; exact hc3⟩
    | j + 4, hj => simp at hj
  rcases open_structs Try.underlying25 hu (by kernel_rfl) hoff hf with ⟨hcs, _⟩ | ⟨x, ln, cp, n, sp, V, D, hcs, hl, hm, hx, hi⟩
  · simp [Value.cells] at hcs
    obtain ⟨rfl, rfl, rfl⟩ := hcs
    exact ⟨[], rfl, .inl rfl, by decide⟩
  · simp [Value.cells] at hcs
    obtain ⟨rfl, rfl, rfl⟩ := hcs
    have each : ∀ i, i < len → ∃ y : Act33, W.cell? (x.add (i * 4)) = some (.int .i64 y.kind) ∧ W.cell? (x.add (i * 4 + 1)) = some (.int .i64 y.key) ∧ (∃ A c, W.cell? (x.add (i * 4 + 2)) = some (.slice A y.data.length c) ∧ ReadsInt W .u8 A y.data.length y.data) ∧ W.cell? (x.add (i * 4 + 3)) = some (.int .i64 y.times) ∧ y.data.length ≤ 140737488351232 ∧ (Lit.int .i64 y.kind).wf = true ∧ (Lit.int .i64 y.key).wf = true ∧ (Lit.int .i64 y.times).wf = true := by
      intro i hlt
      obtain ⟨hDl, hj⟩ := hi i hlt
      obtain ⟨c0, d0, p0, e0, g0⟩ := hj 0 f0 rfl
      obtain ⟨c1, d1, p1, e1, g1⟩ := hj 1 f1 rfl
      obtain ⟨c2, d2, p2, e2, g2⟩ := hj 2 f2 rfl
      obtain ⟨c3, d3, p3, e3, g3⟩ := hj 3 f3 rfl
      rw [t0] at g0; rw [t1] at g1; rw [t2] at g2; rw [t3] at g3
      obtain ⟨n0, q0, _, w0⟩ := DataW.trod_int Try.underlying3 g0
      obtain ⟨n1, q1, _, w1⟩ := DataW.trod_int Try.underlying3 g1
      obtain ⟨n3, q3, _, w3⟩ := DataW.trod_int Try.underlying3 g3
      simp at q0 q1 q3
      rw [q0] at c0; rw [q1] at c1; rw [q3] at c3
      have hcc : ∀ j : Nat, i * #[f0, f1, f2, f3].size + j = i * 4 + j := fun _ => rfl
      rw [hcc] at c0 c1 c2 c3
      rcases open_ints Try.underlying31 Try.underlying5 (by kernel_rfl) g2 with ⟨hcs2, _⟩ | ⟨x2, l2, cc2, zs, hcs2, _, hl2, hm2, hz2, hx2, hcell2, hwz2⟩
      · simp at hcs2
        rw [hcs2] at c2
        exact ⟨⟨n0, n1, [], n3⟩, c0, c1, ⟨none, 0, c2, ReadsInt.nil W .u8⟩, c3, by simp, w0, w1, w3⟩
      · simp at hcs2
        rw [hcs2] at c2
        obtain ⟨l, hl', hr, _, _, _⟩ := ReadsInt.ofRowC (k := .u8) (w := W) (a := some x2) (len := l2) (cap := cc2) (zs := zs) (.inr ⟨x2, rfl, hl2, hm2, by simpa using hz2, hcell2, hwz2⟩)
        subst hl'
        have hd2 : d2 = .slice (lits .u8 (zs.take l.length)) (lits .u8 (zs.drop l.length)) := congrArg Prod.fst hx2
        have hdd : d = .slice ((List.range len).map fun i => .agg (D i)) sp := hx
        have hlen := sized_inner (i := i) (j := 2) (parts := D i) (tf := 31) (ef := 5) hsz hk (by rw [hd, hdd]) Try.underlying25 hu (by rw [List.getElem?_map, List.getElem?_range hlt]; rfl) rfl (by rw [e2, hd2]) t2 Try.underlying31
        have hb5 : Try.prog.bytesOf 5 = 1 := by kernel_rfl
        rw [hb5] at hlen
        have hrb : reachBytes = 140737488351232 := by decide
        rw [hrb] at hlen
        have hzl : zs.length = cc2 := by simpa using hz2
        simp [lits] at hlen
        exact ⟨⟨n0, n1, l, n3⟩, c0, c1, ⟨some x2, cc2, c2, hr⟩, c3, by show l.length ≤ _; omega, w0, w1, w3⟩
    by_cases h0 : len = 0
    · exact ⟨[], h0.symm, .inl rfl, by omega⟩
    · obtain ⟨y, hy⟩ := choose_lt each
      have hs : x.spot = none := by
        have h1 := cell_spot (hy 0 (by omega)).1
        simpa [Addr.add] using h1
      have hadd : ∀ j, x.add j = ⟨x.block, x.off + j, none⟩ := fun j => by
        obtain ⟨b, o, s⟩ := x
        simp at hs
        subst hs
        unfold Addr.add
        split <;> simp_all
      refine ⟨(List.range len).map y, by simp, .inr ⟨x.block, x.off, by rw [← hs], fun i hi => ?_⟩, by omega⟩
      have hi' : i < len := by simpa using hi
      obtain ⟨h1, h2, ⟨A, c, h3, h4⟩, h5, h6, h7⟩ := hy i hi'
      simp only [hadd] at h1 h2 h3 h5
      have e : ((List.range len).map y)[i] = y i := by simp
      rw [e]
      exact ⟨h1, h2, ⟨A, c, h3, h4⟩, h5, h6, h7⟩
end Go.Proofs.Ytafkglhdpcmdbaa
