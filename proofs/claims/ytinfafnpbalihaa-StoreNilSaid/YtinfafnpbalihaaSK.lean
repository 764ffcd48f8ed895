/- Store: a list of calls, as an argument. -/
import Derived.Test.YtinfafnpbalihaaSI
import Derived.Deep.Slices
import Derived.ProofKit
import Derived.SizedLaws
import Derived.OpenShut
set_option linter.unusedSimpArgs false
set_option linter.unusedVariables false
namespace Go.Proofs.Ytinfafnpbalihaa
open Go.ChangeShapes Go.WideShapes Go.Deep Go.RowKit Go.Maps Go.WideMaps Go.Proofs.YtinfafnpbalihaaW.PrintWords
structure Ac where
  kind : Int
  t : Tup
  flags : Int
  now : Int
  until_ : Int
  b : Int
  g : Int
instance : Inhabited Ac := ⟨⟨0, Pn.zero.t, 0, 0, 0, 0, 0⟩⟩
def Ac.cells (x : Ac) : List Value := .int .i64 x.kind :: (x.t.cells ++ [.int .i64 x.flags, .int .i64 x.now, .int .i64 x.until_, .int .i64 x.b, .int .i64 x.g])
structure Ac.Ok (x : Ac) : Prop where
  t : x.t.Ok
  flags : wf64 x.flags
  now : wf64 x.now
  until_ : wf64 x.until_
  b : wf64 x.b
  g : wf64 x.g
  kind : wf64 x.kind
theorem Ac.len {x : Ac} (h : x.t.Ok) : x.cells.length = 43 := by simp [Ac.cells, Tup.len h]
theorem Ac.one {x : Ac} : ∀ v ∈ x.cells, v.oneCell' = true := by
  intro v hv
  rcases List.mem_cons.1 hv with rfl | hv
  · rfl
  · rcases List.mem_append.1 hv with hv | hv
    · exact Tup.one v hv
    · exact ints_one (l := [x.flags, x.now, x.until_, x.b, x.g]) v hv
theorem size42 : (Try.prog.info? 42).map (·.size) = some 43 := by kernel_rfl
theorem cells42 : Try.prog.cellsOf 42 = 43 := by kernel_rfl
section
variable {H : Type} {enc : TypeId × Value → H} {w : World} {base : Nat} {spare : Nat → Bool} {held : Bool} {fuel : Nat} {cs : List Value} {x : DataW H × List MemPlace}
theorem bytes_of (h : DataW.trod enc Try.prog w base spare held fuel 29 cs = some x) : ∃ bs, Bytes16 bs ∧ cs = bytesV bs := by
  obtain ⟨xs, m, _, _, hl, hx, hi⟩ := DataW.trod_array Try.underlying29 h
  rw [cells29] at hl
  have each : ∀ i, i < 16 → ∃ n : Int, cs[i]? = some (.int .u8 n) ∧ (Lit.int .u8 n).wf = true := fun i hi' => by
    have h1 := hi i hi'
    rw [cells5, Nat.mul_one, List.getElem?_eq_getElem (by omega)] at h1
    obtain ⟨n, hn, _, hw⟩ := DataW.trod_int Try.underlying5 h1
    refine ⟨n, ?_, hw⟩
    have h2 : (cs.drop i).take 1 = [cs[i]'(by omega)] := by rw [List.drop_eq_getElem_cons (by omega), List.take_succ_cons, List.take_zero]
    rw [h2] at hn
    rw [List.getElem?_eq_getElem (by omega)]
    simpa using hn
  obtain ⟨f, hf⟩ := choose_lt each
  refine ⟨(List.range 16).map f, ⟨by simp, fun b hb => ?_⟩, ?_⟩
  · obtain ⟨i, hi, rfl⟩ := List.mem_map.1 hb
    exact (hf i (List.mem_range.1 hi)).2
  · apply List.ext_getElem?
    intro i
    by_cases h16 : i < 16
    · rw [(hf i h16).1]; simp [bytesV, h16]
    · rw [List.getElem?_eq_none (by omega), List.getElem?_eq_none (by simp [bytesV]; omega)]
theorem addr_of (h : DataW.trod enc Try.prog w base spare held fuel 31 cs = some x) : ∃ v bs, Bytes16 bs ∧ cs = addrC v bs := by
  obtain ⟨xs, m, _, _, hl, hx, hi⟩ := DataW.trod_struct Try.underlying31 h
  rw [cells31] at hl
  have hx : xs.length = 2 := hx
  have h0 : DataW.trod enc Try.prog w base spare held m 4 ((cs.drop 0).take (Try.prog.cellsOf 4)) = xs[0]? := hi 0 _ rfl
  have h1 : DataW.trod enc Try.prog w base spare held m 29 ((cs.drop 1).take (Try.prog.cellsOf 29)) = xs[1]? := hi 1 _ rfl
  rw [List.getElem?_eq_getElem (by omega)] at h0 h1
  rw [cells4] at h0
  rw [cells29] at h1
  obtain ⟨v, hv, _⟩ := DataW.trod_bool Try.underlying4 h0
  obtain ⟨bs, hb, he⟩ := bytes_of h1
  refine ⟨v, bs, hb, ?_⟩
  rw [List.drop_zero] at hv
  have e1 : (cs.drop 1).take 16 = cs.drop 1 := List.take_of_length_le (by simp; omega)
  rw [e1] at he
  rw [← List.take_append_drop 1 cs, hv, he]; rfl
theorem tup_of (h : DataW.trod enc Try.prog w base spare held fuel 33 cs = some x) : ∃ t : Tup, t.Ok ∧ cs = t.cells := by
  obtain ⟨xs, m, _, _, hl, hx, hi⟩ := DataW.trod_struct Try.underlying33 h
  rw [cells33] at hl
  have hx : xs.length = 5 := hx
  have h0 : DataW.trod enc Try.prog w base spare held m 31 ((cs.drop 0).take (Try.prog.cellsOf 31)) = xs[0]? := hi 0 _ rfl
  have h1 : DataW.trod enc Try.prog w base spare held m 31 ((cs.drop 17).take (Try.prog.cellsOf 31)) = xs[1]? := hi 1 _ rfl
  have h2 : DataW.trod enc Try.prog w base spare held m 3 ((cs.drop 34).take (Try.prog.cellsOf 3)) = xs[2]? := hi 2 _ rfl
  have h3 : DataW.trod enc Try.prog w base spare held m 3 ((cs.drop 35).take (Try.prog.cellsOf 3)) = xs[3]? := hi 3 _ rfl
  have h4 : DataW.trod enc Try.prog w base spare held m 3 ((cs.drop 36).take (Try.prog.cellsOf 3)) = xs[4]? := hi 4 _ rfl
  rw [List.getElem?_eq_getElem (by omega)] at h0 h1 h2 h3 h4
  rw [cells31] at h0 h1
  rw [cells3] at h2 h3 h4
  obtain ⟨v, s, hs, e0⟩ := addr_of h0
  obtain ⟨u, d, hd, e1⟩ := addr_of h1
  obtain ⟨p, e2, _, w2⟩ := DataW.trod_int Try.underlying3 h2
  obtain ⟨sp, e3, _, w3⟩ := DataW.trod_int Try.underlying3 h3
  obtain ⟨dp, e4, _, w4⟩ := DataW.trod_int Try.underlying3 h4
  refine ⟨⟨v, s, u, d, p, sp, dp⟩, ⟨hs, hd, w2, w3, w4⟩, ?_⟩
  have hc : cs = cs.take 17 ++ ((cs.drop 17).take 17 ++ ((cs.drop 34).take 1 ++ ((cs.drop 35).take 1 ++ (cs.drop 36).take 1))) := by
    have k1 : (cs.drop 36).take 1 = cs.drop 36 := List.take_of_length_le (by simp; omega)
    have k2 : (cs.drop 35).take 1 ++ cs.drop 36 = cs.drop 35 := by rw [show 36 = 35 + 1 by rfl, ← List.drop_drop, List.take_append_drop]
    have k3 : (cs.drop 34).take 1 ++ cs.drop 35 = cs.drop 34 := by rw [show 35 = 34 + 1 by rfl, ← List.drop_drop, List.take_append_drop]
    have k4 : (cs.drop 17).take 17 ++ cs.drop 34 = cs.drop 17 := by rw [show 34 = 17 + 17 by rfl, ← List.drop_drop, List.take_append_drop]
    rw [k1, k2, k3, k4, List.take_append_drop]
  rw [List.drop_zero] at e0
  rw [hc, e0, e1, e2, e3, e4]; rfl
theorem act_of (h : DataW.trod enc Try.prog w base spare held fuel 42 cs = some x) : ∃ a : Ac, a.Ok ∧ cs = a.cells := by
  obtain ⟨xs, m, _, _, hl, hx, hi⟩ := DataW.trod_struct Try.underlying42 h
  rw [cells42] at hl
  have hx : xs.length = 7 := hx
  have h0 : DataW.trod enc Try.prog w base spare held m 3 ((cs.drop 0).take (Try.prog.cellsOf 3)) = xs[0]? := hi 0 _ rfl
  have h1 : DataW.trod enc Try.prog w base spare held m 33 ((cs.drop 1).take (Try.prog.cellsOf 33)) = xs[1]? := hi 1 _ rfl
  have h2 : DataW.trod enc Try.prog w base spare held m 3 ((cs.drop 38).take (Try.prog.cellsOf 3)) = xs[2]? := hi 2 _ rfl
  have h3 : DataW.trod enc Try.prog w base spare held m 2 ((cs.drop 39).take (Try.prog.cellsOf 2)) = xs[3]? := hi 3 _ rfl
  have h4 : DataW.trod enc Try.prog w base spare held m 2 ((cs.drop 40).take (Try.prog.cellsOf 2)) = xs[4]? := hi 4 _ rfl
  have h5 : DataW.trod enc Try.prog w base spare held m 3 ((cs.drop 41).take (Try.prog.cellsOf 3)) = xs[5]? := hi 5 _ rfl
  have h6 : DataW.trod enc Try.prog w base spare held m 2 ((cs.drop 42).take (Try.prog.cellsOf 2)) = xs[6]? := hi 6 _ rfl
  rw [List.getElem?_eq_getElem (by omega)] at h0 h1 h2 h3 h4 h5 h6
  rw [cells33] at h1
  rw [cells3] at h0 h2 h5
  rw [cells2] at h3 h4 h6
  obtain ⟨k, e0, _, w0⟩ := DataW.trod_int Try.underlying3 h0
  obtain ⟨t, ht, e1⟩ := tup_of h1
  obtain ⟨f, e2, _, w2⟩ := DataW.trod_int Try.underlying3 h2
  obtain ⟨n, e3, _, w3⟩ := DataW.trod_int Try.underlying2 h3
  obtain ⟨u, e4, _, w4⟩ := DataW.trod_int Try.underlying2 h4
  obtain ⟨b, e5, _, w5⟩ := DataW.trod_int Try.underlying3 h5
  obtain ⟨g, e6, _, w6⟩ := DataW.trod_int Try.underlying2 h6
  refine ⟨⟨k, t, f, n, u, b, g⟩, ⟨ht, w2, w3, w4, w5, w6, w0⟩, ?_⟩
  have hc : cs = cs.take 1 ++ ((cs.drop 1).take 37 ++ ((cs.drop 38).take 1 ++ ((cs.drop 39).take 1 ++ ((cs.drop 40).take 1 ++ ((cs.drop 41).take 1 ++ (cs.drop 42).take 1))))) := by
    have k0 : (cs.drop 42).take 1 = cs.drop 42 := List.take_of_length_le (by simp; omega)
    have k1 : (cs.drop 41).take 1 ++ cs.drop 42 = cs.drop 41 := by rw [show 42 = 41 + 1 by rfl, ← List.drop_drop, List.take_append_drop]
    have k2 : (cs.drop 40).take 1 ++ cs.drop 41 = cs.drop 40 := by rw [show 41 = 40 + 1 by rfl, ← List.drop_drop, List.take_append_drop]
    have k3 : (cs.drop 39).take 1 ++ cs.drop 40 = cs.drop 39 := by rw [show 40 = 39 + 1 by rfl, ← List.drop_drop, List.take_append_drop]
    have k4 : (cs.drop 38).take 1 ++ cs.drop 39 = cs.drop 38 := by rw [show 39 = 38 + 1 by rfl, ← List.drop_drop, List.take_append_drop]
    have k5 : (cs.drop 1).take 37 ++ cs.drop 38 = cs.drop 1 := by rw [show 38 = 1 + 37 by rfl, ← List.drop_drop, List.take_append_drop]
    rw [k0, k1, k2, k3, k4, k5, List.take_append_drop]
  rw [List.drop_zero] at e0
  rw [hc, e0, e1, e2, e3, e4, e5, e6]; rfl
end
/-- the i-th call of a list lies in a row -/
def AcAt (w : World) (b off : Nat) (i : Nat) (x : Ac) : Prop := w.rangeAt b (off + i * 43) x.cells ∧ x.Ok
def AcsAt (w : World) (A : Option Addr) (l : List Ac) : Prop := l = [] ∨ ∃ b off, A = some ⟨b, off, none⟩ ∧ b < w.heap.size ∧ ∀ i (h : i < l.length), AcAt w b off i l[i]
theorem cell_spot {w : World} {a : Addr} {v : Value} (h : w.cell? a = some v) : a.spot = none := by
  unfold World.cell? at h
  split at h
  · split at h
    · cases h
    · rename_i hs; simpa using hs
  · cases h
theorem acts_of {H : Type} {enc : TypeId × Value → H} {W : World} {a : Option Addr} {len cap : Nat} {d : DataW H} {p : List MemPlace} (h : DataW.Trod enc Try.prog W 0 (fun _ => true) true 22 (.slice a len cap) d p) :
    ∃ l : List Ac, l.length = len ∧ AcsAt W a l ∧ len ≤ maxLen := by
  obtain ⟨fuel, hf⟩ := h
  rcases open_slice Try.underlying22 hf with ⟨hcs, _⟩ | ⟨x, ln, cp, m, n, D, Pl, hcs, hb, hl, hm, hmm, _, hx⟩
  · simp [Value.cells] at hcs
    obtain ⟨rfl, rfl, rfl⟩ := hcs
    exact ⟨[], rfl, .inl rfl, by decide⟩
  · simp [Value.cells] at hcs
    obtain ⟨rfl, rfl, rfl⟩ := hcs
    have hlm : len ≤ m := by rw [hmm]; split <;> omega
    by_cases h0 : len = 0
    · exact ⟨[], h0.symm, .inl rfl, by omega⟩
    have each : ∀ i, i < len → ∃ y : Ac, y.Ok ∧ ∀ j v, y.cells[j]? = some v → W.cell? ((x.add (i * 43)).add j) = some v := by
      intro i hi
      obtain ⟨cs', h1, h2⟩ := hx i (by omega)
      rw [cells42] at h1
      obtain ⟨_, hlen, hcell⟩ := World.cells?_some h1
      obtain ⟨y, hy, rfl⟩ := act_of h2
      refine ⟨y, hy, fun j v hj => ?_⟩
      have hjl := (List.getElem?_eq_some_iff.1 hj).1
      rw [hcell j (by omega), ← hj, List.getElem?_eq_getElem hjl]
    obtain ⟨y, hy⟩ := choose_lt each
    have hy0 := (hy 0 (by omega)).2 0 (.int .i64 (y 0).kind) rfl
    have hs : x.spot = none := by
      have h1 := cell_spot hy0
      simpa [Addr.add] using h1
    have hadd : ∀ (q : Addr) j, q.spot = none → q.add j = ⟨q.block, q.off + j, none⟩ := fun q j hq => by
      obtain ⟨b, o, s⟩ := q
      simp at hq
      subst hq
      unfold Addr.add
      split <;> simp_all
    have hadd2 : ∀ i j, (x.add (i * 43)).add j = ⟨x.block, x.off + i * 43 + j, none⟩ := fun i j => by
      rw [hadd x _ hs, hadd _ _ rfl]
    refine ⟨(List.range len).map y, by simp, .inr ⟨x.block, x.off, by rw [← hs], ?_, fun i hi => ?_⟩, by omega⟩
    · rw [hadd2] at hy0
      exact block_lt_of_cell (a := ⟨x.block, _, none⟩) hy0
    · have hi' : i < len := by simpa using hi
      obtain ⟨h1, h2⟩ := hy i hi'
      have e : ((List.range len).map y)[i] = y i := by simp
      rw [e]
      exact ⟨fun j v hj => by rw [← hadd2]; exact h2 j v hj, h1⟩
end Go.Proofs.Ytinfafnpbalihaa
