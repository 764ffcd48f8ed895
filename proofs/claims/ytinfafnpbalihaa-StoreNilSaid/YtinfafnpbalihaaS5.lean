/- Store: its pins and its uses, as the heap holds them. -/
import Derived.Test.YtinfafnpbalihaaS4
set_option linter.unusedSimpArgs false
set_option linter.unusedVariables false
namespace Go.Proofs.Ytinfafnpbalihaa
open Go.RowKit Go.Maps Go.WideMaps Go.Proofs.YtinfafnpbalihaaW.PrintWords
instance : DecidableEq Tup := fun a b => decidable_of_iff (a.v = b.v ∧ a.s = b.s ∧ a.u = b.u ∧ a.d = b.d ∧ a.p = b.p ∧ a.sp = b.sp ∧ a.dp = b.dp) (by
  cases a; cases b; simp)
theorem bytesV_inj {a b : List Int} (h : bytesV a = bytesV b) : a = b := (List.map_inj_right (f := Value.int .u8) (fun x y h => by injection h)).1 h
theorem Tup.cells_inj {a b : Tup} (ha : a.Ok) (hb : b.Ok) (h : a.cells = b.cells) : a = b := by
  have l1 := addrC_len (v6 := a.v) ha.s.len
  have l2 := addrC_len (v6 := b.v) hb.s.len
  have l3 := addrC_len (v6 := a.u) ha.d.len
  have l4 := addrC_len (v6 := b.u) hb.d.len
  unfold Tup.cells at h
  obtain ⟨h1, h2⟩ := List.append_inj h (by rw [l1, l2])
  obtain ⟨h3, h4⟩ := List.append_inj h2 (by rw [l3, l4])
  obtain ⟨e1, e2⟩ := List.cons.inj h1
  obtain ⟨e3, e4⟩ := List.cons.inj h3
  have e2 := bytesV_inj e2
  have e4 := bytesV_inj e4
  cases a; cases b
  simp only [List.cons.injEq, Value.int.injEq, Value.bool.injEq, true_and, and_true] at e1 e2 e3 e4 h4
  obtain ⟨e5, e6, e7⟩ := h4
  simp only [Tup.mk.injEq]
  exact ⟨e1, e2, e3, e4, e5, e6, e7⟩
set_option maxRecDepth 100000 in
theorem Tup.key_inj {a b : Tup} (ha : a.Ok) (hb : b.Ok) (h : a.key = b.key) : a = b := by
  have h1 := key33 ha
  have h2 := key33 hb
  have h3 := law33.inj h1 (h2.trans (congrArg some h.symm))
  injection h3 with h3
  exact Tup.cells_inj ha hb (by have := congrArg Array.toList h3; simpa using this)
structure Pn where
  t : Tup
  b : Int
  g : Int
  p : Int
  s : Int
  l : Int
def Pn.cells (x : Pn) : List Value := x.t.cells ++ [.int .i64 x.b, .int .i64 x.g, .int .i64 x.p, .int .i64 x.s, .int .i64 x.l]
def Pn.val (x : Pn) : Value := .agg x.cells.toArray
def Pn.zero : Pn := ⟨⟨false, List.replicate 16 0, false, List.replicate 16 0, 0, 0, 0⟩, 0, 0, 0, 0, 0⟩
def Pn.live (x : Pn) (n : Int) : Bool := fLive x.p x.s x.l n
theorem Pn.len {x : Pn} (h : x.t.Ok) : x.cells.length = 42 := by simp [Pn.cells, Tup.len h]
theorem addr_one {v : Bool} {bs : List Int} : ∀ x ∈ addrC v bs, x.oneCell' = true := by
  intro x hx
  rcases List.mem_cons.1 hx with rfl | hx
  · rfl
  · obtain ⟨_, _, rfl⟩ := List.mem_map.1 hx; rfl
theorem ints_one {l : List Int} : ∀ x ∈ l.map (Value.int .i64), x.oneCell' = true := by
  intro x hx
  obtain ⟨_, _, rfl⟩ := List.mem_map.1 hx; rfl
theorem Tup.one {t : Tup} : ∀ v ∈ t.cells, v.oneCell' = true := by
  intro v hv
  rcases List.mem_append.1 hv with hv | hv
  · exact addr_one v hv
  · rcases List.mem_append.1 hv with hv | hv
    · exact addr_one v hv
    · exact ints_one (l := [t.p, t.sp, t.dp]) v hv
theorem Pn.one {x : Pn} : ∀ v ∈ x.cells, v.oneCell' = true := by
  intro v hv
  rcases List.mem_append.1 hv with hv | hv
  · exact Tup.one v hv
  · exact ints_one (l := [x.b, x.g, x.p, x.s, x.l]) v hv
def RP : Value → Option (DataW Value × List MemPlace) := fun v => some (.held v, [])
/-- the map of pins -/
structure PinsD (M : List Pn) (D : DataW Value) : Prop where
  size : Maps.size D = M.length
  has : ∀ kl, Maps.has D kl = true → ∃ x ∈ M, x.t.key = kl
  here : ∀ x ∈ M, ∀ z, D.atKey x.t.key z = .held x.val
  uniq : (M.map (·.t)).Nodup
  ok : ∀ x ∈ M, x.t.Ok
def PinsIs (w : World) (bm c : Nat) (M : List Pn) : Prop := ∃ D : DataW Value, w.ownsMap Try.prog 33 RP bm c D ∧ PinsD M D
def findP (M : List Pn) (t : Tup) : Option Pn := M.find? (fun x => decide (x.t = t))
theorem findP_some {M : List Pn} {t : Tup} {x : Pn} (h : findP M t = some x) : x ∈ M ∧ x.t = t := by
  have h1 := List.find?_some h
  exact ⟨List.mem_of_find?_eq_some h, by simpa using h1⟩
theorem findP_none {M : List Pn} {t : Tup} (h : findP M t = none) : ∀ x ∈ M, x.t ≠ t := fun x hx => by
  have := List.find?_eq_none.1 h x hx
  simpa using this
theorem PinsD.no {M : List Pn} {D : DataW Value} (h : PinsD M D) {t : Tup} (ht : t.Ok) (hn : findP M t = none) : Maps.has D t.key = false := by
  cases hh : Maps.has D t.key with
  | false => rfl
  | true =>
    obtain ⟨x, hx, hk⟩ := h.has _ hh
    exact (findP_none hn x hx (Tup.key_inj (h.ok x hx) ht hk)).elim
theorem PinsD.yes {M : List Pn} {D : DataW Value} (h : PinsD M D) {t : Tup} {x : Pn} (hs : findP M t = some x) : Maps.has D t.key = true ∧ ∀ z, D.atKey t.key z = .held x.val := by
  obtain ⟨hx, rfl⟩ := findP_some hs
  exact ⟨Maps.has_true_of_atKey (h.here x hx), h.here x hx⟩
theorem zero38 (w : World) : (zeroValue 38).run Try.prog w = .ok Pn.zero.val w := by kernel_rfl
def pinOr (o : Option Pn) : Pn := o.getD Pn.zero
theorem look_pin {w : World} {bm c : Nat} {M : List Pn} (h : PinsIs w bm c M) {t : Tup} (ht : t.Ok) :
    (Instr.lookup 61 (.map (some bm)) (.agg t.cells.toArray) true).run Try.prog w = .ok (.tuple #[(pinOr (findP M t)).val, .bool (findP M t).isSome]) w := by
  obtain ⟨D, ho, hD⟩ := h
  obtain ⟨v, ps, hr, hv⟩ := ho.look_ok law33 Try.underlying61 (zero38 w) (zd := .held Pn.zero.val) (zp := []) rfl (key33 ht)
  refine hr.trans ?_
  clear hr
  cases hf : findP M t with
  | none =>
    have hn := hD.no ht hf
    rw [Maps.atKey_of_not_has hn] at hv
    simp only [RP, Option.some.injEq, Prod.mk.injEq] at hv
    injection hv.1 with hv
    rw [hn, hv]; rfl
  | some x =>
    rw [(hD.yes hf).2] at hv
    simp only [RP, Option.some.injEq, Prod.mk.injEq] at hv
    injection hv.1 with hv
    rw [(hD.yes hf).1, hv]; rfl
end Go.Proofs.Ytinfafnpbalihaa
