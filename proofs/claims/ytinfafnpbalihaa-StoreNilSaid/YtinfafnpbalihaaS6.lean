/- Store: the word for a store, and what a put makes of it. -/
import Derived.Test.YtinfafnpbalihaaS5
set_option linter.unusedSimpArgs false
set_option linter.unusedVariables false
namespace Go.Proofs.Ytinfafnpbalihaa
open Go.RowKit Go.Maps Go.WideMaps Go.Proofs.YtinfafnpbalihaaW.PrintWords
def wf64 (n : Int) : Prop := (Lit.int .i64 n).wf = true
def tgt (b g : Int) : Value := .agg #[.int .i64 b, .int .i64 g]
def tk (b g : Int) : Lit := .string (keyBytes [.int .i64 b, .int .i64 g])
theorem kt73 : Try.prog.keyType 73 = true := by kernel_rfl
theorem cells73 : Try.prog.cellsOf 73 = 2 := by kernel_rfl
theorem cells2 : Try.prog.cellsOf 2 = 1 := by kernel_rfl
set_option maxRecDepth 100000 in
theorem key73 {b g : Int} (hb : wf64 b) (hg : wf64 g) : keyOf Try.prog 73 (tgt b g) = some (tk b g) := by
  unfold wf64 at hb hg
  unfold keyOf tgt
  simp only [Try.underlying73]
  rw [if_pos (by simp [kt73, Value.formed, Try.underlying73, cells73]), types_sz]
  unfold Program.keyLits
  simp only [Try.underlying73]
  rw [if_pos (by simp [cells73, Value.cells])]
  have h3 : Try.prog.keyLits 139 3 [.int .i64 b] = some [.int .i64 b] := by simp [Program.keyLits, Try.underlying3, hb]
  have h2 : Try.prog.keyLits 139 2 [.int .i64 g] = some [.int .i64 g] := by simp [Program.keyLits, Try.underlying2, hg]
  simp only [List.mapM_cons, List.mapM_nil, cells2, cells3, Value.cells, List.drop_zero, List.take_succ_cons, List.take_zero, List.drop_succ_cons, h3, h2]
  rfl
set_option maxRecDepth 100000 in
theorem tk_inj {b g b' g' : Int} (hb : wf64 b) (hg : wf64 g) (hb' : wf64 b') (hg' : wf64 g') (h : tk b g = tk b' g') : b = b' ∧ g = g' := by
  have h1 := key73 hb hg
  have h2 := key73 hb' hg'
  have h3 := law73.inj h1 (h2.trans (congrArg some h.symm))
  simpa [tgt] using h3
def z64 : DataW Nat := .lit (.int .i64 0)
structure UseD (U : Int → Int → Option Int) (D : DataW Nat) : Prop where
  has : ∀ b g, wf64 b → wf64 g → Maps.has D (tk b g) = (U b g).isSome
  val : ∀ b g, wf64 b → wf64 g → D.atKey (tk b g) z64 = .lit (.int .i64 ((U b g).getD 0))
def UseIs (w : World) (bu c : Nat) (U : Int → Int → Option Int) : Prop := ∃ D : DataW Nat, w.ownsMap Try.prog 73 (plainElem Try.prog 2) bu c D ∧ UseD U D
theorem zero2 (w : World) : (zeroValue 2).run Try.prog w = .ok (.int .i64 0) w := by kernel_rfl
theorem look_use {w : World} {bu c : Nat} {U : Int → Int → Option Int} (h : UseIs w bu c U) {b g : Int} (hb : wf64 b) (hg : wf64 g) :
    (Instr.lookup 62 (.map (some bu)) (tgt b g) true).run Try.prog w = .ok (.tuple #[.int .i64 ((U b g).getD 0), .bool (U b g).isSome]) w ∧ (Instr.lookup 62 (.map (some bu)) (tgt b g) false).run Try.prog w = .ok (.int .i64 ((U b g).getD 0)) w ∧ wf64 ((U b g).getD 0) := by
  obtain ⟨D, ho, hD⟩ := h
  obtain ⟨v, ps, hr, hv⟩ := ho.look_ok law73 Try.underlying62 (zero2 w) (zd := z64) (zp := []) (plainElem_int Try.underlying2 (by decide)) (key73 hb hg)
  obtain ⟨c1, hr2, hat, hw⟩ := ho.lookup_int law73 Try.underlying62 Try.underlying2 (zero2 w) (key73 hb hg)
  obtain ⟨c', rfl, hc, hwc⟩ := plainElem_int_inv Try.underlying2 hv
  have e1 := hD.val b g hb hg
  have e2 := hat.symm.trans e1
  injection e2 with e2
  injection e2 with _ e2
  have e3 : D.atKey (tk b g) z64 = .lit (.int .i64 c') := congrArg Prod.fst hc
  have e4 := e3.symm.trans e1
  injection e4 with e4
  injection e4 with _ e4
  rw [hD.has b g hb hg, e4] at hr
  rw [e2] at hr2 hw
  exact ⟨hr, hr2, hw⟩
def putU (U : Int → Int → Option Int) (b g v : Int) : Int → Int → Option Int := fun b' g' => if b' = b ∧ g' = g then some v else U b' g'
theorem store_use {w : World} {bu c : Nat} {U : Int → Int → Option Int} (h : UseIs w bu c U) {b g v : Int} (hb : wf64 b) (hg : wf64 g) (hv : wf64 v) (hc : c < 1000000) :
    ∃ w', (Instr.mapUpdate 62 (.map (some bu)) (tgt b g) (.int .i64 v)).run Try.prog w = .ok () w' ∧ UseIs w' bu (c + 1) (putU U b g v) ∧ w.mapTurned w' bu := by
  obtain ⟨D, ho, hD⟩ := h
  obtain ⟨w', hr, ho', ht⟩ := ho.store law73 Try.underlying62 (by unfold maxLen; omega) (key73 hb hg) (plainElem_int Try.underlying2 hv)
  refine ⟨w', hr, ⟨_, ho', fun b' g' hb' hg' => ?_, fun b' g' hb' hg' => ?_⟩, ht⟩
  · unfold putU
    by_cases he : b' = b ∧ g' = g
    · rw [if_pos he, he.1, he.2, Maps.has_put_same ho.isMap (law73.key (key73 hb hg))]; rfl
    · rw [if_neg he, Maps.has_put_other (fun e => he (tk_inj hb' hg' hb hg e)), hD.has _ _ hb' hg']
  · unfold putU
    by_cases he : b' = b ∧ g' = g
    · rw [if_pos he, he.1, he.2, Maps.atKey_put_same ho.isMap (law73.key (key73 hb hg))]; rfl
    · rw [if_neg he, Maps.atKey_put_other (fun e => he (tk_inj hb' hg' hb hg e)), hD.val _ _ hb' hg']
def putM (M : List Pn) (x : Pn) : List Pn := x :: M.filter (fun y => decide (y.t ≠ x.t))
theorem putM_ok {M : List Pn} {x : Pn} (hx : x.t.Ok) (h : ∀ y ∈ M, y.t.Ok) : ∀ y ∈ putM M x, y.t.Ok := fun y hy => by
  rcases List.mem_cons.1 hy with rfl | hy
  · exact hx
  · exact h y (List.mem_filter.1 hy).1
theorem putM_uniq {M : List Pn} {x : Pn} (h : (M.map (·.t)).Nodup) : ((putM M x).map (·.t)).Nodup := by
  unfold putM
  rw [List.map_cons, List.nodup_cons]
  refine ⟨fun hm => ?_, h.sublist ((List.filter_sublist).map _)⟩
  obtain ⟨y, hy, he⟩ := List.mem_map.1 hm
  have := (List.mem_filter.1 hy).2
  simp at this
  exact this he
theorem filter_len {M : List Pn} {t : Tup} (h : (M.map (·.t)).Nodup) : (M.filter (fun y => decide (y.t ≠ t))).length = if (findP M t).isSome then M.length - 1 else M.length := by
  induction M with
  | nil => rfl
  | cons a r ih =>
    rw [List.map_cons, List.nodup_cons] at h
    have ih := ih h.2
    by_cases ha : a.t = t
    · have hr : r.filter (fun y => decide (y.t ≠ t)) = r := List.filter_eq_self.2 (fun y hy => by
        have : y.t ≠ t := fun e => h.1 (List.mem_map.2 ⟨y, hy, e.trans ha.symm⟩)
        simpa using this)
      have : findP (a :: r) t = some a := by unfold findP; rw [List.find?_cons]; simp [ha]
      rw [this, List.filter_cons, if_neg (by simp [ha]), hr]; rfl
    · have : findP (a :: r) t = findP r t := by unfold findP; rw [List.find?_cons]; simp [ha]
      rw [this, List.filter_cons, if_pos (by simp [ha]), List.length_cons, ih]
      cases hf : findP r t with
      | none => rfl
      | some x =>
        have := List.length_pos_of_mem (findP_some hf).1
        simp only [Option.isSome_some, if_pos, List.length_cons]
        omega
theorem store_pin {w : World} {bm c : Nat} {M : List Pn} (h : PinsIs w bm c M) {x : Pn} (hx : x.t.Ok) (hc : c < 1000000) :
    ∃ w', (Instr.mapUpdate 61 (.map (some bm)) (.agg x.t.cells.toArray) x.val).run Try.prog w = .ok () w' ∧ PinsIs w' bm (c + 1) (putM M x) ∧ w.mapTurned w' bm := by
  obtain ⟨D, ho, hD⟩ := h
  obtain ⟨w', hr, ho', ht⟩ := ho.store law33 Try.underlying61 (by unfold maxLen; omega) (key33 hx) (val := x.val) (d := .held x.val) (ps := []) rfl
  have hK := law33.key (key33 hx)
  refine ⟨w', hr, ⟨_, ho', ?_, ?_, ?_, putM_uniq hD.uniq, putM_ok hx hD.ok⟩, ht⟩
  · rw [Maps.size_put (ho.tidy law33), hD.size]
    show _ = (M.filter (fun y => decide (y.t ≠ x.t))).length + 1
    rw [filter_len hD.uniq]
    cases hf : findP M x.t with
    | none => rw [hD.no hx hf]; rfl
    | some y =>
      have := List.length_pos_of_mem (findP_some hf).1
      rw [(hD.yes hf).1]
      simp only [if_pos, Option.isSome_some]
      omega
  · intro kl hk
    by_cases he : kl = x.t.key
    · exact ⟨x, List.mem_cons_self .., he.symm⟩
    · rw [Maps.has_put_other he] at hk
      obtain ⟨y, hy, rfl⟩ := hD.has _ hk
      exact ⟨y, List.mem_cons_of_mem _ (List.mem_filter.2 ⟨hy, by simpa using fun e => he (by rw [e])⟩), rfl⟩
  · intro y hy z
    rcases List.mem_cons.1 hy with rfl | hy
    · exact Maps.atKey_put_same ho.isMap hK _ _
    · obtain ⟨h1, h2⟩ := List.mem_filter.1 hy
      have h2 : y.t ≠ x.t := by simpa using h2
      rw [Maps.atKey_put_other (fun e => h2 (Tup.key_inj (hD.ok y h1) hx e))]
      exact hD.here y h1 z
/-- a store -/
structure IsS (w : World) (g bm bu : Nat) (most : Int) (c : Nat) (M : List Pn) (U : Int → Int → Option Int) : Prop where
  blk : w.heap[g]? = some (.cells #[.int .i64 most, .map (some bm), .map (some bu)] 64 (0, 0))
  pins : PinsIs w bm c M
  use : UseIs w bu c U
  ne : bm ≠ bu
theorem PinsIs.lt {w : World} {bm c : Nat} {M : List Pn} (h : PinsIs w bm c M) : bm < w.heap.size := by obtain ⟨D, ho, _⟩ := h; exact ho.lt
theorem UseIs.lt {w : World} {bm c : Nat} {U : Int → Int → Option Int} (h : UseIs w bm c U) : bm < w.heap.size := by obtain ⟨D, ho, _⟩ := h; exact ho.lt
theorem map_fr {H : Type} {S : Nat → Prop} {w w1 : World} {k : TypeId} {R : Value → Option (DataW H × List MemPlace)} {bm n : Nat} {D : DataW H} (h : Fr S w w1) (ho : w.ownsMap Try.prog k R bm n D) (hn : ¬ S bm) : w1.ownsMap Try.prog k R bm n D := by
  have hlt := ho.lt
  obtain ⟨es, clock, hb, r⟩ := ho
  exact ⟨es, clock, (h.block bm hlt hn).trans hb, r⟩
theorem PinsIs.fr {S : Nat → Prop} {w w1 : World} {bm c : Nat} {M : List Pn} (h : PinsIs w bm c M) (hf : Fr S w w1) (hn : ¬ S bm) : PinsIs w1 bm c M := by
  obtain ⟨D, ho, hD⟩ := h; exact ⟨D, map_fr hf ho hn, hD⟩
theorem UseIs.fr {S : Nat → Prop} {w w1 : World} {bm c : Nat} {U : Int → Int → Option Int} (h : UseIs w bm c U) (hf : Fr S w w1) (hn : ¬ S bm) : UseIs w1 bm c U := by
  obtain ⟨D, ho, hD⟩ := h; exact ⟨D, map_fr hf ho hn, hD⟩
theorem IsS.lt {w : World} {g bm bu : Nat} {most : Int} {c : Nat} {M : List Pn} {U : Int → Int → Option Int} (h : IsS w g bm bu most c M U) : g < w.heap.size := blk_lt h.blk
theorem IsS.gm {w : World} {g bm bu : Nat} {most : Int} {c : Nat} {M : List Pn} {U : Int → Int → Option Int} (h : IsS w g bm bu most c M U) : g ≠ bm ∧ g ≠ bu := by
  obtain ⟨D, ⟨es, cl, hb, _⟩, _⟩ := h.pins
  obtain ⟨D', ⟨es', cl', hb', _⟩, _⟩ := h.use
  have hg := h.blk
  constructor
  · intro e; subst e; rw [hb] at hg; cases hg
  · intro e; subst e; rw [hb'] at hg; cases hg
theorem IsS.fr {S : Nat → Prop} {w w1 : World} {g bm bu : Nat} {most : Int} {c : Nat} {M : List Pn} {U : Int → Int → Option Int} (h : IsS w g bm bu most c M U) (hf : Fr S w w1) (hg : ¬ S g) (hm : ¬ S bm) (hu : ¬ S bu) : IsS w1 g bm bu most c M U :=
  ⟨hf.blk h.blk hg, h.pins.fr hf hm, h.use.fr hf hu, h.ne⟩
theorem IsS.below {w w1 : World} {g bm bu : Nat} {most : Int} {c : Nat} {M : List Pn} {U : Int → Int → Option Int} (h : IsS w g bm bu most c M U) (hb : Below w.heap.size w w1) : IsS w1 g bm bu most c M U :=
  h.fr (Fr.of_below hb SNo) (fun h => h) (fun h => h) (fun h => h)
theorem IsS.c0 {w : World} {g bm bu : Nat} {most : Int} {c : Nat} {M : List Pn} {U : Int → Int → Option Int} (h : IsS w g bm bu most c M U) : w.cell? ⟨g, 0, none⟩ = some (.int .i64 most) := (blk_cell h.blk 0).trans rfl
theorem IsS.c1 {w : World} {g bm bu : Nat} {most : Int} {c : Nat} {M : List Pn} {U : Int → Int → Option Int} (h : IsS w g bm bu most c M U) : w.cell? ⟨g, 1, none⟩ = some (.map (some bm)) := (blk_cell h.blk 1).trans rfl
theorem IsS.c2 {w : World} {g bm bu : Nat} {most : Int} {c : Nat} {M : List Pn} {U : Int → Int → Option Int} (h : IsS w g bm bu most c M U) : w.cell? ⟨g, 2, none⟩ = some (.map (some bu)) := (blk_cell h.blk 2).trans rfl
/-- the two maps -/
def Maps2 (bm bu : Nat) : Nat → Prop := fun k => k = bm ∨ k = bu
end Go.Proofs.Ytinfafnpbalihaa
