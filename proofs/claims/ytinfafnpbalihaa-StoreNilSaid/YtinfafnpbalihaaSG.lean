/- Store: tuple. -/
import Derived.Test.YtinfafnpbalihaaSF
set_option linter.unusedSimpArgs false
set_option linter.unusedVariables false
namespace Go.Proofs.Ytinfafnpbalihaa
open Go.RowKit Go.Maps Go.WideMaps Go.Proofs.YtinfafnpbalihaaW.PrintWords
def tupZ (k : Int) : Tup := ⟨false, List.replicate 16 0, false, List.replicate 16 0, 6, k, 80⟩
def tupK (k : Int) : Tup := ⟨false, 10 :: List.replicate 15 0, false, List.replicate 16 0, 6, k, 80⟩
theorem tupZ_ok {k : Int} (h : wf64 k) : (tupZ k).Ok := ⟨zero16, zero16, by show wf64 6; decide, h, by show wf64 80; decide⟩
theorem ten16 : Bytes16 (10 :: List.replicate 15 0) := ⟨rfl, fun b hb => by
  rcases List.mem_cons.1 hb with rfl | hb
  · decide
  · rw [List.eq_of_mem_replicate hb]; decide⟩
theorem tupK_ok {k : Int} (h : wf64 k) : (tupK k).Ok := ⟨ten16, zero16, by show wf64 6; decide, h, by show wf64 80; decide⟩
theorem tupK_nice {k : Int} (h : 0 ≤ k ∧ k ≤ 65535) : (tupK k).nice := ⟨rfl, rfl, rfl, rfl, .inl rfl, h, by show (0:Int) ≤ 80 ∧ (80:Int) ≤ 65535; omega⟩
theorem ten_range {w : World} {b : Nat} {k : Int} (h : w.rangeAt b 0 (tupZ k).cells) : (w.setCell ⟨b, 1, none⟩ (.int .u8 10)).rangeAt b 0 (tupK k).cells := by
  intro j v hj
  have e1 : (tupZ k).cells = .bool false :: .int .u8 0 :: (tupZ k).cells.drop 2 := rfl
  have e2 : (tupK k).cells = .bool false :: .int .u8 10 :: (tupZ k).cells.drop 2 := rfl
  have h1 := h 1 (.int .u8 0) (by rw [e1]; rfl)
  rw [e2] at hj
  by_cases he : j = 1
  · subst he
    rw [Nat.zero_add] at h1 ⊢
    have h2 := World.cell?_setCell_same' w ⟨b, 1, none⟩ (.int .u8 10) (by rw [h1]; rfl)
    rw [← show v = .int .u8 10 by simpa using hj.symm] at h2 ⊢
    exact h2
  · refine (World.cell?_setCell_other w ⟨b, 1, none⟩ ⟨b, 0 + j, none⟩ (.int .u8 10) (by intro e; have e := congrArg Addr.off e; dsimp only at e; omega)).trans (h j v ?_)
    rw [e1]
    match j, he, hj with
    | 0, _, hj => exact hj
    | j + 2, _, hj => simpa using hj
theorem results_one {fn : Func} {p : Tmp} {ty : TypeId} (h : fn.results = #[.cell p ty]) (tmps : Array Value) (w : World) (a : Addr) (v : Value) (hp : tmps.getD p undef = .pointer (some a))
    (hl : (loadVar ty a).run Try.prog w = .ok v w) : (results fn tmps).run Try.prog w = .ok v w := by
  have hp' : tmps[p]?.getD undef = .pointer (some a) := by simpa using hp
  simp [results, h, hp', asAddr, hl]
theorem wf64_of {n : Int} (h : -9223372036854775808 ≤ n ∧ n ≤ 9223372036854775807) : wf64 n := by
  show (decide (_ ≤ n) && decide (n ≤ _)) = true
  rw [Bool.and_eq_true, decide_eq_true_eq, decide_eq_true_eq]
  exact h
theorem tup_mid {w w1 : World} {k : Int} {t t' : TypeId} {Z Z' : Array Value} (hr : w1.rangeAt (w.heap.size + 1) 0 (tupZ k).cells) (hf : Fr (fun k => k = w.heap.size + 1) ((w.alloc (.cells Z t)).alloc (.cells Z' t')) w1) (hs : w1.heap.size = ((w.alloc (.cells Z t)).alloc (.cells Z' t')).heap.size) (ht : ∀ n, ((w.alloc (.cells Z t)).alloc (.cells Z' t')).there (w.heap.size + 1) 0 n → w1.there (w.heap.size + 1) 0 n) (hZ : 37 ≤ Z'.size) (hZ1 : 37 ≤ Z.size) :
    w1.cell? ⟨w.heap.size + 1, 1, none⟩ = some (.int .u8 0) ∧ w1.frozen? ⟨w.heap.size + 1, 1, none⟩ = false ∧ (w1.setCell ⟨w.heap.size + 1, 1, none⟩ (.int .u8 10)).there w.heap.size 0 37 ∧ (Below w.heap.size w (w1.setCell ⟨w.heap.size + 1, 1, none⟩ (.int .u8 10)) ∧ w.heap.size < (w1.setCell ⟨w.heap.size + 1, 1, none⟩ (.int .u8 10)).heap.size) := by
  have e : ((w.alloc (.cells Z t)).alloc (.cells Z' t')).heap.size = w.heap.size + 1 + 1 := by rw [size_alloc1, size_alloc1]
  have hst := Fr.setCell (S := fun k => k = w.heap.size + 1) (Fr.refl _ w1) (p := ⟨w.heap.size + 1, 1, none⟩) (.inl rfl) (.int .u8 10)
  have b0 : Below w.heap.size w ((w.alloc (.cells Z t)).alloc (.cells Z' t')) := ((Below.refl _ _).alloc (Nat.le_refl _) _).alloc (by rw [size_alloc1]; omega) _
  have b1 := b0.trans (hf.below (B := w.heap.size) (fun k hk e => by omega) (by omega))
  refine ⟨hr 1 _ rfl, ?_, ?_, b1.trans (hst.below (fun k hk e => by omega) (by omega)), by have := hst.size; omega⟩
  · have := (ht 37 (there_blk (heap_alloc2_new w _ _) hZ) 1 (by omega)).2
    rwa [Nat.zero_add] at this
  · exact there_fr (there_fr (there_blk (heap_alloc2_old w (.cells Z t) (.cells Z' t')) hZ1) hf (by omega) (by omega)) hst (by omega) (by omega)
def TupPost (w : World) (k : Int) (e : Ending) (w' : World) : Prop := e = .returned (.agg (tupK k).cells.toArray) ∧ Below w.heap.size w w'
set_option maxHeartbeats 1000000 in
set_option maxRecDepth 100000 in
theorem tuple_any (n : Int) (w : World) (h : 0 ≤ n ∧ n ≤ 65534) : Calls Try.prog 9 #[.int .i64 n] w (TupPost w (1 + n)) := by
  have hs : IntKind.i64.wrap (1 + n) = 1 + n := IntWalk.i64_in _ (by omega)
  have hw : wf64 (1 + n) := wf64_of (by omega)
  have HO := Aside0.mk (And.intro (tupZ_ok hw) (tupK_ok hw))
  have lz : (tupZ (1 + n)).cells.length = 37 := Tup.len HO.out.1
  have lk : (tupK (1 + n)).cells.length = 37 := Tup.len HO.out.2
  have oz : ∀ v ∈ (tupZ (1 + n)).cells, v.oneCell' = true := Tup.one
  have ok : ∀ v ∈ (tupK (1 + n)).cells, v.oneCell' = true := Tup.one
  clear h hw
  go_enter Try.func9, Try.ntmps9
  go_wp2_with (first
    | (refine wpList_store_th (by rfl) 33 _ _ rfl (w.heap.size + 1) 0 (tupZ (1 + n)).cells rfl rfl (by rw [size_alloc1, size_alloc1]; omega) (by rw [lz]; exact there_blk (heap_alloc2_new w _ _) (Nat.le_refl _)) (by rw [lz]; exact size33) oz ?_; intro w1 hr1 hf1 hs1 ht1 _; (obtain ⟨c1, f1, T2, HB1⟩ := tup_mid hr1 hf1 hs1 ht1 (Nat.le_refl _) (Nat.le_refl _)); have S1 := ten_range hr1; clear hr1 hf1 hs1 ht1)
    | (refine wpList_load_midG (by rfl) 33 _ rfl (w.heap.size + 1) 0 rfl (tupK (1 + n)).cells _ S1 Try.underlying33 rfl (by rw [lk]; exact size33) ?_)
    | (refine wpList_store_fr (by rfl) 33 _ _ rfl w.heap.size 0 (tupK (1 + n)).cells rfl rfl HB1.2 (by rw [lk]; exact T2) (by rw [lk]; exact size33) ok ?_; intro w3 hr3 hf3 hs3))
  have hl := run_loadVar_mid w3 w.heap.size 0 33 _ _ hr3 Try.underlying33 rfl (by rw [lk]; exact size33)
  refine bodyPost_ret (v := .agg (tupK (1 + n)).cells.toArray) (results_one rfl _ _ _ _ rfl hl) rfl ?_
  exact ⟨rfl, HB1.1.trans (hf3.below (fun k hk e => by omega) (by omega))⟩
end Go.Proofs.Ytinfafnpbalihaa
