/- Store: Sweep. -/
import Derived.Test.YtinfafnpbalihaaSA
set_option linter.unusedSimpArgs false
set_option linter.unusedVariables false
namespace Go.Proofs.Ytinfafnpbalihaa
open Go.RowKit Go.Maps Go.WideMaps Go.Proofs.YtinfafnpbalihaaW.PrintWords
theorem heap_setCells1 (b k : Nat) (hk : k ≠ b) : ∀ (vs : List Value) (o : Nat) (w : World), (w.setCells b o vs).heap[k]? = w.heap[k]?
  | [], _, _ => rfl
  | v :: r, o, w => (heap_setCells1 b k hk r (o + 1) _).trans (Below.heap_setCell w ⟨b, o, none⟩ v k hk)
theorem fr_setCells (w : World) (b o : Nat) (vs : List Value) (hb : b < w.heap.size) : Fr (fun k => k = b) w (w.setCells b o vs) := by
  have h0 := below_setCells1 (B := 0) (a := w) b (Nat.zero_le _) vs o (Below.refl 0 w)
  exact ⟨h0.os, h0.tape, h0.output, h0.size, fun k hk hn => heap_setCells1 b k hn vs o w⟩
theorem wpList_store_fr {ops : Array Oper} {rest : List Oper} {op : Oper} {a : Act} {w : World} {Q : Exit → Act → World → Prop} (hw : Region.wanted op (yielded ops a.tmps) = true) (ty : TypeId) (x y : Operand) (ho : op.op = .store ty x y) (b o : Nat) (cells : List Value) (hx : a.eval x = .pointer (some ⟨b, o, none⟩)) (hy : a.eval y = .agg cells.toArray) (hb : b < w.heap.size)
    (ht : w.there b o cells.length) (hi : (Try.prog.info? ty).map (·.size) = some cells.length) (h1 : ∀ v ∈ cells, v.oneCell' = true)
    (h : ∀ w', w'.rangeAt b o cells → Fr (fun k => k = b) w w' → w'.heap.size = w.heap.size → wpList Try.prog ops Q rest (a.put op.dst undef) w') : wpList Try.prog ops Q (op :: rest) a w :=
  BigFrame.wpList_want hw fun _ hK => wp_store_mid ty x y ho b o cells.toArray hx hy (by simpa using ht) (by simpa using hi) (all_oneCell_toArray h1) (hK _ _ (h _ (World.rangeAt_setCells_same w b o cells ht) (fr_setCells w b o cells hb) (size_setCells1 _ _ _ _)))
theorem there_fr {S : Nat → Prop} {w w1 : World} {b o n : Nat} (h : w.there b o n) (hf : Fr S w w1) (hn : ¬ S b) (hb : b < w.heap.size) : w1.there b o n := fun j hj => by
  have hk := hf.block b hb hn
  obtain ⟨h1, h2⟩ := h j hj
  refine ⟨?_, ?_⟩
  · rw [← h1]; unfold World.cell?; simp only [hk]
  · rw [← h2]; unfold World.frozen?; simp only [hk]
set_option maxHeartbeats 1000000 in
set_option maxRecDepth 100000 in
theorem dead_aux (TS CS : List Value) (x : Pn) (w : World) (n : Int) (b : Nat) (KF : ((w.alloc (.cells TS.toArray 33)).alloc (.cells CS.toArray 38)).rangeAt (w.heap.size + 1) 39 [.int .i64 x.p, .int .i64 x.s, .int .i64 x.l]) (cb : ((w.alloc (.cells TS.toArray 33)).alloc (.cells CS.toArray 38)).cell? ⟨b, 0, none⟩ = some (.int .i64 n)) :
    Calls Try.prog 31 #[.agg TS.toArray, .agg CS.toArray, .pointer (some ⟨b, 0, none⟩)] w fun e w' => e = .returned (.bool (!x.live n)) ∧ Below w.heap.size w w' := by
  have HB := Aside0.mk (((Below.refl w.heap.size w).alloc (Nat.le_refl _) (.cells TS.toArray 33)).alloc (by rw [size_alloc1]; omega) (.cells CS.toArray 38))
  go_enter Try.func31, Try.ntmps31
  go_wp2_with (first | (refine wpList_load_midG (by rfl) 36 _ rfl (w.heap.size + 1) 39 rfl _ _ KF Try.underlying36 rfl size36 ?_))
  refine (live_any x.p x.s x.l n _).mono ?_
  rintro e w1 ⟨rfl, hb⟩
  have HB1 := Aside0.mk (HB.out.trans (hb.mono HB.out.size))
  clear hb
  go_wp2_with fail
  go_ret
  exact ⟨rfl, HB1.out⟩
theorem dead_any (t : Tup) (x : Pn) (hx : x.t.Ok) (w : World) (n : Int) (b : Nat) (hb : w.cell? ⟨b, 0, none⟩ = some (.int .i64 n)) :
    Calls Try.prog 31 #[.agg t.cells.toArray, .agg x.cells.toArray, .pointer (some ⟨b, 0, none⟩)] w fun e w' => e = .returned (.bool (!x.live n)) ∧ Below w.heap.size w w' :=
  dead_aux t.cells x.cells x w n b (pin_flow (rangeAt_blk (heap_alloc2_new w _ _)) hx) (((((Below.refl w.heap.size w).alloc (Nat.le_refl _) (.cells t.cells.toArray 33)).alloc (by rw [size_alloc1]; omega) (.cells x.cells.toArray 38)).cell (p := ⟨b, 0, none⟩) (block_lt_of_cell hb)).trans hb)
/-- what is there still: who lives, and who has not come yet -/
def Mk (M : List Pn) (n : Int) (L : Tup → Bool) : List Pn := M.filter (fun y => y.live n || L y.t)
theorem pins_del {M : List Pn} {D : DataW Value} (h : PinsD M D) (ht : Tidy D) {x : Pn} (hx : x ∈ M) : PinsD (M.filter (fun y => decide (y.t ≠ x.t))) (D.del x.t.key) := by
  have hf : (findP M x.t).isSome = true := by
    cases hf : findP M x.t with
    | none => exact (findP_none hf x hx rfl).elim
    | some y => rfl
  have hh : Maps.has D x.t.key = true := Maps.has_true_of_atKey (h.here x hx)
  refine ⟨?_, fun kl hk => ?_, fun y hy z => ?_, h.uniq.sublist ((List.filter_sublist).map _), fun y hy => h.ok y (List.mem_filter.1 hy).1⟩
  · have h2 := Maps.size_del (k := x.t.key) ht
    rw [hh] at h2
    simp only [if_pos] at h2
    rw [filter_len h.uniq, hf, if_pos rfl, ← h.size]
    omega
  · by_cases he : kl = x.t.key
    · subst he; rw [Maps.has_del_same] at hk; cases hk
    · rw [Maps.has_del_other he] at hk
      obtain ⟨y, hy, rfl⟩ := h.has _ hk
      exact ⟨y, List.mem_filter.2 ⟨hy, by simpa using fun e => he (by rw [e])⟩, rfl⟩
  · obtain ⟨h1, h2⟩ := List.mem_filter.1 hy
    have h2 : y.t ≠ x.t := by simpa using h2
    rw [Maps.atKey_del_other (fun e => h2 (Tup.key_inj (h.ok y h1) (h.ok x hx) e))]
    exact h.here y h1 z
/-- the loop of a sweep -/
structure DelR (w : World) (bm c b : Nat) (M : List Pn) (n : Int) (D : DataW Value) (left : Lit → Bool) (cnt : Nat) (wr : World) : Prop where
  rg : wr.ranges Try.prog 33 RP bm w.heap.size c D left cnt
  hD : PinsD (Mk M n (fun t => left t.key)) D
  fr : w.grownBy wr (some bm)
  q : wr.cell? ⟨b, 0, none⟩ = some (.int .i64 n)
  lt : bm < w.heap.size
  bn : b < w.heap.size ∧ b ≠ bm
def DelRel (w : World) (bm c b : Nat) (M : List Pn) (n : Int) (wr : World) : Prop := ∃ D left cnt, DelR w bm c b M n D left cnt wr
section
variable {w wr w1 : World} {bm c b cnt : Nat} {M : List Pn} {n : Int} {D : DataW Value} {left : Lit → Bool}
theorem DelR.below (h : DelR w bm c b M n D left cnt wr) (hb : Below wr.heap.size wr w1) : DelR w bm c b M n D left cnt w1 :=
  ⟨ranges_below h.rg hb, h.hD, h.fr.andThen (row' := none) ⟨hb.os, hb.tape, hb.output, hb.size, fun i hi _ => hb.block i hi⟩ (fun j hj => by cases hj), (hb.cell (p := ⟨b, 0, none⟩) (block_lt_of_cell h.q)).trans h.q, h.lt, h.bn⟩
theorem nodup_inj {α β : Type} {f : α → β} : ∀ {l : List α}, (l.map f).Nodup → ∀ {x y : α}, x ∈ l → y ∈ l → f x = f y → x = y
  | [], _, _, _, h, _, _ => by cases h
  | a :: r, hn, x, y, hx, hy, he => by
    rw [List.map_cons, List.nodup_cons] at hn
    rcases List.mem_cons.1 hx with e1 | h1
    · rcases List.mem_cons.1 hy with e2 | h2
      · rw [e1, e2]
      · exact (hn.1 (List.mem_map.2 ⟨y, h2, by rw [← he, e1]⟩)).elim
    · rcases List.mem_cons.1 hy with e2 | h2
      · exact (hn.1 (List.mem_map.2 ⟨x, h1, by rw [he, e2]⟩)).elim
      · exact nodup_inj hn.2 h1 h2 he
theorem Mk_came (hD : PinsD (Mk M n (fun t => left t.key)) D) (hok : ∀ y ∈ M, y.t.Ok) {x : Pn} (hx : x ∈ Mk M n (fun t => left t.key)) (hl : left x.t.key = true) :
    (x.live n = true → Mk M n (fun t => left t.key && !t.key.sameKey x.t.key) = Mk M n (fun t => left t.key)) ∧ (x.live n = false → Mk M n (fun t => left t.key && !t.key.sameKey x.t.key) = (Mk M n (fun t => left t.key)).filter (fun y => decide (y.t ≠ x.t))) := by
  obtain ⟨hxm, _⟩ := List.mem_filter.1 hx
  constructor
  · intro hv
    have hun : ∀ y ∈ M, y.t = x.t → (y.live n || left y.t.key) = true → y = x := fun y hy e hk => by
      have hy' : y ∈ Mk M n (fun t => left t.key) := List.mem_filter.2 ⟨hy, hk⟩
      have h1 := hD.here y hy' .nil
      have h2 := hD.here x hx .nil
      rw [e, h2] at h1
      have hn := hD.uniq
      exact nodup_inj hn hy' hx e
    unfold Mk
    refine List.filter_congr (fun y hy => ?_)
    simp only [same_tup (hok y hy) (hok x hxm)]
    by_cases he : y.t = x.t
    · have hk : (y.live n || left y.t.key) = true := by rw [he, hl]; simp
      rw [hun y hy he hk, hv]; simp
    · simp [he]
  · intro hv
    unfold Mk
    rw [List.filter_filter]
    refine List.filter_congr (fun y hy => ?_)
    simp only [same_tup (hok y hy) (hok x hxm)]
    by_cases he : y.t = x.t
    · have hk : (y.live n || left y.t.key) = true := by rw [he, hl]; simp
      have hy' : y ∈ Mk M n (fun t => left t.key) := List.mem_filter.2 ⟨hy, hk⟩
      rw [nodup_inj hD.uniq hy' hx he, hv]; simp
    · simp [he]
theorem key_val {ky : Value} {kl : Lit} {t : Tup} (h : keyOf Try.prog 33 ky = some kl) (ht : t.Ok) (e : t.key = kl) : ky = .agg t.cells.toArray := law33.inj h ((key33 ht).trans (congrArg some e))
theorem DelR.start (ho : w.ownsMap Try.prog 33 RP bm c D) (hr : w1.ranges Try.prog 33 RP bm w.heap.size c D (Maps.has D) cnt) (hg : w.grownBy w1 none) (hD : PinsD M D) (hq : w.cell? ⟨b, 0, none⟩ = some (.int .i64 n)) (hb : b ≠ bm) : DelR w bm c b M n D (Maps.has D) cnt w1 := by
  have hlt := ho.lt
  have hM : Mk M n (fun t => Maps.has D t.key) = M := List.filter_eq_self.2 (fun y hy => by simp [Maps.has_true_of_atKey (hD.here y hy)])
  exact ⟨hr, by rw [hM]; exact hD, hg.but _, grown_cell (hg.but (some bm)) hq hb, hlt, block_lt_of_cell hq, hb⟩
theorem DelR.next (h : DelR w bm c b M n D left cnt wr) {left' : Lit → Bool} {cnt' : Nat} (hg : wr.grownBy w1 (some w.heap.size)) (hr : w1.ranges Try.prog 33 RP bm w.heap.size c D left' cnt') : w1.ranges Try.prog 33 RP bm w.heap.size c D left' cnt' ∧ w.grownBy w1 (some bm) ∧ w1.cell? ⟨b, 0, none⟩ = some (.int .i64 n) :=
  ⟨hr, h.fr.andThen hg (fun j hj => by cases hj; exact Or.inl (Nat.le_refl _)), grown_cell hg h.q (by have := h.bn.1; omega)⟩
/-- an entry has come -/
structure DelC (w : World) (bm c b : Nat) (M : List Pn) (n : Int) (D : DataW Value) (left : Lit → Bool) (x : Pn) (cnt : Nat) (wr : World) : Prop where
  rg : wr.ranges Try.prog 33 RP bm w.heap.size c D (fun z => left z && !z.sameKey x.t.key) cnt
  hD : PinsD (Mk M n (fun t => left t.key)) D
  fr : w.grownBy wr (some bm)
  q : wr.cell? ⟨b, 0, none⟩ = some (.int .i64 n)
  lt : bm < w.heap.size
  bn : b < w.heap.size ∧ b ≠ bm
  hx : x ∈ Mk M n (fun t => left t.key)
  hl : left x.t.key = true
theorem DelC.below {x : Pn} (h : DelC w bm c b M n D left x cnt wr) (hb : Below wr.heap.size wr w1) : DelC w bm c b M n D left x cnt w1 :=
  ⟨ranges_below h.rg hb, h.hD, h.fr.andThen (row' := none) ⟨hb.os, hb.tape, hb.output, hb.size, fun i hi _ => hb.block i hi⟩ (fun j hj => by cases hj), (hb.cell (p := ⟨b, 0, none⟩) (block_lt_of_cell h.q)).trans h.q, h.lt, h.bn, h.hx, h.hl⟩
theorem DelC.boxed {x : Pn} {o o' : Obj} {w2 w3 : World} (h : DelC w bm c b M n D left x cnt w1) (hb : Fr (fun k => k = w1.heap.size) ((w1.alloc o).alloc o') w2) (hb' : Fr (fun k => k = w1.heap.size + 1) w2 w3) : DelC w bm c b M n D left x cnt w3 := by
  have e : ((w1.alloc o).alloc o').heap.size = w1.heap.size + 1 + 1 := by rw [size_alloc1, size_alloc1]
  have e2 := hb.size
  refine h.below (((((Below.refl _ _).alloc (Nat.le_refl _) o).alloc (by rw [size_alloc1]; omega) o').trans (hb.below (fun k hk e => ?_) (by omega))).trans (hb'.below (fun k hk e => ?_) (by omega)))
  all_goals omega
theorem DelC.stay {x : Pn} (h : DelC w bm c b M n D left x cnt wr) (hok : ∀ y ∈ M, y.t.Ok) (hv : x.live n = true) : DelR w bm c b M n D (fun z => left z && !z.sameKey x.t.key) cnt wr :=
  ⟨h.rg, by rw [(Mk_came h.hD hok h.hx h.hl).1 hv]; exact h.hD, h.fr, h.q, h.lt, h.bn⟩
theorem DelC.gone {x : Pn} (h : DelC w bm c b M n D left x cnt wr) (hok : ∀ y ∈ M, y.t.Ok) (hv : x.live n = false) {cnt' : Nat} (hr : w1.ranges Try.prog 33 RP bm w.heap.size c (D.del x.t.key) (fun z => (left z && !z.sameKey x.t.key) && !z.sameKey x.t.key) cnt') (ht : wr.mapTurned w1 bm) : DelR w bm c b M n (D.del x.t.key) (fun z => left z && !z.sameKey x.t.key) cnt' w1 := by
  rw [Maps.strike_twice] at hr
  exact ⟨hr, by rw [(Mk_came h.hD hok h.hx h.hl).2 hv]; exact pins_del h.hD (h.rg.owns.tidy law33) h.hx, h.fr.andThen ht.grown (fun j hj => by cases hj; exact Or.inr rfl), grown_cell ht.grown h.q h.bn.2, h.lt, h.bn⟩
end
theorem two_there {w1 w2 : World} {t t' : TypeId} {Z Z' : Array Value} (hf : Fr (fun k => k = w1.heap.size) ((w1.alloc (.cells Z t)).alloc (.cells Z' t')) w2) : w2.there (w1.heap.size + 1) 0 Z'.size :=
  there_fr (there_blk (heap_alloc2_new w1 (.cells Z t) (.cells Z' t')) (Nat.le_refl _)) hf (by omega) (by rw [size_alloc1, size_alloc1]; omega)
theorem two_size {w1 w2 : World} {o o' : Obj} (h : w2.heap.size = ((w1.alloc o).alloc o').heap.size) : w2.heap.size = w1.heap.size + 1 + 1 := by rw [h, size_alloc1, size_alloc1]
def SweepD (w : World) (bm c : Nat) (M : List Pn) (n : Int) (e : Ending) (w' : World) : Prop := e = .returned (.tuple #[]) ∧ PinsIs w' bm c (M.filter (fun x => x.live n)) ∧ w.grownBy w' (some bm)
theorem Mk_end {M : List Pn} {n : Int} {left : Lit → Bool} (h : ∀ kl, left kl = false) : Mk M n (fun t => left t.key) = M.filter (fun x => x.live n) := List.filter_congr (fun y _ => by simp [h])
set_option maxHeartbeats 2000000 in
set_option maxRecDepth 100000 in
theorem delete_any (w : World) (bm c b : Nat) (M : List Pn) (n : Int) (h : PinsIs w bm c M) (hq : w.cell? ⟨b, 0, none⟩ = some (.int .i64 n)) (hb : b ≠ bm) :
    Calls Try.prog 30 #[.map (some bm), .func (.func 31) #[] #[.pointer (some ⟨b, 0, none⟩)]] w (SweepD w bm c M n) := by
  obtain ⟨D0, hown, hD⟩ := h
  have HM := Aside0.mk hD.ok
  have HST := Aside0.mk (fun w1 cnt (hr : w1.ranges Try.prog 33 RP bm w.heap.size c D0 (Maps.has D0) cnt) (hg : w.grownBy w1 none) => DelR.start hown hr hg hD hq hb)
  clear hD hq hb
  go_enter Try.func30, Try.ntmps30
  go_wp2_with (first | (at_range; refine wpList_range_own _ rfl _ 61 rfl 33 38 law33 Try.underlying61 RP bm c _ rfl hown ?_; intro w0 hrg0 hg0 hs0))
  go_frame
  have HR0 := Aside0.mk (HST.out _ _ hrg0 hg0)
  clear hrg0 hg0 hs0 hown HST
  go_loopw [4, 5] (fun _ _ wr => DelRel w bm c b M n wr) (fun _ _ wr => wr.rangeLeft bm w.heap.size)
  case atStart => exact ⟨_, _, _, HR0.out⟩
  case round =>
    obtain ⟨D, left, cnt, HR⟩ := hrel
    have HR := Aside0.mk HR
    have hrg := HR.out.rg
    clear HR0
    go_wp2_with (first
      | (at_next; refine wpList_next_ranges _ rfl _ rfl 33 law33 RP id id (fun key _ _ => ⟨key, rfl⟩) (fun v _ _ => ⟨v, rfl⟩) bm w.heap.size c _ _ _ rfl hrg ?_ ?_))
    · intro _ hl0
      have HE := Aside0.mk (Mk_end (M := M) (n := n) hl0)
      clear hrg hl0
      go_wp2
      go_end0
      exact ⟨rfl, by rw [← HE.out]; exact ⟨D, HR.out.rg.owns, HR.out.hD⟩, HR.out.fr⟩
    · intro ky vv kl yd yp w1 cnt1 hkey hlx hv hat hrg1 hlt hg1 hs1 hen
      obtain ⟨x, hx, hxk, hvv⟩ := came HR.out.hD hv hat
      have hvv : vv = x.val := hvv
      subst hvv
      have HO := Aside0.mk (HR.out.hD.ok x hx)
      have hkv : ky = .agg x.t.cells.toArray := key_val hkey HO.out hxk
      subst hkv
      subst hxk
      have HN := HR.out.next hg1 hrg1
      have HC := Aside0.mk (DelC.mk HN.1 HR.out.hD HN.2.1 HN.2.2 HR.out.lt HR.out.bn hx hlx)
      have HLT := Aside0.mk hlt
      clear HN hrg hkey hlx hv hat hrg1 hlt hg1 hs1 hx
      have l1 : x.t.cells.length = 37 := Tup.len HO.out
      have l2 : x.cells.length = 42 := Pn.len HO.out
      have hone : ∀ v ∈ x.cells, v.oneCell' = true := Pn.one
      have hone1 : ∀ v ∈ x.t.cells, v.oneCell' = true := Tup.one
      have hval : x.val = .agg x.cells.toArray := rfl
      rw [hval] at hen ⊢
      generalize hX : x.cells = XS at l2 hone hen ⊢
      generalize hT : x.t.cells = TS at l1 hone1 hen ⊢
      have HXS := Aside0.mk (And.intro hX hT)
      clear hX hT hval
      go_wp2_with (first
        | (refine wpList_store_fr (by rfl) 33 _ _ rfl w1.heap.size 0 TS rfl rfl (by rw [size_alloc1, size_alloc1]; omega) (by rw [l1]; exact there_blk (heap_alloc2_old w1 _ _) (Nat.le_refl _)) (by rw [l1]; exact size33) hone1 ?_; intro w2 hr2 hf2 hs2; have KT := two_there hf2; have hs2 := two_size hs2)
        | (refine wpList_store_fr (by rfl) 38 _ _ rfl (w1.heap.size + 1) 0 XS rfl rfl (by omega) (by rw [l2]; exact KT) (by rw [l2]; exact size38) hone ?_; intro w3 hr3 hf3 hs3; have HC3 := HC.out.boxed hf2 hf3; have KA := range_fr hr2 hf3 (by omega) (by omega); have hs3 := hs3.trans hs2; clear hf2 hf3 hs2 hr2 KT)
        | (refine wpList_load_midG (by rfl) 33 _ rfl w1.heap.size 0 rfl TS _ KA Try.underlying33 rfl (by rw [l1]; exact size33) ?_)
        | (refine wpList_load_midG (by rfl) 38 _ rfl (w1.heap.size + 1) 0 rfl XS _ hr3 Try.underlying38 rfl (by rw [l2]; exact size38) ?_))
      have hcl := dead_any x.t x HO.out w3 n b HC3.q
      rw [HXS.out.1, HXS.out.2] at hcl
      refine hcl.mono ?_
      rintro e w4 ⟨rfl, hb4⟩
      have HC4 := Aside0.mk (HC3.below hb4)
      have KA4 := range_below KA hb4 (by omega)
      have hrg4 := HC4.out.rg
      have hk4 := key33 HO.out
      rw [HXS.out.2] at hk4
      clear hb4 hcl HC3 hr3 KA hs3
      cases hp : x.live n
      · go_wp2_with (first
          | (refine wpList_load_midG (by rfl) 33 _ rfl w1.heap.size 0 rfl TS _ KA4 Try.underlying33 rfl (by rw [l1]; exact size33) ?_)
          | (at_delete; refine wpList_delete_ranges _ rfl _ _ 61 33 rfl 38 law33 Try.underlying61 RP bm w.heap.size c _ _ _ rfl hrg4 _ _ rfl hk4 ?_; intro w5 cnt5 hrg5 hle hturn; go_frame))
        have HG := HC4.out.gone HM.out hp hrg5 hturn
        exact ⟨⟨_, _, _, HG⟩, by rw [HG.rg.left_eq, HR.out.rg.left_eq]; have := HLT.out; omega⟩
      · go_wp2_with fail
        have HG := HC4.out.stay HM.out hp
        exact ⟨⟨_, _, _, HG⟩, by rw [HG.rg.left_eq, HR.out.rg.left_eq]; exact HLT.out⟩
end Go.Proofs.Ytinfafnpbalihaa
