/- Wheel: the reference's object and its calls (rows of its things; New, At, Drop, Set, Advance); the program's Next. -/
import Derived.Deep.Upon
import Derived.Test.YtodgcfkdnellpaaC5
import Derived.WalkKit
set_option linter.unusedSimpArgs false
set_option linter.unusedVariables false
namespace Go.Proofs.Ytodgcfkdnellpaa
section
open Go.RowKit Go.Proofs.YtodgcfkdnellpaaW.PrintWords
/-- v is a row of l, in a block of its own, at any offset -/
def PRow (w : World) (v : Value) (l : List Du) : Prop :=
  (v = .slice none 0 0 ∧ l = []) ∨ ∃ b off c cur, v = .slice (some ⟨b, off, none⟩) l.length c ∧ w.heap[b]? = some (.cells cur 55 (0, 0)) ∧ l.length ≤ c ∧ c ≤ maxLen ∧ off + c * 2 ≤ cur.size ∧ (cur.toList.drop off).take (l.length * 2) = cellsL l
theorem PRow.nil (w : World) : PRow w (.slice none 0 0) [] := .inl ⟨rfl, rfl⟩
theorem PRow.of {w : World} {v : Value} {l : List Du} (h : w.ownsRow 0 55 2 v l.length (cellsL l)) : PRow w v l := by
  rcases h.2 with ⟨h1, h2⟩ | ⟨b, c, cur, h1, _, h2, h3, h4, h5, h6⟩
  · exact .inl ⟨h1, List.eq_nil_of_length_eq_zero h2⟩
  · exact .inr ⟨b, 0, c, cur, h1, h2, h3, h4, by omega, by simpa using h6⟩
theorem PRow.len {w : World} {v : Value} {l : List Du} (h : PRow w v l) : ∃ a c, v = .slice a l.length c ∧ l.length ≤ c ∧ c ≤ maxLen := by
  rcases h with ⟨rfl, rfl⟩ | ⟨b, off, c, cur, rfl, _, h1, h2, _⟩
  · exact ⟨none, 0, rfl, Nat.le_refl _, by decide⟩
  · exact ⟨_, c, rfl, h1, h2⟩
theorem PRow.lt {w : World} {v : Value} {l : List Du} (h : PRow w v l) : ∀ k, v.ownBlock = some k → k < w.heap.size := by
  intro k hk
  rcases h with ⟨rfl, rfl⟩ | ⟨b, off, c, cur, rfl, hb, _⟩
  · simp [Value.ownBlock] at hk
  · simp [Value.ownBlock] at hk; subst hk; exact blk_lt hb
theorem PRow.frame {S : Nat → Prop} {w w1 : World} {v : Value} {l : List Du} (hf : Fr S w w1) (h : PRow w v l) (hn : ∀ k, v.ownBlock = some k → ¬ S k) : PRow w1 v l := by
  rcases h with h | ⟨b, off, c, cur, rfl, hb, h⟩
  · exact .inl h
  · exact .inr ⟨b, off, c, cur, rfl, hf.blk hb (hn b rfl), h⟩
theorem PRow.cell {w : World} {b off c n : Nat} {l : List Du} (h : PRow w (.slice (some ⟨b, off, none⟩) n c) l) : ∀ (j : Nat) (u : Value), (cellsL l)[j]? = some u → w.cell? ⟨b, off + j, none⟩ = some u := by
  intro j u hj
  rcases h with ⟨h, _⟩ | ⟨b', off', c', cur, he, hb, h1, h2, h3, h4⟩
  · cases h
  · injection he with he _ _
    injection he with he
    injection he with e1 e2 _
    subst e1; subst e2
    rw [blk_cell hb, ← Array.getElem?_toList]
    rw [← h4, List.getElem?_take] at hj
    split at hj
    · rwa [List.getElem?_drop] at hj
    · cases hj
theorem PRow.cellsAt {w : World} {b off c n : Nat} {l : List Du} (h : PRow w (.slice (some ⟨b, off, none⟩) n c) l) (i : Nat) (hi : i < l.length) : w.cell? ⟨b, off + i * 2, none⟩ = some (.int .i64 l[i].id) ∧ w.cell? ⟨b, off + i * 2 + 1, none⟩ = some (.int .i64 l[i].at_) := by
  have := cellsL_at l i hi
  exact ⟨h.cell _ _ this.1, by rw [Nat.add_assoc]; exact h.cell _ _ this.2⟩
/-- a slice's head and tail -/
theorem PRow.tail {w : World} {b off c n : Nat} {l : List Du} (h : PRow w (.slice (some ⟨b, off, none⟩) n c) l) (k : Nat) (hk : k ≤ l.length) : PRow w (.slice (some ⟨b, off + k * 2, none⟩) (n - k) (c - k)) (l.drop k) := by
  rcases h with ⟨h, _⟩ | ⟨b', off', c', cur, he, hb, h1, h2, h3, h4⟩
  · cases h
  · injection he with he e3 e4
    injection he with he
    injection he with e1 e2 _
    subst e1; subst e2; subst e3; subst e4
    refine .inr ⟨b, off + k * 2, c - k, cur, by simp, hb, by simp; omega, by omega, by omega, ?_⟩
    rw [← cellsL_drop, ← h4, List.length_drop, List.drop_take, List.drop_drop]
    congr 1
    omega
theorem PRow.head {w : World} {b off c n : Nat} {l : List Du} (h : PRow w (.slice (some ⟨b, off, none⟩) n c) l) (k : Nat) (hk : k ≤ l.length) : PRow w (.slice (some ⟨b, off, none⟩) k c) (l.take k) := by
  rcases h with ⟨h, _⟩ | ⟨b', off', c', cur, he, hb, h1, h2, h3, h4⟩
  · cases h
  · injection he with he e3 e4
    injection he with he
    injection he with e1 e2 _
    subst e1; subst e2; subst e3; subst e4
    refine .inr ⟨b, off, c, cur, by simp; omega, hb, by simp; omega, by omega, h3, ?_⟩
    rw [← cellsL_take, ← h4, List.length_take, List.take_take]
    congr 1
    omega
theorem info55 : (Try.prog.info? 55).map (fun i => (i.zero, i.size, i.bytes)) = some (some (.agg #[(.int .i64 0), (.int .i64 0)]), 2, 16) := by kernel_rfl
theorem src_prow {w : World} {v : Value} {l : List Du} (h : PRow w v l) : Src Try.prog 2 41 v l.length (cellsL l) w := by
  rcases h with ⟨rfl, rfl⟩ | ⟨b, off, c, cur, rfl, hb, h1, h2, h3, h4⟩
  · exact Src.ofNil w Try.underlying41 0
  · refine Src.ofSlice w Try.underlying41 _ _ _ _ (cellsL_length l) (fun j u hj => ?_) (cellsL_one l)
    rw [Addr.add_lit]
    exact PRow.cell (.inr ⟨b, off, c, cur, rfl, hb, h1, h2, h3, h4⟩) j u hj
theorem app_prow (W : World) (v x : Value) (l ys : List Du) (n : Nat) (h : PRow W v l) (hn : ys.length = n) (hs : Src Try.prog 2 41 x n (cellsL ys) W) (hl : (l.length + ys.length) * 16 ≤ 140737488355328) (ty : TypeId) :
    ∃ v1 w1, (Builtin.append_ #[41, 41] ty #[v, x]).run Try.prog W = .ok v1 w1 ∧ PRow w1 v1 (l ++ ys) ∧ Fr (fun k => v.ownBlock = some k) W w1 ∧ (v1.ownBlock = v.ownBlock ∨ ∃ b, v1.ownBlock = some b ∧ W.heap.size ≤ b) := by
  obtain ⟨i0, hi, hzz⟩ := Option.map_eq_some_iff.1 info55
  simp only [Prod.mk.injEq] at hzz
  obtain ⟨hz0, hz1, hz2⟩ := hzz
  have hmx : maxLen = 9223372036854775807 := by decide
  obtain ⟨a, c, hv, hlc, hcm⟩ := h.len
  by_cases h0 : n = 0
  · obtain rfl : ys = [] := List.eq_nil_of_length_eq_zero (by omega)
    subst h0
    rw [← hz1] at hs
    have hr := run_append_nothing W 41 41 ty 55 i0 Try.underlying41 hi a l.length c hlc x hs
    refine ⟨v, W, by rw [hv]; exact hr, by simpa using h, Fr.refl _ _, .inl rfl⟩
  · have grow : c < l.length + n → (∀ W', W'.heap = W.heap → (Builtin.firstCells i0.size l.length v).run Try.prog W' = .ok (cellsL l).toArray W') → ∃ v1 w1, (Builtin.append_ #[41, 41] ty #[v, x]).run Try.prog W = .ok v1 w1 ∧ PRow w1 v1 (l ++ ys) ∧ Fr (fun k => v.ownBlock = some k) W w1 ∧ (v1.ownBlock = v.ownBlock ∨ ∃ b, v1.ownBlock = some b ∧ W.heap.size ≤ b) := by
      intro hg hold
      have hfit : Builtin.nextslicecap (l.length + n) c * i0.bytes ≤ 281474976710656 := by
        rw [hz2]
        have := nextslicecap_le (need := l.length + n) (old := c) hg
        have h3 : Builtin.nextslicecap (l.length + n) c * 16 ≤ 2 * (l.length + n) * 16 := Nat.mul_le_mul_right _ this
        omega
      have hs' : Src Try.prog i0.size 41 x n (cellsL ys) W := by rw [hz1]; exact hs
      have hr := run_append_grow_src W 41 41 ty 55 i0 _ Try.underlying41 hi hz0 a l.length c (cellsL l) (by rw [← hv]; exact hold W.drew rfl) x n (cellsL ys) hs' hg (by omega) hfit
      rw [← hv] at hr
      have hge := grownCap_ge W (l.length + n) c 55
      have hcm' : grownCap W (l.length + n) c 55 ≤ maxLen := grownCap_le_maxLen W (l.length + n) c 55 (by omega)
      refine ⟨_, _, hr, .inr ⟨W.heap.size, 0, grownCap W (l.length + n) c 55, _, by rw [List.length_append, hn], heap_alloc_new W.drew _, by rw [List.length_append, hn]; exact hge, hcm', ?_, ?_⟩, ((Fr.refl _ W).drew).alloc _, .inr ⟨_, rfl, Nat.le_refl _⟩⟩
      · simp only [Array.size_append, List.size_toArray, size_zeroCells, List.length_append, cellsL_length, hn]
        have : (Value.cells (.agg #[(.int .i64 0), (.int .i64 0)])).size = 2 := rfl
        rw [this]
        omega
      · rw [List.drop_zero, Array.toList_append, List.length_append, cellsL_append]
        have e : (l.length + ys.length) * 2 = (cellsL l ++ cellsL ys).length := by simp [cellsL_length]; omega
        rw [e]
        exact List.take_left
    have hh := h
    rcases h with ⟨rfl, rfl⟩ | ⟨b, off, c', cur, rfl, hb, h1, h2, h3, h4⟩
    · injection hv with e1 e2 e3
      refine grow (by rw [← e3]; simp; omega) (fun W' _ => run_firstCells_none W' _ _ _ _)
    · injection hv with e1 e2 e3
      subst e3
      by_cases hroom : l.length + n ≤ c'
      · have hs' : Src Try.prog i0.size 41 x n (cellsL ys) W := by rw [hz1]; exact hs
        have hyl := cellsL_length ys
        have hr := run_append_room_src W 41 41 ty 55 i0 Try.underlying41 hi b off l.length c' x n (cellsL ys) hs' hroom
          (fun j hj => by
            rw [hz1, blk_cell hb, Array.getElem?_eq_getElem (by omega)]; rfl)
          (fun j hj => blk_frozen hb _)
        rw [hz1] at hr
        obtain ⟨cur', g1, g2, g3⟩ := setCells_row (cellsL ys) (off + l.length * 2) W cur hb (by omega)
        obtain ⟨s1, s2, s3, s4⟩ := setCells_same b (cellsL ys) (off + l.length * 2) W
        refine ⟨_, _, hr, .inr ⟨b, off, c', cur', by rw [List.length_append, hn], g1, by rw [List.length_append, hn]; exact hroom, h2, by rw [g2]; exact h3, ?_⟩, ⟨s1, s2, s3, by rw [s4]; exact Nat.le_refl _, fun k hk hne => setCells_far _ _ k (fun e => hne (by rw [e]; rfl))⟩, .inl rfl⟩
        have hcl : (cellsL l).length = l.length * 2 := cellsL_length l
        rw [g3, cellsL_append, ← h4, List.append_assoc, List.drop_append_of_le_length (by simp; omega), List.drop_take, show off + l.length * 2 - off = l.length * 2 by omega]
        rw [h4, List.length_append, ← List.append_assoc]
        have e : (l.length + ys.length) * 2 = (cellsL l ++ cellsL ys).length := by simp [cellsL_length]; omega
        rw [e]
        exact List.take_left
      · refine grow (by omega) (fun W' hW => ?_)
        refine run_firstCells_some W' i0.size l.length ⟨b, off, none⟩ _ _ (cellsL l) (by rw [hz1]; exact cellsL_length l) (fun j u hj => ?_)
        rw [Addr.add_lit]
        have := hh.cell j u hj
        simp only [World.cell?, hW] at this ⊢
        exact this
theorem app_step55 {Q : Exit → Act → World → Prop} {K : Act → World → Prop} {W : World} {o : Oper} {a : Act} {s x : Operand} (v xv : Value) (l ys : List Du) (n : Nat) (h : PRow W v l) (hn : ys.length = n) (hsrc : Src Try.prog 2 41 xv n (cellsL ys) W) (hl : (l.length + ys.length) * 16 ≤ 140737488355328)
    (ho : o.op = .call { callee := .builtin .append, args := #[s, x], argTypes := #[41, 41] }) (hs : a.eval s = v) (hx : a.eval x = xv) 
    (hK : ∀ v1 w1, PRow w1 v1 (l ++ ys) → Fr (fun k => v.ownBlock = some k) W w1 → (v1.ownBlock = v.ownBlock ∨ ∃ b, v1.ownBlock = some b ∧ W.heap.size ≤ b) → K (a.put o.dst v1) w1) : Oper.wp Try.prog o a W K Q := by
  obtain ⟨v1, w1, hrun, h1, h2, h3⟩ := app_prow W v xv l ys n h hn hsrc hl o.type
  unfold Oper.wp
  simp [execOp, ho, resolve, invoke, builtin, hs, hx, hrun, Result.andThen]
  exact hK _ _ h1 h2 h3
theorem wp_app55 {ops : Array Oper} {rest : List Oper} {Q : Exit → Act → World → Prop} {W : World} {o : Oper} {a : Act} {s x : Operand} (hgd : o.guard = none) (v xv : Value) (l ys : List Du) (n : Nat) (h : PRow W v l) (hn : ys.length = n) (hsrc : Src Try.prog 2 41 xv n (cellsL ys) W) (hl : (l.length + ys.length) * 16 ≤ 140737488355328)
    (ho : o.op = .call { callee := .builtin .append, args := #[s, x], argTypes := #[41, 41] }) (hs : a.eval s = v) (hx : a.eval x = xv) 
    (hK : ∀ v1 w1, PRow w1 v1 (l ++ ys) → Fr (fun k => v.ownBlock = some k) W w1 → (v1.ownBlock = v.ownBlock ∨ ∃ b, v1.ownBlock = some b ∧ W.heap.size ≤ b) → wpList Try.prog ops Q rest (a.put o.dst v1) w1) : wpList Try.prog ops Q (o :: rest) a W :=
  wpList_plain hgd fun K' hK' => app_step55 v xv l ys n h hn hsrc hl ho hs hx (fun v1 w1 a b c => hK' _ _ (hK v1 w1 a b c))
theorem src_new55 (W : World) (d : Du) : Src Try.prog 2 41 (.slice (some ⟨W.heap.size, 0, none⟩) 1 1) 1 (cellsL [d]) (W.alloc (.cells #[.int .i64 d.id, .int .i64 d.at_] 55)) :=
  Src.ofSlice _ Try.underlying41 _ _ _ _ (cellsL_length _) (fun j u hj => by
    rw [Addr.add_lit, blk_cell (heap_alloc_new W _)]
    match j, hj with
    | 0, hj => exact hj
    | 1, hj => exact hj
    | j + 2, hj => simp [cellsL, Du.cells] at hj) (cellsL_one _)
theorem prow_head {w : World} {A : Option Addr} {n c k : Nat} {l : List Du} (h : PRow w (.slice A n c) l) (hk : k ≤ l.length) : PRow w (.slice A k c) (l.take k) := by
  rcases h with ⟨he, rfl⟩ | ⟨b, off, c', cur, he, hb, h1, h2, h3, h4⟩
  · injection he with e1 e2 e3
    subst e1; subst e3
    obtain rfl : k = 0 := by simpa using hk
    exact .inl ⟨rfl, rfl⟩
  · have h0 := he
    injection he with e1 e2 e3
    subst e1; subst e2; subst e3
    exact PRow.head (.inr ⟨b, off, c, cur, rfl, hb, h1, h2, h3, h4⟩) k hk
theorem prow_tail {w : World} {A : Option Addr} {n c k : Nat} {l : List Du} (h : PRow w (.slice A n c) l) (hk : k ≤ l.length) : PRow w (.slice (A.map (fun x => x.add (k * 2))) (n - k) (c - k)) (l.drop k) := by
  rcases h with ⟨he, rfl⟩ | ⟨b, off, c', cur, he, hb, h1, h2, h3, h4⟩
  · injection he with e1 e2 e3
    subst e1; subst e2; subst e3
    obtain rfl : k = 0 := by simpa using hk
    exact .inl ⟨rfl, rfl⟩
  · have h0 := he
    injection he with e1 e2 e3
    subst e1; subst e2; subst e3
    have := PRow.tail (.inr ⟨b, off, c, cur, rfl, hb, h1, h2, h3, h4⟩) k hk
    rwa [Option.map_some, Addr.add_lit]
theorem prow_end {w : World} {A : Option Addr} {n c k : Nat} {l : List Du} (h : PRow w (.slice A n c) l) (hk : k = l.length) : PRow w (.slice A 0 0) (l.drop k) := by
  subst hk
  rw [List.drop_length]
  rcases h with ⟨he, rfl⟩ | ⟨b, off, c', cur, he, hb, h1, h2, h3, h4⟩
  · injection he with e1 e2 e3
    subst e1
    exact .inl ⟨rfl, rfl⟩
  · injection he with e1 e2 e3
    subst e1; subst e2; subst e3
    exact .inr ⟨b, off, 0, cur, rfl, hb, Nat.zero_le _, by decide, by omega, rfl⟩
end
section
open Go.RowKit Go.Proofs.YtodgcfkdnellpaaW.PrintWords
open T (S33 S55 k33 k55)
theorem C_of_prow {w : World} {A : Option Addr} {n c : Nat} {l : List Du} (h : PRow w (.slice A n c) l) : Kd.C k55 w A l.length (l.map asRef) := by
  refine ⟨by simp, ?_, fun hp => ?_⟩
  · obtain ⟨A', c', he, h1, h2⟩ := h.len
    have : maxLen = 9223372036854775807 := by decide
    omega
  · rcases h with ⟨_, rfl⟩ | ⟨b, off, c', cur, he, r⟩
    · simp at hp
    · injection he with e1 e2 e3
      subst e1; subst e2; subst e3
      have hh : PRow w (.slice (some ⟨b, off, none⟩) l.length c) l := .inr ⟨b, off, c, cur, rfl, r⟩
      refine ⟨_, rfl, fun j p hj => ?_⟩
      rw [List.getElem?_map] at hj
      obtain ⟨d, hd, rfl⟩ := Option.map_eq_some_iff.1 hj
      obtain ⟨hlt, rfl⟩ := List.getElem?_eq_some_iff.1 hd
      obtain ⟨c0, c1⟩ := hh.cellsAt j hlt
      refine ⟨_, rfl, T.k55_mk w _, fun i u hu => ?_⟩
      match i, hu with
      | 0, hu => obtain rfl : _ = u := by simpa using hu
                 show w.cell? ((⟨b, off, none⟩ : Addr).add (j * 2 + 0)) = _
                 rw [Addr.add_lit]; exact c0
      | 1, hu => obtain rfl : _ = u := by simpa using hu
                 show w.cell? ((⟨b, off, none⟩ : Addr).add (j * 2 + 1)) = _
                 rw [Addr.add_lit, ← Nat.add_assoc]; exact c1
      | i + 2, hu => simp at hu
theorem prow_some {w : World} {v : Value} {l : List Du} (h : PRow w v l) (h0 : 0 < l.length) : ∃ b off c, v = .slice (some ⟨b, off, none⟩) l.length c := by
  rcases h with ⟨_, rfl⟩ | ⟨b, off, c, cur, rfl, _⟩
  · simp at h0
  · exact ⟨b, off, c, rfl⟩
/-- the reference's wheel: its block, and the row in it -/
structure IsR (w : World) (G : Nat → Prop) (r : Nat) (now : Int) (L : List Du) (v : Value) : Prop where
  blk : w.heap[r]? = some (.cells #[.int .i64 now, v] 57 (0, 0))
  row : PRow w v L
  gr : G r
  own : ∀ k, v.ownBlock = some k → G k ∧ k ≠ r
  lt : ∀ k, G k → k < w.heap.size
section
variable {w w1 : World} {G : Nat → Prop} {r : Nat} {now : Int} {L : List Du} {v : Value}
theorem IsR.frame {S : Nat → Prop} (h : IsR w G r now L v) (hf : Fr S w w1) (hn : ∀ k, G k → ¬ S k) : IsR w1 G r now L v :=
  ⟨hf.blk h.blk (hn r h.gr), h.row.frame hf (fun k hk => hn k (h.own k hk).1), h.gr, h.own, fun k hk => Nat.lt_of_lt_of_le (h.lt k hk) hf.size⟩
theorem IsR.below (h : IsR w G r now L v) (hb : Below w.heap.size w w1) : IsR w1 G r now L v := h.frame (Fr.of_below hb SNo) (fun _ _ h => h)
theorem IsR.cells (h : IsR w G r now L v) : w.cell? ⟨r, 0, none⟩ = some (.int .i64 now) ∧ w.cell? ⟨r, 1, none⟩ = some v ∧ ∀ i, w.frozen? ⟨r, i, none⟩ = false :=
  ⟨(blk_cell h.blk 0).trans rfl, (blk_cell h.blk 1).trans rfl, fun i => blk_frozen h.blk i⟩
end
set_option maxHeartbeats 1000000 in
theorem rnew_ok (n : Int) (w : World) (h1 : 0 ≤ n) (h2 : n ≤ 1099511627776) : Calls Try.prog 20 #[.int .i64 n] w fun e w' => e = .returned (.pointer (some ⟨w.heap.size, 0, none⟩)) ∧ IsR w' (fun k => k = w.heap.size) w.heap.size n [] (.slice none 0 0) ∧ Below w.heap.size w w' := by
  go_enter Try.func20, Try.ntmps20
  go_wp2_with fail
  go_ret
  refine ⟨rfl, ⟨heap_alloc_new w _, PRow.nil _, rfl, (fun k hk => by cases hk), fun k hk => ?_⟩, below_alloc (Below.refl _ _) _⟩
  subst hk
  show _ < (w.heap.push _).size
  rw [Array.size_push]; omega
set_option maxHeartbeats 1000000 in
theorem rnew_no (n : Int) (w : World) (h : ¬ (0 ≤ n ∧ n ≤ 1099511627776)) : Calls Try.prog 20 #[.int .i64 n] w fun e w' => e = .returned (.pointer none) ∧ w = w' := by
  by_cases h1 : 0 ≤ n
  · have h2 : ¬ n ≤ 1099511627776 := fun h2 => h ⟨h1, h2⟩
    go_enter Try.func20, Try.ntmps20
    go_wp2_with fail
    go_ret
    exact ⟨rfl, rfl⟩
  · go_enter Try.func20, Try.ntmps20
    go_wp2_with fail
    go_ret
    exact ⟨rfl, rfl⟩
def RAtA (w0 : World) (L : List Du) (x : Int) (v5 : Value) (wr : World) : Prop := ∃ i : Nat, v5 = .int .i64 i ∧ i ≤ L.length ∧ wr = w0 ∧ ∀ (j : Nat) (h : j < L.length), j < i → L[j].id ≠ x
theorem atOf_first {L : List Du} {x : Int} : ∀ {i : Nat} (hi : i < L.length), (∀ (j : Nat) (h : j < L.length), j < i → L[j].id ≠ x) → L[i].id = x → atOf L x = L[i].at_ := by
  induction L with
  | nil => intro i hi; simp at hi
  | cons a t ih =>
    intro i hi hn he
    rw [atOf_cons]
    cases i with
    | zero => rw [if_pos (show a.id = x from he)]; rfl
    | succ i =>
      have h0 := hn 0 (by simp) (by omega)
      rw [if_neg (show ¬ a.id = x from h0)]
      exact ih (by simpa using hi) (fun j h hj => hn (j + 1) (by simpa using h) (by omega)) he
theorem atOf_no {L : List Du} {x : Int} (h : ∀ (j : Nat) (h : j < L.length), L[j].id ≠ x) : atOf L x = 0 := by
  apply atOf_none
  rw [List.any_eq_false]
  intro d hd
  obtain ⟨j, hj, rfl⟩ := List.mem_iff_getElem.1 hd
  simpa using h j hj
set_option maxHeartbeats 4000000 in
theorem rat_any (w : World) (G : Nat → Prop) (r : Nat) (now : Int) (L : List Du) (v : Value) (x : Int) (h : IsR w G r now L v) (hl : L.length ≤ 4096) : Calls Try.prog 25 #[.pointer (some ⟨r, 0, none⟩), .int .i64 x] w fun e w' => e = .returned (.int .i64 (atOf L x)) ∧ w = w' := by
  obtain ⟨c0, c1, _⟩ := h.cells
  obtain ⟨A, c, hv, _, _⟩ := h.row.len
  subst hv
  have HR := Aside0.mk h; clear h
  go_enter Try.func25, Try.ntmps25
  go_wp2_with fail
  go_loopw [5] (fun v5 wr => RAtA w L x v5 wr) (fun v5 _ => L.length - (intOf v5).toNat)
  case atStart => exact ⟨0, rfl, Nat.zero_le _, rfl, fun j _ h => by omega⟩
  case round =>
    obtain ⟨i, rfl, hi, rfl, hn⟩ := hrel
    by_cases hlt : i < L.length
    · have hz : (i : Int) < (L.length : Int) := by omega
      have hz2 : (i : Int) < 4096 := by omega
      obtain ⟨b, off, c', he⟩ := prow_some HR.out.row (by omega)
      injection he with he e2 e3
      subst he
      subst e3
      clear e2
      obtain ⟨d0, d1⟩ := HR.out.row.cellsAt i hlt
      obtain ⟨xi, hxi⟩ : ∃ z, z = L[i].id := ⟨_, rfl⟩
      obtain ⟨xa, hxa⟩ : ∃ z, z = L[i].at_ := ⟨_, rfl⟩
      rw [← hxi] at d0
      rw [← hxa] at d1
      have HN := Aside0.mk (And.intro hn (And.intro hxi (And.intro hxa hlt))); clear hn hxi hxa
      by_cases hx : xi = x
      · subst hx
        go_wp2_with fail
        go_ret
        exact ⟨ret_int (by rw [atOf_first HN.out.2.2.2 HN.out.1 HN.out.2.1.symm, ← HN.out.2.2.1]), rfl⟩
      · have hx2 : (xi == x) = false := beq_false_of_ne hx
        go_wp2_with fail
        go_roundw
        case measure => have := HN.out.2.2.2; simp [intOf] <;> omega
        case rel => exact ⟨i + 1, by go_num, HN.out.2.2.2, rfl, fun j h hj => by
          rcases Nat.lt_or_eq_of_le (Nat.le_of_lt_succ hj) with h1 | h1
          · exact HN.out.1 j h h1
          · subst h1; rw [← HN.out.2.1]; exact hx⟩
    · have HN := Aside0.mk hn; clear hn
      go_wp2_with fail
      go_ret
      exact ⟨ret_int (by rw [atOf_no (fun j h => HN.out j h (by omega))]), rfl⟩
/-- the rows that a loop makes: new ones, or the same -/
def RDropA (w0 : World) (L : List Du) (x : Int) (v5 v6 : Value) (wr : World) : Prop := ∃ i : Nat, v6 = .int .i64 i ∧ i ≤ L.length ∧ PRow wr v5 (dropL (L.take i) x) ∧ (∀ b, v5.ownBlock = some b → w0.heap.size ≤ b) ∧ Below w0.heap.size w0 wr
theorem row_step {w0 w1 w2 : World} {v v1 : Value} {o : Obj} (h1 : ∀ b, v.ownBlock = some b → w0.heap.size ≤ b) (hb : Below w0.heap.size w0 w1) (hf : Fr (fun k => v.ownBlock = some k) (w1.alloc o) w2) (hl : v1.ownBlock = v.ownBlock ∨ ∃ b, v1.ownBlock = some b ∧ (w1.alloc o).heap.size ≤ b) : (∀ b, v1.ownBlock = some b → w0.heap.size ≤ b) ∧ Below w0.heap.size w0 w2 := by
  have h4 := below_alloc hb o
  refine ⟨fun b hb' => ?_, h4.trans (hf.below (fun k hk e => by have := h1 k e; omega) h4.size)⟩
  rcases hl with e | ⟨b', e, hle⟩
  · exact h1 b (by rw [← e]; exact hb')
  · rw [hb'] at e; injection e with e; subst e
    have := h4.size; omega
theorem dropL_succ {L : List Du} {i : Nat} (hi : i < L.length) (x : Int) : dropL (L.take (i + 1)) x = if L[i].id = x then dropL (L.take i) x else dropL (L.take i) x ++ [L[i]] := by
  unfold dropL
  rw [List.take_succ_eq_append_getElem hi, List.filter_append]
  by_cases h : L[i].id = x
  · rw [if_pos h]; simp [h]
  · rw [if_neg h]; simp [h]
theorem dropL_len (L : List Du) (x : Int) : (dropL L x).length ≤ L.length := List.length_filter_le _ _
theorem drop_short (L : List Du) (x : Int) : decide ((dropL L x).length < L.length) = L.any (fun d => d.id == x) := by
  induction L with
  | nil => rfl
  | cons a t ih =>
    have hl := dropL_len t x
    rw [Bool.eq_iff_iff] at ih ⊢
    rw [decide_eq_true_eq] at ih ⊢
    rw [List.any_cons, Bool.or_eq_true, ← ih]
    have e : dropL (a :: t) x = if a.id = x then dropL t x else a :: dropL t x := by
      unfold dropL
      by_cases h : a.id = x
      · rw [if_pos h, List.filter_cons_of_neg (by simp [h])]
      · rw [if_neg h, List.filter_cons_of_pos (by simp [h])]
    rw [e]
    by_cases h : a.id = x
    · rw [if_pos h]
      have : (a.id == x) = true := by simpa using h
      simp [this]; omega
    · rw [if_neg h]
      have : (a.id == x) = false := by simpa using h
      simp [this]
/-- what a call leaves of the reference's object -/
def RPost (w : World) (G : Nat → Prop) (r : Nat) (now : Int) (L : List Du) (res : Value) (e : Ending) (w' : World) : Prop := e = .returned res ∧ ∃ G' v', IsR w' G' r now L v' ∧ TurnW w w' G G'
theorem IsR.store {w w1 : World} {G : Nat → Prop} {r : Nat} {now : Int} {L L1 : List Du} {v v1 : Value} (h : IsR w G r now L v) (hb : Below w.heap.size w w1) (hr : PRow w1 v1 L1) (ho : ∀ b, v1.ownBlock = some b → w.heap.size ≤ b) : ∃ G' v', IsR (w1.setCell ⟨r, 1, none⟩ v1) G' r now L1 v' ∧ TurnW w (w1.setCell ⟨r, 1, none⟩ v1) G G' := by
  have h1 := h.below hb
  have hset := blk_set h1.blk 1 v1
  have hf : Fr (fun k => k = r) w1 (w1.setCell ⟨r, 1, none⟩ v1) := Fr.setCell (S := fun k => k = r) (p := ⟨r, 1, none⟩) (Fr.refl _ w1) (.inl rfl) _
  have hrlt := h.lt r h.gr
  refine ⟨fun k => k = r ∨ v1.ownBlock = some k, v1, ⟨hset, hr.frame hf (fun k hk e => by have := ho k hk; omega), .inl rfl, fun k hk => ⟨.inr hk, fun e => by have := ho k hk; omega⟩, fun k hk => ?_⟩, ⟨(Fr.of_below hb _).setCell (p := ⟨r, 1, none⟩) (.inl h.gr) _, fun k hk => ?_⟩⟩
  · rcases hk with hk | hk
    · subst hk; exact Nat.lt_of_lt_of_le hrlt (Nat.le_trans hb.size hf.size)
    · exact Nat.lt_of_lt_of_le (hr.lt k hk) hf.size
  · rcases hk with hk | hk
    · subst hk; exact .inl h.gr
    · exact .inr (ho k hk)
set_option maxHeartbeats 4000000 in
set_option maxRecDepth 100000 in
theorem rdrop_any (w : World) (G : Nat → Prop) (r : Nat) (now : Int) (L : List Du) (v : Value) (x : Int) (h : IsR w G r now L v) (hl : L.length ≤ 4096) : Calls Try.prog 22 #[.pointer (some ⟨r, 0, none⟩), .int .i64 x] w (RPost w G r now (dropL L x) (.bool (L.any (fun d => d.id == x)))) := by
  obtain ⟨A, c, hv, _, _⟩ := h.row.len
  subst hv
  have HR := Aside0.mk h; clear h
  go_enter Try.func22, Try.ntmps22
  go_wp2_with fail
  go_loopw [5, 6] (fun v5 v6 wr => RDropA w L x v5 v6 wr) (fun _ v6 _ => L.length - (intOf v6).toNat)
  case atStart => exact ⟨0, rfl, Nat.zero_le _, PRow.nil _, (fun b hb => by cases hb), Below.refl _ _⟩
  case round =>
    obtain ⟨i, rfl, hi, hp, hown, hb⟩ := hrel
    have hR := HR.out.below hb
    obtain ⟨c0, c1, cf⟩ := hR.cells
    have cf1 := cf 1
    clear cf
    have HP := Aside0.mk (And.intro hp (And.intro hown (And.intro hb hR)))
    obtain ⟨A5, c5, hv5, _, _⟩ := hp.len
    subst hv5
    clear hp hown hb hR
    by_cases hlt : i < L.length
    · have hz : (i : Int) < (L.length : Int) := by omega
      have hz2 : (i : Int) < 4096 := by omega
      obtain ⟨b, off, c', he⟩ := prow_some HP.out.2.2.2.row (by omega)
      injection he with he e2 e3
      subst he
      subst e3
      clear e2
      obtain ⟨d0, d1⟩ := HP.out.2.2.2.row.cellsAt i hlt
      have hss := dropL_succ hlt x
      obtain ⟨d, hd⟩ : ∃ d, d = L[i] := ⟨_, rfl⟩
      rw [← hd] at d0 d1 hss
      obtain ⟨xi, xa⟩ := d
      have HS := Aside0.mk (And.intro hss hlt)
      clear hss hd
      by_cases hx : xi = x
      · have hx2 : (xi != x) = false := by simp [hx]
        go_wp2_with fail
        go_roundw
        case measure => have := HS.out.2; simp [intOf] <;> omega
        case rel => exact ⟨i + 1, by go_num, HS.out.2, by rw [HS.out.1, if_pos hx]; exact HP.out.1, HP.out.2.1, HP.out.2.2.1⟩
      · have hx2 : (xi != x) = true := by simp [hx]
        go_wp2_with (first | (at_builtin; refine wp_app55 rfl (.slice A5 (dropL (L.take i) x).length c5) (.slice (some ⟨wr.heap.size, 0, none⟩) 1 1) (dropL (L.take i) x) [⟨xi, xa⟩] 1 (HP.out.1.frame ((Fr.refl SNo wr).alloc _) (fun _ _ h => h)) rfl (src_new55 wr ⟨xi, xa⟩) (by have h1 := dropL_len (L.take i) x; simp at h1 ⊢; omega) rfl rfl rfl ?_; intro v10 w10 ho10 hf10 hl10; have H10 := Aside0.mk (And.intro ho10 (row_step HP.out.2.1 HP.out.2.2.1 hf10 hl10)); clear ho10 hf10 hl10) | fail)
        go_roundw
        case measure => have := HS.out.2; simp [intOf] <;> omega
        case rel => exact ⟨i + 1, by go_num, HS.out.2, by rw [HS.out.1, if_neg hx]; exact H10.out.1, H10.out.2.1, H10.out.2.2⟩
    · obtain rfl : i = L.length := by omega
      have hp := HP.out.1
      rw [List.take_length] at hp ⊢
      have hsh := drop_short L x
      have HE := Aside0.mk (And.intro (HR.out.store HP.out.2.2.1 hp (by have h := HP.out.2.1; rw [List.take_length] at h; exact h)) hsh)
      clear hp hsh
      go_wp2_with fail
      go_ret
      exact ⟨ret_bool HE.out.2, HE.out.1⟩
end
section
open Go.RowKit Go.Proofs.YtodgcfkdnellpaaW.PrintWords
def RAdvA (w0 : World) (L : List Du) (tk : Int) (v6 : Value) (wr : World) : Prop := ∃ i : Nat, v6 = .int .i64 i ∧ i ≤ L.length ∧ wr = w0 ∧ ∀ (j : Nat) (h : j < L.length), j < i → L[j].at_ ≤ tk
theorem upto_cut {L : List Du} {tk : Int} {i : Nat} (hi : i ≤ L.length) (hs : L.Pairwise (fun a b => before a b = true)) (h1 : ∀ (j : Nat) (h : j < L.length), j < i → L[j].at_ ≤ tk) (h2 : ∀ h : i < L.length, tk < L[i].at_) : L.take i = L.filter (upTo tk) ∧ L.drop i = L.filter (fun d => !upTo tk d) := by
  refine take_filter L i (fun x hx => ?_) (fun x hx => ?_)
  · obtain ⟨j, hj, rfl⟩ := List.mem_iff_getElem.1 hx
    rw [List.getElem_take]
    simp at hj
    unfold upTo
    simpa using h1 j (by omega) (by omega)
  · have hlt : i < L.length := by
      apply Classical.byContradiction
      intro hn
      rw [List.drop_eq_nil_of_le (by omega)] at hx
      cases hx
    have h3 := h2 hlt
    rw [List.drop_eq_getElem_cons hlt] at hx
    have hp : (L[i] :: L.drop (i + 1)).Pairwise (fun a b => before a b = true) := by rw [← List.drop_eq_getElem_cons hlt]; exact hs.sublist (List.drop_sublist ..)
    unfold upTo
    rcases List.mem_cons.1 hx with rfl | hx
    · simp; exact h3
    · have := (List.pairwise_cons.1 hp).1 x hx
      unfold before at this
      simp at this ⊢
      omega
def RAdvPost (w : World) (G : Nat → Prop) (r : Nat) (tk : Int) (X M : List Du) (e : Ending) (w' : World) : Prop := ∃ A c G' v', e = .returned (.tuple #[.slice A X.length c, .int .i64 0]) ∧ PRow w' (.slice A X.length c) X ∧ IsR w' G' r tk M v' ∧ TurnW w w' G G'
theorem radv_end {w w' : World} {G : Nat → Prop} {r n c : Nat} {tk : Int} {X M : List Du} {A : Option Addr} {v' : Value} (hn : X.length = n) (hr : PRow w' (.slice A n c) X) (hR : IsR w' G r tk M v') (ht : TurnW w w' G G) : RAdvPost w G r tk X M (.returned (.tuple #[.slice A n c, .int .i64 0])) w' := by
  subst hn
  exact ⟨A, c, G, v', rfl, hr, hR, ht⟩
theorem IsR.shift {w : World} {G : Nat → Prop} {r : Nat} {now tk : Int} {L M : List Du} {v v1 : Value} (h : IsR w G r now L v) (hr : PRow w v1 M) (ho : ∀ b, v1.ownBlock = some b → v.ownBlock = some b) : IsR ((w.setCell ⟨r, 1, none⟩ v1).setCell ⟨r, 0, none⟩ (.int .i64 tk)) G r tk M v1 ∧ TurnW w ((w.setCell ⟨r, 1, none⟩ v1).setCell ⟨r, 0, none⟩ (.int .i64 tk)) G G ∧ Fr (fun k => k = r) w ((w.setCell ⟨r, 1, none⟩ v1).setCell ⟨r, 0, none⟩ (.int .i64 tk)) := by
  have h1 := blk_set h.blk 1 v1
  have h2 := blk_set h1 0 (.int .i64 tk)
  have hf : Fr (fun k => k = r) w ((w.setCell ⟨r, 1, none⟩ v1).setCell ⟨r, 0, none⟩ (.int .i64 tk)) := Fr.setCell (S := fun k => k = r) (p := ⟨r, 0, none⟩) (Fr.setCell (S := fun k => k = r) (p := ⟨r, 1, none⟩) (Fr.refl _ w) (.inl rfl) _) (.inl rfl) _
  exact ⟨⟨h2, hr.frame hf (fun k hk e => (h.own k (ho k hk)).2 e), h.gr, fun k hk => h.own k (ho k hk), fun k hk => Nat.lt_of_lt_of_le (h.lt k hk) hf.size⟩, ⟨hf.mono (fun k _ e => by subst e; exact h.gr), fun k hk => .inl hk⟩, hf⟩
set_option maxHeartbeats 4000000 in
set_option maxRecDepth 100000 in
theorem radv_any (w : World) (G : Nat → Prop) (r : Nat) (now : Int) (L : List Du) (v : Value) (tk : Int) (X M : List Du) (h : IsR w G r now L v) (hl : L.length ≤ 4096) (h1 : now ≤ tk) (h2 : tk ≤ 1099511627776) (hs : L.Pairwise (fun a b => before a b = true)) (hX : X = L.filter (upTo tk)) (hM : M = L.filter (fun d => !upTo tk d)) : Calls Try.prog 23 #[.pointer (some ⟨r, 0, none⟩), .int .i64 tk] w (RAdvPost w G r tk X M) := by
  obtain ⟨c0, c1, cf⟩ := h.cells
  have cf0 := cf 0
  have cf1 := cf 1
  obtain ⟨A, c, hv, hlc, hcm⟩ := h.row.len
  subst hv
  have HR := Aside0.mk (And.intro h (And.intro hs (And.intro hX hM))); clear h hs hX hM cf
  go_enter Try.func23, Try.ntmps23
  go_wp2_with fail
  go_loopw [6] (fun v6 wr => RAdvA w L tk v6 wr) (fun v6 _ => L.length - (intOf v6).toNat)
  case atStart => exact ⟨0, rfl, Nat.zero_le _, rfl, fun j _ h => by omega⟩
  case round =>
    obtain ⟨i, rfl, hi, rfl, hn⟩ := hrel
    have key : ∀ (hend : ∀ h : i < L.length, tk < L[i].at_), L.take i = X ∧ L.drop i = M := fun hend => by
      rw [HR.out.2.2.1, HR.out.2.2.2]; exact upto_cut hi HR.out.2.1 hn hend
    have HK := Aside0.mk key; clear key
    by_cases hlt : i < L.length
    · have hz : (i : Int) < (L.length : Int) := by omega
      have hz2 : (i : Int) < 4096 := by omega
      obtain ⟨b, off, c', he⟩ := prow_some HR.out.1.row (by omega)
      injection he with he e2 e3
      subst he
      subst e3
      clear e2
      obtain ⟨d0, d1⟩ := HR.out.1.row.cellsAt i hlt
      obtain ⟨xa, hxa⟩ : ∃ z, z = L[i].at_ := ⟨_, rfl⟩
      rw [← hxa] at d1
      clear d0
      have HN := Aside0.mk (And.intro hn (And.intro hxa hlt)); clear hn hxa
      by_cases hx : xa ≤ tk
      · go_wp2_with fail
        go_roundw
        case measure => have := HN.out.2.2; simp [intOf] <;> omega
        case rel => exact ⟨i + 1, by go_num, HN.out.2.2, rfl, fun j h hj => by
          rcases Nat.lt_or_eq_of_le (Nat.le_of_lt_succ hj) with h1 | h1
          · exact HN.out.1 j h h1
          · subst h1; rw [← HN.out.2.1]; exact hx⟩
      · have hk := HK.out (fun _ => by rw [← HN.out.2.1]; omega)
        have hX : (L.take i).length = i := by rw [List.length_take]; omega
        have hXl : X.length = i := by rw [← hk.1]; exact hX
        have hrow := HR.out.1.row
        have htail := prow_tail hrow hi
        have hhead := prow_head hrow hi
        rw [hk.1] at hhead
        rw [hk.2, Option.map_some, Addr.add_lit] at htail
        have hsh := HR.out.1.shift (tk := tk) htail (fun b hb => hb)
        have HE := Aside0.mk (And.intro hsh (And.intro hXl (hhead.frame hsh.2.2 (fun k hk e => (HR.out.1.own k hk).2 e))))
        have hcne : ¬ ((c : Int) = (i : Int)) := by omega
        clear hk hX hXl hrow htail hhead hsh
        go_wp2_with fail
        refine bodyPost_ret (v := .tuple #[.slice (some ⟨b, off, none⟩) i c, .int .i64 0]) (by simp [results, Try.results23, go_sem]) rfl ?_
        exact radv_end HE.out.2.1 HE.out.2.2 HE.out.1.1 HE.out.1.2.1
    · obtain rfl : i = L.length := by omega
      have hk := HK.out (fun h => absurd h (by omega))
      rw [List.take_length, List.drop_length] at hk
      have hrow := HR.out.1.row
      have hxl : X.length = L.length := by rw [hk.1]
      have HN := Aside0.mk (And.intro hn (And.intro hk hxl)); clear hn hxl
      rcases (show (A = none ∧ c = 0 ∧ L = []) ∨ ∃ b off, A = some ⟨b, off, none⟩ from by
        rcases hrow with ⟨he, h0⟩ | ⟨b, off, c', cur, he, _⟩
        · injection he with e1 e2 e3
          exact .inl ⟨e1, e3, h0⟩
        · injection he with e1 e2 e3
          exact .inr ⟨b, off, e1⟩) with ⟨rfl, rfl, rfl⟩ | ⟨b, off, rfl⟩
      · have hsh := HR.out.1.shift (tk := tk) (v1 := .slice none 0 0) (M := M) (by rw [← hk.2]; exact PRow.nil _) (fun b hb => by cases hb)
        have HE := Aside0.mk (And.intro hsh (hrow.frame hsh.2.2 (fun k hk e => by cases hk)))
        clear hk hrow hsh
        go_wp2_with fail
        refine bodyPost_ret (v := .tuple #[.slice none 0 0, .int .i64 0]) (by simp [results, Try.results23, go_sem]) rfl ?_
        exact radv_end (n := 0) HN.out.2.2 (by rw [← HN.out.2.1.1]; exact HE.out.2) HE.out.1.1 HE.out.1.2.1
      · by_cases hce : c = L.length
        · have htail := prow_end hrow (k := L.length) rfl
          rw [List.drop_length, hk.2] at htail
          have hsh := HR.out.1.shift (tk := tk) htail (fun b hb => hb)
          have HE := Aside0.mk (And.intro hsh (hrow.frame hsh.2.2 (fun k hk e => (HR.out.1.own k hk).2 e)))
          clear hk hrow htail hsh
          subst hce
          go_wp2_with fail
          refine bodyPost_ret (v := .tuple #[.slice (some ⟨b, off, none⟩) L.length L.length, .int .i64 0]) (by simp [results, Try.results23, go_sem]) rfl ?_
          exact radv_end HN.out.2.2 (by rw [← HN.out.2.1.1]; exact HE.out.2) HE.out.1.1 HE.out.1.2.1
        · have htail := prow_tail hrow (Nat.le_refl L.length)
          rw [List.drop_length, hk.2, Option.map_some, Addr.add_lit, Nat.sub_self] at htail
          have hsh := HR.out.1.shift (tk := tk) htail (fun b hb => hb)
          have HE := Aside0.mk (And.intro hsh (hrow.frame hsh.2.2 (fun k hk e => (HR.out.1.own k hk).2 e)))
          have hcne : ¬ ((c : Int) = (L.length : Int)) := by omega
          clear hk hrow htail hsh
          go_wp2_with fail
          refine bodyPost_ret (v := .tuple #[.slice (some ⟨b, off, none⟩) L.length c, .int .i64 0]) (by simp [results, Try.results23, go_sem]) rfl ?_
          exact radv_end HN.out.2.2 (by rw [← HN.out.2.1.1]; exact HE.out.2) HE.out.1.1 HE.out.1.2.1
end
section
open Go.RowKit Go.Proofs.YtodgcfkdnellpaaW.PrintWords
/-- the least so far stands in a block of its own -/
structure MinI (w wr : World) (nb i : Nat) (l : List Du) (m : Du) : Prop where
  mem : m ∈ l
  least : ∀ (j : Nat) (h : j < l.length), j < i → before l[j] m = false
  blk : wr.heap[nb]? = some (.cells #[.int .i64 m.id, .int .i64 m.at_] 33 (0, 0))
  below : Below w.heap.size w wr
  own : w.heap.size < nb
  res : wr.heap[w.heap.size]? = some (.cells #[.int .i64 0, .int .i64 0] 33 (0, 0))
def MinA (w : World) (nb : Nat) (l : List Du) (v6 : Value) (wr : World) : Prop := ∃ (i : Nat) (m : Du), v6 = .int .i64 i ∧ i ≤ l.length ∧ MinI w wr nb i l m
theorem min_take {w wr w2 : World} {nb i : Nat} {l : List Du} {m x : Du} (h : MinI w wr nb i l m) {hi : i < l.length} (hx : x = l[i]) (hb : before x m = true) (h2 : Below wr.heap.size wr w2) (hk : w2.heap[nb]? = some (.cells #[.int .i64 m.id, .int .i64 m.at_] 33 (0, 0))) (hr : w2.heap[w.heap.size]? = some (.cells #[.int .i64 0, .int .i64 0] 33 (0, 0))) : MinI w ((w2.setCell ⟨nb, 0, none⟩ (.int .i64 x.id)).setCell ⟨nb, 1, none⟩ (.int .i64 x.at_)) nb (i + 1) l x := by
  have s1 := blk_set hk 0 (.int .i64 x.id)
  have s2 := blk_set s1 1 (.int .i64 x.at_)
  have hf : Fr (fun k => k = nb) w2 ((w2.setCell ⟨nb, 0, none⟩ (.int .i64 x.id)).setCell ⟨nb, 1, none⟩ (.int .i64 x.at_)) := Fr.setCell (S := fun k => k = nb) (p := ⟨nb, 1, none⟩) (Fr.setCell (S := fun k => k = nb) (p := ⟨nb, 0, none⟩) (Fr.refl _ w2) (.inl rfl) _) (.inl rfl) _
  have ho := h.own
  have hbw := h.below.trans (h2.mono h.below.size)
  refine ⟨by rw [hx]; exact List.getElem_mem hi, fun j hj hji => ?_, s2, hbw.trans (hf.below (fun k hk e => by omega) hbw.size), ho, hf.blk hr (fun e => by omega)⟩
  rcases Nat.lt_or_eq_of_le (Nat.le_of_lt_succ hji) with h1 | h1
  · cases hq : before l[j] x with
    | false => rfl
    | true => have := before_trans hq hb; rw [h.least j hj h1] at this; cases this
  · subst h1; rw [← hx]; exact before_irrefl _
theorem min_keep {w wr w2 : World} {nb i : Nat} {l : List Du} {m x : Du} (h : MinI w wr nb i l m) {hi : i < l.length} (hx : x = l[i]) (hb : ¬ before x m = true) (h2 : Below wr.heap.size wr w2) (hk : w2.heap[nb]? = some (.cells #[.int .i64 m.id, .int .i64 m.at_] 33 (0, 0))) (hr : w2.heap[w.heap.size]? = some (.cells #[.int .i64 0, .int .i64 0] 33 (0, 0))) : MinI w w2 nb (i + 1) l m := by
  refine ⟨h.mem, fun j hj hji => ?_, hk, h.below.trans (h2.mono h.below.size), h.own, hr⟩
  rcases Nat.lt_or_eq_of_le (Nat.le_of_lt_succ hji) with h1 | h1
  · exact h.least j hj h1
  · subst h1; rw [← hx]; simpa using hb
def MinPost (w : World) (l : List Du) (e : Ending) (w' : World) : Prop := ∃ m : Du, e = .returned (.agg #[.int .i64 m.id, .int .i64 m.at_]) ∧ m ∈ l ∧ (∀ y ∈ l, before y m = false) ∧ Below w.heap.size w w'
set_option maxHeartbeats 8000000 in
set_option maxRecDepth 100000 in
theorem min_any (w : World) (b off c : Nat) (l : List Du) (h : ORow w (.slice (some ⟨b, off, none⟩) l.length c) l) (h0 : 0 < l.length) (hl : l.length ≤ 4096) : Calls Try.prog 34 #[.slice (some ⟨b, off, none⟩) l.length c, .func (.func 32) #[] #[]] w (MinPost w l) := by
  obtain ⟨c0, c1⟩ := h.cellsAt 0 h0
  simp only [Nat.zero_mul, Nat.add_zero] at c0 c1
  have hb := h.lt b rfl
  obtain ⟨d, hd⟩ : ∃ d, d = l[0] := ⟨_, rfl⟩
  rw [← hd] at c0 c1
  obtain ⟨xi, xa⟩ := d
  have hd0 : l[0]? = some ⟨xi, xa⟩ := by rw [List.getElem?_eq_getElem h0, hd]
  have hz0 : ¬ (l.length : Int) < 1 := by omega
  have HL := Aside0.mk (And.intro h (And.intro hd0 (And.intro h0 (And.intro hl hb)))); clear h hd hd0 h0 hl
  go_enter Try.func34, Try.ntmps34
  go_wp2_with fail
  go_loopw [6] (fun v6 wr => MinA w (w.heap.size + 1) l v6 wr) (fun v6 _ => l.length - (intOf v6).toNat)
  case atStart => exact ⟨1, ⟨xi, xa⟩, rfl, HL.out.2.2.1, List.mem_of_getElem? HL.out.2.1, fun j h hj => by
      obtain rfl : j = 0 := by omega
      have := HL.out.2.1
      rw [List.getElem?_eq_getElem h] at this
      injection this with this
      rw [this]; exact before_irrefl _, two_second w _ _, below_alloc (below_alloc (Below.refl _ _) _) _, Nat.lt_succ_self _, two_first w _ _⟩
  case round =>
    clear c0 c1 hz0
    obtain ⟨i, m, rfl, hi, hM⟩ := hrel
    obtain ⟨mi, ma⟩ := m
    obtain ⟨nb, hnb⟩ : ∃ n, n = w.heap.size + 1 := ⟨_, rfl⟩
    rw [← hnb] at hM ⊢
    have hm0 : wr.cell? ⟨nb, 0, none⟩ = some (.int .i64 mi) := blk_cell hM.blk 0
    have hm1 : wr.cell? ⟨nb, 1, none⟩ = some (.int .i64 ma) := blk_cell hM.blk 1
    by_cases hlt : i < l.length
    · have hz : (i : Int) < (l.length : Int) := by omega
      have hz2 : (i : Int) < 5000 := by have := HL.out.2.2.2.1; omega
      have hrow := HL.out.1.frame (Fr.of_below hM.below SNo) (fun _ _ h => h)
      obtain ⟨d0, d1⟩ := hrow.cellsAt i hlt
      obtain ⟨x, hx⟩ : ∃ x, x = l[i] := ⟨_, rfl⟩
      rw [← hx] at d0 d1
      obtain ⟨xi, xa⟩ := x
      have hk : wr.drew.cell? ⟨b, off + i * 2, none⟩ = some (.int .i64 xi) ∧ wr.drew.cell? ⟨b, off + i * 2 + 1, none⟩ = some (.int .i64 xa) ∧ wr.drew.cell? ⟨nb, 0, none⟩ = some (.int .i64 mi) ∧ wr.drew.cell? ⟨nb, 1, none⟩ = some (.int .i64 ma) := ⟨d0, d1, hm0, hm1⟩
      have hcon : Calls Try.prog 32 #[.agg #[.int .i64 xi, .int .i64 xa], .agg #[.int .i64 mi, .int .i64 ma]] wr.drew _ := order_any ⟨xi, xa⟩ ⟨mi, ma⟩ wr.drew
      have hbf := cmpDu_lt ⟨xi, xa⟩ ⟨mi, ma⟩
      obtain ⟨q, hq⟩ : ∃ q, q = cmpDu ⟨xi, xa⟩ ⟨mi, ma⟩ := ⟨_, rfl⟩
      rw [← hq] at hcon hbf
      have HC := Aside0.mk hcon
      have HM := Aside0.mk (And.intro hM (And.intro hx (And.intro hbf (And.intro hlt (And.intro hnb hrow)))))
      have hnlt : nb < wr.heap.size := blk_lt hM.blk
      have hblt : b < wr.heap.size := hrow.lt b rfl
      clear hcon hbf hq hx hM hnb hrow d0 d1 hm0 hm1
      go_wp2_with fail
      refine Plan2.region 6 (fun w' => w'.cell? ⟨b, off + i * 2, none⟩ = some (.int .i64 xi) ∧ w'.cell? ⟨b, off + i * 2 + 1, none⟩ = some (.int .i64 xa) ∧ w'.cell? ⟨nb, 0, none⟩ = some (.int .i64 mi) ∧ w'.cell? ⟨nb, 1, none⟩ = some (.int .i64 ma)) [(0, 0), (1, 0), (2, 0), (3, 0), (4, 1), (5, 1), (6, 2), (7, 0)] (by kernel_rfl) (by kernel_rfl) (fun _ _ d _ _ h => by cases d <;> exact h) ?_ ?_
      focus exact hk
      (refine' Plan2.pure (N := (some 20)) rfl (by rfl) rfl ?_ ?_ ?_; rotate_left 2; (focus (intro w'; go_simp; exact Plan2.isV)); (focus (simp only [Act.put, List.setIfInBounds_toArray, List.set_cons_zero, List.set_cons_succ]; rfl)))
      (refine' Plan2.pure (N := (some 21)) rfl (by rfl) rfl ?_ ?_ ?_; rotate_left 2; (focus (intro w'; go_simp; exact Plan2.isV)); (focus (simp only [Act.put, List.setIfInBounds_toArray, List.set_cons_zero, List.set_cons_succ]; rfl)))
      (refine' Plan2.pure (N := (some 22)) rfl (by rfl) rfl ?_ ?_ ?_; rotate_left 2; (focus (intro w'; go_simp; exact Plan2.isV)); (focus (simp only [Act.put, List.setIfInBounds_toArray, List.set_cons_zero, List.set_cons_succ]; rfl)))
      (refine' Plan2.pure (N := (some 23)) rfl (by rfl) rfl ?_ ?_ ?_; rotate_left 2; (focus (intro w'; go_simp; exact Plan2.isV)); (focus (simp only [Act.put, List.setIfInBounds_toArray, List.set_cons_zero, List.set_cons_succ]; rfl)))
      (refine' Plan2.load (N := (some 24)) rfl (by rfl) rfl ?_ ?_ ?_; rotate_left 2; (focus (intro w' hS; (try dsimp only at hS); go_simp; exact Plan2.isV)); (focus (simp only [Act.put, List.setIfInBounds_toArray, List.set_cons_zero, List.set_cons_succ]; rfl)))
      (refine' Plan2.load (N := (some 25)) rfl (by rfl) rfl ?_ ?_ ?_; rotate_left 2; (focus (intro w' hS; (try dsimp only at hS); go_simp; exact Plan2.isV)); (focus (simp only [Act.put, List.setIfInBounds_toArray, List.set_cons_zero, List.set_cons_succ]; rfl)))
      (refine' Plan2.acts (past' := true) rfl (by rfl) rfl (fun K hK => ?_); go_simp; (refine (HC.out).mono ?_); rintro e w2 ⟨rfl, hg2⟩; have HG2 := Aside0.mk hg2; clear hg2; (refine hK.out _ _ (fun hp => ?_) (fun hS => ?_)); (focus (cases hp)))
      (refine' Plan2.pure (N := (some 27)) rfl (by rfl) rfl ?_ ?_ ?_; rotate_left 2; (focus (intro w'; go_simp; exact Plan2.isV)); (focus (simp only [Act.put, List.setIfInBounds_toArray, List.set_cons_zero, List.set_cons_succ]; rfl)))
      refine Plan2.done ?_
      have hf2 : Fr SNo wr w2 := ((Fr.refl SNo wr).drew).trans (HG2.out.fr SNo) (fun _ h => h.elim)
      have hb2 : Below wr.heap.size wr w2 := hf2.to_below (fun _ _ h => h)
      have hblk2 := hf2.blk HM.out.1.blk (fun h => h)
      have hres2 := hf2.blk HM.out.1.res (fun h => h)
      have d0 : w2.cell? ⟨b, off + i * 2, none⟩ = some (.int .i64 xi) := hf2.cellAt (p := ⟨b, off + i * 2, none⟩) hblt (fun h => h) hk.1
      have d1 : w2.cell? ⟨b, off + i * 2 + 1, none⟩ = some (.int .i64 xa) := hf2.cellAt (p := ⟨b, off + i * 2 + 1, none⟩) hblt (fun h => h) hk.2.1
      have m0 : w2.cell? ⟨nb, 0, none⟩ = some (.int .i64 mi) := blk_cell hblk2 0
      have m1 : w2.cell? ⟨nb, 1, none⟩ = some (.int .i64 ma) := blk_cell hblk2 1
      have mf0 := blk_frozen hblk2 0
      have mf1 := blk_frozen hblk2 1
      have H2 := Aside0.mk (And.intro hb2 (And.intro hblk2 hres2))
      clear hk hf2 hb2 hblk2 hres2
      by_cases hq0 : q < 0
      · go_wp2_with fail
        go_roundw
        case measure => have := HM.out.2.2.2.1; simp [intOf] <;> omega
        case rel => exact ⟨i + 1, ⟨xi, xa⟩, by go_num, HM.out.2.2.2.1, by exact min_take HM.out.1 HM.out.2.1 (HM.out.2.2.1.1 hq0) H2.out.1 H2.out.2.1 H2.out.2.2⟩
      · go_wp2_with fail
        go_roundw
        case measure => have := HM.out.2.2.2.1; simp [intOf] <;> omega
        case rel => exact ⟨i + 1, ⟨mi, ma⟩, by go_num, HM.out.2.2.2.1, by exact min_keep HM.out.1 HM.out.2.1 (fun h => hq0 (HM.out.2.2.1.2 h)) H2.out.1 H2.out.2.1 H2.out.2.2⟩
    · have r0 : wr.cell? ⟨w.heap.size, 0, none⟩ = some (.int .i64 0) := blk_cell hM.res 0
      have r1 : wr.cell? ⟨w.heap.size, 1, none⟩ = some (.int .i64 0) := blk_cell hM.res 1
      have rf0 := blk_frozen hM.res 0
      have rf1 := blk_frozen hM.res 1
      have hil : i = l.length := by omega
      have HM := Aside0.mk (And.intro hM hil)
      clear hM hnb hil
      go_wp2_with fail
      have s1 := blk_set HM.out.1.res 0 (.int .i64 mi)
      have s2 := blk_set s1 1 (.int .i64 ma)
      have e0 := blk_cell s2 0
      have e1 := blk_cell s2 1
      have hf : Fr (fun k => k = w.heap.size) wr ((wr.setCell ⟨w.heap.size, 0, none⟩ (.int .i64 mi)).setCell ⟨w.heap.size, 1, none⟩ (.int .i64 ma)) := Fr.setCell (S := fun k => k = w.heap.size) (p := ⟨w.heap.size, 1, none⟩) (Fr.setCell (S := fun k => k = w.heap.size) (p := ⟨w.heap.size, 0, none⟩) (Fr.refl _ wr) (.inl rfl) _) (.inl rfl) _
      have hbw := HM.out.1.below
      refine bodyPost_ret (v := .agg #[.int .i64 mi, .int .i64 ma]) (by simp [results, Try.results34, go_sem, e0, e1]) rfl ⟨⟨mi, ma⟩, rfl, HM.out.1.mem, fun y hy => ?_, hbw.trans (hf.below (fun k hk e => by omega) hbw.size)⟩
      obtain ⟨j, hj, rfl⟩ := List.mem_iff_getElem.1 hy
      exact HM.out.1.least j hj (by rw [HM.out.2]; exact hj)
theorem head_least {now : Int} {C : Nat → List Du} {L : List Du} {m : Du} (hs : L.Pairwise (fun a b => before a b = true)) (hm : m ∈ L) (hl : ∀ y ∈ L, before y m = false) : L.head? = some m := by
  cases L with
  | nil => cases hm
  | cons a t =>
    rcases List.mem_cons.1 hm with rfl | h
    · rfl
    · have h1 := (List.pairwise_cons.1 hs).1 m h
      rw [hl a (List.mem_cons_self ..)] at h1
      cases h1
/-- a spoke's row: what is due at its tick; none of an earlier tick -/
theorem spoke_first {now : Int} {C : Nat → List Du} {L : List Du} (hi : Inv now C L) {n : Nat} (hn : n < 63) (hprev : ∀ j, j < n → C (tick now j) = []) {m : Du} (hm : m ∈ C (tick now n)) (hl : ∀ y ∈ C (tick now n), before y m = false) : L.head? = some m := by
  have hp := hi.near (tick now n) (tick_lt now n)
  have hmL := List.mem_filter.1 (hp.mem_iff.1 hm)
  have hlate := (hi.late m hmL.1).1
  have h0 := hi.now0
  have hat : m.at_ = now + 1 + n := by
    have h2 := hmL.2
    simp only [decide_eq_true_eq] at h2
    unfold tick at h2; omega
  refine head_least (now := now) (C := C) hi.sorted hmL.1 (fun y hy => ?_)
  cases hb : before y m with
  | false => rfl
  | true =>
    exfalso
    have hy1 := (hi.late y hy).1
    have hle : y.at_ ≤ m.at_ := by unfold before at hb; simp at hb; omega
    obtain ⟨j, hj⟩ : ∃ j : Nat, (j : Int) = y.at_ - now - 1 := ⟨(y.at_ - now - 1).toNat, by omega⟩
    have hjn : j ≤ n := by omega
    have hmem : y ∈ C (tick now j) := (hi.near (tick now j) (tick_lt now j)).mem_iff.2 (List.mem_filter.2 ⟨hy, by simp only [decide_eq_true_eq]; unfold tick; omega⟩)
    rcases Nat.lt_or_eq_of_le hjn with h3 | h3
    · rw [hprev j h3] at hmem; cases hmem
    · subst h3; rw [hl y hmem] at hb; cases hb
theorem far_first {now : Int} {C : Nat → List Du} {L : List Du} (hi : Inv now C L) (hprev : ∀ j, j < 63 → C (tick now j) = []) : C 64 = L := by
  rw [hi.far]
  refine List.filter_eq_self.2 (fun d hd => ?_)
  have h1 := (hi.late d hd).1
  have h0 := hi.now0
  simp only [decide_eq_true_eq]
  apply Classical.byContradiction
  intro hlt
  have hmem : d ∈ C (tick now (d.at_ - now - 1).toNat) := (hi.near _ (tick_lt now _)).mem_iff.2 (List.mem_filter.2 ⟨hd, by simp only [decide_eq_true_eq]; unfold tick; omega⟩)
  rw [hprev _ (by omega)] at hmem
  cases hmem
def nextV (L : List Du) : Value := match L with | [] => .tuple #[.agg #[.int .i64 0, .int .i64 0], .bool false] | d :: _ => .tuple #[due d, .bool true]
theorem nextV_head {L : List Du} {m : Du} (h : L.head? = some m) : nextV L = .tuple #[due m, .bool true] := by
  cases L with
  | nil => cases h
  | cons a t => injection h with h; subst h; rfl
theorem set_two {w w1 : World} {nb : Nat} (h : Below w.heap.size w w1) (hn : w.heap.size ≤ nb) (u v : Value) : Below w.heap.size w ((w1.setCell ⟨nb, 0, none⟩ u).setCell ⟨nb, 1, none⟩ v) := by
  have hf : Fr (fun k => k = nb) w1 ((w1.setCell ⟨nb, 0, none⟩ u).setCell ⟨nb, 1, none⟩ v) := Fr.setCell (S := fun k => k = nb) (p := ⟨nb, 1, none⟩) (Fr.setCell (S := fun k => k = nb) (p := ⟨nb, 0, none⟩) (Fr.refl _ w1) (.inl rfl) _) (.inl rfl) _
  exact h.trans (hf.below (fun k hk e => by omega) h.size)
def NextA (W : World) (now : Int) (C : Nat → List Du) (v4 : Value) (wr : World) : Prop := ∃ n : Nat, v4 = .int .i64 (now + 1 + n) ∧ n ≤ 63 ∧ (∀ j, j < n → C (tick now j) = []) ∧ wr = W
set_option maxHeartbeats 8000000 in
set_option maxRecDepth 100000 in
theorem next_any (w : World) (F : Nat → Prop) (g : Nat) (now : Int) (L : List Du) (h : IsW w F g now L) : Calls Try.prog 24 #[.pointer (some ⟨g, 0, none⟩)] w fun e w' => e = .returned (nextV L) ∧ Below w.heap.size w w' := by
  obtain ⟨bm, R, C, hr, hm, hi⟩ := h
  have hn0 := hi.now0
  have hn1 := hi.now1
  have hb0 : Below w.heap.size w (w.alloc (.cells #[.int .i64 0, .int .i64 0] 33)) := below_alloc (Below.refl _ _) _
  obtain ⟨W, hW⟩ : ∃ W, W = w.alloc (.cells #[.int .i64 0, .int .i64 0] 33) := ⟨_, rfl⟩
  have hrW : Raw W F g bm now R C := by rw [hW]; exact hr.frame (Fr.of_below hb0 SNo) (fun _ _ h => h)
  have HR := Aside0.mk (And.intro hrW (And.intro hi (And.intro hb0 hW)))
  have c0 := hr.cell0
  have hglt := hr.lt g hr.fg
  clear hr hm hi hb0 hrW hW
  go_enter Try.func24, Try.ntmps24
  go_wp2_with fail
  go_loopw [4, 5] (fun v4 _ wr => NextA W now C v4 wr) (fun v4 _ _ => (now + 64 - intOf v4).toNat)
  case atStart => exact ⟨0, by go_num, Nat.zero_le _, (fun j hj => by omega), HR.out.2.2.2.symm⟩
  case round =>
    obtain ⟨n, rfl, hn, hprev, rfl⟩ := hrel
    have hb0 := HR.out.2.2.1
    rw [← HR.out.2.2.2] at hb0
    have hraw := HR.out.1
    have hzero : wr.heap[w.heap.size]? = some (.cells #[.int .i64 0, .int .i64 0] 33 (0, 0)) := by rw [HR.out.2.2.2]; exact heap_alloc_new w _
    have c0' := hraw.cell0
    by_cases hlt : n < 63
    · obtain ⟨k, hk⟩ : ∃ k, k = tick now n := ⟨_, rfl⟩
      have hk64 : k < 64 := by rw [hk]; exact tick_lt now n
      have hkz : (k : Int) < 64 := by omega
      have hdm : (now + 1 + (n : Int)).tmod 64 = (k : Int) := by rw [Int.tmod_eq_emod_of_nonneg (by omega), hk]; unfold tick; omega
      have ck := hraw.cellR k (by omega)
      have hrow := hraw.row k (by omega)
      obtain ⟨As, cs, hvs, _, _⟩ := hrow.len
      rw [hvs] at ck hrow
      have hfew := row_few HR.out.2.1 (show k < 65 by omega)
      have HP := Aside0.mk (And.intro hprev (And.intro hk (And.intro hrow (And.intro hfew (And.intro hzero (And.intro hb0 hlt)))))); clear hprev hk hrow hfew hzero hb0 hvs hraw
      cases hck : C k with
      | nil =>
        rw [hck] at ck
        have HK := Aside0.mk hck; clear hck
        go_wp2_with fail
        go_roundw
        case measure => have := HP.out.2.2.2.2.2.2; simp [intOf] <;> omega
        case rel => exact ⟨n + 1, by push_cast; go_num, HP.out.2.2.2.2.2.2, fun j hj => by
          rcases Nat.lt_or_eq_of_le (Nat.le_of_lt_succ hj) with h1 | h1
          · exact HP.out.1 j h1
          · subst h1; rw [← HP.out.2.1]; exact HK.out, rfl⟩
      | cons d t =>
        have hpos : 0 < (C k).length := by rw [hck]; simp
        have hrow := HP.out.2.2.1
        obtain ⟨b, off, c', he⟩ := orow_some hrow hpos
        injection he with he e2 e3
        subst he
        subst e3
        clear e2
        have HC := Aside0.mk (min_any wr b off cs (C k) hrow hpos HP.out.2.2.2.1)
        obtain ⟨q, hq⟩ : ∃ q, q = (C k).length := ⟨_, rfl⟩
        have hqp : (0 : Int) < (q : Int) := by omega
        rw [← hq] at ck HC
        have HK := Aside0.mk hq
        clear hck hpos hrow hq
        go_wp2_with fail
        refine HC.out.mono ?_
        rintro e w3 ⟨m, rfl, hmem, hleast, hb3⟩
        obtain ⟨mi, ma⟩ := m
        have hres := (Fr.of_below hb3 SNo).blk HP.out.2.2.2.2.1 (fun h => h)
        have r0 : w3.cell? ⟨w.heap.size, 0, none⟩ = some (.int .i64 0) := blk_cell hres 0
        have r1 : w3.cell? ⟨w.heap.size, 1, none⟩ = some (.int .i64 0) := blk_cell hres 1
        have rf0 := blk_frozen hres 0
        have rf1 := blk_frozen hres 1
        have s1 := blk_set hres 0 (.int .i64 mi)
        have s2 := blk_set s1 1 (.int .i64 ma)
        have e0 : ((w3.setCell ⟨w.heap.size, 0, none⟩ (.int .i64 mi)).setCell ⟨w.heap.size, 1, none⟩ (.int .i64 ma)).cell? ⟨w.heap.size, 0, none⟩ = some (.int .i64 mi) := blk_cell s2 0
        have e1 : ((w3.setCell ⟨w.heap.size, 0, none⟩ (.int .i64 mi)).setCell ⟨w.heap.size, 1, none⟩ (.int .i64 ma)).cell? ⟨w.heap.size, 1, none⟩ = some (.int .i64 ma) := blk_cell s2 1
        have hfirst := spoke_first HR.out.2.1 HP.out.2.2.2.2.2.2 HP.out.1 (m := ⟨mi, ma⟩) (by rw [← HP.out.2.1]; exact hmem) (by rw [← HP.out.2.1]; exact hleast)
        have hbw := set_two (HP.out.2.2.2.2.2.1.trans (hb3.mono HP.out.2.2.2.2.2.1.size)) (Nat.le_refl w.heap.size) (.int .i64 mi) (.int .i64 ma)
        have HE := Aside0.mk (And.intro e0 (And.intro e1 (And.intro hfirst hbw)))
        clear hres s1 s2 e0 e1 hfirst hbw hmem hleast hb3
        go_wp2_with fail
        refine bodyPost_ret (v := .tuple #[.agg #[.int .i64 mi, .int .i64 ma], .bool true]) (by simp [results, Try.results24, go_sem, HE.out.1, HE.out.2.1]) rfl ⟨by rw [nextV_head HE.out.2.2.1]; rfl, HE.out.2.2.2⟩
    · obtain rfl : n = 63 := by omega
      have hfar := far_first HR.out.2.1 hprev
      have ck := hraw.cellR 64 (by omega)
      have hrow := hraw.row 64 (by omega)
      rw [hfar] at hrow
      obtain ⟨As, cs, hvs, _, _⟩ := hrow.len
      rw [hvs] at ck hrow
      cases L with
      | nil =>
        have HE := Aside0.mk (And.intro hzero hb0)
        have r0 : wr.cell? ⟨w.heap.size, 0, none⟩ = some (.int .i64 0) := blk_cell hzero 0
        have r1 : wr.cell? ⟨w.heap.size, 1, none⟩ = some (.int .i64 0) := blk_cell hzero 1
        have rf0 := blk_frozen hzero 0
        have rf1 := blk_frozen hzero 1
        have s1 := blk_set hzero 0 (.int .i64 0)
        have s2 := blk_set s1 1 (.int .i64 0)
        have e0 : ((wr.setCell ⟨w.heap.size, 0, none⟩ (.int .i64 0)).setCell ⟨w.heap.size, 1, none⟩ (.int .i64 0)).cell? ⟨w.heap.size, 0, none⟩ = some (.int .i64 0) := blk_cell s2 0
        have e1 : ((wr.setCell ⟨w.heap.size, 0, none⟩ (.int .i64 0)).setCell ⟨w.heap.size, 1, none⟩ (.int .i64 0)).cell? ⟨w.heap.size, 1, none⟩ = some (.int .i64 0) := blk_cell s2 1
        have hbz := set_two hb0 (Nat.le_refl w.heap.size) (.int .i64 0) (.int .i64 0)
        have HZ := Aside0.mk (And.intro e0 (And.intro e1 hbz))
        clear hzero hb0 hfar hrow hprev hvs hraw s1 s2 e0 e1 hbz
        go_wp2_with fail
        refine bodyPost_ret (v := .tuple #[.agg #[.int .i64 0, .int .i64 0], .bool false]) (by simp [results, Try.results24, go_sem, HZ.out.1, HZ.out.2.1]) rfl ⟨rfl, HZ.out.2.2⟩
      | cons d t =>
        obtain ⟨b, off, c', he⟩ := orow_some hrow (by simp)
        injection he with he e2 e3
        subst he
        subst e3
        clear e2
        obtain ⟨c0, c1⟩ := hrow.cellsAt 0 (by simp)
        simp only [Nat.zero_mul, Nat.add_zero, List.getElem_cons_zero] at c0 c1
        obtain ⟨mi, ma⟩ := d
        have r0 : wr.cell? ⟨w.heap.size, 0, none⟩ = some (.int .i64 0) := blk_cell hzero 0
        have r1 : wr.cell? ⟨w.heap.size, 1, none⟩ = some (.int .i64 0) := blk_cell hzero 1
        have rf0 := blk_frozen hzero 0
        have rf1 := blk_frozen hzero 1
        have s1 := blk_set hzero 0 (.int .i64 mi)
        have s2 := blk_set s1 1 (.int .i64 ma)
        have e0 : ((wr.setCell ⟨w.heap.size, 0, none⟩ (.int .i64 mi)).setCell ⟨w.heap.size, 1, none⟩ (.int .i64 ma)).cell? ⟨w.heap.size, 0, none⟩ = some (.int .i64 mi) := blk_cell s2 0
        have e1 : ((wr.setCell ⟨w.heap.size, 0, none⟩ (.int .i64 mi)).setCell ⟨w.heap.size, 1, none⟩ (.int .i64 ma)).cell? ⟨w.heap.size, 1, none⟩ = some (.int .i64 ma) := blk_cell s2 1
        have hbz := set_two hb0 (Nat.le_refl w.heap.size) (.int .i64 mi) (.int .i64 ma)
        have HE := Aside0.mk (And.intro e0 (And.intro e1 hbz))
        obtain ⟨q, hq⟩ : ∃ q, q = ((⟨mi, ma⟩ : Du) :: t).length := ⟨_, rfl⟩
        have hqp : (0 : Int) < (q : Int) := by rw [hq, List.length_cons]; omega
        rw [← hq] at ck
        clear hzero hb0 hfar hrow hprev hvs hraw s1 s2 e0 e1 hbz hq
        go_wp2_with fail
        refine bodyPost_ret (v := .tuple #[.agg #[.int .i64 mi, .int .i64 ma], .bool true]) (by simp [results, Try.results24, go_sem, HE.out.1, HE.out.2.1]) rfl ⟨rfl, HE.out.2.2⟩
end
section
open Go.RowKit Go.Proofs.YtodgcfkdnellpaaW.PrintWords
/-- what the reference's loop has put out so far -/
def insR (d : Du) (L : List Du) : Nat → List Du × Bool
  | 0 => ([], false)
  | i + 1 => match L[i]? with
    | none => insR d L i
    | some a => if (insR d L i).2 = false ∧ before d a = true then ((insR d L i).1 ++ [d] ++ [a], true) else ((insR d L i).1 ++ [a], (insR d L i).2)
theorem insR_succ {d a : Du} {L : List Du} {i : Nat} (h : L[i]? = some a) : insR d L (i + 1) = if (insR d L i).2 = false ∧ before d a = true then ((insR d L i).1 ++ [d] ++ [a], true) else ((insR d L i).1 ++ [a], (insR d L i).2) := by
  show (match L[i]? with | none => _ | some a => _) = _
  rw [h]
theorem insR_len (d : Du) (L : List Du) : ∀ i, (insR d L i).1.length ≤ i + (if (insR d L i).2 = true then 1 else 0)
  | 0 => by simp [insR]
  | i + 1 => by
    have ih := insR_len d L i
    cases h : L[i]? with
    | none =>
      have : insR d L (i + 1) = insR d L i := by show (match L[i]? with | none => _ | some a => _) = _; rw [h]
      rw [this]; omega
    | some a =>
      rw [insR_succ h]
      by_cases hc : (insR d L i).2 = false ∧ before d a = true
      · rw [if_pos hc]
        rw [if_neg (by rw [hc.1]; decide)] at ih
        simp; omega
      · rw [if_neg hc]
        simp only [List.length_append, List.length_singleton]
        omega
/-- with its end -/
def insE (d : Du) (p : List Du × Bool) : List Du := if p.2 = true then p.1 else p.1 ++ [d]
theorem insR_go (d : Du) : ∀ (P Q : List Du), (∀ a ∈ P, before d a = false) → insR d (P ++ Q) P.length = (P, false)
  | P, Q, h => by
    have key : ∀ i, i ≤ P.length → insR d (P ++ Q) i = (P.take i, false) := by
      intro i
      induction i with
      | zero => intro _; rfl
      | succ i ih =>
        intro hi
        have hlt : i < P.length := by omega
        have hg : (P ++ Q)[i]? = some P[i] := by rw [List.getElem?_append_left hlt, List.getElem?_eq_getElem hlt]
        rw [insR_succ hg, ih (by omega), if_neg (by rw [h _ (List.getElem_mem hlt)]; simp), List.take_succ_eq_append_getElem hlt]
    rw [key _ (Nat.le_refl _), List.take_length]
theorem insR_after (d : Du) (L : List Du) (i : Nat) (h : (insR d L i).2 = true) : ∀ j, i + j ≤ L.length → insR d L (i + j) = ((insR d L i).1 ++ (L.drop i).take j, true)
  | 0, _ => by rw [Nat.add_zero, List.take_zero, List.append_nil, ← h]
  | j + 1, hj => by
    have ih := insR_after d L i h j (by omega)
    have hlt : i + j < L.length := by omega
    have hg : L[i + j]? = some L[i + j] := List.getElem?_eq_getElem hlt
    rw [← Nat.add_assoc, insR_succ hg, ih, if_neg (by simp)]
    have : (L.drop i).take (j + 1) = (L.drop i).take j ++ [L[i + j]] := by
      rw [List.take_succ_eq_append_getElem (by rw [List.length_drop]; omega), List.getElem_drop]
    rw [this, List.append_assoc]
theorem insE_all (d : Du) : ∀ L : List Du, insE d (insR d L L.length) = insDu d L := by
  intro L
  obtain ⟨P, Q, hL, hP, hQ⟩ : ∃ P Q, L = P ++ Q ∧ (∀ a ∈ P, before d a = false) ∧ (Q = [] ∨ ∃ b T, Q = b :: T ∧ before d b = true) := by
    induction L with
    | nil => exact ⟨[], [], rfl, by simp, .inl rfl⟩
    | cons a t ih =>
      cases hb : before d a with
      | true => exact ⟨[], a :: t, rfl, by simp, .inr ⟨a, t, rfl, hb⟩⟩
      | false =>
        obtain ⟨P, Q, rfl, hP, hQ⟩ := ih
        refine ⟨a :: P, Q, rfl, fun x hx => ?_, hQ⟩
        rcases List.mem_cons.1 hx with rfl | hx
        · exact hb
        · exact hP x hx
  subst hL
  have hins : ∀ P : List Du, (∀ a ∈ P, before d a = false) → insDu d (P ++ Q) = P ++ insDu d Q := by
    intro P
    induction P with
    | nil => intro _; rfl
    | cons a t ih =>
      intro h
      rw [List.cons_append, insDu_cons, if_neg (by rw [h a (List.mem_cons_self ..)]; decide), ih (fun x hx => h x (List.mem_cons_of_mem _ hx))]
      rfl
  rw [hins P hP]
  have h0 := insR_go d P Q hP
  rcases hQ with rfl | ⟨b, T, rfl, hb⟩
  · have h0' : insR d (P ++ []) (P ++ []).length = (P, false) := by rw [List.length_append]; exact h0
    rw [h0']
    simp [insE, insDu]
  · have hg : (P ++ b :: T)[P.length]? = some b := by simp
    have h1 := insR_succ (d := d) hg
    rw [h0, if_pos ⟨rfl, hb⟩] at h1
    have h2 := insR_after d (P ++ b :: T) (P.length + 1) (by rw [h1]) T.length (by simp; omega)
    have e : P.length + 1 + T.length = (P ++ b :: T).length := by simp; omega
    rw [e, h1] at h2
    rw [h2]
    have hd : (P ++ b :: T).drop (P.length + 1) = T := by rw [show P.length + 1 = (P ++ [b]).length from by simp, show P ++ b :: T = (P ++ [b]) ++ T from by simp, List.drop_left]
    rw [hd, List.take_length]
    simp [insE, insDu, hb]
def RSetA (w0 : World) (d : Du) (L : List Du) (v7 v8 v9 : Value) (wr : World) : Prop := ∃ i : Nat, v9 = .int .i64 i ∧ i ≤ L.length ∧ v8 = .bool (insR d L i).2 ∧ PRow wr v7 (insR d L i).1 ∧ (∀ b, v7.ownBlock = some b → w0.heap.size ≤ b) ∧ Below w0.heap.size w0 wr
theorem row_two {w0 w1 w2 : World} {v v1 : Value} {o : Obj} {l : List Du} (hr : PRow w2 v1 l) (h1 : ∀ b, v.ownBlock = some b → w0.heap.size ≤ b) (hb : Below w0.heap.size w0 w1) (hf : Fr (fun k => v.ownBlock = some k) (w1.alloc o) w2) (hl : v1.ownBlock = v.ownBlock ∨ ∃ b, v1.ownBlock = some b ∧ (w1.alloc o).heap.size ≤ b) : ∃ A c, v1 = .slice A l.length c ∧ PRow w2 (.slice A l.length c) l ∧ (∀ b, (Value.slice A l.length c).ownBlock = some b → w0.heap.size ≤ b) ∧ Below w0.heap.size w0 w2 := by
  obtain ⟨A, c, rfl, _, _⟩ := hr.len
  obtain ⟨h2, h3⟩ := row_step h1 hb hf hl
  exact ⟨A, c, rfl, hr, h2, h3⟩
theorem rturn {w w1 w2 : World} {G G1 G2 : Nat → Prop} (h1 : TurnW w w1 G G1) (h2 : TurnW w1 w2 G1 G2) : TurnW w w2 G G2 :=
  ⟨h1.fr.trans h2.fr (fun k hk => h1.new k hk), fun k hk => (h2.new k hk).elim (h1.new k) (fun h => .inr (Nat.le_trans h1.fr.size h))⟩
theorem cell_two {w1 w2 : World} {v : Value} {o : Obj} {nb i : Nat} {u : Value} (hf : Fr (fun k => v.ownBlock = some k) (w1.alloc o) w2) (hlt : nb < w1.heap.size) (hn : ¬ v.ownBlock = some nb) (hc : w1.cell? ⟨nb, i, none⟩ = some u) : w2.cell? ⟨nb, i, none⟩ = some u :=
  hf.cellAt (p := ⟨nb, i, none⟩) (Nat.lt_of_lt_of_le hlt ((Fr.refl SNo w1).alloc o).size) hn (((Fr.refl SNo w1).alloc o).cellAt (p := ⟨nb, i, none⟩) hlt (fun h => h) hc)
set_option maxHeartbeats 40000000 in
set_option maxRecDepth 100000 in
theorem rset_any (w : World) (G : Nat → Prop) (r : Nat) (now : Int) (L : List Du) (v : Value) (x a : Int) (h : IsR w G r now L v) (hl : L.length ≤ 4096) (hpos : ∀ d ∈ L, 0 < d.at_) : Calls Try.prog 21 #[.pointer (some ⟨r, 0, none⟩), .int .i64 x, .int .i64 a] w (RPost w G r now (setL now L x a) (.int .i64 (setRes now L x a))) := by
  obtain ⟨c0, c1, cf⟩ := h.cells
  clear cf
  obtain ⟨A, c, hv, _, _⟩ := h.row.len
  subst hv
  have HR := Aside0.mk h; clear h
  by_cases h1 : a ≤ now
  · have e1 : setRes now L x a = 21 := by unfold setRes; rw [if_pos h1]
    rw [show setL now L x a = L from by unfold setL; rw [e1]; rfl, e1]
    clear e1
    go_enter Try.func21, Try.ntmps21
    go_wp2_with fail
    go_ret
    exact ⟨rfl, G, _, HR.out, TurnW.refl _ _⟩
  by_cases h2 : 1099511627776 < a
  · have e1 : setRes now L x a = 1 := by unfold setRes; rw [if_neg h1, if_pos h2]
    rw [show setL now L x a = L from by unfold setL; rw [e1]; rfl, e1]
    clear e1
    go_enter Try.func21, Try.ntmps21
    go_wp2_with fail
    go_ret
    exact ⟨rfl, G, _, HR.out, TurnW.refl _ _⟩
  have hany : atOf L x = 0 ↔ L.any (fun d => d.id == x) = false := by
    constructor
    · intro e
      cases ha : L.any (fun d => d.id == x) with
      | false => rfl
      | true =>
        exfalso
        have key : ∀ L : List Du, (∀ d ∈ L, 0 < d.at_) → L.any (fun d => d.id == x) = true → atOf L x ≠ 0 := by
          intro L
          induction L with
          | nil => intro _ h; cases h
          | cons b t ih =>
            intro hp h
            rw [atOf_cons]
            by_cases hb : b.id = x
            · rw [if_pos hb]; have := hp b (List.mem_cons_self ..); omega
            · rw [if_neg hb]
              rw [List.any_cons, beq_false_of_ne hb, Bool.false_or] at h
              exact ih (fun d hd => hp d (List.mem_cons_of_mem _ hd)) h
        exact key L hpos ha e
    · exact atOf_none
  obtain ⟨q, hq⟩ : ∃ q, q = atOf L x := ⟨_, rfl⟩
  have hcon := rat_any w G r now L (.slice A L.length c) x HR.out hl
  rw [← hq] at hcon hany
  have HC := Aside0.mk hcon; clear hcon
  by_cases h3 : q = 0 ∧ 4096 ≤ L.length
  · obtain ⟨rfl, h4⟩ := h3
    have h5 : (4096 : Int) ≤ (L.length : Int) := by omega
    have e1 : setRes now L x a = 4 := by unfold setRes; rw [if_neg h1, if_neg h2, if_pos ⟨hany.1 rfl, by omega⟩]
    rw [show setL now L x a = L from by unfold setL; rw [e1]; rfl, e1]
    clear e1 hany hq
    go_enter Try.func21, Try.ntmps21
    go_wp2_with fail
    refine HC.out.mono ?_
    rintro e w' ⟨rfl, rfl⟩
    go_wp2_with fail
    go_ret
    exact ⟨rfl, G, _, HR.out, TurnW.refl _ _⟩
  have hres : setRes now L x a = 0 := by
    unfold setRes
    rw [if_neg h1, if_neg h2, if_neg (fun h => h3 ⟨hany.2 h.1, by omega⟩)]
  have hlist : setL now L x a = insE ⟨x, a⟩ (insR ⟨x, a⟩ (dropL L x) (dropL L x).length) := by
    unfold setL; rw [if_pos hres, insE_all]
  rw [hres, hlist]
  have hdl := dropL_len L x
  obtain ⟨M, hM⟩ : ∃ M, M = dropL L x := ⟨_, rfl⟩
  have HD := Aside0.mk (rdrop_any w G r now L (.slice A L.length c) x HR.out hl)
  rw [← hM] at HD hdl ⊢
  clear hM hres hlist hany hq
  have hcase : (q = 0 ∧ (L.length : Int) < 4096) ∨ ¬ q = 0 := by
    by_cases hq0 : q = 0
    · exact .inl ⟨hq0, by have : ¬ 4096 ≤ L.length := fun h => h3 ⟨hq0, h⟩; omega⟩
    · exact .inr hq0
  clear h3
  go_enter Try.func21, Try.ntmps21
  go_wp2_with fail
  refine HC.out.mono ?_
  rintro e w' ⟨rfl, rfl⟩
  rcases hcase with ⟨rfl, h4⟩ | h4
  all_goals
    go_wp2_with fail
    refine HD.out.mono ?_
    rintro e w1 ⟨rfl, G1, v1, hR1, ht1⟩
    obtain ⟨A1, k1, hv1, _, _⟩ := hR1.row.len
    subst hv1
    have H1 := Aside0.mk (And.intro hR1 ht1); clear hR1 ht1
    go_wp2_with fail
    go_loopw [7, 8, 9, 10] (fun v7 v8 v9 _ wr => RSetA w1 ⟨x, a⟩ M v7 v8 v9 wr) (fun _ _ v9 _ _ => M.length - (intOf v9).toNat)
    case atStart => exact ⟨0, rfl, Nat.zero_le _, rfl, PRow.nil _, (fun b hb => by cases hb), Below.refl _ _⟩
    case round =>
      obtain ⟨i, rfl, hi, hg8, hp, hown, hb⟩ := hrel
      subst hg8
      have hR := H1.out.1.below hb
      obtain ⟨b0, b1, cf⟩ := hR.cells
      have cf1 := cf 1
      clear cf b0
      obtain ⟨P, hP⟩ : ∃ P, P = (insR ⟨x, a⟩ M i).1 := ⟨_, rfl⟩
      obtain ⟨gb, hgb⟩ : ∃ gb, gb = (insR ⟨x, a⟩ M i).2 := ⟨_, rfl⟩
      have hplen : P.length ≤ i + 1 := by have h := insR_len ⟨x, a⟩ M i; rw [← hP] at h; split at h <;> omega
      rw [← hP] at hp
      rw [← hgb]
      obtain ⟨A7, c7, hv7, _, _⟩ := hp.len
      subst hv7
      have HP := Aside0.mk (And.intro hp (And.intro hown (And.intro hb hR)))
      clear hp hown hb hR
      by_cases hlt : i < M.length
      · have hz : (i : Int) < (M.length : Int) := by omega
        have hz2 : (i : Int) < 4096 := by omega
        obtain ⟨b, off, c', he⟩ := prow_some HP.out.2.2.2.row (by omega)
        injection he with he e2 e3
        subst he
        subst e3
        clear e2
        obtain ⟨d0, d1⟩ := HP.out.2.2.2.row.cellsAt i hlt
        have hss := insR_succ (d := ⟨x, a⟩) (List.getElem?_eq_getElem hlt)
        obtain ⟨y, hy⟩ : ∃ y, y = M[i] := ⟨_, rfl⟩
        rw [← hy, ← hP, ← hgb] at hss
        rw [← hy] at d0 d1
        obtain ⟨xi, xa⟩ := y
        have hbf : before ⟨x, a⟩ ⟨xi, xa⟩ = decide (a < xa ∨ (a = xa ∧ x < xi)) := rfl
        rw [hbf] at hss
        obtain ⟨E, hE⟩ : ∃ E, E = wr.alloc (.cells #[.int .i64 xi, .int .i64 xa] 55) := ⟨_, rfl⟩
        have hfa : Below wr.heap.size wr E := by rw [hE]; exact below_alloc (Below.refl _ _) _
        have hES : E.heap.size = wr.heap.size + 1 := by rw [hE]; exact Array.size_push _
        have hpa := HP.out.1.frame (Fr.of_below hfa SNo) (fun _ _ h => h)
        have hno : ¬ (Value.slice A7 P.length c7).ownBlock = some wr.heap.size := fun e => by have := HP.out.1.lt _ e; omega
        have hba := HP.out.2.2.1.trans (hfa.mono HP.out.2.2.1.size)
        have hs1 := src_new55 E ⟨x, a⟩
        have hs2 := src_new55 E ⟨xi, xa⟩
        rw [hES] at hs1 hs2
        have e0 : E.cell? ⟨wr.heap.size, 0, none⟩ = some (.int .i64 xi) := by rw [hE]; exact blk_cell (heap_alloc_new wr _) 0
        have e1 : E.cell? ⟨wr.heap.size, 1, none⟩ = some (.int .i64 xa) := by rw [hE]; exact blk_cell (heap_alloc_new wr _) 1
        have hpa1 := hpa.frame ((Fr.refl SNo E).alloc (.cells #[.int .i64 x, .int .i64 a] 55)) (fun _ _ h => h)
        have hpa2 := hpa.frame ((Fr.refl SNo E).alloc (.cells #[.int .i64 xi, .int .i64 xa] 55)) (fun _ _ h => h)
        have HS := Aside0.mk (And.intro hss (And.intro hlt hplen))
        have HB := Aside0.mk (And.intro hba (And.intro hno (And.intro e0 (And.intro e1 hES))))
        rw [hE] at hs1 hs2 hpa1 hpa2 HB
        have H1s := Aside0.mk (And.intro hs1 hpa1)
        have H2s := Aside0.mk (And.intro hs2 hpa2)
        clear hss hy hE hfa hES hpa hno hba hs1 hs2 e0 e1 hpa1 hpa2 hplen hbf hP hgb
        cases gb with
        | true =>
          go_wp2_with (first | (at_builtin; (refine wp_app55 rfl (.slice A7 P.length c7) (.slice (some ⟨wr.heap.size + 1, 0, none⟩) 1 1) P [⟨xi, xa⟩] 1 H2s.out.2 rfl H2s.out.1 (by have := HS.out.2.2; simp; omega) rfl rfl rfl ?_); intro v10 w10 ho10 hf10 hl10; have H10 := Aside0.mk (row_two ho10 HP.out.2.1 HB.out.1 hf10 hl10); clear ho10 hf10 hl10) | fail)
          obtain ⟨A10, c10, rfl, H10a⟩ := H10.out
          go_roundw
          case measure => have := HS.out.2.1; simp [intOf] <;> omega
          case rel => exact ⟨i + 1, by go_num, HS.out.2.1, by rw [HS.out.1]; rfl, by rw [HS.out.1]; exact H10a.1, H10a.2.1, H10a.2.2⟩
        | false =>
          by_cases hc : a < xa ∨ (a = xa ∧ x < xi)
          · have hi1 := HS.out.1
            rw [if_pos ⟨rfl, decide_eq_true hc⟩] at hi1
            have HI := Aside0.mk hi1; clear hi1
            rcases (show a < xa ∨ (a = xa ∧ x < xi) from hc) with h9 | ⟨h9, h10⟩
            · clear hc
              obtain ⟨P2, hP2⟩ : ∃ P2, P2 = P ++ [(⟨x, a⟩ : Du)] := ⟨_, rfl⟩
              have hl2 : P2.length = P.length + 1 := by rw [hP2]; simp
              have HP2 := Aside0.mk (And.intro hP2 hl2); clear hP2 hl2
              go_wp2_with (first
                | (at_builtin; (refine wp_app55 rfl (.slice A7 P.length c7) (.slice (some ⟨wr.heap.size + 1, 0, none⟩) 1 1) P [⟨x, a⟩] 1 H1s.out.2 rfl H1s.out.1 (by have := HS.out.2.2; simp; omega) rfl rfl rfl ?_); intro v10 w10 ho10 hf10 hl10; rw [← HP2.out.1] at ho10; have q0 := cell_two hf10 (by rw [HB.out.2.2.2.2]; omega) HB.out.2.1 HB.out.2.2.1; have q1 := cell_two hf10 (by rw [HB.out.2.2.2.2]; omega) HB.out.2.1 HB.out.2.2.2.1; have hr10 := row_two ho10 HP.out.2.1 HB.out.1 hf10 hl10; clear ho10 hf10 hl10; obtain ⟨A10, c10, rfl, h10a⟩ := hr10; have H10 := Aside0.mk h10a; clear h10a)
                | (at_builtin; (refine wp_app55 rfl (.slice A10 P2.length c10) (.slice (some ⟨w10.heap.size, 0, none⟩) 1 1) P2 [⟨xi, xa⟩] 1 (H10.out.1.frame ((Fr.refl SNo w10).alloc _) (fun _ _ h => h)) rfl (src_new55 w10 ⟨xi, xa⟩) (by have := HS.out.2.2; have := HP2.out.2; simp; omega) rfl rfl rfl ?_); intro v11 w11 ho11 hf11 hl11; have H11 := Aside0.mk (row_two ho11 H10.out.2.1 H10.out.2.2 hf11 hl11); clear ho11 hf11 hl11)
                | fail)
              obtain ⟨A11, c11, rfl, H11a⟩ := H11.out
              go_roundw
              case measure => have := HS.out.2.1; simp [intOf] <;> omega
              case rel => exact ⟨i + 1, by go_num, HS.out.2.1, by rw [HI.out], by rw [HI.out, ← HP2.out.1]; exact H11a.1, H11a.2.1, H11a.2.2⟩
            · clear hc
              subst h9
              obtain ⟨P2, hP2⟩ : ∃ P2, P2 = P ++ [(⟨x, a⟩ : Du)] := ⟨_, rfl⟩
              have hl2 : P2.length = P.length + 1 := by rw [hP2]; simp
              have HP2 := Aside0.mk (And.intro hP2 hl2); clear hP2 hl2
              go_wp2_with (first
                | (at_builtin; (refine wp_app55 rfl (.slice A7 P.length c7) (.slice (some ⟨wr.heap.size + 1, 0, none⟩) 1 1) P [⟨x, a⟩] 1 H1s.out.2 rfl H1s.out.1 (by have := HS.out.2.2; simp; omega) rfl rfl rfl ?_); intro v10 w10 ho10 hf10 hl10; rw [← HP2.out.1] at ho10; have q0 := cell_two hf10 (by rw [HB.out.2.2.2.2]; omega) HB.out.2.1 HB.out.2.2.1; have q1 := cell_two hf10 (by rw [HB.out.2.2.2.2]; omega) HB.out.2.1 HB.out.2.2.2.1; have hr10 := row_two ho10 HP.out.2.1 HB.out.1 hf10 hl10; clear ho10 hf10 hl10; obtain ⟨A10, c10, rfl, h10a⟩ := hr10; have H10 := Aside0.mk h10a; clear h10a)
                | (at_builtin; (refine wp_app55 rfl (.slice A10 P2.length c10) (.slice (some ⟨w10.heap.size, 0, none⟩) 1 1) P2 [⟨xi, a⟩] 1 (H10.out.1.frame ((Fr.refl SNo w10).alloc _) (fun _ _ h => h)) rfl (src_new55 w10 ⟨xi, a⟩) (by have := HS.out.2.2; have := HP2.out.2; simp; omega) rfl rfl rfl ?_); intro v11 w11 ho11 hf11 hl11; have H11 := Aside0.mk (row_two ho11 H10.out.2.1 H10.out.2.2 hf11 hl11); clear ho11 hf11 hl11)
                | fail)
              obtain ⟨A11, c11, rfl, H11a⟩ := H11.out
              go_roundw
              case measure => have := HS.out.2.1; simp [intOf] <;> omega
              case rel => exact ⟨i + 1, by go_num, HS.out.2.1, by rw [HI.out], by rw [HI.out, ← HP2.out.1]; exact H11a.1, H11a.2.1, H11a.2.2⟩
          · have hi1 := HS.out.1
            rw [if_neg (by rw [decide_eq_false hc]; simp)] at hi1
            have HI := Aside0.mk hi1; clear hi1
            rcases (show xa < a ∨ (a = xa ∧ xi ≤ x) by omega) with h9 | ⟨h9, h10⟩
            · clear hc
              have h11 : (xa == a) = false := beq_false_of_ne (by omega)
              go_wp2_with (first | (at_builtin; (refine wp_app55 rfl (.slice A7 P.length c7) (.slice (some ⟨wr.heap.size + 1, 0, none⟩) 1 1) P [⟨xi, xa⟩] 1 H2s.out.2 rfl H2s.out.1 (by have := HS.out.2.2; simp; omega) rfl rfl rfl ?_); intro v10 w10 ho10 hf10 hl10; have H10 := Aside0.mk (row_two ho10 HP.out.2.1 HB.out.1 hf10 hl10); clear ho10 hf10 hl10) | fail)
              obtain ⟨A10, c10, rfl, H10a⟩ := H10.out
              go_roundw
              case measure => have := HS.out.2.1; simp [intOf] <;> omega
              case rel => exact ⟨i + 1, by go_num, HS.out.2.1, by rw [HI.out], by rw [HI.out]; exact H10a.1, H10a.2.1, H10a.2.2⟩
            · clear hc
              subst h9
              go_wp2_with (first | (at_builtin; (refine wp_app55 rfl (.slice A7 P.length c7) (.slice (some ⟨wr.heap.size + 1, 0, none⟩) 1 1) P [⟨xi, a⟩] 1 H2s.out.2 rfl H2s.out.1 (by have := HS.out.2.2; simp; omega) rfl rfl rfl ?_); intro v10 w10 ho10 hf10 hl10; have H10 := Aside0.mk (row_two ho10 HP.out.2.1 HB.out.1 hf10 hl10); clear ho10 hf10 hl10) | fail)
              obtain ⟨A10, c10, rfl, H10a⟩ := H10.out
              go_roundw
              case measure => have := HS.out.2.1; simp [intOf] <;> omega
              case rel => exact ⟨i + 1, by go_num, HS.out.2.1, by rw [HI.out], by rw [HI.out]; exact H10a.1, H10a.2.1, H10a.2.2⟩
      · obtain rfl : i = M.length := by omega
        have hpa1 := HP.out.1.frame ((Fr.refl SNo wr).alloc (.cells #[.int .i64 x, .int .i64 a] 55)) (fun _ _ h => h)
        have HI := Aside0.mk (show insE ⟨x, a⟩ (insR ⟨x, a⟩ M M.length) = if gb = true then P else P ++ [⟨x, a⟩] by unfold insE; rw [← hP, ← hgb])
        have HS := Aside0.mk (And.intro hplen hpa1)
        clear hP hgb hplen hpa1
        cases gb with
        | true =>
          have hi1 := HI.out
          rw [if_pos rfl] at hi1
          have HI2 := Aside0.mk hi1
          have HE := Aside0.mk (H1.out.1.store HP.out.2.2.1 HP.out.1 HP.out.2.1)
          clear hi1
          go_wp2_with fail
          go_ret
          obtain ⟨G', v', hq, ht⟩ := HE.out
          exact ⟨rfl, G', v', by rw [HI2.out]; exact hq, rturn H1.out.2 ht⟩
        | false =>
          have hi1 := HI.out
          rw [if_neg (by decide)] at hi1
          obtain ⟨P2, hP2⟩ : ∃ P2, P2 = P ++ [(⟨x, a⟩ : Du)] := ⟨_, rfl⟩
          rw [← hP2] at hi1
          have HI2 := Aside0.mk (And.intro hi1 hP2); clear hi1 hP2
          go_wp2_with (first | (at_builtin; (refine wp_app55 rfl (.slice A7 P.length c7) (.slice (some ⟨wr.heap.size, 0, none⟩) 1 1) P [⟨x, a⟩] 1 HS.out.2 rfl (src_new55 wr ⟨x, a⟩) (by have := HS.out.1; simp; omega) rfl rfl rfl ?_); intro v10 w10 ho10 hf10 hl10; rw [← HI2.out.2] at ho10; have hr10 := row_two ho10 HP.out.2.1 HP.out.2.2.1 hf10 hl10; clear ho10 hf10 hl10; obtain ⟨A10, c10, rfl, h10a⟩ := hr10; have HE := Aside0.mk (H1.out.1.store h10a.2.2 h10a.1 h10a.2.1); have H10 := H1.out.1.below h10a.2.2; have cf10 := (H10.cells).2.2 1; have cc10 := (H10.cells).2.1; clear h10a H10) | fail)
          go_ret
          obtain ⟨G', v', hq, ht⟩ := HE.out
          exact ⟨rfl, G', v', by rw [HI2.out.1]; exact hq, rturn H1.out.2 ht⟩
end
end Go.Proofs.Ytodgcfkdnellpaa
