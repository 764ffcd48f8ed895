/- Gossip: what Pick's closure does: the news told are appended to the captured list. -/
import Derived.Test.YtafkglhdpcmdbaaG8
import Derived.Test.YtafkglhdpcmdbaaPlan2
import Derived.Test.YtafkglhdpcmdbaaT0
set_option linter.unusedSimpArgs false
set_option linter.unusedVariables false
namespace Go.Proofs.Ytafkglhdpcmdbaa
open Go.RowKit Go.Proofs.YtafkglhdpcmdbaaW.PrintWords
open T (S39 k39 k39_mkM)
theorem info39 : (Try.prog.info? 39).map (fun i => (i.zero, i.size, i.bytes)) = some (some (.agg #[(.int .i64 0), (.slice none 0 0)]), 2, 32) := by kernel_rfl
/-- what may be the told news' own -/
def TOk (base lb : Nat) (k : Nat) : Prop := base ≤ k ∧ k ≠ lb
structure Told (w W : World) (base lb : Nat) (vl v1 : Value) (cl : Value) (news : List S39) : Prop where
  blk : W.heap[lb]? = some (.cells #[cl] 36 (0, 0))
  row : k39.R 39 W base (TOk base lb) v1 news
  fr : Fr (fun k => vl.ownBlock = some k) w W
theorem Told.shape {w W : World} {base lb : Nat} {vl v1 cl : Value} {news : List S39} (h : Told w W base lb vl v1 cl news) : ∃ A c, v1 = .slice A news.length c := by
  obtain ⟨inner, ho⟩ := Kd.R_own h.row
  exact own_slice ho
theorem tell_blk {W w1 : World} {lb : Nat} {vl : Value} (hl : W.heap[lb]? = some (.cells #[vl] 36 (0, 0))) (hb : Below W.drew.heap.size W.drew w1) : w1.heap[lb]? = some (.cells #[vl] 36 (0, 0)) := (Fr.of_below hb SNo).blk (w := W.drew) hl (fun h => h)
theorem tell_step {Q : Exit → Act → World → Prop} {K : Act → World → Prop} {W w1 : World} {base lb : Nat} {vl : Value} {news : List S39} {key : Int} {data : List Int} {A5 : Option Addr} {c5 : Nat} {o : Oper} {a : Act}
    (hr : k39.R 39 W base (TOk base lb) vl news) (hl : W.heap[lb]? = some (.cells #[vl] 36 (0, 0))) (hb0 : base ≤ lb) (hb : Below W.drew.heap.size W.drew w1) (hv : w1.ownsRow W.drew.heap.size 5 1 (.slice A5 data.length c5) data.length (nums .u8 data)) (hn : news.length ≤ 4096)
    (hgd : o.guard = none) (ho : o.op = .call { callee := .builtin .append, args := #[.tmp 5, .tmp 10], argTypes := #[36, 36] }) (hs : a.eval (.tmp 5) = vl) (hx : a.eval (.tmp 10) = .slice (some ⟨w1.heap.size, 0, none⟩) 1 1) (hd : o.dst = some 11)
    (h : ∀ v1 w2, Told W w2 base lb vl v1 vl (news ++ [⟨key, data⟩]) → K (a.put (some 11) v1) w2) :
    Oper.wp Try.prog o a (w1.alloc (.cells #[.int .i64 key, .slice A5 data.length c5] 39)) K Q := by
  have hlt : lb < W.heap.size := blk_lt hl
  have hr1 : k39.R 39 w1 base (TOk base lb) vl news := Kd.R_step (w := W) hr (fun k _ hk => hb.block k hk)
  have hown : ∀ k, vl.ownBlock = some k → k < W.heap.size := Kd.R_lt hr
  have hsz : W.heap.size ≤ w1.heap.size := hb.size
  have hbase : base ≤ w1.heap.size := by omega
  have h5 : (Kd.int .u8).R 5 w1 base (fun k => W.heap.size ≤ k) (.slice A5 data.length c5) data := Kd.R_of_own (own_less hv (show base ≤ W.heap.size by omega)) (fun k hk => own_base hv k hk)
  have hl1 := tell_blk hl hb
  have hw : Region.wanted o (yielded #[] a.tmps) = true := by unfold Region.wanted; rw [hgd]
  have st := Kd.R_append_step (ops := #[]) (o := o) (a := a) (Q := Q) (Kc := K) (P := Try.prog) k39 (w0 := w1) (W := w1) base hw (.tmp 5) (.tmp 10) 36 39 (.agg #[(.int .i64 0), (.slice none 0 0)]) 32 ho Try.underlying36 info39 rfl (by decide) (by decide) vl news ⟨key, data⟩ [.int .i64 key, .slice A5 data.length c5] (TOk base lb) (fun k => W.heap.size ≤ k) hs hx
    (k39_mkM w1 base _ ⟨key, data⟩ h5) (fun k hk => ⟨⟨by omega, by omega⟩, fun he => by have := hown k he.symm; omega⟩) (fun k hk => ⟨by omega, by omega⟩) hr1 (Below.refl _ _) hbase (by omega)
    (fun v1 w2 hR _ hg hat => by
      rw [hd]
      refine h v1 w2 ⟨?_, hR, ?_⟩
      · exact blk_grown hl1 hg (fun he => (hr1.1 lb he.symm).2 rfl)
      · exact (Fr.of_below (show Below W.heap.size W w1 from ⟨hb.os, hb.tape, hb.output, hb.size, hb.block⟩) _).trans (Fr.of_grown hg) (fun k hk => .inl hk))
  rw [if_pos hw] at st
  exact st
def TellPost (w : World) (base lb : Nat) (vl : Value) (news : List S39) (e : Ending) (w' : World) : Prop := e = .returned (.tuple #[]) ∧ ∃ v1, w'.heap[lb]? = some (.cells #[v1] 36 (0, 0)) ∧ k39.R 39 w' base (TOk base lb) v1 news ∧ Fr (fun k => k = lb ∨ vl.ownBlock = some k) w w'
set_option maxHeartbeats 2000000 in
set_option maxRecDepth 100000 in
theorem tell_any (base lb : Nat) (vl : Value) (news : List S39) (key : Int) (A : Option Addr) (c : Nat) (data : List Int) (W : World) (hl' : W.heap[lb]? = some (.cells #[vl] 36 (0, 0))) (hb0 : base ≤ lb) (hr : k39.R 39 W base (TOk base lb) vl news)
    (hd : ReadsInt W .u8 A data.length data) (h0 : 0 < data.length) (hl : data.length ≤ 140737488351232) (hn : news.length ≤ 4096) :
    Calls Try.prog 28 #[.int .i64 key, .slice A data.length c, .pointer (some ⟨lb, 0, none⟩)] W (TellPost W base lb vl (news ++ [⟨key, data⟩])) := by
  have HL := Aside0.mk hl'
  have HR := Aside0.mk hr
  have HD := Aside0.mk hd
  have hK0 : W.drew.cell? ⟨lb, 0, none⟩ = some vl := blk_cell (w := W.drew) hl' 0
  clear hl' hr hd
  go_enter Try.func28, Try.ntmps28
  refine Plan2.region 6 (fun w' => w'.cell? ⟨lb, 0, none⟩ = some vl) [(0, 1), (1, 0), (2, 0), (3, 2), (4, 0), (5, 2), (6, 2), (7, 2)] (by kernel_rfl) (by kernel_rfl) (fun _ _ d _ _ h => by cases d <;> exact h) ?_ ?_
  focus (first | exact hK0 | exact hK1 | exact hK2 | exact hK3)
  (refine' Plan2.load (N := (some 5)) rfl (by rfl) rfl ?_ ?_ ?_; rotate_left 2; (focus (intro w' hS; (try dsimp only at hS); go_simp; exact Plan2.isV)); (focus (simp only [Act.put, List.setIfInBounds_toArray, List.set_cons_zero, List.set_cons_succ]; rfl)))
  (refine' Plan2.pure (N := (some 6)) rfl (by rfl) rfl ?_ ?_ ?_; rotate_left 2; (focus (intro w'; go_simp; exact Plan2.isV)); (focus (simp only [Act.put, List.setIfInBounds_toArray, List.set_cons_zero, List.set_cons_succ]; rfl)))
  (refine' Plan2.pure (N := (some 7)) rfl (by rfl) rfl ?_ ?_ ?_; rotate_left 2; (focus (intro w'; go_simp; exact Plan2.isV)); (focus (simp only [Act.put, List.setIfInBounds_toArray, List.set_cons_zero, List.set_cons_succ]; rfl)))
  (refine' Plan2.acts (past' := false) rfl (by rfl) rfl (fun K hK => ?_); go_simp; (refine (clone_any _ A c data (HD.out.below (below_drew1 (Below.refl _ _))) h0 hl).mono ?_); rintro e w1 ⟨v5, rfl, hv5, hb5⟩; obtain ⟨A5, c5, rfl⟩ := own_slice hv5; have HV := Aside0.mk (And.intro hv5 hb5); clear hv5 hb5; have hK1 : w1.cell? ⟨lb, 0, none⟩ = some vl := (blk_cell (tell_blk HL.out HV.out.2) 0); (refine hK.out _ _ (fun hp => ?_) (fun hS => ?_)); (focus (clear hp; (first | exact hK0 | exact hK1 | exact hK2 | exact hK3))))
  (refine' Plan2.pure (N := (some 9)) rfl (by rfl) rfl ?_ ?_ ?_; rotate_left 2; (focus (intro w'; go_simp; exact Plan2.isV)); (focus (simp only [Act.put, List.setIfInBounds_toArray, List.set_cons_zero, List.set_cons_succ]; rfl)))
  (refine' Plan2.acts (past' := false) rfl (by rfl) rfl (fun K hK => ?_); go_simp; have hK2 : (w1.alloc (.cells #[.int .i64 key, .slice A5 data.length c5] 39)).cell? ⟨lb, 0, none⟩ = some vl := (blk_cell (blk_alloc (tell_blk HL.out HV.out.2) _) 0); (refine hK.out _ _ (fun hp => ?_) (fun hS => ?_)); (focus (clear hp; (first | exact hK0 | exact hK1 | exact hK2 | exact hK3))))
  (refine' Plan2.acts (past' := true) rfl (by rfl) rfl (fun K hK => ?_); (refine tell_step HR.out HL.out hb0 HV.out.2 HV.out.1 hn rfl rfl rfl rfl rfl ?_); intro v1 w2 hT; obtain ⟨A1, c1, rfl⟩ := hT.shape; have hcell := blk_cell hT.blk 0; have hfz := blk_frozen hT.blk 0; have HT := Aside0.mk hT; clear hT; have hK3 := hcell; (refine hK.out _ _ (fun hp => ?_) (fun hS => ?_)); (focus (cases hp)))
  (refine' Plan2.acts (past' := true) rfl (by rfl) rfl (fun K hK => ?_); go_simp; (refine hK.out _ _ (fun hp => ?_) (fun hS => ?_)); (focus (cases hp)))
  refine Plan2.done ?_
  go_end0
  have ht := HT.out
  refine ⟨rfl, _, by simpa using blk_set ht.blk 0 (.slice A1 (news ++ [(⟨key, data⟩ : S39)]).length c1), Kd.R_far (p := ⟨lb, 0, none⟩) ht.row (fun k hk => hk.2) _, (ht.fr.mono (fun k _ h => .inr h)).setCell (.inl (.inl rfl)) _⟩
end Go.Proofs.Ytafkglhdpcmdbaa
