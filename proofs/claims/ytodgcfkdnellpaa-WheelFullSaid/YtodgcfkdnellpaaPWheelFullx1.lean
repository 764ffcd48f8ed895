/- Written by a program of this session, over the kit's print: functions of the translation as Lean functions, and that their calls come to them. -/
import Derived.Test.YtodgcfkdnellpaaPWheelFullx0
namespace Go.Proofs.Ytodgcfkdnellpaa.PWheelFull
open Go.RowKit Go.Proofs.YtodgcfkdnellpaaW.PrintWords Go.Proofs.YtodgcfkdnellpaaW.PrintLast Go.Proofs.YtodgcfkdnellpaaW.PrintMore
attribute [local go_sem] max2_int min2_int max_two min_two max_three min_three max_four min_four   -- for this text's walks alone
set_option linter.unusedVariables false
set_option linter.unusedSimpArgs false

/-! ### steelyardlaw18_WheelFull: function 6 -/
def steelyardlaw18_WheelFull.f (a0 : Int) (a1 : Int) : Option (Bool) := some true
theorem steelyardlaw18_WheelFull.calls (a0 : Int) (a1 : Int) (r : Bool) (w : World) (h : steelyardlaw18_WheelFull.f a0 a1 = some r) :
    Calls Try.prog 6 #[.int .i64 a0, .int .i64 a1] w fun e w' => e = .returned (.bool r) ∧ Below w.heap.size w w' := by
  obtain rfl := Option.some.inj h
  exact full_law a0 a1 w
def steelyardlaw18_WheelFull.Pure : Prop := ∀ (a0 : Int) (a1 : Int), (Lit.int .i64 a0).wf = true → (Lit.int .i64 a1).wf = true → steelyardlaw18_WheelFull.f a0 a1 = some true
theorem steelyardlaw18_WheelFull.walk (P : steelyardlaw18_WheelFull.Pure) (a0 : Int) (a1 : Int) (w : World) (w0 : (Lit.int .i64 a0).wf = true) (w1 : (Lit.int .i64 a1).wf = true) :
    Calls Try.prog 6 #[.int .i64 a0, .int .i64 a1] w fun e w' => e = .returned (.bool true) ∧ Below w.heap.size w w' := by
  have h := P a0 a1 w0 w1
  refine (steelyardlaw18_WheelFull.calls a0 a1 true w h).mono ?_
  rintro e w' ⟨rfl, hd⟩
  exact ⟨rfl, hd⟩

end Go.Proofs.Ytodgcfkdnellpaa.PWheelFull
