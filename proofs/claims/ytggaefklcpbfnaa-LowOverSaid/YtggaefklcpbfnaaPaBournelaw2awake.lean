/- Go functions of the given program as plain Lean functions, each with a proof that the machine's call answers so; no statement of the seed is proved here. -/
import Derived.Test.YtggaefklcpbfnaaPa0
import Derived.Test.YtggaefklcpbfnaaLowC
namespace Go.Proofs.Ytggaefklcpbfnaa.Pa
open Go.RowKit Go.Proofs.YtggaefklcpbfnaaW.PrintWords Go.Proofs.YtggaefklcpbfnaaW.PrintLast Go.Proofs.YtggaefklcpbfnaaW.PrintMore
attribute [local go_sem] max2_int min2_int max_two min_two max_three min_three max_four min_four   -- for this text's walks alone
set_option linter.unusedVariables false
set_option linter.unusedSimpArgs false

/-! ### bournelaw2_awake: function 23 -/
def bournelaw2_awake.f  : Option (Bool) := some true
theorem bournelaw2_awake.calls  (r : Bool) (w : World) (h : bournelaw2_awake.f  = some r) :
    Calls Try.prog 23 #[] w fun e w' => e = .returned (.bool r) ∧ Below w.heap.size w w' := by
  unfold bournelaw2_awake.f at h
  obtain rfl := Option.some.inj h
  exact My.awake2_any w
end Go.Proofs.Ytggaefklcpbfnaa.Pa
