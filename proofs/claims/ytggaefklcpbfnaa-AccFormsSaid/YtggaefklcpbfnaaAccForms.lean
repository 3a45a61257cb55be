/- AccForms returns true: items, bounds, aggregates that are none. No conditions. -/
import Derived.Test.YtggaefklcpbfnaaAccFormsG0
import Derived.Test.YtggaefklcpbfnaaAccFormsG1
import Derived.Test.YtggaefklcpbfnaaAccFormsG2
import Derived.Test.YtggaefklcpbfnaaAccFormsG3
import Derived.Test.YtggaefklcpbfnaaAccFormsG4
import Derived.Test.YtggaefklcpbfnaaAccFormsG5
namespace Go.Proofs.Ytggaefklcpbfnaa
open Go.RowKit PAccs Go.Proofs.YtggaefklcpbfnaaW.PrintWords

theorem forms_any (t u : Int) (w : World) : Calls Try.prog 11 #[.int .i64 t, .int .i64 u] w fun e w' => e = .returned (.bool true) ∧ Below w.heap.size w w' := by
  have h1 : 0 ≤ IntKind.u64.wrap t := u64_nonneg t
  have h2 := Int.tmod_lt_of_pos (IntKind.u64.wrap t) (show (0 : Int) < 18 by decide)
  have h3 := Int.tmod_nonneg 18 h1
  by_cases c1 : (IntKind.u64.wrap t).tmod 18 < 3
  · exact forms_G0 t u w ⟨h3, c1⟩
  by_cases c2 : (IntKind.u64.wrap t).tmod 18 < 6
  · exact forms_G1 t u w ⟨Int.not_lt.1 c1, c2⟩
  by_cases c3 : (IntKind.u64.wrap t).tmod 18 < 9
  · exact forms_G2 t u w ⟨Int.not_lt.1 c2, c3⟩
  by_cases c4 : (IntKind.u64.wrap t).tmod 18 < 12
  · exact forms_G3 t u w ⟨Int.not_lt.1 c3, c4⟩
  by_cases c5 : (IntKind.u64.wrap t).tmod 18 < 15
  · exact forms_G4 t u w ⟨Int.not_lt.1 c4, c5⟩
  exact forms_G5 t u w ⟨Int.not_lt.1 c5, h2⟩
theorem forms_walk (a0 a1 : Int) (w : World) (_ : (Lit.int .i64 a0).wf = true) (_ : (Lit.int .i64 a1).wf = true) :
    Calls Try.prog 11 #[.int .i64 a0, .int .i64 a1] w fun e w' => e = .returned (.bool true) ∧ Below w.heap.size w w' := forms_any a0 a1 w
end Go.Proofs.Ytggaefklcpbfnaa
