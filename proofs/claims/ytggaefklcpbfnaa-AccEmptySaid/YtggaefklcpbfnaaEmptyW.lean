/- AccEmpty returns true: the empty one turns nothing, wherever it stands. No conditions. -/
import Derived.Test.YtggaefklcpbfnaaEmptyW1
import Derived.Test.YtggaefklcpbfnaaEmptyW2
import Derived.Test.YtggaefklcpbfnaaEmptyW3
import Derived.Test.YtggaefklcpbfnaaOpen
namespace Go.Proofs.Ytggaefklcpbfnaa.My
open Go.RowKit Pa Go.Proofs.YtggaefklcpbfnaaW.PrintWords Go.Proofs.YtggaefklcpbfnaaW.PrintMore

theorem empty_any (x : S26) (A : Option Addr) (bs : List Int) (c : Nat) (at_ : Int) (w : World) (hA : RdI w A bs) (hc : bs.length ≤ c) (hl : bs.length ≤ 140737488351232) :
    Calls Try.prog 12 #[.agg #[.int .i64 x.f0, .int .i64 x.f1, .int .i64 x.f2, .int .i64 x.f3], .slice A bs.length c, .int .i64 at_] w fun e w' => e = .returned (.bool true) ∧ Below w.heap.size w w' := by
  have hab := and_bound at_ 3 (by decide)
  have e : bits .and .i64 at_ ((3 : Nat) : Int) = bits .and .i64 at_ 3 := rfl
  rw [e] at hab
  have hc4 : bits .and .i64 at_ 3 = 0 ∨ bits .and .i64 at_ 3 = 1 ∨ bits .and .i64 at_ 3 = 2 ∨ bits .and .i64 at_ 3 = 3 := by omega
  rcases hc4 with h | h | h | h
  · exact empty_0 x A bs c at_ w hA hc hl h
  · exact empty_1 x A bs c at_ w hA hc hl h
  · exact empty_2 x A bs c at_ w hA hc hl h
  · exact empty_3 x A bs c at_ w hA hc hl h
theorem empty_walk (x : S26) (A : Option Addr) (bs : List Int) (c : Nat) (at_ : Int) (w : World) (hA : RdI w A bs) (hc : bs.length ≤ c) (hl : bs.length * 8 ≤ 140737488351232) (_ : (Lit.int .i64 at_).wf = true) :
    Calls Try.prog 12 #[.agg #[.int .i64 x.f0, .int .i64 x.f1, .int .i64 x.f2, .int .i64 x.f3], .slice A bs.length c, .int .i64 at_] w fun e w' => e = .returned (.bool true) ∧ Below w.heap.size w w' := empty_any x A bs c at_ w hA hc (by omega)
end Go.Proofs.Ytggaefklcpbfnaa.My
