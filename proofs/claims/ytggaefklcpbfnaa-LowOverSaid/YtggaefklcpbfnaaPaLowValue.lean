/- Go functions of the given program as plain Lean functions, each with a proof that the machine's call answers so; no statement of the seed is proved here. -/
import Derived.Test.YtggaefklcpbfnaaPa0
import Derived.Test.YtggaefklcpbfnaaLowB
namespace Go.Proofs.Ytggaefklcpbfnaa.Pa
open Go.RowKit Go.Proofs.YtggaefklcpbfnaaW.PrintWords Go.Proofs.YtggaefklcpbfnaaW.PrintLast Go.Proofs.YtggaefklcpbfnaaW.PrintMore
attribute [local go_sem] max2_int min2_int max_two min_two max_three min_three max_four min_four   -- for this text's walks alone
set_option linter.unusedVariables false
set_option linter.unusedSimpArgs false

/-! ### low_Value: function 17 -/
def low_Value.f (a0_0 : Int) (a0_1 : Int) (a0_2 : Int) (a0_3 : Int) (l0_4 : List Int) (a0_5 : Int) (a1_0 : Int) (a1_1 : Int) (a1_2 : Int) (a1_3 : Int) (a1_4 : Int) (a1_5 : Int) (a1_6 : Int) (a1_7 : Int) (a1_8 : Int) (a1_9 : Int) (a1_10 : Int) (a1_11 : Int) (l1_12 : List Int) : Option (Int × Bool × List Int × Int) := some ((My.valRes ⟨a0_0, a0_1, a0_2, a0_3, a0_5⟩ l0_4 ⟨a1_0, a1_1, a1_2, a1_3, ⟨a1_4, a1_5, a1_6, a1_7⟩, ⟨a1_8, a1_9, a1_10, a1_11⟩, l1_12⟩).1.1, (My.valRes ⟨a0_0, a0_1, a0_2, a0_3, a0_5⟩ l0_4 ⟨a1_0, a1_1, a1_2, a1_3, ⟨a1_4, a1_5, a1_6, a1_7⟩, ⟨a1_8, a1_9, a1_10, a1_11⟩, l1_12⟩).1.2.1, (My.valRes ⟨a0_0, a0_1, a0_2, a0_3, a0_5⟩ l0_4 ⟨a1_0, a1_1, a1_2, a1_3, ⟨a1_4, a1_5, a1_6, a1_7⟩, ⟨a1_8, a1_9, a1_10, a1_11⟩, l1_12⟩).1.2.2, (My.valRes ⟨a0_0, a0_1, a0_2, a0_3, a0_5⟩ l0_4 ⟨a1_0, a1_1, a1_2, a1_3, ⟨a1_4, a1_5, a1_6, a1_7⟩, ⟨a1_8, a1_9, a1_10, a1_11⟩, l1_12⟩).2)
theorem low_Value.calls (a0_0 : Int) (a0_1 : Int) (a0_2 : Int) (a0_3 : Int) (A0_4 : Option Addr) (c0_4 : Nat) (l0_4 : List Int) (a0_5 : Int) (a1_0 : Int) (a1_1 : Int) (a1_2 : Int) (a1_3 : Int) (a1_4 : Int) (a1_5 : Int) (a1_6 : Int) (a1_7 : Int) (a1_8 : Int) (a1_9 : Int) (a1_10 : Int) (a1_11 : Int) (A1_12 : Option Addr) (c1_12 : Nat) (l1_12 : List Int) (r1 : Int) (r2 : Bool) (r3 : List Int) (r4 : Int) (w : World) (hr0_4 : Kd.C (Kd.int .i64) w A0_4 l0_4.length l0_4) (hc0_4 : l0_4.length ≤ c0_4) (hr1_12 : Kd.C (Kd.int .i64) w A1_12 l1_12.length l1_12) (hc1_12 : l1_12.length ≤ c1_12) (h : low_Value.f a0_0 a0_1 a0_2 a0_3 l0_4 a0_5 a1_0 a1_1 a1_2 a1_3 a1_4 a1_5 a1_6 a1_7 a1_8 a1_9 a1_10 a1_11 l1_12 = some (r1, r2, r3, r4)) :
    Calls Try.prog 17 #[.agg #[.int .i64 a0_0, .int .i64 a0_1, .int .i64 a0_2, .int .i64 a0_3, .slice A0_4 l0_4.length c0_4, .int .i64 a0_5], .agg #[.int .i64 a1_0, .int .i64 a1_1, .int .i64 a1_2, .int .i64 a1_3, .int .i64 a1_4, .int .i64 a1_5, .int .i64 a1_6, .int .i64 a1_7, .int .i64 a1_8, .int .i64 a1_9, .int .i64 a1_10, .int .i64 a1_11, .slice A1_12 l1_12.length c1_12]] w fun e w' => ∃ v2_ : Value, e = .returned (.tuple #[.agg #[.int .i64 r1, .bool r2, v2_], .int .i64 r4]) ∧ Kd.R (Kd.int .i64) 3 w' w.heap.size (fun _ => True) v2_ r3 ∧ Below w.heap.size w w' := by
  unfold low_Value.f at h
  simp only [Option.some.injEq, Prod.mk.injEq] at h
  obtain ⟨rfl, rfl, rfl, rfl⟩ := h
  refine (My.value_any ⟨a0_0, a0_1, a0_2, a0_3, a0_5⟩ l0_4 ⟨a1_0, a1_1, a1_2, a1_3, ⟨a1_4, a1_5, a1_6, a1_7⟩, ⟨a1_8, a1_9, a1_10, a1_11⟩, l1_12⟩ A0_4 c0_4 A1_12 c1_12 w hr0_4 hc0_4 hr1_12 hc1_12).mono ?_
  rintro e w' ⟨v, he, ho, hb⟩
  exact ⟨v, he, Kd.R_of_own ho (fun _ _ => trivial), hb⟩
end Go.Proofs.Ytggaefklcpbfnaa.Pa
