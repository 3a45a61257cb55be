/- Go functions of the given program as plain Lean functions, each with a proof that the machine's call answers so; no statement of the seed is proved here. -/
import Derived.Test.YtggaefklcpbfnaaPa0
import Derived.Test.YtggaefklcpbfnaaRefB
namespace Go.Proofs.Ytggaefklcpbfnaa.Pa
open Go.RowKit Go.Proofs.YtggaefklcpbfnaaW.PrintWords Go.Proofs.YtggaefklcpbfnaaW.PrintLast Go.Proofs.YtggaefklcpbfnaaW.PrintMore
attribute [local go_sem] max2_int min2_int max_two min_two max_three min_three max_four min_four   -- for this text's walks alone
set_option linter.unusedVariables false
set_option linter.unusedSimpArgs false

/-! ### bourneref1_One: function 29 -/
def bourneref1_One.f (a0_0 : Int) (a0_1 : Int) (a0_2 : Int) (a0_3 : Int) (l1 : List Int) : Option (Int × Int × Int × Int × Int × Int × Int × Int × Int × Int × Int × Int × List Int × Int) := (fun p => some (p.1.f0, p.1.f1, p.1.f2, p.1.f3, p.1.f4.f0, p.1.f4.f1, p.1.f4.f2, p.1.f4.f3, p.1.f5.f0, p.1.f5.f1, p.1.f5.f2, p.1.f5.f3, p.1.f6, p.2)) (My.oneRes ⟨a0_0, a0_1, a0_2, a0_3⟩ l1)
theorem bourneref1_One.calls (a0_0 : Int) (a0_1 : Int) (a0_2 : Int) (a0_3 : Int) (A1 : Option Addr) (c1 : Nat) (l1 : List Int) (r1 : Int) (r2 : Int) (r3 : Int) (r4 : Int) (r5 : Int) (r6 : Int) (r7 : Int) (r8 : Int) (r9 : Int) (r10 : Int) (r11 : Int) (r12 : Int) (r13 : List Int) (r14 : Int) (w : World) (hr1 : Kd.C (Kd.int .i64) w A1 l1.length l1) (hc1 : l1.length ≤ c1) (h : bourneref1_One.f a0_0 a0_1 a0_2 a0_3 l1 = some (r1, r2, r3, r4, r5, r6, r7, r8, r9, r10, r11, r12, r13, r14)) :
    Calls Try.prog 29 #[.agg #[.int .i64 a0_0, .int .i64 a0_1, .int .i64 a0_2, .int .i64 a0_3], .slice A1 l1.length c1] w fun e w' => ∃ v12_ : Value, e = .returned (.tuple #[.agg #[.int .i64 r1, .int .i64 r2, .int .i64 r3, .int .i64 r4, .int .i64 r5, .int .i64 r6, .int .i64 r7, .int .i64 r8, .int .i64 r9, .int .i64 r10, .int .i64 r11, .int .i64 r12, v12_], .int .i64 r14]) ∧ Kd.R (Kd.int .i64) 3 w' w.heap.size (fun _ => True) v12_ r13 ∧ Below w.heap.size w w' := by
  unfold bourneref1_One.f at h
  simp only [Option.some.injEq, Prod.mk.injEq] at h
  obtain ⟨rfl, rfl, rfl, rfl, rfl, rfl, rfl, rfl, rfl, rfl, rfl, rfl, rfl, rfl⟩ := h
  refine (My.rone_any ⟨a0_0, a0_1, a0_2, a0_3⟩ l1 A1 c1 w hr1 hc1).mono ?_
  rintro e w' ⟨v, he, ho, hb⟩
  exact ⟨v, he, Kd.R_of_own ho (fun _ _ => trivial), hb⟩
end Go.Proofs.Ytggaefklcpbfnaa.Pa
