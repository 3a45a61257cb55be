/- Of a query or an aggregate that is none nothing is told: in plain Lean. -/
import Derived.Test.YtggaefklcpbfnaaPaBournelaw2LowForms
import Derived.Test.YtggaefklcpbfnaaLowP
namespace Go.Proofs.Ytggaefklcpbfnaa.Pure
open Go.RowKit Go.Proofs.Ytggaefklcpbfnaa.Pa Go.Proofs.Ytggaefklcpbfnaa.My

/-- The end of the law, where nothing is told. -/
theorem none_told (q : Qy) (bs : List Int) (a : S28) (h : valMay q bs a = false) : bournelaw2_LowForms.j0 20 0 q.k q.agg q.size q.slide bs q.rank a.f0 a.f1 a.f2 a.f3 a.f4.f0 a.f4.f1 a.f4.f2 a.f4.f3 a.f5.f0 a.f5.f1 a.f5.f2 a.f5.f3 a.f6 = some true := by
  have hv : low_Value.f q.k q.agg q.size q.slide bs q.rank a.f0 a.f1 a.f2 a.f3 a.f4.f0 a.f4.f1 a.f4.f2 a.f4.f3 a.f5.f0 a.f5.f1 a.f5.f2 a.f5.f3 a.f6 = some (0, false, [], 200) := by
    unfold low_Value.f
    rw [show valRes ⟨q.k, q.agg, q.size, q.slide, q.rank⟩ bs ⟨a.f0, a.f1, a.f2, a.f3, ⟨a.f4.f0, a.f4.f1, a.f4.f2, a.f4.f3⟩, ⟨a.f5.f0, a.f5.f1, a.f5.f2, a.f5.f3⟩, a.f6⟩ = valRes q bs a from rfl]
    unfold valRes
    rw [h]
    rfl
  rw [bournelaw2_LowForms.j0, hv]
  rfl
theorem may_agg {q : Qy} {bs : List Int} {a : S28} (h : q.agg < 0 ∨ 8 ≤ q.agg ∨ q.rank < 0 ∨ 1000 < q.rank) : valMay q bs a = false := by
  rw [Bool.eq_false_iff]
  intro hx
  unfold valMay at hx
  simp only [Bool.and_eq_true, decide_eq_true_eq] at hx
  omega
theorem may_amay {q : Qy} {bs : List Int} {a : S28} (h : amay a bs = false) : valMay q bs a = false := by
  unfold valMay
  rw [h]
  simp
theorem LowForms : bournelaw2_LowForms.Pure := by
  intro a0 a1 _ _
  refine ⟨20, ?_⟩
  obtain ⟨d1, d2⟩ : 0 ≤ Go.bits .and .i64 a1 1023 ∧ Go.bits .and .i64 a1 1023 ≤ 1023 := and_bound a1 1023 (by decide)
  unfold bournelaw2_LowForms.f
  generalize Go.bits .and .i64 a1 1023 = d at *
  generalize Int.tmod (IntKind.u64.wrap a0) 8 = m at *
  have e1 : wrap64 (1 + d) = 1 + d := by unfold wrap64; omega
  have e2 : wrap64 (7 + (1 + d)) = 8 + d := by unfold wrap64; omega
  have e3 : wrap64 (-(1 + d)) = -1 - d := by unfold wrap64; omega
  have e4 : wrap64 (1000 + (1 + d)) = 1001 + d := by unfold wrap64; omega
  have e5 : wrap64 (3 + (1 + d)) = 4 + d := by unfold wrap64; omega
  simp only [e1, e2, e3, e4, e5]
  rw [show bournelaw2_awake.f = some true from rfl]
  simp only [Option.bind_some, if_true, bournelaw2_item.f]
  rw [show bournelaw2_fold.f 20 [(⟨0, 1, 1, 3⟩ : S26)] [0, 5] = some (1, 3, 3, 3, 0, 1, 1, 3, 0, 1, 1, 3, [0, 1, 0]) from by kernel_rfl, show bournelaw2_fold.f 20 [] [0, 5] = some (0, 0, 0, 0, 0, 0, 0, 0, 0, 0, 0, 0, [0, 0, 0]) from by kernel_rfl, show bournelaw2_fold.f 20 [(⟨0, 1, 1, 3⟩ : S26)] [] = some (1, 3, 3, 3, 0, 1, 1, 3, 0, 1, 1, 3, [1]) from by kernel_rfl]
  simp only [Option.bind_some]
  rw [show low_Value.f 0 7 0 0 [0, 5] 500 1 3 3 3 0 1 1 3 0 1 1 3 [0, 1, 0] = some (5, false, [], 0) from by kernel_rfl]
  simp only [Option.bind_some]
  split
  · exact none_told ⟨0, 8 + d, 0, 0, 500⟩ [0, 5] ⟨1, 3, 3, 3, ⟨0, 1, 1, 3⟩, ⟨0, 1, 1, 3⟩, [0, 1, 0]⟩ (may_agg (by simp only; omega))
  split
  · exact none_told ⟨0, -1 - d, 0, 0, 500⟩ [0, 5] ⟨1, 3, 3, 3, ⟨0, 1, 1, 3⟩, ⟨0, 1, 1, 3⟩, [0, 1, 0]⟩ (may_agg (by simp only; omega))
  split
  · exact none_told ⟨0, 7, 0, 0, 1001 + d⟩ [0, 5] ⟨1, 3, 3, 3, ⟨0, 1, 1, 3⟩, ⟨0, 1, 1, 3⟩, [0, 1, 0]⟩ (may_agg (by simp only; omega))
  split
  · exact none_told ⟨0, 7, 0, 0, -1 - d⟩ [0, 5] ⟨1, 3, 3, 3, ⟨0, 1, 1, 3⟩, ⟨0, 1, 1, 3⟩, [0, 1, 0]⟩ (may_agg (by simp only; omega))
  split
  · decide +kernel
  split
  · decide +kernel
  split
  · decide +kernel
  · refine none_told ⟨0, 7, 0, 0, 500⟩ [0, 5] ⟨1, 4 + d, 3, 3, ⟨0, 1, 1, 3⟩, ⟨0, 1, 1, 3⟩, [0, 1, 0]⟩ (may_amay ?_)
    rw [Bool.eq_false_iff]
    intro hx
    unfold amay at hx
    simp only [Bool.and_eq_true, decide_eq_true_eq] at hx
    obtain ⟨_, _, _, _, _, hx⟩ := hx
    rw [if_neg (by decide)] at hx
    simp only [Bool.and_eq_true, decide_eq_true_eq] at hx
    omega
end Go.Proofs.Ytggaefklcpbfnaa.Pure
