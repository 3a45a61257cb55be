/- Sums up to the greatest one are told, sums beyond it are over: in plain Lean. -/
import Derived.Test.YtggaefklcpbfnaaPaBournelaw2LowOver
import Derived.Test.YtggaefklcpbfnaaLowQ
namespace Go.Proofs.Ytggaefklcpbfnaa.Pure
open Go.RowKit Go.Proofs.Ytggaefklcpbfnaa.Pa Go.Proofs.Ytggaefklcpbfnaa.My Go.Proofs.YtggaefklcpbfnaaW.PrintWords Go.Proofs.YtggaefklcpbfnaaW.PrintLast Go.Proofs.YtggaefklcpbfnaaW.PrintMore

theorem mod2000 (x : Int) : ∃ r, wrap64 (1 + wrap64 (Int.tmod (IntKind.u64.wrap x) 2000)) = r ∧ 1 ≤ r ∧ r ≤ 2000 := by
  have h1 := u64_nonneg x
  have h2 : Int.tmod (IntKind.u64.wrap x) 2000 = (IntKind.u64.wrap x) % 2000 := Int.tmod_eq_emod_of_nonneg h1
  refine ⟨1 + (IntKind.u64.wrap x) % 2000, ?_, by omega, by omega⟩
  rw [h2]
  have e : wrap64 ((IntKind.u64.wrap x) % 2000) = (IntKind.u64.wrap x) % 2000 := wsmall (by omega) (by omega)
  rw [e]
  clear e
  exact wsmall (by omega) (by omega)
theorem modv (x : Int) : -1099511627776 ≤ Int.tmod x 1099511627777 ∧ Int.tmod x 1099511627777 ≤ 1099511627776 := by
  have h1 := Int.tmod_lt_of_pos x (show (0 : Int) < 1099511627777 by decide)
  have h2 := Int.tmod_lt_of_pos (-x) (show (0 : Int) < 1099511627777 by decide)
  rw [Int.neg_tmod] at h2
  omega
theorem over_may {K v : Int} (h1 : 1 ≤ K) (h2 : K ≤ 2000) (v1 : -1099511627776 ≤ v) (v2 : v ≤ 1099511627776) : May1 [] ⟨K, K * v, v, v, ⟨0, 1, 1, v⟩, ⟨0, 2, 2, v⟩, [K]⟩ := by
  have hw : wm v = true := by
    unfold wm
    rw [decide_eq_true_eq]
    exact ⟨v1, v2⟩
  have hi : ∀ t q : Int, 0 ≤ t → t ≤ 10 → 1 ≤ q → q ≤ 10 → imay ⟨0, t, q, v⟩ = true := fun t q a b c d => by
    unfold imay
    rw [decide_eq_true_eq]
    simp only
    omega
  refine ⟨by decide, rfl, fun x hx => ?_, by simp, by simp only; omega, hw, hw, Int.le_refl _, hi _ _ (by decide) (by decide) (by decide) (by decide), hi _ _ (by decide) (by decide) (by decide) (by decide), ⟨Int.le_refl _, Int.le_refl _⟩, ⟨Int.le_refl _, Int.le_refl _⟩, rfl, by simp [ord], Int.le_refl _, Int.le_refl _⟩
  rw [List.mem_singleton] at hx
  omega
theorem LowOver : bournelaw2_LowOver.Pure := by
  intro a0 a1 _ _
  refine ⟨20, ?_⟩
  unfold bournelaw2_LowOver.f
  rw [show bournelaw2_awake.f = some true from rfl, Option.bind_some, if_pos rfl]
  obtain ⟨K, eK, k1, k2⟩ := mod2000 a0
  obtain ⟨v1, v2⟩ := modv a1
  rw [eK]
  clear eK
  generalize Int.tmod a1 1099511627777 = v at *
  have m1 : K * v ≤ K * 1099511627776 := Int.mul_le_mul_of_nonneg_left v2 (by omega)
  have m2 : K * (-1099511627776) ≤ K * v := Int.mul_le_mul_of_nonneg_left v1 (by omega)
  have e : wrap64 (K * v) = K * v := wsmall (by omega) (by omega)
  rw [e]
  have hm := over_may k1 k2 v1 v2
  have hval : ∀ q : Qy, q.agg = 0 ∨ q.agg = 1 → q.rank = 0 → valMay q [] ⟨K, K * v, v, v, ⟨0, 1, 1, v⟩, ⟨0, 2, 2, v⟩, [K]⟩ = true := fun q h1 h2 => by
    unfold valMay
    rw [hm.amay, decide_eq_true (show 0 ≤ q.agg by omega), decide_eq_true (show q.agg < 8 by omega), decide_eq_true (show 0 ≤ q.rank by omega), decide_eq_true (show q.rank ≤ 1000 by omega), decide_eq_false (show ¬ q.agg = 7 by omega), decide_eq_false (show ¬ K = 0 by omega)]
    rfl
  have g1 := val_told (hval ⟨0, 1, 0, 0, 0⟩ (.inr rfl) rfl)
  have g0 := val_told (hval ⟨0, 0, 0, 0, 0⟩ (.inl rfl) rfl)
  rw [show lowOut ⟨0, 1, 0, 0, 0⟩ [] ⟨K, K * v, v, v, ⟨0, 1, 1, v⟩, ⟨0, 2, 2, v⟩, [K]⟩ = (sumVal (K * v), sumOver (K * v), []) from rfl] at g1
  rw [show lowOut ⟨0, 0, 0, 0, 0⟩ [] ⟨K, K * v, v, v, ⟨0, 1, 1, v⟩, ⟨0, 2, 2, v⟩, [K]⟩ = (K, false, []) from rfl] at g0
  simp only at g0 g1
  unfold bournelaw2_item.f
  simp only [Option.bind_some]
  rw [g1, g0]
  simp only [Option.bind_some]
  have hs : ∀ (x : Int) (b : Bool) (k : Nat), bournelaw0_SameOut.f (k + 1) x b [] x b [] = some true := fun x b k => sameOut_f x b [] (by simp) (by simp)
  have n0 : bournelaw0_Num.f 0 = some 0 := rfl
  have fin : ∀ (k : Nat) (x : Int) (b : Bool), bournelaw2_LowOver.j1 (k + 1 + 1) K 0 0 x b [] K false [] x b = some true := fun k x b => by
    rw [bournelaw2_LowOver.j1, n0, Option.bind_some, if_pos rfl, hs, Option.bind_some, if_pos rfl, Option.bind_some, if_pos rfl, hs, Option.bind_some]
  by_cases c1 : K * v > 1125899906842624
  · have hov : sumOver (K * v) = true := by unfold sumOver; rw [decide_eq_true (show 1125899906842624 < K * v by omega)]; simp
    rw [if_pos c1, bournelaw2_LowOver.j0, if_pos rfl, show sumVal (K * v) = 0 by unfold sumVal; rw [hov]; rfl, hov]
    exact fin 17 0 true
  · rw [if_neg c1]
    by_cases c2 : K * v < -1125899906842624
    · have hov : sumOver (K * v) = true := by unfold sumOver; rw [decide_eq_true c2]; rfl
      rw [decide_eq_true c2, bournelaw2_LowOver.j0, if_pos rfl, show sumVal (K * v) = 0 by unfold sumVal; rw [hov]; rfl, hov]
      exact fin 17 0 true
    · have hov : sumOver (K * v) = false := by unfold sumOver; rw [decide_eq_false c2, decide_eq_false (show ¬ 1125899906842624 < K * v by omega)]; rfl
      rw [decide_eq_false c2, bournelaw2_LowOver.j0, if_neg (by decide), show sumVal (K * v) = K * v by unfold sumVal; rw [hov]; rfl, hov, e]
      exact fin 17 (K * v) false
end Go.Proofs.Ytggaefklcpbfnaa.Pure
