/- Ranks over four bounds, in plain Lean. No statement of the seed is proved here. -/
import Derived.Test.YtggaefklcpbfnaaLowQ
namespace Go.Proofs.Ytggaefklcpbfnaa.My
open Go.RowKit Pa Go.Proofs.YtggaefklcpbfnaaW.PrintWords Go.Proofs.YtggaefklcpbfnaaW.PrintLast Go.Proofs.YtggaefklcpbfnaaW.PrintMore

def bs4 : List Int := [-100, 0, 50, 200]
theorem bs4_may : bmay bs4 = true := by decide
theorem bucket4 (v : Int) : bucket bs4 v = if v ≤ -100 then 0 else if v ≤ 0 then 1 else if v ≤ 50 then 2 else if v ≤ 200 then 3 else 4 := rfl
/-- How many are at most so great. -/
def cntLe (xs : List S26) (v : Int) : Int := (xs.map (fun x => if x.f3 ≤ v then (1 : Int) else 0)).sum
theorem cntLe_snoc (xs : List S26) (x : S26) (v : Int) : cntLe (xs ++ [x]) v = cntLe xs v + if x.f3 ≤ v then 1 else 0 := by
  unfold cntLe
  rw [List.map_append, List.sum_append]
  simp
theorem cnt4 (xs : List S26) : cntB bs4 xs 0 = cntLe xs (-100) ∧ cntB bs4 xs 0 + cntB bs4 xs 1 = cntLe xs 0 ∧ cntB bs4 xs 0 + cntB bs4 xs 1 + cntB bs4 xs 2 = cntLe xs 50 ∧ cntB bs4 xs 0 + cntB bs4 xs 1 + cntB bs4 xs 2 + cntB bs4 xs 3 = cntLe xs 200 := by
  unfold cntB cntLe
  induction xs with
  | nil => simp
  | cons x r ih =>
    obtain ⟨h1, h2, h3, h4⟩ := ih
    simp only [List.map_cons, List.sum_cons]
    rw [bucket4]
    refine ⟨?_, ?_, ?_, ?_⟩
    all_goals
      by_cases c1 : x.f3 ≤ -100
      · simp only [if_pos c1, if_pos (show x.f3 ≤ 0 by omega), if_pos (show x.f3 ≤ 50 by omega), if_pos (show x.f3 ≤ 200 by omega)]
        simp
        omega
      · by_cases c2 : x.f3 ≤ 0
        · simp only [if_neg c1, if_pos c2, if_pos (show x.f3 ≤ 50 by omega), if_pos (show x.f3 ≤ 200 by omega)]
          simp
          omega
        · by_cases c3 : x.f3 ≤ 50
          · simp only [if_neg c1, if_neg c2, if_pos c3, if_pos (show x.f3 ≤ 200 by omega)]
            simp
            omega
          · by_cases c4 : x.f3 ≤ 200
            · simp only [if_neg c1, if_neg c2, if_neg c3, if_pos c4]
              simp
              omega
            · simp only [if_neg c1, if_neg c2, if_neg c3, if_neg c4]
              simp
              omega
theorem cntLe_bound (xs : List S26) (v : Int) : 0 ≤ cntLe xs v ∧ cntLe xs v ≤ xs.length := by
  unfold cntLe
  induction xs with
  | nil => simp
  | cons x r ih =>
    simp only [List.map_cons, List.sum_cons, List.length_cons]
    split <;> omega
theorem cntLe_all {xs : List S26} {v : Int} (h : ∀ x ∈ xs, x.f3 ≤ v) : cntLe xs v = xs.length := by
  unfold cntLe
  induction xs with
  | nil => simp
  | cons x r ih =>
    simp only [List.map_cons, List.sum_cons, List.length_cons]
    rw [if_pos (h x (by simp)), ih (fun y hy => h y (by simp [hy]))]
    omega
theorem cntLe_none {xs : List S26} {v : Int} (h : ∀ x ∈ xs, ¬ x.f3 ≤ v) : cntLe xs v = 0 := by
  unfold cntLe
  induction xs with
  | nil => simp
  | cons x r ih =>
    simp only [List.map_cons, List.sum_cons]
    rw [if_neg (h x (by simp)), ih (fun y hy => h y (by simp [hy]))]
    omega
theorem cntLe_lt {xs : List S26} {v : Int} (h : cntLe xs v < xs.length) : ∃ x ∈ xs, v < x.f3 := by
  by_cases hx : ∃ x ∈ xs, v < x.f3
  · exact hx
  · have := cntLe_all (xs := xs) (v := v) (fun x hx2 => by
      by_cases h2 : x.f3 ≤ v
      · exact h2
      · exact absurd ⟨x, hx2, by omega⟩ hx)
    omega
/-- What a rank tells of four bounds. -/
theorem rank4 {xs : List S26} {a : S28} (h : Sp bs4 xs a) (k : Int) : rankGo a.f6 bs4 a.f3 4 0 k = if k ≤ cntLe xs (-100) then -100 else if k ≤ cntLe xs 0 then 0 else if k ≤ cntLe xs 50 then 50 else if k ≤ cntLe xs 200 then 200 else a.f3 := by
  obtain ⟨c1, c2, c3, c4⟩ := cnt4 xs
  have h0 := h.h 0 (by decide)
  have h1 := h.h 1 (by decide)
  have h2 := h.h 2 (by decide)
  have h3 := h.h 3 (by decide)
  show (if k - a.f6.getD 0 0 ≤ 0 then (-100 : Int) else if k - a.f6.getD 0 0 - a.f6.getD 1 0 ≤ 0 then 0 else if k - a.f6.getD 0 0 - a.f6.getD 1 0 - a.f6.getD 2 0 ≤ 0 then 50 else if k - a.f6.getD 0 0 - a.f6.getD 1 0 - a.f6.getD 2 0 - a.f6.getD 3 0 ≤ 0 then 200 else a.f3) = _
  rw [h0, h1, h2, h3]
  generalize cntB bs4 xs 0 = n0 at *
  generalize cntB bs4 xs 1 = n1 at *
  generalize cntB bs4 xs 2 = n2 at *
  generalize cntB bs4 xs 3 = n3 at *
  rw [← c1, ← c2, ← c3, ← c4]
  by_cases g1 : k ≤ n0
  · rw [if_pos (by omega), if_pos g1]
  · rw [if_neg (by omega), if_neg g1]
    by_cases g2 : k ≤ n0 + n1
    · rw [if_pos (by omega), if_pos g2]
    · rw [if_neg (by omega), if_neg g2]
      by_cases g3 : k ≤ n0 + n1 + n2
      · rw [if_pos (by omega), if_pos g3]
      · rw [if_neg (by omega), if_neg g3]
        by_cases g4 : k ≤ n0 + n1 + n2 + n3
        · rw [if_pos (by omega), if_pos g4]
        · rw [if_neg (by omega), if_neg g4]
theorem rankK_b {r c : Int} (h1 : 0 ≤ r) (h2 : r ≤ 1000) (h3 : 1 ≤ c) : 1 ≤ rankK r c ∧ rankK r c ≤ c ∧ r * c ≤ 1000 * rankK r c ∧ (1000 * (rankK r c - 1) < r * c ∨ rankK r c = 1) := by
  have e1 : r * c ≤ 1000 * c := Int.mul_le_mul_of_nonneg_right h2 (by omega)
  have e2 : 0 ≤ r * c := Int.mul_nonneg h1 (by omega)
  unfold rankK
  generalize r * c = m at *
  split <;> omega
theorem rankK_mono {r s c : Int} (h : r ≤ s) (hc : 0 ≤ c) : rankK r c ≤ rankK s c := by
  have e1 : r * c ≤ s * c := Int.mul_le_mul_of_nonneg_right h hc
  unfold rankK
  generalize r * c = m at *
  generalize s * c = n at *
  split <;> split <;> omega
theorem mod1001 (x : Int) : ∃ r, wrap64 (Int.tmod (IntKind.u64.wrap x) 1001) = r ∧ 0 ≤ r ∧ r ≤ 1000 := by
  have h1 := u64_nonneg x
  have h2 : Int.tmod (IntKind.u64.wrap x) 1001 = (IntKind.u64.wrap x) % 1001 := Int.tmod_eq_emod_of_nonneg h1
  refine ⟨(IntKind.u64.wrap x) % 1001, ?_, by omega, by omega⟩
  rw [h2]
  exact wsmall (by omega) (by omega)
theorem ask7 {xs : List S26} {a : S28} (h : Sp bs4 xs a) {r : Int} (h0 : 0 ≤ r) (h1 : r ≤ 1000) : low_Value.f 0 7 0 0 bs4 r a.f0 a.f1 a.f2 a.f3 a.f4.f0 a.f4.f1 a.f4.f2 a.f4.f3 a.f5.f0 a.f5.f1 a.f5.f2 a.f5.f3 a.f6 = some (rankGo a.f6 bs4 a.f3 4 0 (rankK r a.f0), false, [], 0) :=
  val_told (q := ⟨0, 7, 0, 0, r⟩) (val_may h (show (0 : Int) ≤ 7 by decide) (show (7 : Int) < 8 by decide) h0 h1 (fun _ => by decide))
theorem ask6 {xs : List S26} {a : S28} (h : Sp bs4 xs a) : low_Value.f 0 6 0 0 bs4 0 a.f0 a.f1 a.f2 a.f3 a.f4.f0 a.f4.f1 a.f4.f2 a.f4.f3 a.f5.f0 a.f5.f1 a.f5.f2 a.f5.f3 a.f6 = some (0, false, a.f6, 0) :=
  val_told (q := ⟨0, 6, 0, 0, 0⟩) (val_may h (by decide) (by decide) (by decide) (by decide) (fun _ => by decide))
def tid (i : Nat) : Int := (i : Int)
theorem tid_mono : ∀ i j, i ≤ j → tid i ≤ tid j := fun i j h => by unfold tid; omega
theorem tid_b : ∀ i, i < 30 → 0 ≤ tid i ∧ tid i ≤ 30 := fun i h => by unfold tid; omega
end Go.Proofs.Ytggaefklcpbfnaa.My
