/- What may be known keeps to bounds: in plain Lean. No statement of the seed is proved here. -/
import Derived.Test.YtggaefklcpbfnaaAccE
namespace Go.Proofs.Ytggaefklcpbfnaa.My
open Go.RowKit Pa Go.Proofs.YtggaefklcpbfnaaW.PrintWords

/-- What all parts of one that may be known keep to. -/
structure Fit (bs : List Int) (a : S28) : Prop where
  bm : bmay bs = true
  c : 0 ≤ a.f0 ∧ a.f0 ≤ 8192
  s : -1099511627776 * a.f0 ≤ a.f1 ∧ a.f1 ≤ 1099511627776 * a.f0
  len : a.f6.length = bs.length + 1
  h : ∀ i, i < a.f6.length → 0 ≤ a.f6.getD i 0 ∧ a.f6.getD i 0 ≤ a.f0

theorem sum_ge {h : List Int} (ha : ∀ x ∈ h, 0 ≤ x) : 0 ≤ h.sum ∧ ∀ i, i < h.length → h.getD i 0 ≤ h.sum := by
  induction h with
  | nil => exact ⟨by simp, fun i hi => absurd hi (by simp)⟩
  | cons x r ih =>
    obtain ⟨h1, h2⟩ := ih (fun y hy => ha y (List.mem_cons_of_mem _ hy))
    have h3 := ha x (List.mem_cons_self ..)
    rw [List.sum_cons]
    refine ⟨by omega, fun i hi => ?_⟩
    cases i with
    | zero => simp; omega
    | succ i =>
      have := h2 i (by simpa using hi)
      simp only [List.getD_cons_succ]
      omega
theorem getD_mem {h : List Int} {i : Nat} (hi : i < h.length) : h.getD i 0 ∈ h := by
  rw [List.getD_eq_getElem?_getD, List.getElem?_eq_getElem hi, Option.getD_some]
  exact List.getElem_mem hi
theorem mul_le {c m : Int} (h1 : 0 ≤ c) (h4 : m ≤ 1099511627776) : c * m ≤ 1099511627776 * c := by
  have e1 := Int.mul_le_mul_of_nonneg_left h4 h1
  omega
theorem mul_ge {c m : Int} (h1 : 0 ≤ c) (h4 : -1099511627776 ≤ m) : -1099511627776 * c ≤ c * m := by
  have e1 := Int.mul_le_mul_of_nonneg_left h4 h1
  omega

theorem amay_fit {a : S28} {bs : List Int} (h : amay a bs = true) : Fit bs a := by
  unfold amay at h
  simp only [Bool.and_eq_true, decide_eq_true_eq] at h
  obtain ⟨hb, hl, hh, h0, h8, hr⟩ := h
  unfold hmay at hh
  simp only [Bool.and_eq_true, decide_eq_true_eq, List.all_eq_true] at hh
  obtain ⟨⟨hn, hlen⟩, hs⟩ := hh
  have hnn : ∀ x ∈ a.f6, 0 ≤ x := fun x hx => by
    have := hn x hx
    unfold nok at this
    rw [decide_eq_true_eq] at this
    exact this.1
  obtain ⟨g1, g2⟩ := sum_ge hnn
  refine ⟨hb, ⟨h0, h8⟩, ?_, hlen, fun i hi => ⟨hnn _ (getD_mem hi), by rw [← hs]; exact g2 i hi⟩⟩
  by_cases hz : a.f0 = 0
  · rw [if_pos hz] at hr
    unfold bareB at hr
    simp only [Bool.and_eq_true, beq_iff_eq] at hr
    omega
  · rw [if_neg hz] at hr
    simp only [Bool.and_eq_true, decide_eq_true_eq] at hr
    obtain ⟨hw2, hw3, _, _, hs1, hs2⟩ := hr
    have w2 := wm_iff hw2
    have w3 := wm_iff hw3
    exact ⟨Int.le_trans (mul_ge h0 w2.1) hs1, Int.le_trans hs2 (mul_le h0 w3.2)⟩
end Go.Proofs.Ytggaefklcpbfnaa.My
