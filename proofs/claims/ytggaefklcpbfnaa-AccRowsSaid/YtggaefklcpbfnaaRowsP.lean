/- Of items of unlike stamps neither their row counts nor how they are put together, in plain Lean. No statement of the seed is proved here. -/
import Derived.Test.YtggaefklcpbfnaaEmptyP
namespace Go.Proofs.Ytggaefklcpbfnaa.My
open Go.RowKit Pa Go.Proofs.YtggaefklcpbfnaaW.PrintWords
set_option linter.unusedSimpArgs false

/-- So many in a bucket. -/
def cntJ (bs : List Int) (xs : List S26) (j : Nat) : Int := (xs.map (fun x => if bucket bs x.f3 = j then (1 : Int) else 0)).sum
/-- What is known of some items, in whatever row. -/
structure Rs (bs : List Int) (s : Int) (xs : List S26) (a : S28) : Prop where
  may : May1 bs a
  ser : a.f4.f0 = s
  c : a.f0 = xs.length
  s1 : a.f1 = (xs.map (·.f3)).sum
  n1 : ∀ x ∈ xs, a.f2 ≤ x.f3
  n2 : ∃ x ∈ xs, x.f3 = a.f2
  m1 : ∀ x ∈ xs, x.f3 ≤ a.f3
  m2 : ∃ x ∈ xs, x.f3 = a.f3
  f : a.f4 ∈ xs
  fl : ∀ x ∈ xs, ord a.f4 x ≤ 0
  l : a.f5 ∈ xs
  ll : ∀ x ∈ xs, ord x a.f5 ≤ 0
  h : ∀ j, j ≤ bs.length → a.f6.getD j 0 = cntJ bs xs j
theorem one_at {x : S26} {bs : List Int} {j : Nat} (hj : j ≤ bs.length) : (one x bs).f6.getD j 0 = if bucket bs x.f3 = j then 1 else 0 := by
  have hb := bucket_le bs x.f3
  show ((List.replicate (bs.length + 1) (0 : Int)).set (bucket bs x.f3) 1).getD j 0 = _
  rw [List.getD_eq_getElem?_getD, List.getElem?_set]
  by_cases h : bucket bs x.f3 = j
  · rw [if_pos h, if_pos h, if_pos (by simp; omega)]
    rfl
  · rw [if_neg h, if_neg h, List.getElem?_replicate, if_pos (by omega)]
    rfl
theorem rs_one {x : S26} {bs : List Int} (hx : imay x = true) (hb : bmay bs = true) : Rs bs x.f0 [x] (one x bs) := by
  refine ⟨may1_one hx hb, rfl, rfl, ?_, ?_, ⟨x, by simp, rfl⟩, ?_, ⟨x, by simp, rfl⟩, ?_, ?_, ?_, ?_, fun j hj => ?_⟩
  · show x.f3 = ([x].map (·.f3)).sum
    simp
  · intro y hy
    rw [List.mem_singleton.1 hy]
    exact Int.le_refl _
  · intro y hy
    rw [List.mem_singleton.1 hy]
    exact Int.le_refl _
  · show x ∈ [x]
    simp
  · intro y hy
    rw [List.mem_singleton.1 hy]
    show ord x x ≤ 0
    rw [ord_self]
    decide
  · show x ∈ [x]
    simp
  · intro y hy
    rw [List.mem_singleton.1 hy]
    show ord x x ≤ 0
    rw [ord_self]
    decide
  · rw [one_at hj]
    simp [cntJ]
theorem ord_neg {a b : S26} (h : ¬ 0 ≤ ord a b) : ord a b ≤ 0 := by omega
theorem ord_flip {a b : S26} (h : 0 ≤ ord a b) : ord b a ≤ 0 := by
  unfold ord at *
  (repeat' split at h) <;> (repeat' split) <;> omega
theorem add_parts (a b : S28) (h0 : a.f0 ≠ 0) : (addA a b).f0 = a.f0 + b.f0 ∧ (addA a b).f1 = a.f1 + b.f1 ∧ (addA a b).f2 = (if b.f2 < a.f2 then b.f2 else a.f2) ∧ (addA a b).f3 = (if a.f3 < b.f3 then b.f3 else a.f3) ∧ (addA a b).f4 = (if ord b.f4 a.f4 < 0 then b.f4 else a.f4) ∧ (addA a b).f5 = (if 0 ≤ ord b.f5 a.f5 then b.f5 else a.f5) ∧ (addA a b).f6 = hadd a.f6 b.f6 := by
  obtain ⟨a0, a1, a2, a3, a4, a5, a6⟩ := a
  obtain ⟨b0, b1, b2, b3, b4, b5, b6⟩ := b
  simp only at h0
  unfold addA add6 add5 add4 add3
  rw [fst_no (show ¬ (⟨a0, a1, a2, a3, a4, a5, a6⟩ : S28).f0 = 0 from h0)]
  by_cases h4 : ord b4 a4 < 0 <;> by_cases h5 : 0 ≤ ord b5 a5 <;> simp [h4, h5]
theorem hadd_all {h n : List Int} (a : ∀ x ∈ h, 0 ≤ x) (b : ∀ x ∈ n, 0 ≤ x) : ∀ x ∈ hadd h n, 0 ≤ x := hadd_mem a b
theorem imay_w {x : S26} (h : imay x = true) : -1099511627776 ≤ x.f3 ∧ x.f3 ≤ 1099511627776 := imay_v h
theorem mul_two {c d m a b : Int} (hc : 0 ≤ c) (hd : 0 ≤ d) (h1 : m ≤ a) (h2 : m ≤ b) : (c + d) * m ≤ c * a + d * b := by
  have e1 := Int.mul_le_mul_of_nonneg_left h1 hc
  have e2 := Int.mul_le_mul_of_nonneg_left h2 hd
  rw [Int.add_mul]
  omega
theorem mul_two' {c d m a b : Int} (hc : 0 ≤ c) (hd : 0 ≤ d) (h1 : a ≤ m) (h2 : b ≤ m) : c * a + d * b ≤ (c + d) * m := by
  have e1 := Int.mul_le_mul_of_nonneg_left h1 hc
  have e2 := Int.mul_le_mul_of_nonneg_left h2 hd
  rw [Int.add_mul]
  omega
theorem rs_add {bs : List Int} {s : Int} {xs ys : List S26} {a b : S28} (ha : Rs bs s xs a) (hb : Rs bs s ys b) (hser : ∀ x ∈ xs ++ ys, x.f0 = s) (hn : xs.length + ys.length ≤ 8192) : Rs bs s (xs ++ ys) (addA a b) := by
  have ca := ha.may.c
  have cb := hb.may.c
  obtain ⟨e0, e1, e2, e3, e4, e5, e6⟩ := add_parts a b (by omega)
  have hla := ha.may.len
  have hlb := hb.may.len
  have hca := ha.c
  have hcb := hb.c
  have f4 : (addA a b).f4 ∈ xs ++ ys := by
    rw [e4]
    split
    · exact List.mem_append_right _ hb.f
    · exact List.mem_append_left _ ha.f
  have f5 : (addA a b).f5 ∈ xs ++ ys := by
    rw [e5]
    split
    · exact List.mem_append_right _ hb.l
    · exact List.mem_append_left _ ha.l
  have n1 : ∀ x ∈ xs ++ ys, (addA a b).f2 ≤ x.f3 := fun x hx => by
    rw [e2]
    rcases List.mem_append.1 hx with h | h
    · have := ha.n1 x h
      split <;> omega
    · have := hb.n1 x h
      split <;> omega
  have m1 : ∀ x ∈ xs ++ ys, x.f3 ≤ (addA a b).f3 := fun x hx => by
    rw [e3]
    rcases List.mem_append.1 hx with h | h
    · have := ha.m1 x h
      split <;> omega
    · have := hb.m1 x h
      split <;> omega
  have fl : ∀ x ∈ xs ++ ys, ord (addA a b).f4 x ≤ 0 := fun x hx => by
    rw [e4]
    rcases List.mem_append.1 hx with h | h
    · split
      · rename_i h4
        exact ord_le_trans (Int.le_of_lt h4) (ha.fl x h)
      · exact ha.fl x h
    · split
      · exact hb.fl x h
      · rename_i h4
        exact ord_le_trans (ord_lt h4) (hb.fl x h)
  have ll : ∀ x ∈ xs ++ ys, ord x (addA a b).f5 ≤ 0 := fun x hx => by
    rw [e5]
    rcases List.mem_append.1 hx with h | h
    · split
      · rename_i h5
        exact ord_le_trans (ha.ll x h) (ord_flip h5)
      · exact ha.ll x h
    · split
      · exact hb.ll x h
      · rename_i h5
        exact ord_le_trans (hb.ll x h) (ord_neg h5)
  refine ⟨?_, hser _ f4, by rw [e0, hca, hcb, List.length_append]; omega, by rw [e1, ha.s1, hb.s1, List.map_append, List.sum_append], n1, ?_, m1, ?_, f4, fl, f5, ll, fun j hj => ?_⟩
  · have va := ha.may
    have vb := hb.may
    refine ⟨va.bm, by rw [e6, hadd_length (by omega)]; exact hla, by rw [e6]; exact hadd_mem va.hn vb.hn, by rw [e6, e0, hadd_sum (by omega), va.hs, vb.hs], by rw [e0]; omega, by rw [e2]; split; exact vb.m2; exact va.m2, by rw [e3]; split; exact vb.m3; exact va.m3, ?_, by rw [e4]; split; exact vb.i4; exact va.i4, by rw [e5]; split; exact vb.i5; exact va.i5, ⟨n1 _ f4, m1 _ f4⟩, ⟨n1 _ f5, m1 _ f5⟩, by rw [hser _ f4, hser _ f5], fl _ f5, ?_, ?_⟩
    · exact Int.le_trans (n1 _ f4) (m1 _ f4)
    · rw [e0, e1]
      refine Int.le_trans (mul_two (a := a.f2) (b := b.f2) (by omega) (by omega) (by rw [e2]; split <;> omega) (by rw [e2]; split <;> omega)) ?_
      have := va.s1
      have := vb.s1
      omega
    · rw [e0, e1]
      refine Int.le_trans ?_ (mul_two' (a := a.f3) (b := b.f3) (by omega) (by omega) (by rw [e3]; split <;> omega) (by rw [e3]; split <;> omega))
      have := va.s2
      have := vb.s2
      omega
  · rw [e2]
    split
    · obtain ⟨y, hy, he⟩ := hb.n2
      exact ⟨y, List.mem_append_right _ hy, he⟩
    · obtain ⟨y, hy, he⟩ := ha.n2
      exact ⟨y, List.mem_append_left _ hy, he⟩
  · rw [e3]
    split
    · obtain ⟨y, hy, he⟩ := hb.m2
      exact ⟨y, List.mem_append_right _ hy, he⟩
    · obtain ⟨y, hy, he⟩ := ha.m2
      exact ⟨y, List.mem_append_left _ hy, he⟩
  · rw [e6, hadd_get (by omega) (by omega), ha.h j hj, hb.h j hj]
    unfold cntJ
    rw [List.map_append, List.sum_append]
end Go.Proofs.Ytggaefklcpbfnaa.My
