/- What is known together, in plain Lean: joined, what of it is never too great. No program here. No statement of the seed is proved here. -/
import Derived.Test.YtggaefklcpbfnaaAccG
import Derived.Test.YtggaefklcpbfnaaAccP
namespace Go.Proofs.Ytggaefklcpbfnaa.My
open Go.RowKit Pa Go.Proofs.YtggaefklcpbfnaaW.PrintWords

def cnt (xs : List S28) : Int := (xs.map (·.f0)).sum
def join0 (bs : List Int) : S28 := ⟨0, 0, 0, 0, z26, z26, List.replicate (bs.length + 1) 0⟩
def stepA (o a : S28) : S28 := if 0 < a.f0 then addA o a else o
def joinA (bs : List Int) (xs : List S28) : S28 := xs.foldl stepA (join0 bs)
/-- All together. -/
def joinRes (bs : List Int) (xs : List S28) : S28 × Int := if allm bs (-1) xs = true then (if 8192 < cnt xs then (z28, 101) else (joinA bs xs, 0)) else (z28, 100)

theorem allm_all {bs : List Int} : ∀ {xs : List S28} {f : Int}, allm bs f xs = true → ∀ x ∈ xs, amay x bs = true
  | [], _, _, x, hx => absurd hx (by simp)
  | a :: r, f, h, x, hx => by
    unfold allm at h
    by_cases ha : amay a bs = true
    · rw [if_pos ha] at h
      rcases List.mem_cons.1 hx with rfl | hr
      · exact ha
      · by_cases h0 : 0 < a.f0
        · rw [if_pos h0] at h
          by_cases h1 : 0 ≤ f ∧ a.f4.f0 ≠ f
          · rw [if_pos h1] at h
            cases h
          · rw [if_neg h1] at h
            exact allm_all h x hr
        · rw [if_neg h0] at h
          exact allm_all h x hr
    · rw [if_neg ha] at h
      cases h

theorem join0_fit {bs : List Int} (h : bmay bs = true) : Fit bs (join0 bs) :=
  ⟨h, ⟨Int.le_refl _, by simp [join0]⟩, ⟨by simp [join0], by simp [join0]⟩, by simp [join0], fun i hi => by
    have hi' : i < bs.length + 1 := by simpa [join0] using hi
    simp [join0, List.getD_eq_getElem?_getD, hi']⟩
theorem addA_f0 (o x : S28) : (addA o x).f0 = o.f0 + x.f0 ∧ (addA o x).f1 = o.f1 + x.f1 ∧ (addA o x).f6 = hadd o.f6 x.f6 := by
  unfold addA add6 add5 add4 add3 fst_
  refine ⟨?_, ?_, rfl⟩ <;> (repeat' split) <;> rfl
theorem hadd_get {h n : List Int} (hl : n.length = h.length) {i : Nat} (hi : i < h.length) : (hadd h n).getD i 0 = h.getD i 0 + n.getD i 0 := by
  unfold hadd
  simp [List.getD_eq_getElem?_getD, List.getElem?_zipWith, List.getElem?_eq_getElem hi, List.getElem?_eq_getElem (show i < n.length by omega)]
theorem hadd_len {h n : List Int} (hl : n.length = h.length) : (hadd h n).length = h.length := by
  unfold hadd
  rw [List.length_zipWith]
  omega
theorem fit_add {bs : List Int} {o x : S28} (ho : Fit bs o) (hx : Fit bs x) (hc : o.f0 + x.f0 ≤ 8192) : Fit bs (addA o x) := by
  obtain ⟨e0, e1, e6⟩ := addA_f0 o x
  have hl : x.f6.length = o.f6.length := by rw [hx.len, ho.len]
  have hol := ho.len
  have hxl := hx.len
  have c1 := ho.c
  have c2 := hx.c
  have s1 := ho.s
  have s2 := hx.s
  refine ⟨ho.bm, by rw [e0]; omega, by rw [e0, e1]; omega, by rw [e6, hadd_len hl]; exact hol, fun i hi => ?_⟩
  rw [e6, hadd_len hl] at hi
  rw [e6, e0, hadd_get hl hi]
  have h1 := ho.h i hi
  have h2 := hx.h i (by omega)
  omega
theorem fit_ok {bs : List Int} {o x : S28} (ho : Fit bs o) (hx : Fit bs x) : AddOk o x := by
  have hol := ho.len
  have hxl := hx.len
  have c1 := ho.c
  have c2 := hx.c
  have s1 := ho.s
  have s2 := hx.s
  refine ⟨c1, c2, by omega, by omega, by omega, fun i hi => ?_, fun i hi => ?_⟩
  · have := ho.h i hi
    omega
  · have := hx.h i (by omega)
    omega

theorem cnt_take {bs : List Int} {xs : List S28} (ha : ∀ x ∈ xs, amay x bs = true) (k : Nat) : 0 ≤ cnt (xs.take k) ∧ cnt (xs.take k) ≤ cnt xs ∧ cnt (xs.take k) ≤ 8192 * k := by
  induction xs generalizing k with
  | nil => simp [cnt]; omega
  | cons x r ih =>
    have hx := (amay_fit (ha x (List.mem_cons_self ..))).c
    have ihr := ih (fun y hy => ha y (List.mem_cons_of_mem _ hy))
    cases k with
    | zero =>
      have h1 := ihr r.length
      rw [List.take_length] at h1
      simp only [List.take_zero, cnt, List.map_nil, List.sum_nil, List.map_cons, List.sum_cons] at *
      omega
    | succ k =>
      have h1 := ihr k
      simp only [List.take_succ_cons, cnt, List.map_cons, List.sum_cons] at *
      omega
theorem take_snoc {xs : List S28} {k : Nat} (hk : k < xs.length) : xs.take (k + 1) = xs.take k ++ [xs.getD k z28] := by
  rw [List.take_succ_eq_append_getElem hk, List.getD_eq_getElem?_getD, List.getElem?_eq_getElem hk, Option.getD_some]
theorem cnt_snoc {xs : List S28} {k : Nat} (hk : k < xs.length) : cnt (xs.take (k + 1)) = cnt (xs.take k) + (xs.getD k z28).f0 := by
  rw [take_snoc hk]
  simp [cnt]
theorem join_snoc {bs : List Int} {xs : List S28} {k : Nat} (hk : k < xs.length) : joinA bs (xs.take (k + 1)) = stepA (joinA bs (xs.take k)) (xs.getD k z28) := by
  rw [take_snoc hk]
  simp [joinA]
theorem getD_mem28 {xs : List S28} {k : Nat} (hk : k < xs.length) : xs.getD k z28 ∈ xs := by
  rw [List.getD_eq_getElem?_getD, List.getElem?_eq_getElem hk, Option.getD_some]
  exact List.getElem_mem hk
theorem stepA_f0 {bs : List Int} {o x : S28} (hx : Fit bs x) : (stepA o x).f0 = o.f0 + x.f0 := by
  unfold stepA
  split
  · exact (addA_f0 o x).1
  · have := hx.c
    omega
/-- As far as it has come. -/
theorem join_fit {bs : List Int} {xs : List S28} (hb : bmay bs = true) (ha : ∀ x ∈ xs, amay x bs = true) (hc : cnt xs ≤ 8192) : ∀ k, k ≤ xs.length → Fit bs (joinA bs (xs.take k)) ∧ (joinA bs (xs.take k)).f0 = cnt (xs.take k)
  | 0, _ => ⟨by simpa [joinA] using join0_fit hb, by simp [joinA, join0, cnt]⟩
  | k + 1, hk => by
    obtain ⟨h1, h2⟩ := join_fit hb ha hc k (by omega)
    have hx := amay_fit (ha _ (getD_mem28 (show k < xs.length by omega)))
    have h3 := cnt_take ha (k + 1)
    rw [cnt_snoc (by omega)] at h3 ⊢
    rw [join_snoc (by omega)]
    refine ⟨?_, by rw [stepA_f0 hx, h2]⟩
    unfold stepA
    split
    · exact fit_add h1 hx (by omega)
    · exact h1
end Go.Proofs.Ytggaefklcpbfnaa.My
