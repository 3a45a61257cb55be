/- What may be known, part by part; of one item; of two together: in plain Lean. No statement of the seed is proved here. -/
import Derived.Test.YtggaefklcpbfnaaRefT
import Derived.Test.YtggaefklcpbfnaaAccP
namespace Go.Proofs.Ytggaefklcpbfnaa.My
open Go.RowKit Pa Go.Proofs.YtggaefklcpbfnaaW.PrintWords

/-- What may be known of some items, part by part. -/
structure May1 (bs : List Int) (a : S28) : Prop where
  bm : bmay bs = true
  len : a.f6.length = bs.length + 1
  hn : ∀ x ∈ a.f6, 0 ≤ x
  hs : a.f6.sum = a.f0
  c : 1 ≤ a.f0 ∧ a.f0 ≤ 8192
  m2 : wm a.f2 = true
  m3 : wm a.f3 = true
  m : a.f2 ≤ a.f3
  i4 : imay a.f4 = true
  i5 : imay a.f5 = true
  v4 : a.f2 ≤ a.f4.f3 ∧ a.f4.f3 ≤ a.f3
  v5 : a.f2 ≤ a.f5.f3 ∧ a.f5.f3 ≤ a.f3
  ser : a.f4.f0 = a.f5.f0
  o : ord a.f4 a.f5 ≤ 0
  s1 : a.f0 * a.f2 ≤ a.f1
  s2 : a.f1 ≤ a.f0 * a.f3
theorem sum_le_mem {h : List Int} (ha : ∀ x ∈ h, 0 ≤ x) : ∀ x ∈ h, x ≤ h.sum := by
  induction h with
  | nil => simp
  | cons y r ih =>
    intro x hx
    have h0 : 0 ≤ r.sum := by
      clear ih hx
      induction r with
      | nil => simp
      | cons z r ih2 =>
        have := ih2 (fun q hq => ha q (by simp at hq ⊢; rcases hq with h | h <;> simp [h]))
        have := ha z (by simp)
        simp only [List.sum_cons]
        omega
    have h1 := ha y (by simp)
    rw [List.sum_cons]
    rcases List.mem_cons.1 hx with rfl | h
    · omega
    · have := ih (fun z hz => ha z (by simp [hz])) x h
      omega
theorem May1.amay {bs : List Int} {a : S28} (h : May1 bs a) : amay a bs = true := by
  have hc := h.c
  have hh : hmay a.f6 bs.length a.f0 = true := by
    unfold hmay
    rw [decide_eq_true h.len, decide_eq_true h.hs]
    have : a.f6.all nok = true := by
      rw [List.all_eq_true]
      intro x hx
      unfold nok
      rw [decide_eq_true_eq]
      have h1 := h.hn x hx
      have h2 := sum_le_mem h.hn x hx
      have h3 := h.hs
      omega
    rw [this]
    rfl
  have he : emay a = true := by
    unfold emay iok
    rw [h.i4, h.i5, decide_eq_true h.v4.1, decide_eq_true h.v4.2, decide_eq_true h.v5.1, decide_eq_true h.v5.2, decide_eq_true h.ser, decide_eq_true h.o]
    rfl
  unfold My.amay
  rw [h.bm, hh, he, h.m2, h.m3, decide_eq_true h.m, decide_eq_true h.s1, decide_eq_true h.s2, if_neg (by omega), decide_eq_true (show a.f6.length ≤ bs.length + 1 by have := h.len; omega), decide_eq_true (show 0 ≤ a.f0 by omega), decide_eq_true hc.2]
  rfl
theorem May1.of {bs : List Int} {a : S28} (h : My.amay a bs = true) (h0 : a.f0 ≠ 0) : May1 bs a := by
  unfold My.amay at h
  simp only [Bool.and_eq_true, decide_eq_true_eq] at h
  obtain ⟨hb, _, hh, c0, c8, h⟩ := h
  rw [if_neg h0] at h
  simp only [Bool.and_eq_true, decide_eq_true_eq] at h
  obtain ⟨w2, w3, hm, he, s1, s2⟩ := h
  unfold hmay at hh
  simp only [Bool.and_eq_true, decide_eq_true_eq, List.all_eq_true] at hh
  obtain ⟨⟨hn, hl⟩, hs⟩ := hh
  unfold emay iok at he
  simp only [Bool.and_eq_true, decide_eq_true_eq] at he
  obtain ⟨⟨i4, v4, v4'⟩, ⟨i5, v5, v5'⟩, ser, o⟩ := he
  refine ⟨hb, hl, fun x hx => ?_, hs, ⟨by omega, c8⟩, w2, w3, hm, i4, i5, ⟨v4, v4'⟩, ⟨v5, v5'⟩, ser, o, s1, s2⟩
  have := hn x hx
  unfold nok at this
  rw [decide_eq_true_eq] at this
  exact this.1
theorem imay_v {x : S26} (h : imay x = true) : -1099511627776 ≤ x.f3 ∧ x.f3 ≤ 1099511627776 := by
  unfold imay at h
  rw [decide_eq_true_eq] at h
  exact ⟨h.2.2.2.2.2.2.1, h.2.2.2.2.2.2.2⟩
theorem ord_self (a : S26) : ord a a = 0 := by
  unfold ord
  simp
theorem set_sum : ∀ (n i : Nat), i < n → ((List.replicate n (0 : Int)).set i 1).sum = 1
  | 0, i, h => absurd h (by omega)
  | n + 1, 0, _ => by
    rw [List.replicate_succ, List.set_cons_zero, List.sum_cons]
    have : (List.replicate n (0 : Int)).sum = 0 := by simp
    omega
  | n + 1, i + 1, h => by
    rw [List.replicate_succ, List.set_cons_succ, List.sum_cons, set_sum n i (by omega)]
    omega
theorem may1_one {x : S26} {bs : List Int} (hx : imay x = true) (hb : bmay bs = true) : May1 bs (one x bs) := by
  have hv := imay_v hx
  have hw : wm x.f3 = true := by
    unfold wm
    rw [decide_eq_true_eq]
    exact hv
  refine ⟨hb, by simp [one], fun y hy => ?_, ?_, by simp [one], hw, hw, Int.le_refl _, hx, hx, ⟨Int.le_refl _, Int.le_refl _⟩, ⟨Int.le_refl _, Int.le_refl _⟩, rfl, ?_, ?_, ?_⟩
  · rcases List.mem_or_eq_of_mem_set hy with h | h
    · have := List.eq_of_mem_replicate h
      omega
    · omega
  · exact set_sum _ _ (by have := bucket_le bs x.f3; omega)
  · show ord x x ≤ 0
    rw [ord_self]
    exact Int.le_refl _
  · show 1 * x.f3 ≤ x.f3
    omega
  · show x.f3 ≤ 1 * x.f3
    omega
theorem bef_ord (a b : S26) : bef a b = decide (ord a b < 0) := by
  unfold bef ord
  by_cases h1 : a.f1 < b.f1
  · simp [h1]
  · by_cases h2 : b.f1 < a.f1
    · have : ¬ a.f1 = b.f1 := by omega
      simp [h1, h2, this]
    · have h3 : a.f1 = b.f1 := by omega
      by_cases h4 : a.f2 < b.f2
      · simp [h3, h4]
      · by_cases h5 : b.f2 < a.f2 <;> simp [h3, h4, h5]
theorem ord_le_trans {a b c : S26} (h1 : ord a b ≤ 0) (h2 : ord b c ≤ 0) : ord a c ≤ 0 := by
  unfold ord at *
  (repeat' split at h1) <;> (repeat' split at h2) <;> (repeat' split) <;> omega
theorem ord_lt {a b : S26} (h : ¬ ord a b < 0) : ord b a ≤ 0 := by
  unfold ord at *
  (repeat' split at h) <;> (repeat' split) <;> omega
theorem tw_parts (a b : S28) : (twoA a b).f0 = a.f0 + b.f0 ∧ (twoA a b).f1 = a.f1 + b.f1 ∧ (twoA a b).f2 = (if b.f2 < a.f2 then b.f2 else a.f2) ∧ (twoA a b).f3 = (if a.f3 < b.f3 then b.f3 else a.f3) ∧ (twoA a b).f4 = (if ord b.f4 a.f4 < 0 then b.f4 else a.f4) ∧ (twoA a b).f5 = (if ord b.f5 a.f5 < 0 then a.f5 else b.f5) ∧ (twoA a b).f6 = hadd a.f6 b.f6 := by
  unfold twoA tw3 tw2 tw1 tw0
  rw [bef_ord, bef_ord]
  by_cases h1 : ord b.f4 a.f4 < 0 <;> by_cases h2 : ord b.f5 a.f5 < 0 <;> simp [h1, h2]
theorem hadd_sum : ∀ {h n : List Int}, n.length = h.length → (hadd h n).sum = h.sum + n.sum
  | [], n, hl => by
    have := List.eq_nil_of_length_eq_zero hl
    subst this
    rfl
  | a :: h, n, hl => by
    cases n with
    | nil => simp at hl
    | cons b n =>
      have ih := hadd_sum (h := h) (n := n) (by simpa using hl)
      unfold hadd at *
      simp only [List.zipWith_cons_cons, List.sum_cons, ih]
      omega
theorem hadd_mem : ∀ {h n : List Int}, (∀ x ∈ h, 0 ≤ x) → (∀ x ∈ n, 0 ≤ x) → ∀ x ∈ hadd h n, 0 ≤ x
  | [], n, _, _, x, hx => by simp [hadd] at hx
  | a :: h, [], _, _, x, hx => by simp [hadd] at hx
  | a :: h, b :: n, h1, h2, x, hx => by
    unfold hadd at hx
    rw [List.zipWith_cons_cons] at hx
    rcases List.mem_cons.1 hx with rfl | h
    · have := h1 a (by simp)
      have := h2 b (by simp)
      omega
    · exact hadd_mem (fun y hy => h1 y (by simp [hy])) (fun y hy => h2 y (by simp [hy])) x h
theorem hadd_length {h n : List Int} (hl : n.length = h.length) : (hadd h n).length = h.length := by
  unfold hadd
  rw [List.length_zipWith]
  omega
theorem may1_two {bs : List Int} {a b : S28} (ha : May1 bs a) (hb : May1 bs b) (hs : a.f4.f0 = b.f4.f0) (hc : a.f0 + b.f0 ≤ 8192) : May1 bs (twoA a b) := by
  obtain ⟨e0, e1, e2, e3, e4, e5, e6⟩ := tw_parts a b
  have hl : b.f6.length = a.f6.length := by rw [ha.len, hb.len]
  have ca := ha.c
  have cb := hb.c
  refine ⟨ha.bm, by rw [e6, hadd_length hl]; exact ha.len, by rw [e6]; exact hadd_mem ha.hn hb.hn, by rw [e6, hadd_sum hl, ha.hs, hb.hs, e0], by rw [e0]; omega, by rw [e2]; split; exact hb.m2; exact ha.m2, by rw [e3]; split; exact hb.m3; exact ha.m3, ?_, by rw [e4]; split; exact hb.i4; exact ha.i4, by rw [e5]; split; exact ha.i5; exact hb.i5, ?_, ?_, ?_, ?_, ?_, ?_⟩
  · rw [e2, e3]
    have := ha.m
    have := hb.m
    split <;> split <;> omega
  · rw [e2, e3, e4]
    have := ha.v4
    have := hb.v4
    split <;> split <;> split <;> omega
  · rw [e2, e3, e5]
    have := ha.v5
    have := hb.v5
    split <;> split <;> split <;> omega
  · rw [e4, e5]
    have := ha.ser
    have := hb.ser
    split <;> split <;> omega
  · rw [e4, e5]
    split
    · rename_i h
      split
      · exact ord_le_trans (Int.le_of_lt h) ha.o
      · exact hb.o
    · split
      · exact ha.o
      · rename_i h1 h2
        exact ord_le_trans ha.o (ord_lt h2)
  · rw [e0, e1, e2, Int.add_mul]
    have h1 := ha.s1
    have h2 := hb.s1
    split
    · have := Int.mul_le_mul_of_nonneg_left (show b.f2 ≤ a.f2 by omega) (show 0 ≤ a.f0 by omega)
      omega
    · have := Int.mul_le_mul_of_nonneg_left (show a.f2 ≤ b.f2 by omega) (show 0 ≤ b.f0 by omega)
      omega
  · rw [e0, e1, e3, Int.add_mul]
    have h1 := ha.s2
    have h2 := hb.s2
    split
    · have := Int.mul_le_mul_of_nonneg_left (show a.f3 ≤ b.f3 by omega) (show 0 ≤ a.f0 by omega)
      omega
    · have := Int.mul_le_mul_of_nonneg_left (show b.f3 ≤ a.f3 by omega) (show 0 ≤ b.f0 by omega)
      omega
theorem May1.ok {bs : List Int} {a b : S28} (ha : May1 bs a) (hb : May1 bs b) : TwoOk a b := by
  have ca := ha.c
  have cb := hb.c
  have fa := amay_fit ha.amay
  have fb := amay_fit hb.amay
  have la := fa.s
  have lb := fb.s
  have h8 := bmay_len ha.bm
  have l1 := ha.len
  have l2 := hb.len
  refine ⟨by omega, by omega, by omega, by omega, by omega, by omega, fun i hi => ?_, fun i hi => ?_⟩
  · have := fa.h i hi
    omega
  · have := fb.h i (by omega)
    omega
end Go.Proofs.Ytggaefklcpbfnaa.My
