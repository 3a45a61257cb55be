/- The empty one turns nothing, in plain Lean. No statement of the seed is proved here. -/
import Derived.Test.YtggaefklcpbfnaaAccN
import Derived.Test.YtggaefklcpbfnaaAccH
namespace Go.Proofs.Ytggaefklcpbfnaa.My
open Go.RowKit Pa Go.Proofs.YtggaefklcpbfnaaW.PrintWords
set_option linter.unusedSimpArgs false

theorem nok_zero : nok 0 = true := by decide
theorem sum_zeros (n : Nat) : (List.replicate n (0 : Int)).sum = 0 := by
  induction n with
  | zero => rfl
  | succ n ih => rw [List.replicate_succ, List.sum_cons, ih]; rfl
theorem amay_zero {bs : List Int} (hb : bmay bs = true) : amay (join0 bs) bs = true := by
  have hh : hmay (List.replicate (bs.length + 1) 0) bs.length 0 = true := by
    unfold hmay
    rw [sum_zeros]
    simp [nok_zero]
  unfold amay
  show (bmay bs && (decide ((List.replicate (bs.length + 1) (0 : Int)).length ≤ bs.length + 1) && (hmay (List.replicate (bs.length + 1) 0) bs.length 0 && (decide ((0 : Int) ≤ 0) && (decide ((0 : Int) ≤ 8192) && (if (0 : Int) = 0 then bareB (join0 bs) else _)))))) = true
  rw [hb, hh, if_pos rfl]
  simp [bareB, join0, isz, z26]
theorem join_none {bs : List Int} (hb : bmay bs = true) : joinRes bs [] = (join0 bs, 0) := by
  unfold joinRes
  rw [if_pos (show allm bs (-1) [] = true from hb), if_neg (show ¬ 8192 < cnt [] from by decide)]
  rfl
theorem step_zero (o : S28) (bs : List Int) : stepA o (join0 bs) = o := by
  unfold stepA
  exact if_neg (show ¬ (0 : Int) < 0 by decide)
theorem hadd_zeros : ∀ (l : List Int), hadd (List.replicate l.length 0) l = l
  | [] => rfl
  | x :: r => by
    have ih := hadd_zeros r
    unfold hadd at ih ⊢
    rw [List.length_cons, List.replicate_succ, List.zipWith_cons_cons, ih, Int.zero_add]
theorem zero_step {a : S28} {bs : List Int} (ha : May1 bs a) : stepA (join0 bs) a = a := by
  have h0 := ha.c
  have hl := ha.len
  have hh : hadd (List.replicate (bs.length + 1) 0) a.f6 = a.f6 := by rw [← hl]; exact hadd_zeros _
  unfold stepA
  rw [if_pos (by omega)]
  obtain ⟨a0, a1, a2, a3, a4, a5, a6⟩ := a
  unfold addA fst_ add3 add4 add5 add6 join0
  simp only [ord_self] at *
  simp [hh]
theorem allm_zero {bs : List Int} (hb : bmay bs = true) (f : Int) (r : List S28) : allm bs f (join0 bs :: r) = allm bs f r := by
  rw [allm, if_pos (amay_zero hb)]
  exact if_neg (show ¬ (0 : Int) < 0 by decide)
theorem allm_one {bs : List Int} {a : S28} (ha : May1 bs a) (r : List S28) : allm bs (-1) (a :: r) = allm bs a.f4.f0 r := by
  rw [allm, if_pos ha.amay, if_pos (by have := ha.c; omega), if_neg (by omega)]
/-- One of four, the others empty. -/
def four (bs : List Int) (a : S28) (j : Nat) : List S28 := [join0 bs, join0 bs, join0 bs, join0 bs].set j a
theorem join_four {bs : List Int} {a : S28} (ha : May1 bs a) {j : Nat} (hj : j < 4) : joinRes bs (four bs a j) = (a, 0) := by
  have hb := ha.bm
  have hc := ha.c
  have hm : allm bs (-1) (four bs a j) = true := by
    unfold four
    match j, hj with
    | 0, _ => simp only [List.set_cons_zero, allm_one ha, allm_zero hb]; exact hb
    | 1, _ => simp only [List.set_cons_succ, List.set_cons_zero, allm_one ha, allm_zero hb]; exact hb
    | 2, _ => simp only [List.set_cons_succ, List.set_cons_zero, allm_one ha, allm_zero hb]; exact hb
    | 3, _ => simp only [List.set_cons_succ, List.set_cons_zero, allm_one ha, allm_zero hb]; exact hb
  have hn : cnt (four bs a j) = a.f0 := by
    unfold four cnt
    match j, hj with
    | 0, _ => simp [join0]
    | 1, _ => simp [join0]
    | 2, _ => simp [join0]
    | 3, _ => simp [join0]
  have hA : joinA bs (four bs a j) = a := by
    unfold four joinA
    match j, hj with
    | 0, _ => simp only [List.set_cons_zero, List.foldl_cons, List.foldl_nil, zero_step ha, step_zero]
    | 1, _ => simp only [List.set_cons_succ, List.set_cons_zero, List.foldl_cons, List.foldl_nil, step_zero, zero_step ha]
    | 2, _ => simp only [List.set_cons_succ, List.set_cons_zero, List.foldl_cons, List.foldl_nil, step_zero, zero_step ha]
    | 3, _ => simp only [List.set_cons_succ, List.set_cons_zero, List.foldl_cons, List.foldl_nil, step_zero, zero_step ha]
  unfold joinRes
  rw [if_pos hm, hn, if_neg (by omega), hA]
theorem join_two0 {bs : List Int} (hb : bmay bs = true) : joinRes bs [join0 bs, join0 bs] = (join0 bs, 0) := by
  have hm : allm bs (-1) [join0 bs, join0 bs] = true := by rw [allm_zero hb, allm_zero hb]; exact hb
  unfold joinRes
  rw [if_pos hm, if_neg (show ¬ 8192 < cnt [join0 bs, join0 bs] from by simp [cnt, join0])]
  unfold joinA
  simp only [List.foldl_cons, List.foldl_nil, step_zero]
end Go.Proofs.Ytggaefklcpbfnaa.My
