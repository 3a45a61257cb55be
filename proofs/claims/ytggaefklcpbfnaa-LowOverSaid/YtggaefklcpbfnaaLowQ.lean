/- What the laws on low have in common, in plain Lean: rows of items out of numbers, what is told of them. No statement of the seed is proved here. -/
import Derived.Test.YtggaefklcpbfnaaFoldP
import Derived.Test.YtggaefklcpbfnaaLowP
import Derived.Test.YtggaefklcpbfnaaPaLowValue
import Derived.Test.YtggaefklcpbfnaaPaItem2
namespace Go.Proofs.Ytggaefklcpbfnaa.My
open Go.RowKit Pa Go.Proofs.YtggaefklcpbfnaaW.PrintWords Go.Proofs.YtggaefklcpbfnaaW.PrintLast Go.Proofs.YtggaefklcpbfnaaW.PrintMore

/-- The value that a number stands for. -/
def lv (x : Int) : Int := Go.bits .and .i64 x 1023 - 500
theorem lv_b (x : Int) : -500 ≤ lv x ∧ lv x ≤ 523 := by
  obtain ⟨d1, d2⟩ : 0 ≤ Go.bits .and .i64 x 1023 ∧ Go.bits .and .i64 x 1023 ≤ 1023 := and_bound x 1023 (by decide)
  unfold lv
  omega
theorem lv_w (x : Int) : wrap64 ((Go.bits .and .i64 x 1023) - 500) = lv x := by
  obtain ⟨d1, d2⟩ : 0 ≤ Go.bits .and .i64 x 1023 ∧ Go.bits .and .i64 x 1023 ≤ 1023 := and_bound x 1023 (by decide)
  unfold wrap64 lv
  omega
theorem wsmall {x : Int} (h1 : -4611686018427387904 ≤ x) (h2 : x ≤ 4611686018427387904) : wrap64 x = x := by unfold wrap64; omega
/-- Items out of numbers. -/
def mkI (ft : Nat → Int) (l : List Int) (n : Nat) : List S26 := (List.range n).map (fun i => ⟨0, ft i, (i : Int) + 1, lv (l.getD i 0)⟩)
theorem mkI_succ (ft : Nat → Int) (l : List Int) (n : Nat) : mkI ft l (n + 1) = mkI ft l n ++ [⟨0, ft n, (n : Int) + 1, lv (l.getD n 0)⟩] := by
  unfold mkI
  rw [List.range_succ, List.map_append]
  rfl
theorem mkI_len (ft : Nat → Int) (l : List Int) (n : Nat) : (mkI ft l n).length = n := by unfold mkI; simp
theorem mkI_row {ft : Nat → Int} (hm : ∀ i j, i ≤ j → ft i ≤ ft j) (hb : ∀ i, i < 30 → 0 ≤ ft i ∧ ft i ≤ 30) (l : List Int) {n : Nat} (hn : n ≤ 30) : Row 0 (mkI ft l n) := by
  refine ⟨fun x hx => ?_, fun x hx => ?_, ?_, by rw [mkI_len]; omega⟩
  · unfold mkI at hx
    rw [List.mem_map] at hx
    obtain ⟨i, hi, rfl⟩ := hx
    rw [List.mem_range] at hi
    have := hb i (by omega)
    have := lv_b (l.getD i 0)
    unfold imay
    rw [decide_eq_true_eq]
    simp only
    omega
  · unfold mkI at hx
    rw [List.mem_map] at hx
    obtain ⟨i, hi, rfl⟩ := hx
    rfl
  · unfold mkI
    rw [List.pairwise_map]
    refine List.Pairwise.imp ?_ (List.pairwise_lt_range (n := n))
    intro i j hij
    have := hm i j (by omega)
    unfold ord
    simp only
    (repeat' split) <;> omega
theorem sameI_loop (l : List Int) (hl : l.length ≤ 4398046511104) : ∀ n i k, i + n = l.length → n < k → bournelaw0_SameInts.l0 k l l i = some true
  | 0, i, 0, _, hk => absurd hk (by omega)
  | 0, i, k + 1, h, _ => by
    unfold bournelaw0_SameInts.l0
    rw [if_neg (by omega)]
  | n + 1, i, 0, _, hk => absurd hk (by omega)
  | n + 1, i, k + 1, h, hk => by
    have ih := sameI_loop l hl n (i + 1) k (by omega) (by omega)
    unfold bournelaw0_SameInts.l0
    rw [if_pos (by omega), if_pos (by omega), if_pos (by omega), if_pos rfl, wrap_up (by omega), ih]
theorem sameI_f (l : List Int) (hl : l.length ≤ 4398046511104) {k : Nat} (hk : l.length < k) : bournelaw0_SameInts.f k l l = some true := by
  unfold bournelaw0_SameInts.f
  have h := sameI_loop l hl l.length 0 k (by omega) hk
  simp only [Int.natCast_zero] at h
  simp [h]
theorem sameOut_f (v : Int) (o : Bool) (l : List Int) (hl : l.length ≤ 4398046511104) {k : Nat} (hk : l.length < k) : bournelaw0_SameOut.f k v o l v o l = some true := by
  unfold bournelaw0_SameOut.f
  rw [sameI_f l hl hk]
  simp
theorem val_told {q : Qy} {bs : List Int} {a : S28} (h : valMay q bs a = true) : low_Value.f q.k q.agg q.size q.slide bs q.rank a.f0 a.f1 a.f2 a.f3 a.f4.f0 a.f4.f1 a.f4.f2 a.f4.f3 a.f5.f0 a.f5.f1 a.f5.f2 a.f5.f3 a.f6 = some ((lowOut q bs a).1, (lowOut q bs a).2.1, (lowOut q bs a).2.2, 0) := by
  unfold low_Value.f
  rw [show valRes ⟨q.k, q.agg, q.size, q.slide, q.rank⟩ bs ⟨a.f0, a.f1, a.f2, a.f3, ⟨a.f4.f0, a.f4.f1, a.f4.f2, a.f4.f3⟩, ⟨a.f5.f0, a.f5.f1, a.f5.f2, a.f5.f3⟩, a.f6⟩ = valRes q bs a from rfl]
  unfold valRes
  rw [h]
  rfl
theorem val_may {q : Qy} {bs : List Int} {xs : List S26} {a : S28} (h : Sp bs xs a) (h1 : 0 ≤ q.agg) (h2 : q.agg < 8) (h3 : 0 ≤ q.rank) (h4 : q.rank ≤ 1000) (h5 : q.agg = 7 → bs.length ≠ 0) : valMay q bs a = true := by
  have hc := h.may.c
  unfold valMay
  rw [decide_eq_true h1, decide_eq_true h2, decide_eq_true h3, decide_eq_true h4, h.may.amay, decide_eq_false (show ¬ a.f0 = 0 by omega)]
  by_cases h7 : q.agg = 7
  · rw [decide_eq_false (h5 h7)]
    simp
  · rw [decide_eq_false h7]
    rfl
theorem Sp.over {bs : List Int} {xs : List S26} {a : S28} (h : Sp bs xs a) (hn : xs.length ≤ 1000) : sumOver a.f1 = false := by
  have h1 := h.bound.s
  have h2 := h.c
  unfold sumOver
  rw [decide_eq_false (by omega), decide_eq_false (by omega)]
  rfl
end Go.Proofs.Ytggaefklcpbfnaa.My
