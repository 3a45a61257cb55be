/- At or below what a rank tells lie at least so many, at or below the bound ahead fewer: in plain Lean. -/
import Derived.Test.YtggaefklcpbfnaaPaBournelaw2LowRanks
import Derived.Test.YtggaefklcpbfnaaLowR
namespace Go.Proofs.Ytggaefklcpbfnaa.Pure
open Go.RowKit Go.Proofs.Ytggaefklcpbfnaa.Pa Go.Proofs.Ytggaefklcpbfnaa.My Go.Proofs.YtggaefklcpbfnaaW.PrintWords Go.Proofs.YtggaefklcpbfnaaW.PrintLast Go.Proofs.YtggaefklcpbfnaaW.PrintMore

theorem take_cnt {xs : List S26} {i : Nat} (hi : i < xs.length) (v : Int) : cntLe (xs.take (i + 1)) v = cntLe (xs.take i) v + if (rd_T26 xs (i : Int)).f3 ≤ v then 1 else 0 := by
  have e : rd_T26 xs (i : Int) = xs[i] := by
    unfold rd_T26
    rw [List.getD_eq_getElem?_getD, Int.toNat_natCast, List.getElem?_eq_getElem hi]
    rfl
  rw [List.take_succ_eq_append_getElem hi, cntLe_snoc, e]
theorem Ranks_count {xs : List S26} (hn : xs.length ≤ 30) {r o ah : Int} (r0 : 0 ≤ r) (r1 : r ≤ 1000) (h1 : 1 ≤ cntLe xs o) (h2 : r * xs.length ≤ 1000 * cntLe xs o) (h3 : 1000 * cntLe xs ah < r * xs.length ∨ cntLe xs ah = 0) :
    ∀ (d i k : Nat), i + d = xs.length → d < k → bournelaw2_LowRanks.l2 k xs r ah (cntLe (xs.take i) o) (cntLe (xs.take i) ah) i o false [] = some true
  | d, i, 0, _, hk => absurd hk (by omega)
  | 0, i, k + 1, h, _ => by
    have b1 := cntLe_bound xs o
    have b2 := cntLe_bound xs ah
    have e0 : r * (xs.length : Int) ≤ 1000 * xs.length := Int.mul_le_mul_of_nonneg_right r1 (by omega)
    have e1 : 0 ≤ r * (xs.length : Int) := Int.mul_nonneg r0 (by omega)
    rw [bournelaw2_LowRanks.l2, if_neg (by omega), List.take_of_length_le (by omega)]
    have w1 : wrap64 (cntLe xs o * 1000) = cntLe xs o * 1000 := wsmall (by omega) (by omega)
    have w2 : wrap64 (cntLe xs ah * 1000) = cntLe xs ah * 1000 := wsmall (by omega) (by omega)
    have w3 : wrap64 (r * (xs.length : Int)) = r * (xs.length : Int) := wsmall (by omega) (by omega)
    rw [w1, w2, w3]
    clear w1 w2 w3
    rw [if_pos (by omega), if_pos (by omega)]
    by_cases h4 : cntLe xs ah * 1000 < r * (xs.length : Int)
    · rw [if_pos h4]
    · rw [if_neg h4]
      have h5 : cntLe xs ah = 0 := by omega
      rw [h5]
      rfl
  | d + 1, i, k + 1, h, hk => by
    have ih := Ranks_count hn r0 r1 h1 h2 h3 d (i + 1) k (by omega) (by omega)
    have hi : i < xs.length := by omega
    have b1 := cntLe_bound (xs.take i) o
    have b2 := cntLe_bound (xs.take i) ah
    have hl : (xs.take i).length ≤ 30 := by rw [List.length_take]; omega
    rw [bournelaw2_LowRanks.l2, if_pos (by omega), if_pos (by omega)]
    have w1 : wrap64 (cntLe (xs.take i) o + 1) = cntLe (xs.take i) o + 1 := wsmall (by omega) (by omega)
    have w2 : wrap64 (cntLe (xs.take i) ah + 1) = cntLe (xs.take i) ah + 1 := wsmall (by omega) (by omega)
    have w3 : wrap64 ((i : Int) + 1) = ((i + 1 : Nat) : Int) := by rw [wsmall (by omega) (by omega)]; rfl
    rw [w1, w2, w3]
    rw [take_cnt hi, take_cnt hi] at ih
    by_cases c1 : (rd_T26 xs (i : Int)).f3 ≤ o
    · rw [if_pos c1] at ih ⊢
      by_cases c2 : (rd_T26 xs (i : Int)).f3 ≤ ah
      · rw [if_pos c2] at ih ⊢
        exact ih
      · rw [if_neg c2, Int.add_zero] at ih
        rw [if_neg c2]
        exact ih
    · rw [if_neg c1, Int.add_zero] at ih
      rw [if_neg c1]
      by_cases c2 : (rd_T26 xs (i : Int)).f3 ≤ ah
      · rw [if_pos c2] at ih ⊢
        exact ih
      · rw [if_neg c2, Int.add_zero] at ih
        rw [if_neg c2]
        exact ih
/-- The bound ahead. -/
def ahead (v : Int) : Int := if 200 < v then 200 else if 50 < v then 50 else if 0 < v then 0 else if -100 < v then -100 else -1099511627776
theorem Ranks_ahead (xs : List S26) (r v : Int) {k : Nat} (hk : 4 < k) (h : ∀ j, k - 5 ≤ j → bournelaw2_LowRanks.l2 j xs r (ahead v) 0 0 0 v false [] = some true) : bournelaw2_LowRanks.l1 k bs4 xs r (-1099511627776) 0 v false [] = some true := by
  obtain ⟨j, rfl⟩ : ∃ j, k = j + 1 + 1 + 1 + 1 + 1 := ⟨k - 5, by omega⟩
  have hj := h j (by omega)
  have hl : ((bs4 : List Int).length : Int) = 4 := rfl
  have u1 : wrap64 (0 + 1) = 1 := by unfold wrap64; rfl
  have u2 : wrap64 (1 + 1) = 2 := by unfold wrap64; rfl
  have u3 : wrap64 (2 + 1) = 3 := by unfold wrap64; rfl
  have u4 : wrap64 (3 + 1) = 4 := by unfold wrap64; rfl
  have r0 : rd bs4 0 = -100 := rfl
  have r1 : rd bs4 1 = 0 := rfl
  have r2 : rd bs4 2 = 50 := rfl
  have r3 : rd bs4 3 = 200 := rfl
  unfold ahead at hj
  by_cases c1 : -100 < v
  · rw [if_pos c1] at hj
    rw [bournelaw2_LowRanks.l1, hl, if_pos (by decide), if_pos (by decide), r0, if_pos c1, u1]
    by_cases c2 : 0 < v
    · rw [if_pos c2] at hj
      rw [bournelaw2_LowRanks.l1, hl, if_pos (by decide), if_pos (by decide), r1, if_pos c2, u2]
      by_cases c3 : 50 < v
      · rw [if_pos c3] at hj
        rw [bournelaw2_LowRanks.l1, hl, if_pos (by decide), if_pos (by decide), r2, if_pos c3, u3]
        by_cases c4 : 200 < v
        · rw [if_pos c4] at hj
          rw [bournelaw2_LowRanks.l1, hl, if_pos (by decide), if_pos (by decide), r3, if_pos c4, u4, bournelaw2_LowRanks.l1, hl, if_neg (by decide)]
          exact hj
        · rw [if_neg c4] at hj
          rw [bournelaw2_LowRanks.l1, hl, if_pos (by decide), if_pos (by decide), r3, if_neg c4, u4, bournelaw2_LowRanks.l1, hl, if_neg (by decide)]
          exact hj
      · rw [if_neg (show ¬ 200 < v by omega), if_neg c3] at hj
        rw [bournelaw2_LowRanks.l1, hl, if_pos (by decide), if_pos (by decide), r2, if_neg c3, u3, bournelaw2_LowRanks.l1, hl, if_pos (by decide), if_pos (by decide), r3, if_neg (by omega), u4, bournelaw2_LowRanks.l1, hl, if_neg (by decide)]
        exact hj
    · rw [if_neg (show ¬ 200 < v by omega), if_neg (show ¬ 50 < v by omega), if_neg c2] at hj
      rw [bournelaw2_LowRanks.l1, hl, if_pos (by decide), if_pos (by decide), r1, if_neg c2, u2, bournelaw2_LowRanks.l1, hl, if_pos (by decide), if_pos (by decide), r2, if_neg (by omega), u3, bournelaw2_LowRanks.l1, hl, if_pos (by decide), if_pos (by decide), r3, if_neg (by omega), u4, bournelaw2_LowRanks.l1, hl, if_neg (by decide)]
      exact hj
  · rw [if_neg (show ¬ 200 < v by omega), if_neg (show ¬ 50 < v by omega), if_neg (show ¬ 0 < v by omega), if_neg c1] at hj
    rw [bournelaw2_LowRanks.l1, hl, if_pos (by decide), if_pos (by decide), r0, if_neg c1, u1, bournelaw2_LowRanks.l1, hl, if_pos (by decide), if_pos (by decide), r1, if_neg (by omega), u2, bournelaw2_LowRanks.l1, hl, if_pos (by decide), if_pos (by decide), r2, if_neg (by omega), u3, bournelaw2_LowRanks.l1, hl, if_pos (by decide), if_pos (by decide), r3, if_neg (by omega), u4, bournelaw2_LowRanks.l1, hl, if_neg (by decide)]
    exact hj
theorem Ranks_end {xs : List S26} (hr : Row 0 xs) (h30 : xs.length ≤ 30) (hv : ∀ x ∈ xs, -500 ≤ x.f3) (x1 : Int) {k : Nat} (hk : 80 < k) : bournelaw2_LowRanks.j1 k x1 bs4 xs = some true := by
  obtain ⟨k, rfl⟩ : ∃ j, k = j + 1 + 1 := ⟨k - 2, by omega⟩
  rw [bournelaw2_LowRanks.j1]
  by_cases h0 : (xs.length : Int) = 0
  · rw [if_pos h0]
  · rw [if_neg h0]
    have hne : xs ≠ [] := fun e => h0 (by rw [e]; rfl)
    have hsp := sp_fold bs4_may rfl hr hne
    rw [fold_told bs4_may hr (show xs.length < k + 1 by omega)]
    obtain ⟨r, er, r0, r1⟩ := mod1001 x1
    rw [er]
    generalize foldA bs4 xs = a at *
    simp only [Option.bind_some, flat28]
    have hc := hsp.c
    obtain ⟨k1, k2, k3, k4⟩ := rankK_b r0 r1 (show 1 ≤ a.f0 by omega)
    rw [ask7 hsp r0 r1]
    simp only [Option.bind_some]
    rw [show bournelaw0_Num.f 0 = some 0 from rfl, Option.bind_some, if_pos rfl, if_neg (by decide), show ((([] : List Int).length : Int) != 0) = false from rfl, bournelaw2_LowRanks.j2, if_neg (by decide), rank4 hsp]
    generalize rankK r a.f0 = K at *
    rw [hc] at k2 k3 k4
    have b1 := cntLe_bound xs (-100)
    have b2 := cntLe_bound xs 0
    have b3 := cntLe_bound xs 50
    have b4 := cntLe_bound xs 200
    have hz : cntLe xs (-1099511627776) = 0 := cntLe_none (fun x hx => by have := hv x hx; omega)
    have hall : cntLe xs a.f3 = xs.length := cntLe_all hsp.m1
    have key : ∀ v : Int, K ≤ cntLe xs v → cntLe xs (ahead v) < K → bournelaw2_LowRanks.l1 k bs4 xs r (-1099511627776) 0 v false [] = some true := fun v g1 g2 => by
      refine Ranks_ahead xs r v (by omega) (fun j hj => ?_)
      have bb := cntLe_bound xs (ahead v)
      have := Ranks_count h30 r0 r1 (o := v) (ah := ahead v) (by omega) (by omega) (by omega) xs.length 0 j (by omega) (by omega)
      rw [List.take_zero] at this
      exact this
    by_cases g1 : K ≤ cntLe xs (-100)
    · rw [if_pos g1]
      refine key _ g1 ?_
      rw [show ahead (-100) = -1099511627776 from rfl, hz]
      omega
    · rw [if_neg g1]
      by_cases g2 : K ≤ cntLe xs 0
      · rw [if_pos g2]
        exact key _ g2 (by rw [show ahead 0 = -100 from rfl]; omega)
      · rw [if_neg g2]
        by_cases g3 : K ≤ cntLe xs 50
        · rw [if_pos g3]
          exact key _ g3 (by rw [show ahead 50 = 0 from rfl]; omega)
        · rw [if_neg g3]
          by_cases g4 : K ≤ cntLe xs 200
          · rw [if_pos g4]
            exact key _ g4 (by rw [show ahead 200 = 50 from rfl]; omega)
          · rw [if_neg g4]
            obtain ⟨x, hx, hx2⟩ := cntLe_lt (xs := xs) (v := 200) (by omega)
            have hm := hsp.m1 x hx
            refine key _ (by omega) ?_
            rw [show ahead a.f3 = 200 by unfold ahead; rw [if_pos (by omega)]]
            omega
theorem mkI_v (ft : Nat → Int) (l : List Int) (n : Nat) : ∀ x ∈ mkI ft l n, -500 ≤ x.f3 := fun x hx => by
  unfold mkI at hx
  rw [List.mem_map] at hx
  obtain ⟨i, hi, rfl⟩ := hx
  exact (lv_b _).1
theorem Ranks_loop (l : List Int) (x1 : Int) (hl : l.length ≤ 9223372036854775807) : ∀ (d i k : Nat), i + d = min l.length 30 → d + 200 < k → ∀ m : Int, bournelaw2_LowRanks.l0 k l x1 bs4 (mkI tid l i) m i = some true
  | d, i, 0, _, hk, _ => absurd hk (by omega)
  | 0, i, k + 1, h, hk, m => by
    have hend := Ranks_end (mkI_row tid_mono tid_b l (n := i) (by omega)) (by rw [mkI_len]; omega) (mkI_v _ _ _) x1 (k := k) (by omega)
    rw [bournelaw2_LowRanks.l0]
    by_cases h1 : (i : Int) < l.length
    · rw [if_pos h1, if_neg (by omega)]
      exact hend
    · rw [if_neg h1]
      exact hend
  | d + 1, i, k + 1, h, hk, m => by
    have hrd : rd l (i : Int) = l.getD i 0 := by simp [rd]
    have ih := fun m => Ranks_loop l x1 hl d (i + 1) k (by omega) (by omega) m
    rw [bournelaw2_LowRanks.l0, if_pos (by omega), if_pos (by omega), if_pos (by omega), hrd, lv_w]
    unfold bournelaw2_item.f
    simp only [Option.bind_some]
    rw [mkI_len, if_pos (by omega)]
    rw [mkI_succ] at ih
    rw [show wrap64 ((i : Int) + 1) = (i : Int) + 1 from wsmall (by omega) (by omega)]
    exact ih _
theorem LowRanks : bournelaw2_LowRanks.Pure := by
  intro l x1 hl _ _ _
  refine ⟨300, ?_⟩
  unfold bournelaw2_LowRanks.f
  rw [show bournelaw2_awake.f = some true from rfl, Option.bind_some, if_pos rfl]
  exact Ranks_loop l x1 (by unfold maxLen at hl; exact hl) (min l.length 30) 0 300 (by omega) (by omega) _
end Go.Proofs.Ytggaefklcpbfnaa.Pure
