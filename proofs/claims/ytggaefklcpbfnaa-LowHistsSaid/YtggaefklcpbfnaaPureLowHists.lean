/- All buckets together are the count, and a greater rank never tells less: in plain Lean. -/
import Derived.Test.YtggaefklcpbfnaaPaBournelaw2LowHists
import Derived.Test.YtggaefklcpbfnaaLowR
namespace Go.Proofs.Ytggaefklcpbfnaa.Pure
open Go.RowKit Go.Proofs.Ytggaefklcpbfnaa.Pa Go.Proofs.Ytggaefklcpbfnaa.My Go.Proofs.YtggaefklcpbfnaaW.PrintWords Go.Proofs.YtggaefklcpbfnaaW.PrintLast Go.Proofs.YtggaefklcpbfnaaW.PrintMore

theorem rank_le {xs : List S26} {a : S28} (h : Sp bs4 xs a) {k m : Int} (hk : k ≤ m) (hm : m ≤ a.f0) : rankGo a.f6 bs4 a.f3 4 0 k ≤ rankGo a.f6 bs4 a.f3 4 0 m := by
  rw [rank4 h, rank4 h]
  have hc := h.c
  have hx : ¬ m ≤ cntLe xs 200 → 200 < a.f3 := fun hn => by
    obtain ⟨x, hx, h1⟩ := cntLe_lt (xs := xs) (v := 200) (by omega)
    have := h.m1 x hx
    omega
  (repeat' split) <;> omega
theorem sum5 {l : List Int} (h : l.length = 5) : ∃ a b c d e, l = [a, b, c, d, e] := by
  match l, h with
  | [a, b, c, d, e], _ => exact ⟨a, b, c, d, e, rfl⟩
theorem Hists_end {xs : List S26} (hr : Row 0 xs) (h30 : xs.length ≤ 30) (x1 x2 : Int) {k : Nat} (hk : 60 < k) : bournelaw2_LowHists.j1 k x1 x2 bs4 xs = some true := by
  obtain ⟨k, rfl⟩ : ∃ j, k = j + 1 := ⟨k - 1, by omega⟩
  rw [bournelaw2_LowHists.j1]
  by_cases h0 : (xs.length : Int) = 0
  · rw [if_pos h0]
  · rw [if_neg h0]
    have hne : xs ≠ [] := fun e => h0 (by rw [e]; rfl)
    have hsp := sp_fold bs4_may rfl hr hne
    rw [fold_told bs4_may hr (show xs.length < k by omega)]
    obtain ⟨r, er, r0, r1⟩ := mod1001 x1
    obtain ⟨s, es, s0, s1⟩ := mod1001 x2
    rw [er, es]
    generalize foldA bs4 xs = a at *
    simp only [Option.bind_some, flat28]
    have m0 : 0 ≤ mn r s ∧ mn r s ≤ 1000 := by unfold mn; split <;> omega
    have M0 : 0 ≤ mx r s ∧ mx r s ≤ 1000 := by unfold mx; split <;> omega
    have mM : mn r s ≤ mx r s := by unfold mn mx; split <;> split <;> omega
    have hc := hsp.c
    have hk1 := rankK_b M0.1 M0.2 (show 1 ≤ a.f0 by omega)
    have hle := rank_le hsp (rankK_mono mM (show 0 ≤ a.f0 by omega)) hk1.2.1
    rw [ask6 hsp, ask7 hsp m0.1 m0.2, ask7 hsp M0.1 M0.2]
    simp only [Option.bind_some]
    have hsum := hsp.may.hs
    have hnn := hsp.may.hn
    obtain ⟨p0, p1, p2, p3, p4, e5⟩ := sum5 hsp.may.len
    generalize rankGo a.f6 bs4 a.f3 4 0 (rankK (mn r s) a.f0) = P at *
    generalize rankGo a.f6 bs4 a.f3 4 0 (rankK (mx r s) a.f0) = Q at *
    rw [e5] at hsum hnn ⊢
    have q0 := hnn p0 (by simp)
    have q1 := hnn p1 (by simp)
    have q2 := hnn p2 (by simp)
    have q3 := hnn p3 (by simp)
    have q4 := hnn p4 (by simp)
    simp only [List.sum_cons, List.sum_nil] at hsum
    obtain ⟨j, rfl⟩ : ∃ j, k = j + 1 + 1 + 1 + 1 + 1 + 1 := ⟨k - 6, by omega⟩
    have hl : (([p0, p1, p2, p3, p4] : List Int).length : Int) = 5 := rfl
    have v1 : wrap64 (0 + p0) = p0 := by rw [Int.zero_add]; exact wsmall (by omega) (by omega)
    have v2 : wrap64 (p0 + p1) = p0 + p1 := wsmall (by omega) (by omega)
    have v3 : wrap64 (p0 + p1 + p2) = p0 + p1 + p2 := wsmall (by omega) (by omega)
    have v4 : wrap64 (p0 + p1 + p2 + p3) = p0 + p1 + p2 + p3 := wsmall (by omega) (by omega)
    have v5 : wrap64 (p0 + p1 + p2 + p3 + p4) = p0 + p1 + p2 + p3 + p4 := wsmall (by omega) (by omega)
    have n0 : bournelaw0_Num.f 0 = some 0 := rfl
    have u1 : wrap64 (0 + 1) = 1 := by unfold wrap64; rfl
    have u2 : wrap64 (1 + 1) = 2 := by unfold wrap64; rfl
    have u3 : wrap64 (2 + 1) = 3 := by unfold wrap64; rfl
    have u4 : wrap64 (3 + 1) = 4 := by unfold wrap64; rfl
    have u5 : wrap64 (4 + 1) = 5 := by unfold wrap64; rfl
    rw [bournelaw2_LowHists.l1, hl, if_pos (by decide), if_pos (by decide), show rd [p0, p1, p2, p3, p4] 0 = p0 from rfl, v1, u1]
    rw [bournelaw2_LowHists.l1, hl, if_pos (by decide), if_pos (by decide), show rd [p0, p1, p2, p3, p4] 1 = p1 from rfl, v2, u2]
    rw [bournelaw2_LowHists.l1, hl, if_pos (by decide), if_pos (by decide), show rd [p0, p1, p2, p3, p4] 2 = p2 from rfl, v3, u3]
    rw [bournelaw2_LowHists.l1, hl, if_pos (by decide), if_pos (by decide), show rd [p0, p1, p2, p3, p4] 3 = p3 from rfl, v4, u4]
    rw [bournelaw2_LowHists.l1, hl, if_pos (by decide), if_pos (by decide), show rd [p0, p1, p2, p3, p4] 4 = p4 from rfl, v5, u5]
    rw [bournelaw2_LowHists.l1, hl, if_neg (by decide), n0]
    have hfin : p0 + p1 + p2 + p3 + p4 = (xs.length : Int) := by omega
    simp only [Option.bind_some, if_true]
    rw [if_pos hfin, decide_eq_true hle]
theorem Hists_loop (l : List Int) (x1 x2 : Int) (hl : l.length ≤ 9223372036854775807) : ∀ (d i k : Nat), i + d = min l.length 30 → d + 100 < k → bournelaw2_LowHists.l0 k l x1 x2 bs4 (mkI tid l i) i = some true
  | d, i, 0, _, hk => absurd hk (by omega)
  | 0, i, k + 1, h, hk => by
    have hend := Hists_end (mkI_row tid_mono tid_b l (n := i) (by omega)) (by rw [mkI_len]; omega) x1 x2 (k := k) (by omega)
    rw [bournelaw2_LowHists.l0]
    by_cases h1 : (i : Int) < l.length
    · rw [if_pos h1, if_neg (by omega)]
      exact hend
    · rw [if_neg h1]
      exact hend
  | d + 1, i, k + 1, h, hk => by
    have hrd : rd l (i : Int) = l.getD i 0 := by simp [rd]
    have ih := Hists_loop l x1 x2 hl d (i + 1) k (by omega) (by omega)
    rw [bournelaw2_LowHists.l0, if_pos (by omega), if_pos (by omega), if_pos (by omega), hrd, lv_w]
    unfold bournelaw2_item.f
    simp only [Option.bind_some]
    rw [mkI_len, if_pos (by omega)]
    rw [mkI_succ] at ih
    rw [show wrap64 ((i : Int) + 1) = (i : Int) + 1 from wsmall (by omega) (by omega)]
    exact ih
theorem LowHists : bournelaw2_LowHists.Pure := by
  intro l x1 x2 hl _ _ _ _
  refine ⟨200, ?_⟩
  unfold bournelaw2_LowHists.f
  rw [show bournelaw2_awake.f = some true from rfl, Option.bind_some, if_pos rfl]
  exact Hists_loop l x1 x2 (by unfold maxLen at hl; exact hl) (min l.length 30) 0 200 (by omega) (by omega)
end Go.Proofs.Ytggaefklcpbfnaa.Pure
