/- Of any values each aggregate that is told is what a plain walk makes of them: in plain Lean. -/
import Derived.Test.YtggaefklcpbfnaaPaBournelaw2LowPlain
import Derived.Test.YtggaefklcpbfnaaLowQ
namespace Go.Proofs.Ytggaefklcpbfnaa.Pure
open Go.RowKit Go.Proofs.Ytggaefklcpbfnaa.Pa Go.Proofs.Ytggaefklcpbfnaa.My Go.Proofs.YtggaefklcpbfnaaW.PrintWords Go.Proofs.YtggaefklcpbfnaaW.PrintLast Go.Proofs.YtggaefklcpbfnaaW.PrintMore

def tm (i : Nat) : Int := ((i / 2 : Nat) : Int)
theorem tm_mono : ∀ i j, i ≤ j → tm i ≤ tm j := fun i j h => by unfold tm; omega
theorem tm_b : ∀ i, i < 30 → 0 ≤ tm i ∧ tm i ≤ 30 := fun i h => by unfold tm; omega
/-- What the walk knows so far. -/
structure St (xs : List S26) (s m M : Int) : Prop where
  s : s = (xs.map (·.f3)).sum
  m1 : ∀ x ∈ xs, m ≤ x.f3
  m2 : (xs = [] ∧ m = 1099511627776) ∨ ∃ x ∈ xs, x.f3 = m
  M1 : ∀ x ∈ xs, x.f3 ≤ M
  M2 : (xs = [] ∧ M = -1099511627776) ∨ ∃ x ∈ xs, x.f3 = M
theorem St.snoc {xs : List S26} {s m M : Int} (h : St xs s m M) (x : S26) (h1 : -1099511627776 < x.f3) (h2 : x.f3 < 1099511627776) : St (xs ++ [x]) (s + x.f3) (mn m x.f3) (mx M x.f3) := by
  refine ⟨by rw [h.s, List.map_append, List.sum_append]; simp, ?_, .inr ?_, ?_, .inr ?_⟩
  · intro y hy
    unfold mn
    rcases List.mem_append.1 hy with hy | hy
    · have := h.m1 y hy
      split <;> omega
    · rw [List.mem_singleton] at hy
      subst hy
      split <;> omega
  · unfold mn
    split
    · exact ⟨x, by simp, rfl⟩
    · rcases h.m2 with ⟨_, e⟩ | ⟨y, hy, e⟩
      · omega
      · exact ⟨y, by simp [hy], e⟩
  · intro y hy
    unfold mx
    rcases List.mem_append.1 hy with hy | hy
    · have := h.M1 y hy
      split <;> omega
    · rw [List.mem_singleton] at hy
      subst hy
      split <;> omega
  · unfold mx
    split
    · exact ⟨x, by simp, rfl⟩
    · rcases h.M2 with ⟨_, e⟩ | ⟨y, hy, e⟩
      · omega
      · exact ⟨y, by simp [hy], e⟩
theorem ask {xs : List S26} {a : S28} (h : Sp [] xs a) (i : Int) (h0 : 0 ≤ i) (h6 : i < 6) : low_Value.f 0 i 0 0 [] 0 a.f0 a.f1 a.f2 a.f3 a.f4.f0 a.f4.f1 a.f4.f2 a.f4.f3 a.f5.f0 a.f5.f1 a.f5.f2 a.f5.f3 a.f6 = some ((lowOut ⟨0, i, 0, 0, 0⟩ [] a).1, (lowOut ⟨0, i, 0, 0, 0⟩ [] a).2.1, (lowOut ⟨0, i, 0, 0, 0⟩ [] a).2.2, 0) :=
  val_told (q := ⟨0, i, 0, 0, 0⟩) (val_may h h0 (by simp only; omega) (by simp only; omega) (by simp only; omega) (fun e => absurd e (by simp only; omega)))
theorem LowPlain_end {xs : List S26} (hr : Row 0 xs) (h30 : xs.length ≤ 30) {s m M : Int} (hst : St xs s m M) {k : Nat} (hk : 60 < k) : bournelaw2_LowPlain.j1 k xs s m M = some true := by
  obtain ⟨k, rfl⟩ : ∃ j, k = j + 1 := ⟨k - 1, by omega⟩
  rw [bournelaw2_LowPlain.j1]
  by_cases h0 : (xs.length : Int) = 0
  · rw [if_pos h0]
  · rw [if_neg h0]
    have hne : xs ≠ [] := fun e => h0 (by rw [e]; rfl)
    have hsp := sp_fold (bs := []) (by decide) rfl hr hne
    rw [fold_told (bs := []) (by decide) hr (show xs.length < k by omega)]
    simp only [Option.bind_some]
    have e : wrap64 ((xs.length : Int) - 1) = ((xs.length - 1 : Nat) : Int) := by unfold wrap64; omega
    rw [e, if_pos (by omega), if_pos (by omega), if_pos (by omega)]
    have e0 : (rd_T26 xs 0) = (foldA [] xs).f4 := by
      have := hsp.f
      rw [List.head?_eq_getElem?] at this
      show xs.getD 0 z26 = _
      rw [List.getD_eq_getElem?_getD, this]
      rfl
    have e1 : (rd_T26 xs ((xs.length - 1 : Nat) : Int)) = (foldA [] xs).f5 := by
      have := hsp.l
      rw [List.getLast?_eq_getElem?] at this
      show xs.getD _ z26 = _
      rw [List.getD_eq_getElem?_getD, Int.toNat_natCast, this]
      rfl
    rw [e0, e1]
    have hm : (foldA [] xs).f2 = m := by
      obtain ⟨y, hy, e2⟩ := hsp.n2
      have := hst.m1 y hy
      rcases hst.m2 with ⟨e3, _⟩ | ⟨z, hz, e3⟩
      · exact absurd e3 hne
      · have := hsp.n1 z hz
        omega
    have hM : (foldA [] xs).f3 = M := by
      obtain ⟨y, hy, e2⟩ := hsp.m2
      have := hst.M1 y hy
      rcases hst.M2 with ⟨e3, _⟩ | ⟨z, hz, e3⟩
      · exact absurd e3 hne
      · have := hsp.m1 z hz
        omega
    have hs : (foldA [] xs).f1 = s := by rw [hsp.s, hst.s]
    have hov := hsp.over (by omega)
    generalize foldA [] xs = a at *
    rw [← hsp.c, ← hs, ← hm, ← hM]
    simp only [flat28]
    have hsame : ∀ (v : Int) (j : Nat), bournelaw0_SameOut.f (j + 1) v false [] v false [] = some true := fun v j => sameOut_f v false [] (by simp) (by simp)
    obtain ⟨j, rfl⟩ : ∃ j, k = j + 1 + 1 + 1 + 1 + 1 + 1 + 1 + 1 := ⟨k - 8, by omega⟩
    have a0 := ask hsp 0 (by decide) (by decide)
    have a1 := ask hsp 1 (by decide) (by decide)
    have a2 := ask hsp 2 (by decide) (by decide)
    have a3 := ask hsp 3 (by decide) (by decide)
    have a4 := ask hsp 4 (by decide) (by decide)
    have a5 := ask hsp 5 (by decide) (by decide)
    rw [show (lowOut ⟨0, 0, 0, 0, 0⟩ [] a) = (a.f0, false, []) from rfl] at a0
    rw [show (lowOut ⟨0, 1, 0, 0, 0⟩ [] a) = (a.f1, false, []) by show (sumVal a.f1, sumOver a.f1, _) = _; unfold sumVal; rw [hov]; rfl] at a1
    rw [show (lowOut ⟨0, 2, 0, 0, 0⟩ [] a) = (a.f2, false, []) from rfl] at a2
    rw [show (lowOut ⟨0, 3, 0, 0, 0⟩ [] a) = (a.f3, false, []) from rfl] at a3
    rw [show (lowOut ⟨0, 4, 0, 0, 0⟩ [] a) = (a.f4.f3, false, []) from rfl] at a4
    rw [show (lowOut ⟨0, 5, 0, 0, 0⟩ [] a) = (a.f5.f3, false, []) from rfl] at a5
    have w1 : wrap64 (0 + 1) = 1 := by unfold wrap64; rfl
    have w2 : wrap64 (1 + 1) = 2 := by unfold wrap64; rfl
    have w3 : wrap64 (2 + 1) = 3 := by unfold wrap64; rfl
    have w4 : wrap64 (3 + 1) = 4 := by unfold wrap64; rfl
    have w5 : wrap64 (4 + 1) = 5 := by unfold wrap64; rfl
    have w6 : wrap64 (5 + 1) = 6 := by unfold wrap64; rfl
    have n0 : bournelaw0_Num.f 0 = some 0 := rfl
    have hl : (([a.f0, a.f1, a.f2, a.f3, a.f4.f3, a.f5.f3] : List Int).length : Int) = 6 := rfl
    rw [bournelaw2_LowPlain.l1, if_pos (by decide), a0, Option.bind_some, n0, Option.bind_some, if_pos rfl, if_pos (by decide), hl, if_pos (by decide), show rd [a.f0, a.f1, a.f2, a.f3, a.f4.f3, a.f5.f3] 0 = a.f0 from rfl, hsame, Option.bind_some, if_pos rfl, w1]
    rw [bournelaw2_LowPlain.l1, if_pos (by decide), a1, Option.bind_some, n0, Option.bind_some, if_pos rfl, if_pos (by decide), hl, if_pos (by decide), show rd [a.f0, a.f1, a.f2, a.f3, a.f4.f3, a.f5.f3] 1 = a.f1 from rfl, hsame, Option.bind_some, if_pos rfl, w2]
    rw [bournelaw2_LowPlain.l1, if_pos (by decide), a2, Option.bind_some, n0, Option.bind_some, if_pos rfl, if_pos (by decide), hl, if_pos (by decide), show rd [a.f0, a.f1, a.f2, a.f3, a.f4.f3, a.f5.f3] 2 = a.f2 from rfl, hsame, Option.bind_some, if_pos rfl, w3]
    rw [bournelaw2_LowPlain.l1, if_pos (by decide), a3, Option.bind_some, n0, Option.bind_some, if_pos rfl, if_pos (by decide), hl, if_pos (by decide), show rd [a.f0, a.f1, a.f2, a.f3, a.f4.f3, a.f5.f3] 3 = a.f3 from rfl, hsame, Option.bind_some, if_pos rfl, w4]
    rw [bournelaw2_LowPlain.l1, if_pos (by decide), a4, Option.bind_some, n0, Option.bind_some, if_pos rfl, if_pos (by decide), hl, if_pos (by decide), show rd [a.f0, a.f1, a.f2, a.f3, a.f4.f3, a.f5.f3] 4 = a.f4.f3 from rfl, hsame, Option.bind_some, if_pos rfl, w5]
    rw [bournelaw2_LowPlain.l1, if_pos (by decide), a5, Option.bind_some, n0, Option.bind_some, if_pos rfl, if_pos (by decide), hl, if_pos (by decide), show rd [a.f0, a.f1, a.f2, a.f3, a.f4.f3, a.f5.f3] 5 = a.f5.f3 from rfl, hsame, Option.bind_some, if_pos rfl, w6]
    rw [bournelaw2_LowPlain.l1, if_neg (by decide)]
theorem LowPlain_loop (l : List Int) (hl : l.length ≤ 9223372036854775807) : ∀ (d i k : Nat), i + d = min l.length 30 → d + 100 < k → ∀ s m M, St (mkI tm l i) s m M → -1000 * (i : Int) ≤ s → s ≤ 1000 * (i : Int) → bournelaw2_LowPlain.l0 k l (mkI tm l i) s m M i = some true
  | d, i, 0, _, hk, _, _, _, _, _, _ => absurd hk (by omega)
  | 0, i, k + 1, h, hk, s, m, M, hst, _, _ => by
    have hend := LowPlain_end (mkI_row tm_mono tm_b l (n := i) (by omega)) (by rw [mkI_len]; omega) hst (k := k) (by omega)
    rw [bournelaw2_LowPlain.l0]
    by_cases h1 : (i : Int) < l.length
    · rw [if_pos h1, if_neg (by omega)]
      exact hend
    · rw [if_neg h1]
      exact hend
  | d + 1, i, k + 1, h, hk, s, m, M, hst, hs1, hs2 => by
    have hb := lv_b (l.getD i 0)
    have hrd : rd l (i : Int) = l.getD i 0 := by simp [rd]
    have ih := LowPlain_loop l hl d (i + 1) k (by omega) (by omega) (s + lv (l.getD i 0)) (mn m (lv (l.getD i 0))) (mx M (lv (l.getD i 0))) (by
      rw [mkI_succ]
      exact hst.snoc ⟨0, tm i, (i : Int) + 1, lv (l.getD i 0)⟩ (by simp only; omega) (by simp only; omega)) (by omega) (by omega)
    rw [bournelaw2_LowPlain.l0, if_pos (by omega), if_pos (by omega), if_pos (by omega), hrd, lv_w]
    unfold bournelaw2_item.f
    simp only [Option.bind_some]
    rw [mkI_len, if_pos (by omega)]
    rw [mkI_succ] at ih
    have ht : Int.tdiv (i : Int) 2 = tm i := by
      rw [Int.tdiv_eq_ediv_of_nonneg (by omega)]
      unfold tm
      omega
    have ht2 := tm_b i (by omega)
    have hi2 : (i : Int) < 30 := by omega
    have e1 : wrap64 (Int.tdiv (i : Int) 2) = tm i := by rw [ht]; exact wsmall (by omega) (by omega)
    have e2 : wrap64 ((i : Int) + 1) = (i : Int) + 1 := wsmall (by omega) (by omega)
    have e3 : wrap64 (s + lv (l.getD i 0)) = s + lv (l.getD i 0) := by
      clear e1 e2
      exact wsmall (by omega) (by omega)
    rw [e1, e2, e3]
    exact ih
theorem LowPlain : bournelaw2_LowPlain.Pure := by
  intro l hl _ _
  refine ⟨200, ?_⟩
  unfold bournelaw2_LowPlain.f
  rw [show bournelaw2_awake.f = some true from rfl, Option.bind_some, if_pos rfl]
  exact LowPlain_loop l (by unfold maxLen at hl; exact hl) (min l.length 30) 0 200 (by omega) (by omega) 0 1099511627776 (-1099511627776) ⟨rfl, fun x hx => absurd hx (by simp [mkI]), .inl ⟨rfl, rfl⟩, fun x hx => absurd hx (by simp [mkI]), .inl ⟨rfl, rfl⟩⟩ (by omega) (by omega)
end Go.Proofs.Ytggaefklcpbfnaa.Pure
